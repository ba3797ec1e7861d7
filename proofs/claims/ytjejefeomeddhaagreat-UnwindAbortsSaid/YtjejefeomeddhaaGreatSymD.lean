/- A part of the proof: EngZA, EngTop, EngTw, SymB, SymC, SymD. -/
import Derived.Test.YtjejefeomeddhaaGreatEngZ
import Derived.Test.YtjejefeomeddhaaGreatSymA
import Derived.Laws.Strings
set_option linter.unusedVariables false
set_option linter.unusedSimpArgs false
variable [Go.Eng.Rho]
set_option linter.unusedSectionVars false
namespace Go.Eng
open Go Go.RowKit
section
variable {P:Program} {X:Cx} {nt:NT} {s:St} {a:Act}
def resOf (a:Act):ResultVar→Sem Value
 |.tmp t=>pure (a.tmps.getD t undef)
 |.cell c t=>do loadVar t (←asAddr (a.tmps.getD c undef))
theorem resA_ok (hs:Sim X nt s a) {rv:ResultVar} {ar:ARes} {v:AV} (hp:resP P rv=some ar) (hr:resA s ar=some v) :
  ∃ u,(resOf a rv).run P X.w=.ok u X.w∧V1 X v u:=by
 cases rv with
 | tmp t =>
  cases hp
  simp[resA] at hr
  split at hr
  ·rename_i hn
   cases hr
   exact⟨_,rfl,V1.of_notTup hn (hs.slots t)⟩
  grind
 | cell c t =>
  simp[resP] at hp
  split at hp
  ·rename_i sz agg hsz hag
   split at hp
   ·rename_i h1
    cases hp
    obtain⟨cs,hcs,hw⟩:=opt_bind hr
    obtain⟨b,off,vs,hv,hc,h2,hlen⟩:=loadA_ok hs.mem (hs.slots c) hcs
    obtain⟨u,hrun,hV⟩:=loadVar_ok (P:=P) hsz hag h1 hc h2 hlen hw
    exact⟨u,by simp only[resOf,hv];simp[asAddr,hrun],hV⟩
   grind
  grind
theorem resAll_ok (hs:Sim X nt s a):∀ {l:List ResultVar} {rs:List ARes} {vs:List AV},ressP P l=some rs→resAll s rs=some vs→
  ∃ us,(l.mapM (resOf a)).run P X.w=.ok us X.w∧All2 (V1 X) vs us
 |[],rs,vs,hp,hr=>by
  simp_all[resAll,ressP,V1,All2,resOf]
 | rv :: r, rs, vs, hp, hr => by
  simp[ressP] at hp
  split at hp
  ·rename_i y ys h1 h2
   cases hp
   simp[resAll] at hr
   split at hr
   ·rename_i v vs' h3 h4
    cases hr
    obtain⟨u,g1,g2⟩:=resA_ok hs h1 h3
    obtain⟨us,g3,g4⟩:=resAll_ok hs h2 h4
    refine⟨u :: us,?_,g2,g4⟩<;>simp_all
   grind
  grind
theorem argSlots_get:∀ (l:List AV) (i:Nat) (t:Tr AV) (k:Nat),getS (argSlots i l t) k=if h:i≤k∧k<i+l.length then l[k-i]'(by omega) else getS t k
 |[],i,t,k=>by grind[argSlots,getS]
 | x :: r, i, t, k => by
  rw[argSlots,argSlots_get r (i+1)]
  by_cases h1:i+1≤k∧k<i+1+r.length
  ·grind
  ·rw [dif_neg h1]
   by_cases h2:k=i
   ·subst h2
    simp[getS,Tr.get_set]
   ·rw [dif_neg (by simp; omega)]
    unfold getS
    rw[Tr.get_set,if_neg (Ne.symm h2)]
theorem args_ok {args:List AV} {vargs:Array Value} (h:All2 (V1 X) args vargs.toList) (n:Nat) (t:Nat):VR X (getS (argSlots 0 args .lf) t) ((vargs++Array.replicate n undef).getD t undef):=by
 rw[argSlots_get]
 have hl:=h.length
 simp at hl
 by_cases ht:0≤t∧t<0+args.length
 ·rw [dif_pos ht]
  obtain⟨b,hb,hr⟩:=h.get t args[t] (List.getElem?_eq_getElem (by omega))
  have:(vargs++Array.replicate n undef).getD t undef=b:=by
   rw[Array.getD_eq_getD_getElem?,Array.getElem?_append_left (by omega)]<;>grind
  rw[this]
  exact .of_V1 hr
 ·rw [dif_neg ht]
  have:(vargs++Array.replicate n undef).getD t undef=undef:=by
   rw[Array.getD_eq_getD_getElem?,Array.getElem?_append_right (by omega),Array.getElem?_replicate]<;>grind
  rw[this]
  exact undef_ok
theorem tup_ok {vs:List AV} {us:List Value} (h:All2 (V1 X) vs us):VR X (tupOf vs) (if h:us.toArray.size=1 then us.toArray[0] else .tuple us.toArray):=by
 match vs,us,h with
 |[],[],_=>grind[V1,All2,tupOf,VR]
 |[v],[u],h=>exact .of_V1 h.1
 |v :: w :: r,u :: x :: q,h=>grind[V1,All2,tupOf,VR]
def stepF (call:Go.Eng.Call) (Fs:Nat→Option AFn) (n:Nat):Go.Eng.Call:=fun f args mem tips nv=>match Fs f with
 |none=>none
 | some fn => match Nat.beq args.length fn.np with
  |false=>none
  |true=>match exec call (fun g=>((Fs g).map (·.sh)).getD false) n fn.body { slots:=argSlots 0 args .lf,mem,tips,nv } with
   |some (.normal,s)|some (.ret,s)=>(resAll s fn.res).map fun vs=>(tupOf vs,s.mem,s.tips,s.nv)
   |_=>none
theorem stepF_wp {call : Go.Eng.Call} (hcall : CallOK P call) {lib : Nat → Option TypeId} {md : Nat → Mode} {Fs : Nat → Option AFn} (hm : P.follows .mixedOrders = true) (hlib : ∀ f T, lib f = some T → IsLib P f T) (n : Nat)
  {f:Nat} (hFs:∀ fn,Fs f=some fn→fnP P lib md f=some fn) {args:List AV} {mem:List (Tr Ent)} {tips:Tr Unit} {nv:Nat} {r:AV} {mem':List (Tr Ent)} {tips':Tr Unit} {nv':Nat} (h:stepF call Fs n f args mem tips nv=some (r,mem',tips',nv')) (X:Cx) (vargs:Array Value) (hmem:MemOK X mem tips) (hdom:∀ v,nv≤v→X.ρ v=none) (hargs:All2 (V1 X) args vargs.toList) :
  ∃ pf c,P.funcs[f]?=some pf∧pf.body=some c∧(pf.name == "runtime.NumGoroutine")=false∧
   c.wp P (bodyPost P pf (fun e w'=>∃ Y v,e=.returned v∧Y.w=w'∧Ext X Y∧VR Y r v∧MemOK Y mem' tips'∧nv≤nv'∧∀ u L,Y.ρ u=some L→X.ρ u=some L∨(nv≤u∧u<nv'))) { tmps:=vargs++Array.replicate (pf.ntmps-vargs.size) undef,defers:=[] } X.w:=by
  simp only[stepF] at h
  split at h
  ·cases h
  ·rename_i fn hfn
   split at h
   ·cases h
   ·rename_i hnp
    have hnp:=Nat.eq_of_beq_eq_true hnp
    have hf:=hFs fn hfn
    unfold fnP at hf
    split at hf
    ·cases hf
    ·rename_i pf hpf
     split at hf
     ·cases hf
     ·rename_i c hbody
      split at hf
      ·cases hf
      ·rename_i hname
       split at hf
       ·rename_i b rs hc hrs
        simp only at hf
        split at hf
        ·rename_i hle
         injection hf with hf
         subst hf
         refine⟨pf,c,hpf,hbody,by simpa using hname,?_⟩
         have hlen:=hargs.length
         simp only[Array.length_toList] at hlen
         simp only at hnp h
         have start:Sim X ⟨pf.ntmps,[]⟩ { slots:=argSlots 0 args .lf,mem,tips,nv } { tmps:=vargs++Array.replicate (pf.ntmps-vargs.size) undef,defers:=[] }:=
          ⟨fun t=>args_ok hargs _ t,by simp;omega,rfl,hmem⟩
         have fin:∀ (x:AX) (s:St),(resAll s rs).map (fun vs=>(tupOf vs,s.mem,s.tips,s.nv))=some (r,mem',tips',nv')→∀ (Y:Cx) (a':Act),Ext X Y→Sim Y ⟨pf.ntmps,[]⟩ s a'→nv≤s.nv→(∀ v L,Y.ρ v=some L→X.ρ v=some L∨(nv≤v∧v<s.nv))→
           a'.defers=[]∧∃ v,(results pf a'.tmps).run P Y.w=.ok v Y.w∧∃ Z u,Ending.returned v=.returned u∧Z.w=Y.w∧Ext X Z∧VR Z r u∧MemOK Z mem' tips'∧nv≤nv'∧∀ u L,Z.ρ u=some L→X.ρ u=some L∨(nv≤u∧u<nv'):=by
          intro x s hres Y a' hx hs' hn hd
          obtain⟨vs,hvs,he⟩:=opt_map hres
          simp only[Prod.mk.injEq] at he
          obtain⟨rfl,rfl,rfl,rfl⟩:=he
          obtain⟨us,g1,g2⟩:=resAll_ok hs' hrs hvs
          refine⟨hs'.defers,_,?_,Y,_,rfl,rfl,hx,tup_ok g2,hs'.mem,hn,hd⟩
          have e:results pf a'.tmps=(do
            let vs ←pf.results.mapM (resOf a')
            pure (if h:vs.size=1 then vs[0] else .tuple vs)):=by
           unfold results
           congr 1
          rw[e,←Array.toArray_toList (xs:=pf.results),List.mapM_toArray]
          simp[g1]
         split at h
         ·rename_i s he
          refine (exec_ok (nt:=⟨pf.ntmps,[]⟩) hm hcall hlib n).1 c b X _ _ (.normal,s) _ hc he start hdom fun Y a' hx hs' hn hd=>?_
          exact fin .normal s h Y a' hx hs' hn hd
         ·rename_i s he
          refine (exec_ok (nt:=⟨pf.ntmps,[]⟩) hm hcall hlib n).1 c b X _ _ (.ret,s) _ hc he start hdom fun Y a' hx hs' hn hd=>?_
          exact fin .ret s h Y a' hx hs' hn hd
         ·cases h
        ·cases hf
       ·cases hf
theorem stepF_ok {call:Go.Eng.Call} (hcall:CallOK P call) {lib:Nat→Option TypeId} {md:Nat→Mode} {Fs:Nat→Option AFn} (hm:P.follows .mixedOrders=true) (hlib:∀ f T,lib f=some T→IsLib P f T) (hFs:∀ f fn,Fs f=some fn→fnP P lib md f=some fn) (n:Nat):CallOK P (stepF call Fs n):=by
  intro f args mem tips nv r mem' tips' nv' h X vargs hmem hdom hargs
  obtain⟨pf,c,h1,h2,h3,h4⟩:=stepF_wp hcall hm hlib n (hFs f) h X vargs hmem hdom hargs
  exact⟨⟨pf,h1,by rw[h2];rfl,h3⟩,calls_of_wp h1 h2 h4⟩
theorem runF_ok {lib:Nat→Option TypeId} {md:Nat→Mode} {Fs:Nat→Option AFn} (hm:P.follows .mixedOrders=true) (hlib:∀ f T,lib f=some T→IsLib P f T) (hFs:∀ f fn,Fs f=some fn→fnP P lib md f=some fn):∀ n,CallOK P (runF Fs n)
 |0=>fun _ _ _ _ _ _ _ _ _ h=>by simp[runF] at h
 |n+1=>stepF_ok (runF_ok hm hlib hFs n) hm hlib hFs n
end
end Go.Eng
set_option linter.unusedSectionVars false
namespace Go.Eng
open Go Go.RowKit
def cx0 (w:World):Cx:={ w,F:=fun _ _=>False,ρ:=fun _=>none,old:=fun b=>b<w.heap.size }
theorem cx0_mem (w:World) (hg:(∀ b,gblk b→b<w.heap.size)∧gok w) (m:List (Tr Ent)) (hm:∀ lv sl,memGet m lv sl=none):MemOK (cx0 w) m .lf where
 ents lv sl e he:=by rw[hm] at he;cases he
 tips v hv:=by simp at hv
 apart k k' v v' L L' a b:=by
  rcases a with⟨_,_,_,_,he,_⟩|⟨_,he⟩
  ·rw[hm] at he;cases he
  ·simp at he
 inF b o h:=h.elim
 lows:=⟨fun _ h=>h,hg.1,hg.2⟩
theorem memGet_lf (lv sl:Nat):memGet [.lf] lv sl=none:=by
 unfold memGet
 cases lv<;>simp
theorem bool_calls {P:Program} {lib:Nat→Option TypeId} {md:Nat→Mode} {Fs:Nat→Option AFn} {n f:Nat} (hm:P.follows .mixedOrders=true) (hlib:∀ f T,lib f=some T→IsLib P f T) (hFs:∀ f fn,Fs f=some fn→fnP P lib md f=some fn)
  (h:(runF Fs n f [] [.lf] .lf 0).map (·.1)=some (.d (.sc (.bool true)))) (w:World) (hg:(∀ b,gblk b→b<w.heap.size)∧gok w):Calls P f #[] w fun e w'=>e=.returned (.bool true)∧Below w.heap.size w w':=by
 obtain⟨⟨r,m,t,v⟩,hr,he⟩:=opt_map h
 obtain⟨_,hc⟩:=runF_ok hm hlib hFs n f [] [.lf] .lf 0 r m t v hr (cx0 w) #[] (cx0_mem w hg _ memGet_lf) (fun _ _=>rfl) trivial
 refine hc.mono ?_
 rintro e w' ⟨Y,u,rfl,rfl,hx,hv,_⟩
 subst he
 cases hv
 exact⟨rfl,hx.below.toBelow⟩
def tabAt:List (Nat×AFn)→Nat→Option AFn
 |[],_=>none
 |(g,fn) :: r,f=>match Nat.beq g f with
  |true=>some fn
  |false=>tabAt r f
inductive TabOK (P:Program) (lib:Nat→Option TypeId) (md:Nat→Mode):List (Nat×AFn)→Prop where
 |nil:TabOK P lib md []
 |cons {g:Nat} {fn:AFn} {r:List (Nat×AFn)} : fnP P lib md g=some fn→TabOK P lib md r→TabOK P lib md ((g,fn) :: r)
theorem tabAt_ok {P:Program} {lib:Nat→Option TypeId} {md:Nat→Mode} {l:List (Nat×AFn)} (h:TabOK P lib md l):∀ f fn,tabAt l f=some fn→fnP P lib md f=some fn:=by
 induction h with
 |nil=>intro f fn h;cases h
 | @cons g fn' r h1 _ ih=>
  intro f fn h
  simp[tabAt] at h
  split at h<;>simp_all
end Go.Eng
set_option linter.unusedSectionVars false
namespace Go.Eng
open Go Go.RowKit
def allO {α β : Type} (f : α→Option β):List α→Option (List β)
 |[]=>some []
 |x :: r=>match f x,allO f r with
  |some y,some ys=>some (y :: ys)
  |_,_=>none
def deepC (m:List (Tr Ent)):Nat→AV→Option D
 |0,_=>none
 | k + 1, x => match x with
  |.d x=>some x
  |.own els .full=>some (.sl els)
  |.own els (.tip _ _)=>some (.sl els)
  |.ref lv sl ver off n sz=>(elsOf m (.ref lv sl ver off n sz)).map .sl
  |.bref lv sl ver off n sz=>match boxAt m lv sl ver with
   |some cs=>if off+n*sz≤cs.length then (allO (deepC m k) ((cs.drop off).take (n*sz))).map fun ds=>.sl (chunk sz n ds) else none
   |none=>none
  |_=>none
def thawCall (call:Go.Eng.Call):Go.Eng.Call:=fun f args mem tips nv=>match call f args mem tips nv with
 |some (.agg cs,cm,_,n)=>(allO (deepC cm 9) cs).map fun ds=>(.agg (ds.map .d),[.lf],.lf,n)
 |_=>none
def Cx.given (X:Cx):Cx:={ w:=X.w,F:=fun b o=>X.F b o∨(¬X.old b∧b<X.w.heap.size),ρ:=X.ρ,old:=X.old }
theorem allO_at {α β : Type} {f : α→Option β} : ∀ {xs:List α} {ys:List β},allO f xs=some ys→ys.length=xs.length∧∀ (k:Nat) (y : β),ys[k]?=some y→∃ a,xs[k]?=some a∧f a=some y
 |[],ys,h=>by grind[allO]
 | a :: xs, ys, h => by
  simp[allO] at h
  split at h
  ·rename_i z zs h1 h2
   cases h
   obtain⟨g1,g2⟩:=allO_at h2<;>grind
  grind
section
variable {X:Cx} {m:List (Tr Ent)} {t:Tr Unit}
theorem deepC_ok (h:MemOK X m t):∀ (k:Nat) {x:AV} {y:D} {v:Value},deepC m k x=some y→VC X x v→DR X.w X.given.F y v
 |0,_,_,_,hx,_=>by cases hx
 | k + 1, x, y, v, hx, hv => by
  have hsub:∀ b o,X.F b o→X.given.F b o:=fun b o hb=>.inl hb
  have lent:∀ {els:List (List D)} {a:Option Addr} {cap sz b o:Nat},v=.slice a els.length cap→els.length≤cap→(0<els.length→a=some ⟨b,o,none⟩)→Lies X.w X.F X.F els b o sz→DR X.w X.given.F (.sl els) v:=by
   rintro els a cap sz b o rfl h2 h3 h4
   exact DR.of_lies (h4.mono hsub fun q _ hq=>.inl hq) rfl h2 h3
  unfold deepC at hx
  split at hx
  ·cases hx;exact DR.mono hsub hv
  ·cases hx;obtain⟨a,b,o,sz,h1,h2,h3⟩:=hv<;>grind
  ·cases hx;obtain⟨a,b,o,sz,cap,h1,h2,h3,h4,_⟩:=hv<;>grind
  ·rename_i lv sl ver off len sz
   obtain⟨els,he,rfl⟩:=opt_map hx
   obtain⟨L,a,cap,hL,hsz,rfl,hcap,hat⟩:=hv
   obtain⟨es,hrd,he⟩:=opt_bind he
   split at he
   case isFalse=>cases he
   cases he
   have hlen:((es.drop off).take len).length=len:=by grind
   have key:Lies X.w X.F X.given.F es L.b L.o L.sz→DR X.w X.given.F (.sl ((es.drop off).take len)) (.slice a len cap):=by
    intro hli
    refine DR.of_lies (b:=L.b) (o:=L.o+off*L.sz) (sz:=L.sz) ((hli.sub off len).mono hsub fun _ _ h=>h) hlen hcap fun hq=>?_<;>grind
   unfold rowRd at hrd
   split at hrd
   ·rename_i v' els' hg
    split at hrd
    ·rename_i hvv
     injection hrd with hrd;subst hrd
     have hvv:=Nat.eq_of_beq_eq_true hvv;subst hvv
     obtain⟨L',hL',h1,h2,h3,h4⟩:=h.ents _ _ _ hg
     grind[Block,Ent.ver,elsOf,memGet,Lies,Cx.given]
    grind
   ·rename_i v' els' hg
    split at hrd
    ·rename_i hvv
     cases hrd
     have hvv:=Nat.eq_of_beq_eq_true hvv;subst hvv
     obtain⟨L',hL',h1,h2⟩:=h.ents _ _ _ hg
     grind[Ent.ver,elsOf,memGet,Lies,Cx.given]
    grind
   grind
  ·rename_i lv sl ver off n sz
   split at hx
   ·rename_i cs hb
    split at hx
    ·rename_i hoff
     obtain⟨ds,hd,rfl⟩:=opt_map hx
     obtain⟨L,cap0,hL,rfl,hcap,hn,_⟩:=hv
     obtain⟨L',hL',hE⟩:=h.ents lv sl _ (boxAt_mem hb)
     have hL':X.ρ ver=some L':=hL'
     rw[hL] at hL';injection hL' with hL';subst hL'
     obtain⟨_,hblk,hno,hcell⟩:=hE
     obtain⟨hdl,cell⟩:=allO_at hd
     have hdl:ds.length=n*sz:=by rw[hdl,List.length_take,List.length_drop];omega
     obtain⟨c1,c2,c3⟩:=chunk_get hdl
     refine DR.of_lies (b:=L.b) (o:=L.o+off) (sz:=sz) ⟨c2,fun i e j x h1 h2=>?_⟩ c1 hcap fun _=>rfl
     obtain⟨g1,g2,g3⟩:=c3 i j e x h1 h2
     refine⟨.inr ⟨hblk.1,hblk.lt⟩,?_⟩
     obtain⟨a,ha,hca⟩:=cell _ _ g3
     rw[List.getElem?_take] at ha
     split at ha
     ·rw [List.getElem?_drop] at ha
      obtain⟨u,hu,hvc⟩:=hcell _ _ ha
      refine⟨u,?_,deepC_ok h k hca hvc⟩
      rw[show L.o+off+i*sz+j=L.o+(off+(i*sz+j)) by omega]
      exact hu
     ·cases ha
    grind
   grind
  grind
theorem deepCs_ok (h:MemOK X m t) {k:Nat} : ∀ {xs:List AV} {ys:List D} {vs:List Value},allO (deepC m k) xs=some ys→All2 (VC X) xs vs→All2 (VC X.given) (ys.map .d) vs
 |[],ys,[],hx,_=>by cases hx;trivial
 | x :: xs, ys, v :: vs, hx, hv => by
  simp[allO] at hx
  split at hx
  ·rename_i y ys' h1 h2
   cases hx
   exact⟨deepC_ok h k h1 hv.1,deepCs_ok h h2 hv.2⟩
  grind
 |[],_,_ :: _,_,hv=>hv.elim
 |_ :: _,_,[],_,hv=>hv.elim
end
theorem none_mem {Y:Cx} (hF:∀ b o,Y.F b o→b<Y.w.heap.size) (hl:Low Y):MemOK Y [.lf] .lf:=by
 refine⟨fun lv sl e he=>?_,fun v hv=>by simp at hv,fun k k' v v' L L' a _ _ _ _ _=>?_,hF,hl⟩
 ·unfold memGet at he
  grind[Tr.get?,EntOK,Ent.ver]
 ·rcases a with ⟨lv, _, _, _, he, _⟩ | ⟨_, he⟩
  ·unfold memGet at he
   grind[Ent.fz,Ent.ver,Tr.get?,keyE,Holds]
  simp_all
def thaw1 (cm:List (Tr Ent)):AV→Option AV
 |.agg cs=>(allO (deepC cm 9) cs).map fun ds=>.agg (ds.map .d)
 |.tup _=>none
 |x=>(deepC cm 9 x).map .d
def thawR (cm:List (Tr Ent)):AV→Option AV
 |.tup vs=>(allO (thaw1 cm) vs).map .tup
 |x=>thaw1 cm x
def thawG (call:Go.Eng.Call):Go.Eng.Call:=fun f args mem tips nv=>match call f args mem tips nv with
 |some (r,cm,_,n)=>(thawR cm r).map fun v=>(v,[.lf],.lf,n)
 |none=>none
theorem thaw1_ok {X:Cx} {m:List (Tr Ent)} {t:Tr Unit} (h:MemOK X m t) {x y:AV} {v:Value} (hx:thaw1 m x=some y) (hv:V1 X x v):V1 X.given y v:=by
 have one:∀ {x:AV},(deepC m 9 x).map AV.d=some y→VC X x v→V1 X.given y v:=by
  intro x hx hv
  obtain⟨d,h1,rfl⟩:=opt_map hx
  exact .of_VC (deepC_ok h 9 h1 hv)
 cases x with
 |agg cs=>
  simp only[thaw1] at hx
  obtain⟨ds,h1,rfl⟩:=opt_map hx
  obtain⟨vs,rfl,h3⟩:=hv
  exact⟨vs,rfl,deepCs_ok h h1 h3⟩
 |tup cs=>cases hx
 |_=>simp only[thaw1] at hx;exact one hx hv
theorem thaw1s_ok {X:Cx} {m:List (Tr Ent)} {t:Tr Unit} (h:MemOK X m t):∀ {xs ys:List AV} {vs:List Value},allO (thaw1 m) xs=some ys→All2 (V1 X) xs vs→All2 (V1 X.given) ys vs
 |[],ys,[],hx,_=>by cases hx;trivial
 | x :: xs, ys, v :: vs, hx, hv => by
  simp[allO] at hx
  split at hx
  ·rename_i y ys' h1 h2
   cases hx
   exact⟨thaw1_ok h h1 hv.1,thaw1s_ok h h2 hv.2⟩
  grind
 |[],_,_ :: _,_,hv=>hv.elim
 |_ :: _,_,[],_,hv=>hv.elim
theorem thawR_ok {X:Cx} {m:List (Tr Ent)} {t:Tr Unit} (h:MemOK X m t) {x y:AV} {v:Value} (hx:thawR m x=some y) (hv:VR X x v):VR X.given y v:=by
 cases x with
 |tup xs=>
  obtain⟨ys,h1,rfl⟩:=opt_map hx
  obtain⟨vs,rfl,h3⟩:=hv
  exact⟨vs,rfl,thaw1s_ok h h1 h3⟩
 |_=>simp only[thawR] at hx;exact .of_V1 (thaw1_ok h hx hv)
theorem thawG_ok {P:Program} {call:Go.Eng.Call} (hc:CallOK P call):CallOK P (thawG call):=by
 intro f args mem tips nv r mem' tips' nv' h X vargs hmem hdom hargs
 unfold thawG at h
 split at h
 ·rename_i rv cm ct n hcall
  obtain⟨y,hd,he⟩:=opt_map h
  simp only[Prod.mk.injEq] at he
  obtain⟨rfl,rfl,rfl,rfl⟩:=he
  obtain⟨hfn,hcl⟩:=hc f args mem tips nv _ _ _ _ hcall X vargs hmem hdom hargs
  refine⟨hfn,hcl.mono ?_⟩
  rintro e w' ⟨Y,v,rfl,rfl,hx,hv,hm,hn,hρ⟩
  refine⟨Y.given,_,rfl,rfl,⟨hx.base,hx.below,fun b o hb=>.inl (hx.reg b o hb),hx.keep,hx.loc,fun b o hb=>?_⟩,thawR_ok hm hd hv,none_mem (fun b o hb=>?_) ⟨hm.lows.lt,hm.lows.gb,hm.lows.gk⟩,hn,hρ⟩
  ·rcases hb with hb | hb
   ·exact hx.new b o hb
   ·exact .inr (hx.base ▸ hb.1)
  ·rcases hb with hb | hb
   ·exact hm.inF b o hb
   ·exact hb.2
 ·cases h
def altCall (a b:Go.Eng.Call):Go.Eng.Call:=fun f args mem tips nv=>match a f args mem tips nv with
 |some r=>some r
 |none=>b f args mem tips nv
theorem alt_ok {P:Program} {a b:Go.Eng.Call} (ha:CallOK P a) (hb:CallOK P b):CallOK P (altCall a b):=by
 intro f args mem tips nv r mem' tips' nv' h
 unfold altCall at h
 split at h
 ·rename_i he
  injection h with h;subst h
  exact ha f args mem tips nv _ mem' tips' nv' he
 ·exact hb f args mem tips nv r mem' tips' nv' h
def onlyC (l:List Nat) (a:Go.Eng.Call):Go.Eng.Call:=fun f args mem tips nv=>match l.any (Nat.beq f) with
 |true=>a f args mem tips nv
 |false=>none
theorem only_ok {P:Program} {l:List Nat} {a:Go.Eng.Call} (ha:CallOK P a):CallOK P (onlyC l a):=by
 intro f args mem tips nv r mem' tips' nv' h
 unfold onlyC at h
 split at h
 ·exact ha f args mem tips nv r mem' tips' nv' h
 ·cases h
end Go.Eng
set_option linter.unusedSectionVars false
namespace Go.Sym
open Go Go.Eng
abbrev VMap:=Nat→Option Nat
def encL (t:Ty) (l:List t.den):List (List D):=l.map (encs t)
def RC (ρ : VMap) (B:Nat) (m:List (Tr E2)):Cell→AV→Prop
 |.int k a,x=>x=.d (.sc (.int k a))
 |.bool b,x=>x=.d (.sc (.bool b))
 |.er b,x=>x=.d (match b with
  |true=>.er
  |false=>.sc .nilIface)
 |.str s,x=>x=.d (.sc (.string ⟨s.toArray⟩))
 |.raw v,x=>x=.d (.sc v)
 |.nil true,x=>x=.own [] .full
 |.nil false,x=>x=.d (.sl [])∨∃ o,o≠.bor∧x=.own [] o
 |.sl t l .d,x=>x=.d (.sl (encL t l))∨∃ o,o≠.bor∧x=.own (encL t l) o
 |.sl t l .bor,x=>x=.d (.sl (encL t l))∨∃ o,x=.own (encL t l) o
 |.sl t l .full,x=>x=.own (encL t l) .full
 |.sl t l (.app v),x=>v<B∧((ρ v=none∧x=.own (encL t l) .full)∨∃ u,ρ v=some u∧x=.own (encL t l) (.tip u t.size))
 |.ref lv sl ver t,x=>ver<B∧∃ u n,ρ ver=some u∧x=.ref lv sl u 0 n t.size∧∀ r,rowOf m lv sl ver=some r→n=r.l.length
 |.refp lv sl ver t off len,x=>ver<B∧∃ u,ρ ver=some u∧x=.ref lv sl u off len t.size∧∀ r,rowOf m lv sl ver=some r→off+len≤r.l.length
 |.ptr lv sl ver i off,x=>ver<B∧∃ u,ρ ver=some u∧x=.ptr lv sl u i off
 |.dptr t e off,x=>x=.dptr (encs t e) off
 |.bref lv sl ver off n sz,x=>ver<B∧∃ u,ρ ver=some u∧x=.bref lv sl u off n sz
 |.mp lv sl ver,x=>ver<B∧∃ u,ρ ver=some u∧x=.mp lv sl u
def R1 (ρ : VMap) (B:Nat) (m:List (Tr E2)):Bool×List Cell→AV→Prop
 |(true,cs),a=>∃ aSz,a=.agg aSz∧All2 (RC ρ B m) cs aSz
 |(false,cs),a=>∃ c,cs=[c]∧RC ρ B m c a
def RV (ρ : VMap) (B:Nat) (m:List (Tr E2)):V2→AV→Prop
 |.c x,a=>RC ρ B m x a
 |.agg cs,a=>∃ aSz,a=.agg aSz∧All2 (RC ρ B m) cs aSz
 |.clo f cs,a=>∃ aSz,a=.clo f aSz∧All2 (RC ρ B m) cs aSz
 |.tup vs,a=>∃ aSz,a=.tup aSz∧All2 (R1 ρ B m) vs aSz
def RE (ρ : VMap) (B:Nat) (m:List (Tr E2)):E2→Ent→Prop
 |.row ver t l,e=>ver<B∧∃ u,ρ ver=some u∧e=.row u (encL t l)
 |.box ver cs,e=>ver<B∧∃ u aSz,ρ ver=some u∧e=.box u aSz∧All2 (RC ρ B m) cs aSz
 |.set ver l,e=>ver<B∧∃ u,ρ ver=some u∧e=.mp u l
structure MR (ρ : VMap) (B:Nat) (m2:List (Tr E2)) (m:List (Tr Ent)):Prop where
 len:m2.length=m.length
 ents:∀ lv sl e2,mget m2 lv sl=some e2→∃ e,memGet m lv sl=some e∧RE ρ B m2 e2 e
def TR (ρ : VMap) (B:Nat) (t2 t:Tr Unit):Prop:=∀ v,t2.get? v=some ()→v<B∧∀ u,ρ v=some u→t.get? u=some ()
structure VOK (ρ : VMap) (n2 n:Nat):Prop where
 low:∀ v u,v<n2→ρ v=some u→u<n
 high:∀ v,n2≤v→ρ v=some (n+(v-n2))
 inj:∀ v v' u,ρ v=some u→ρ v'=some u→v=v'
def SlR (ρ : VMap) (B:Nat) (m:List (Tr E2)) (t:Tr V2) (o:Tr AV):Prop:=∀ k v,t.get? k=some v→RV ρ B m v (getS o k)
structure SR (ρ : VMap) (B:Nat) (os:List (Tr AV)) (s2:S2) (s:St):Prop where
 slots:SlR ρ B s2.mem s2.slots s.slots
 outer:All2 (SlR ρ B s2.mem) s2.outer os
 mem:MR ρ B s2.mem s.mem
 tips:TR ρ B s2.tips s.tips
 ver:VOK ρ s2.nv s.nv
 le:B≤s2.nv
def Stab (B:Nat) (m m':List (Tr E2)):Prop:=∀ lv sl ver r',ver<B→rowOf m' lv sl ver=some r'→∃ r,rowOf m lv sl ver=some r∧r.l.length=r'.l.length
theorem Stab.refl (B:Nat) (m:List (Tr E2)):Stab B m m:=fun _ _ _ r _ h=>⟨r,h,rfl⟩
theorem Stab.trans {B:Nat} {m m' m'':List (Tr E2)} (h:Stab B m m') (k:Stab B m' m''):Stab B m m'':=by
 grind[Stab]
theorem RC.move {ρ ρ':VMap} {B B':Nat} {m m':List (Tr E2)} (hs:Stab B m m') (hB:B≤B') (hρ : ∀ v,v<B→ρ' v = ρ v):∀ {c:Cell} {x:AV},RC ρ B m c x→RC ρ' B' m' c x:=by
 intro c x h
 cases c with
 |nil f=>cases f<;>exact h
 | sl t l o =>
  cases o with
  |app v=>
   obtain⟨hv,h⟩:=h
   refine⟨by omega,?_⟩<;>grind
  |d=>exact h
  |full=>exact h
  |bor=>exact h
 |ref lv sl ver t=>
  obtain⟨hv,u,n,hu,hx,hr⟩:=h
  refine⟨by omega,u,n,by rw[hρ ver hv];exact hu,hx,fun r' hr'=>?_⟩
  obtain⟨r,h1,h2⟩:=hs _ _ _ _ hv hr'<;>grind
 |refp lv sl ver t off len=>
  obtain⟨hv,u,hu,hx,hr⟩:=h
  refine⟨by omega,u,by rw[hρ ver hv];exact hu,hx,fun r' hr'=>?_⟩
  obtain⟨r,h1,h2⟩:=hs _ _ _ _ hv hr'<;>grind
 |ptr lv sl ver i off=>
  obtain⟨hv,u,hu,hx⟩:=h
  exact⟨by omega,u,by rw[hρ ver hv];exact hu,hx⟩
 |bref lv sl ver off n sz=>
  obtain⟨hv,u,hu,hx⟩:=h
  exact⟨by omega,u,by rw[hρ ver hv];exact hu,hx⟩
 |mp lv sl ver=>
  obtain⟨hv,u,hu,hx⟩:=h
  exact⟨by omega,u,by rw[hρ ver hv];exact hu,hx⟩
 |_=>exact h
theorem R1.mono {ρ ρ':VMap} {B B':Nat} {m m':List (Tr E2)} (hc:∀ c x,RC ρ B m c x→RC ρ' B' m' c x):∀ {v:Bool×List Cell} {x:AV},R1 ρ B m v x→R1 ρ' B' m' v x
 |(true,_),_,⟨aSz,h1,h2⟩=>⟨aSz,h1,h2.mono hc⟩
 |(false,_),_,⟨c,h1,h2⟩=>⟨c,h1,hc _ _ h2⟩
theorem RV.mono {ρ ρ':VMap} {B B':Nat} {m m':List (Tr E2)} (hc:∀ c x,RC ρ B m c x→RC ρ' B' m' c x):∀ {v:V2} {x:AV},RV ρ B m v x→RV ρ' B' m' v x:=by
 intro v x h
 cases v with
 |c c=>exact hc _ _ h
 |agg cs=>obtain⟨aSz,h1,h2⟩:=h;exact⟨aSz,h1,h2.mono hc⟩
 |clo f cs=>obtain⟨aSz,h1,h2⟩:=h;exact⟨aSz,h1,h2.mono hc⟩
 |tup vs=>obtain⟨aSz,h1,h2⟩:=h;exact⟨aSz,h1,h2.mono fun _ _=>R1.mono hc⟩
theorem RE.mono {ρ ρ':VMap} {B B':Nat} {m m':List (Tr E2)} (hB:B≤B') (hρ : ∀ v,v<B→ρ' v = ρ v) (hc:∀ c x,RC ρ B m c x→RC ρ' B' m' c x):∀ {e2:E2} {e:Ent},RE ρ B m e2 e→RE ρ' B' m' e2 e:=by
 intro e2 e h
 cases e2 with
 |row ver t l=>obtain⟨hv,u,h1,h2⟩:=h;exact⟨by omega,u,by rw[hρ ver hv];exact h1,h2⟩
 |box ver cs=>obtain⟨hv,u,aSz,h1,h2,h3⟩:=h;exact⟨by omega,u,aSz,by rw[hρ ver hv];exact h1,h2,h3.mono hc⟩
 |set ver l=>obtain⟨hv,u,h1,h2⟩:=h;exact⟨by omega,u,by rw[hρ ver hv];exact h1,h2⟩
theorem SlR.mono {ρ ρ':VMap} {B B':Nat} {m m':List (Tr E2)} (hc:∀ c x,RC ρ B m c x→RC ρ' B' m' c x) {t:Tr V2} {o:Tr AV} (h:SlR ρ B m t o):SlR ρ' B' m' t o:=
 fun k v hk=>RV.mono hc (h k v hk)
theorem RV.move {ρ ρ':VMap} {B B':Nat} {m m':List (Tr E2)} (hs:Stab B m m') (hB:B≤B') (hρ : ∀ v,v<B→ρ' v = ρ v) {v:V2} {x:AV} (h:RV ρ B m v x):RV ρ' B' m' v x:=
 RV.mono (fun _ _=>RC.move hs hB hρ) h
theorem SlR.move {ρ ρ':VMap} {B B':Nat} {m m':List (Tr E2)} (hs:Stab B m m') (hB:B≤B') (hρ : ∀ v,v<B→ρ' v = ρ v) {t:Tr V2} {o:Tr AV} (h:SlR ρ B m t o):SlR ρ' B' m' t o:=
 SlR.mono (fun _ _=>RC.move hs hB hρ) h
theorem encVs_map:∀ l:List Val,encVs l=l.map encV
 |[]=>by simp[encVs]
 |v :: r=>by simp[encVs,encVs_map r]
theorem encs_length:∀ (t:Ty) (x:t.den),(encs t x).length=t.size
 |.val,v=>by cases v;simp[encs,encV,Ty.size]
 |.int _,_=>rfl
 |.bool,_=>rfl
 |.str,_=>rfl
 |.sl _,_=>rfl
 |.unit,_=>rfl
 |.prod a b,x=>by simp[encs,Ty.size,encs_length a,encs_length b]
 |.sum _ _,_=>rfl
theorem cellsT_ok {ρ : VMap} {B:Nat} {m:List (Tr E2)} : ∀ (t:Ty) (x:t.den),All2 (RC ρ B m) (cellsT t x) ((encs t x).map .d)
 |.val,v=>by
  cases v
  refine⟨rfl,rfl,rfl,.inl ?_,rfl,trivial⟩
  simp[encL,Val.list,encVs_map,encs]
 |.int _,_=>⟨rfl,trivial⟩
 |.bool,_=>⟨rfl,trivial⟩
 |.str,_=>⟨rfl,trivial⟩
 |.sl _,_=>⟨.inl rfl,trivial⟩
 |.unit,_=>trivial
 |.prod a b,x=>by
  simp[cellsT,encs,List.map_append]
  exact (cellsT_ok a x.1).append (cellsT_ok b x.2)
 |.sum _ _,_=>trivial
theorem castL_eq {a b:Ty} {l:List a.den} {l':List b.den} (h:castL a b l=some l'):∃ e:a=b,l'=e ▸ l:=by
 unfold castL at h
 split at h<;>grind
theorem castTy_eq {a b:Ty} {l:a.den} {l':b.den} (h:castTy a b l=some l'):∃ e:a=b,l'=e ▸ l:=by
 unfold castTy at h
 split at h<;>grind
def cellD:Cell→Option D
 |.int k a=>some (.sc (.int k a))
 |.bool b=>some (.sc (.bool b))
 |.str s=>some (.sc (.string ⟨s.toArray⟩))
 |.raw v=>some (.sc v)
 |.nil _=>some (.sl [])
 |.sl t l _=>some (.sl (encL t l))
 |_=>none
def cellDs:List Cell→Option (List D)
 |[]=>some []
 |c :: r=>match cellD c,cellDs r with
  |some x,some xs=>some (x :: xs)
  |_,_=>none
theorem cellDs_append:∀ {l l':List Cell} {ds ds':List D},cellDs l=some ds→cellDs l'=some ds'→cellDs (l++l')=some (ds++ds')
 |[],_,_,_,h,h'=>by cases h<;>grind
 | c :: r, l', ds, ds', h, h' => by
  simp[cellDs] at h
  split at h
  ·rename_i x xs h1 h2
   cases h
   simp[List.cons_append,cellDs,h1,cellDs_append h2 h']
  grind
theorem cellDs_cons {c:Cell} {r:List Cell} {ds:List D} (h:cellDs (c :: r)=some ds):∃ x xs,cellD c=some x∧cellDs r=some xs∧ds=x :: xs:=by
 grind[cellDs,cellD]
theorem pkInt_ok {k:IntKind} {cs r:List Cell} {x:Int} {ds:List D} (h:pkInt k cs=some (x,r)) (hd:cellDs cs=some ds):∃ ds',ds=.sc (.int k x) :: ds'∧cellDs r=some ds':=by
 unfold pkInt at h
 split at h
 ·split at h
  ·obtain ⟨y, ys, h1, h2, rfl⟩ := cellDs_cons hd
   cases h1<;>grind
  grind
 grind
theorem pkBool_ok {cs r:List Cell} {x:Bool} {ds:List D} (h:pkBool cs=some (x,r)) (hd:cellDs cs=some ds):∃ ds',ds=.sc (.bool x) :: ds'∧cellDs r=some ds':=by
 unfold pkBool at h
 split at h
 ·obtain ⟨y, ys, h1, h2, rfl⟩ := cellDs_cons hd
  cases h1<;>grind
 grind
theorem pkStr_ok {cs r:List Cell} {x:List UInt8} {ds:List D} (h:pkStr cs=some (x,r)) (hd:cellDs cs=some ds):∃ ds',ds=.sc (.string ⟨x.toArray⟩) :: ds'∧cellDs r=some ds':=by
 unfold pkStr at h
 split at h
 ·obtain ⟨y, ys, h1, h2, rfl⟩ := cellDs_cons hd
  cases h1<;>grind
 grind
theorem pkSl_ok {t:Ty} {cs r:List Cell} {x:List t.den} {ds:List D} (h:pkSl t cs=some (x,r)) (hd:cellDs cs=some ds):∃ ds',ds=.sl (encL t x) :: ds'∧cellDs r=some ds':=by
 unfold pkSl at h
 split at h
 ·cases h
  obtain⟨y,ys,h1,h2,rfl⟩:=cellDs_cons hd
  cases h1
  exact⟨ys,rfl,h2⟩
 ·split at h
  ·rename_i hc
   obtain⟨e,hl⟩:=castL_eq hc
   obtain⟨y,ys,h1,h2,rfl⟩:=cellDs_cons hd
   cases h1<;>grind
  grind
 grind
theorem packC_ok:∀ (t:Ty) {cs r:List Cell} {x:t.den},packC t cs=some (x,r)→∀ {ds:List D},cellDs cs=some ds→∃ ds',ds=encs t x++ds'∧cellDs r=some ds'
 | .val, cs, r, x, h, ds, hd => by
  simp[packC,pkVal] at h
  split at h
  ·rename_i k r1 h1
   split at h
   ·rename_i i r2 h2
    split at h
    ·rename_i s r3 h3
     split at h
     ·rename_i l r4 h4
      split at h
      ·rename_i c r5 h5
       cases h
       obtain⟨d1,rfl,e1⟩:=pkInt_ok h1 hd
       obtain⟨d2,rfl,e2⟩:=pkInt_ok h2 e1
       obtain⟨d3,rfl,e3⟩:=pkStr_ok h3 e2
       obtain⟨d4,rfl,e4⟩:=pkSl_ok h4 e3
       obtain⟨d5,rfl,e5⟩:=pkBool_ok h5 e4
       refine⟨d5,?_,e5⟩
       have:encL .val l=encVs l:=by rw[encVs_map];rfl
       simp[encs,encV,this]
      grind
     grind
    grind
   grind
  grind
 |.int k,_,_,_,h,_,hd=>pkInt_ok h hd
 |.bool,_,_,_,h,_,hd=>pkBool_ok h hd
 |.str,_,_,_,h,_,hd=>pkStr_ok h hd
 |.sl t,_,_,_,h,_,hd=>pkSl_ok h hd
 |.unit,_,_,_,h,ds,hd=>by
  cases h
  exact⟨ds,rfl,hd⟩
 | .prod a b, cs, r, x, h, ds, hd => by
  simp[packC] at h
  split at h
  ·rename_i x1 r1 h1
   split at h
   ·rename_i x2 r2 h2
    cases h
    obtain⟨d1,rfl,e1⟩:=packC_ok a h1 hd
    obtain⟨d2,rfl,e2⟩:=packC_ok b h2 e1<;>simp_all[packC,cellDs,Ty.den,encs]
   grind
  grind
 |.sum _ _,_,_,_,h,_,_=>by simp[packC] at h
theorem packE_ok {t:Ty} {cs:List Cell} {x:t.den} {ds:List D} (h:packE t cs=some x) (hd:cellDs cs=some ds):ds=encs t x:=by
 unfold packE at h
 split at h
 ·rename_i y h1
  cases h
  obtain⟨ds',rfl,e⟩:=packC_ok t h1 hd
  cases e
  simp
 grind
end Go.Sym
set_option linter.unusedSectionVars false
namespace Go.Sym
open Go Go.Eng
section
variable {ρ : VMap} {B:Nat} {m2:List (Tr E2)} {m:List (Tr Ent)}
theorem optK_some {α β : Type} {o:Option β} {k : β→Option α} {r : α} (h:optK o k=some r):∃ x,o=some x∧k x=some r:=by
 cases o with
 |none=>cases h
 |some x=>exact⟨x,rfl,h⟩
theorem chk_some {α : Type} {b:Bool} {k:Option α} {r : α} (h:chk b k=some r):b=true∧k=some r:=by
 grind[chk]
theorem bind_some {α β : Type} {o:Option β} {k : β→Option α} {r : α} (h:Option.bind o k=some r):∃ x,o=some x∧k x=some r:=by
 cases o with
 |none=>cases h
 |some x=>grind
theorem cellK_some {α : Type} {v:Option V2} {k:Cell→Option α} {r : α} (h:cellK v k=some r):∃ x,v=some (.c x)∧k x=some r:=by
 unfold cellK at h<;>grind
theorem intK_some {α : Type} {v:Option V2} {k:Int→Option α} {r : α} (h:intK v k=some r):∃ kd n,v=some (.c (.int kd n))∧k n=some r:=by
 unfold intK at h<;>grind
theorem natK_some {α : Type} {v:Option V2} {k:Nat→Option α} {r : α} (h:natK v k=some r):∃ kd n,v=some (.c (.int kd n))∧0≤n∧k n.toNat=some r:=by
 obtain⟨kd,n,h1,h2⟩:=intK_some h
 grind[chk,natK]
theorem boolK_some {α : Type} {v:Option V2} {k:Bool→Option α} {r : α} (h:boolK v k=some r):∃ b,v=some (.c (.bool b))∧k b=some r:=by
 unfold boolK at h<;>grind
theorem cstV_ok (v:Value):RC ρ B m2 (cstV v) (.d (.sc v)):=by
 cases v<;>first|rfl|exact rfl
theorem cstC_ok {x:AV} {c:Cell} (h:cstC x=some c):RC ρ B m2 c x:=by
 unfold cstC at h
 split at h
 ·cases h;exact cstV_ok _
 ·cases h;rfl
 grind
theorem cstCs_ok:∀ {l:List AV} {cs:List Cell},cstCs l=some cs→All2 (RC ρ B m2) cs l
 |[],cs,h=>by cases h;trivial
 | x :: r, cs, h => by
  simp[cstCs] at h
  split at h
  ·rename_i y ys h1 h2
   cases h
   exact⟨cstC_ok h1,cstCs_ok h2⟩
  grind
theorem cst2_ok {x:AV} {v:V2} (h:cst2 x=some v):RV ρ B m2 v x:=by
 unfold cst2 at h
 split at h
 ·obtain ⟨cs, h1, rfl⟩ := opt_map h
  exact⟨_,rfl,cstCs_ok h1⟩
 ·cases h
  exact⟨[],rfl,trivial⟩
 ·cases h
  exact⟨[],rfl,trivial⟩
 ·obtain ⟨c, h1, rfl⟩ := opt_map h
  exact cstC_ok h1
theorem cstD_rc {x:D} {c:Cell} (h:cstD x=some c):RC ρ B m2 c (.d x):=by
 unfold cstD at h
 split at h
 ·cases h;exact cstV_ok _
 ·cases h;exact .inl rfl
 grind
theorem cstDs_rc:∀ {l:List D} {cs:List Cell},cstDs l=some cs→All2 (RC ρ B m2) cs (l.map .d)
 |[],cs,h=>by cases h;trivial
 | x :: r, cs, h => by
  simp[cstDs] at h
  split at h
  ·rename_i y ys h1 h2
   cases h
   exact⟨cstD_rc h1,cstDs_rc h2⟩
  grind
theorem cstDs_ok:∀ {l:List D} {cs:List Cell},cstDs l=some cs→cellDs cs=some l
 |[],cs,h=>by cases h;rfl
 | x :: r, cs, h => by
  simp[cstDs] at h
  split at h
  ·rename_i y ys h1 h2
   cases h
   have:cellD y=some x:=by
    unfold cstD at h1
    split at h1
    ·rename_i v
     cases h1
     cases v<;>rfl
    ·cases h1;rfl
    grind
   simp[cellDs,this,cstDs_ok h2]
  grind
theorem ev2_ok {s2:S2} {sl:Tr AV} (hs:SlR ρ B m2 s2.slots sl) {x:Opd} {v:V2} (h:ev2 s2 x=some v):RV ρ B m2 v (x.ev sl):=by
 cases x with
 |t n=>exact hs n v h
 |c a=>exact cst2_ok h
theorem evs2_ok {s2:S2} {sl:Tr AV} (hs:SlR ρ B m2 s2.slots sl):∀ {l:List Opd} {vs:List V2},evs2 s2 l=some vs→All2 (RV ρ B m2) vs (evs sl l)
 |[],vs,h=>by cases h;trivial
 | x :: r, vs, h => by
  simp[evs2] at h
  split at h
  ·rename_i y ys h1 h2
   cases h
   exact⟨ev2_ok hs h1,evs2_ok hs h2⟩
  grind
theorem RC.cell {c:Cell} {a:AV} (h:RC ρ B m2 c a):cellsOf a=some [a]∧isCell0 a=true∧notTup a=true:=by
 cases c with
 |nil f=>cases f with
  |true=>cases h;exact⟨rfl,rfl,rfl⟩
  |false=>rcases h with rfl|⟨o,_,rfl⟩<;>exact⟨rfl,rfl,rfl⟩
 |sl t l o=>
  cases o with
  |app v=>rcases h with⟨_,⟨_,rfl⟩|⟨u,_,rfl⟩⟩<;>exact⟨rfl,rfl,rfl⟩
  |d=>rcases h with rfl|⟨o,_,rfl⟩<;>exact⟨rfl,rfl,rfl⟩
  |full=>cases h;exact⟨rfl,rfl,rfl⟩
  |bor=>rcases h with rfl|⟨o,rfl⟩<;>exact⟨rfl,rfl,rfl⟩
 |ref lv sl ver t=>obtain⟨_,u,n,_,rfl,_⟩:=h;exact⟨rfl,rfl,rfl⟩
 |refp lv sl ver t off len=>obtain⟨_,u,_,rfl,_⟩:=h;exact⟨rfl,rfl,rfl⟩
 |ptr lv sl ver i off=>obtain⟨_,u,_,rfl⟩:=h;exact⟨rfl,rfl,rfl⟩
 |bref lv sl ver off n sz=>obtain⟨_,u,_,rfl⟩:=h;exact⟨rfl,rfl,rfl⟩
 |mp lv sl ver=>obtain⟨_,u,_,rfl⟩:=h;exact⟨rfl,rfl,rfl⟩
 |_=>cases h;exact⟨rfl,rfl,rfl⟩
theorem cells_ok {v:V2} {a:AV} {cs:List Cell} (h:V2.cells? v=some cs) (hv:RV ρ B m2 v a):∃ aSz,cellsOf a=some aSz∧All2 (RC ρ B m2) cs aSz:=by
 cases v with
 |c x=>cases h;exact⟨[a],(RC.cell hv).1,hv,trivial⟩
 |agg l=>cases h;obtain⟨aSz,rfl,h2⟩:=hv;exact⟨aSz,rfl,h2⟩
 |_=>cases h
theorem wrap2_ok {agg:Bool} {cs:List Cell} {aSz:List AV} {v:V2} (h:wrap2 agg cs=some v) (hc:All2 (RC ρ B m2) cs aSz):∃ a,wrapAgg agg aSz=some a∧RV ρ B m2 v a:=by
 cases agg with
 |true=>cases h;exact⟨_,rfl,aSz,rfl,hc⟩
 | false =>
  simp[wrap2] at h
  split at h
  ·cases h
   match aSz,hc with
   |[a],hc=>exact⟨a,rfl,hc.1⟩
  grind
theorem mget_mset (m:List (Tr E2)) (lv sl lv' sl':Nat) (e:Option E2) :
  mget (mset m lv sl e) lv' sl'=if lv=lv'∧sl=sl'∧lv<m.length then e else mget m lv' sl':=by
 unfold mget mset
 rw[List.getElem?_modify]
 by_cases h:lv=lv'
 ·subst h
  cases hm:m[lv]? with
  |none=>
   grind
  | some t =>
   have:lv<m.length:=by
    grind
   simp[Tr.get_set,this]
 grind
theorem mset_length (m:List (Tr E2)) (lv sl:Nat) (e:Option E2):(mset m lv sl e).length=m.length:=by simp[mset]
theorem memSet_length (m:List (Tr Ent)) (lv sl:Nat) (e:Option Ent):(memSet m lv sl e).length=m.length:=by simp[memSet]
theorem updM_length:∀ (l:List (Nat×Nat×Option E2)) (m:List (Tr E2)),(updM m l).length=m.length
 |[],_=>rfl
 |(lv,sl,e) :: r,m=>by rw[updM,updM_length r,mset_length]
theorem applyUpd_length:∀ (l:List (Nat×Nat×Option Ent)) (m:List (Tr Ent)),(applyUpd m l).length=m.length
 |[],_=>rfl
 |(lv,sl,e) :: r,m=>by rw[applyUpd,applyUpd_length r,memSet_length]
def OE (ρ : VMap) (B:Nat) (m:List (Tr E2)) (x:Option E2) (y:Option Ent):Prop:=∀ e2,x=some e2→∃ e,y=some e∧RE ρ B m e2 e
def UpdR (ρ : VMap) (B:Nat) (m:List (Tr E2)) (x:Nat×Nat×Option E2) (y:Nat×Nat×Option Ent):Prop:=x.1=y.1∧x.2.1=y.2.1∧OE ρ B m x.2.2 y.2.2
theorem upd_rel {B':Nat} {mf:List (Tr E2)} : ∀ {us2:List (Nat×Nat×Option E2)} {us:List (Nat×Nat×Option Ent)} {m2:List (Tr E2)} {m:List (Tr Ent)},
  All2 (UpdR ρ B' mf) us2 us→m2.length=m.length→(∀ lv sl,OE ρ B' mf (mget m2 lv sl) (memGet m lv sl))→∀ lv sl,OE ρ B' mf (mget (updM m2 us2) lv sl) (memGet (applyUpd m us) lv sl)
 |[],[],_,_,_,_,h=>h
 |(lv2,sl2,e2) :: r2,(lv,sl,e) :: r,m2,m,hu,hl,h=>by
  obtain⟨⟨h1,h2,h3⟩,hr⟩:=hu
  subst h1 h2
  refine upd_rel (m2:=mset m2 lv2 sl2 e2) (m:=memSet m lv2 sl2 e) hr (by rw[mset_length,memSet_length,hl]) fun lv' sl'=>?_
  rw[mget_mset,memGet_set,hl]<;>grind
 |[],_ :: _,_,_,hu,_,_=>hu.elim
 |_ :: _,[],_,_,hu,_,_=>hu.elim
theorem MR.upd {B':Nat} {us2:List (Nat×Nat×Option E2)} {us:List (Nat×Nat×Option Ent)} (h:MR ρ B m2 m) (hB:B≤B') (hst:Stab B m2 (updM m2 us2)) (hu:All2 (UpdR ρ B' (updM m2 us2)) us2 us):MR ρ B' (updM m2 us2) (applyUpd m us):=by
 refine⟨by rw[updM_length,applyUpd_length,h.len],fun lv sl e2 he=>upd_rel hu h.len (fun lv sl e2 he=>?_) lv sl e2 he⟩
 obtain⟨e,h1,h2⟩:=h.ents lv sl e2 he
 exact⟨e,h1,RE.mono hB (fun _ _=>rfl) (fun _ _=>RC.move hst hB fun _ _=>rfl) h2⟩
theorem rowOf_some {lv sl ver:Nat} {r:SL} (h:rowOf m2 lv sl ver=some r):mget m2 lv sl=some (.row ver r.t r.l):=by
 unfold rowOf at h
 split at h
 ·split at h
  ·cases h<;>simp_all
  grind
 grind
theorem rowOf_iff {lv sl ver:Nat} {r:SL} : rowOf m2 lv sl ver=some r↔mget m2 lv sl=some (.row ver r.t r.l):=by
 refine⟨rowOf_some,fun h=>?_⟩<;>simp_all[mget,rowOf]
theorem beq_self (n:Nat):Nat.beq n n=true:=by simp
theorem rowOf_ok (hm:MR ρ B m2 m) {lv sl ver u:Nat} {r:SL} (h:rowOf m2 lv sl ver=some r) (hu : ρ ver=some u):memGet m lv sl=some (.row u (encL r.t r.l))∧Eng.rowAt m lv sl u=some (encL r.t r.l):=by
 obtain⟨e,h1,_,u',h2,rfl⟩:=hm.ents _ _ _ (rowOf_some h)
 unfold Eng.rowAt<;>simp_all
theorem rowOf_rd (hm:MR ρ B m2 m) {lv sl ver u:Nat} {r:SL} (h:rowOf m2 lv sl ver=some r) (hu : ρ ver=some u):Eng.rowRd m lv sl u=some (encL r.t r.l):=by
 have h1:=(rowOf_ok hm h hu).1<;>simp_all[rowOf,VMap,encL,rowRd]
theorem encL_length (t:Ty) (l:List t.den):(encL t l).length=l.length:=by simp[encL]
theorem encL_all (t:Ty) (l:List t.den):(encL t l).all (fun e=>e.length==t.size)=true:=by
 simp[encL,List.all_eq_true,encs_length]
theorem encL_get (t:Ty) (l:List t.den) (i:Nat):(encL t l)[i]?=(l[i]?).map (encs t):=by simp[encL]
theorem encL_append (t:Ty) (l l':List t.den):encL t (l++l')=encL t l++encL t l':=by simp[encL]
theorem els_ref (hm:MR ρ B m2 m) {lv sl ver:Nat} {t:Ty} {r:SL} {a:AV} (h:RC ρ B m2 (.ref lv sl ver t) a) (hr:rowOf m2 lv sl ver=some r):elsOf m a=some (encL r.t r.l):=by
 obtain⟨_,u,n,hu,rfl,hn⟩:=h
 have:=rowOf_rd hm hr hu
 simp[elsOf,this,Option.bind_some]
 rw[hn r hr]
 simp[encL_length,List.take_of_length_le]
theorem els_refp (hm:MR ρ B m2 m) {lv sl ver off len:Nat} {t:Ty} {r:SL} {a:AV} (h:RC ρ B m2 (.refp lv sl ver t off len) a) (hr:rowOf m2 lv sl ver=some r) (hl:off+len≤r.l.length):elsOf m a=some (encL r.t ((r.l.drop off).take len)):=by
 obtain⟨_,u,hu,rfl,_⟩:=h
 have:=rowOf_rd hm hr hu<;>simp_all[rowOf,VMap,Ty.den,encL,Ty.size,elsOf]
theorem els_sl {t:Ty} {l:List t.den} {o:Ow} {a:AV} (h:RC ρ B m2 (.sl t l o) a):elsOf m a=some (encL t l)∧(a=.d (.sl (encL t l))∨∃ o',a=.own (encL t l) o')∧(o≠.bor→a=.d (.sl (encL t l))∨∃ o',o'≠.bor∧a=.own (encL t l) o'):=by
 cases o with
 |app v=>rcases h with⟨_,⟨_,rfl⟩|⟨u,_,rfl⟩⟩<;>exact⟨rfl,.inr ⟨_,rfl⟩,fun _=>.inr ⟨_,by simp,rfl⟩⟩
 |d=>
  rcases h with rfl|⟨o,ho,rfl⟩<;>simp_all[RC,Ty.den,VMap,encL,elsOf]
 |full=>simp_all[RC,Ty.den,VMap,encL,elsOf]
 |bor=>
  rcases h with rfl|⟨o,rfl⟩<;>simp_all[RC,Ty.den,VMap,encL,elsOf]
theorem els_nil {f:Bool} {a:AV} (h:RC ρ B m2 (.nil f) a):elsOf m a=some []∧(a=.d (.sl [])∨∃ o',o'≠.bor∧a=.own [] o'):=by
 cases f with
 |true=>simp_all[RC,VMap,elsOf]
 |false=>
  rcases h with rfl|⟨o,ho,rfl⟩<;>simp_all[RC,VMap,elsOf]
theorem toD_own {els:List (List D)} {o:Own} (h:o≠.bor):toD m (.own els o)=some (.sl els,[]):=by
 cases o with
 |bor=>grind
 |_=>rfl
theorem frz1_ok (hm:MR ρ B m2 m) {c c':Cell} {a:AV} {ks:List (Nat×Nat)} (h:frz1 m2 c=some (c',ks)) (hc:RC ρ B m2 c a):∃ d,toD m a=some (d,ks)∧cellD c'=some d:=by
 unfold frz1 at h
 split at h
 ·cases h<;>simp_all[RC,VMap,cellD,toD]
 ·cases h<;>simp_all[RC,VMap,cellD,toD]
 ·cases h<;>simp_all[RC,VMap,cellD,toD]
 ·cases h<;>simp_all[RC,VMap,cellD,toD]
 ·cases h
  rcases (els_nil (m:=m) hc).2 with rfl|⟨o,ho,rfl⟩
  ·exact⟨_,rfl,rfl⟩
  ·exact⟨_,toD_own ho,rfl⟩
 ·cases h
 ·rename_i t l o hne
  cases h
  rcases (els_sl (m:=m) hc).2.2 (fun e=>hne e) with rfl|⟨o',ho,rfl⟩
  ·exact⟨_,rfl,rfl⟩
  ·exact⟨_,toD_own ho,rfl⟩
 ·split at h
  ·rename_i r hr
   cases h
   have he:=els_ref hm hc hr
   obtain⟨_,u,n,hu,rfl,hn⟩:=hc
   refine⟨.sl (encL r.t r.l),?_,rfl⟩
   simp[toD,he,Option.map_some]
  grind
 ·rename_i lv sl ver t off len
  split at h
  ·rename_i r hr
   cases h
   have he:=els_refp hm hc hr (hc.2.choose_spec.2.2 r hr)
   obtain⟨_,u,hu,rfl,hn⟩:=hc
   refine⟨.sl (encL r.t ((r.l.drop off).take len)),?_,rfl⟩
   simp[toD,he,Option.map_some]
  grind
 grind
theorem frz_ok (hm:MR ρ B m2 m):∀ {cs cs':List Cell} {aSz:List AV} {ks:List (Nat×Nat)},frz m2 cs=some (cs',ks)→All2 (RC ρ B m2) cs aSz→∃ ds,toDs m aSz=some (ds,ks)∧cellDs cs'=some ds
 |[],cs',aSz,ks,h,ha=>by
  match aSz,ha with
  |[],_=>cases h;exact⟨[],rfl,rfl⟩
 | c :: r, cs', aSz, ks, h, ha => by
  match aSz,ha with
  | a :: aSz, ⟨ha, hr⟩ =>
   simp[frz] at h
   split at h
   ·rename_i y k ys k' h1 h2
    cases h
    obtain⟨d,g1,g2⟩:=frz1_ok hm h1 ha
    obtain⟨ds,g3,g4⟩:=frz_ok hm h2 hr
    exact⟨d :: ds,by simp only[toDs,g1,g3],by simp only[cellDs,g2,g4]⟩
   grind
theorem newsK_ok {α : Type} (hm:MR ρ B m2 m) {x:Cell} {a:AV} {e:Option Ty} {K:SL→Option α} {r : α} (h:newsK m2 x e K=some r) (hx:RC ρ B m2 x a):∃ n,newsOf m a=some (encL n.t n.l)∧K n=some r:=by
 have key:∀ {a:AV} {els:List (List D)},elsOf m a=some els→(∀ b,a≠.d (.sc (.string b)))→newsOf m a=some els:=by
  simp_all[RC,newsK,VMap,newsOf,elsOf]
 unfold newsK at h
 split at h
 ·rename_i t l o
  refine⟨⟨t,l⟩,key (els_sl hx).1 fun b hb=>?_,h⟩
  have:=(els_sl (m:=m) hx).1
  rw[hb] at this;cases this
 ·obtain ⟨t, rfl, h⟩ := optK_some h
  refine⟨⟨t,[]⟩,key (els_nil hx).1 fun b hb=>?_,h⟩
  have:=(els_nil (m:=m) hx).1
  rw[hb] at this;cases this
 ·obtain ⟨r', hr, h⟩ := optK_some h
  refine⟨r',key (els_ref hm hx hr) fun b hb=>?_,h⟩
  simp_all[rowOf,optK,RC,newsOf,elsOf,VMap]
 ·rename_i lv sl ver t off len
  obtain⟨r',hr,h⟩:=optK_some h
  obtain⟨hl,h⟩:=chk_some h
  have hl:=of_decide_eq_true hl
  refine⟨⟨r'.t,(r'.l.drop off).take len⟩,key (els_refp hm hx hr hl) fun b hb=>?_,h⟩
  have:=els_refp hm hx hr hl
  rw[hb] at this;cases this
 ·rename_i s
  cases hx
  exact⟨⟨.int .u8,bytesL s⟩,by simp[newsOf,encL,bytesL,encs,List.map_map,Function.comp_def],h⟩
 grind
end
end Go.Sym
set_option linter.unusedSectionVars false
namespace Go.Sym
open Go Go.Eng
def KR (ρ : VMap) (k2 k:Nat×Nat×Nat):Prop:=(k2=k∧k.1=0)∨∃ v u,k2=keyT v∧k=keyT u∧ρ v=some u
def KeysR (ρ : VMap) (l2 l:List (Nat×Nat×Nat)):Prop:=∀ k∈l,∃ k2∈l2,KR ρ k2 k
structure EffOK (ρ : VMap) (B B':Nat) (s2:S2) (s:St) (E:Eff2) (e:Eff):Prop where
 val:RV ρ B' (updM s2.mem E.upd) E.val e.val
 mem:MR ρ B' (updM s2.mem E.upd) (applyUpd s.mem e.upd)
 tips:TR ρ B' (applyTip s2.tips E.tip) (applyTip s.tips e.tip)
 stab:Stab B s2.mem (updM s2.mem E.upd)
 rd:KeysR ρ E.rd e.rd
 wr:KeysR ρ E.wr e.wr
def Does {α : Type} (ρ : VMap) (B B':Nat) (s2:S2) (s:St) (op:AOp) (row dst p:Nat) (K:Res2→Option α) (r : α):Prop:=
 ∃ E e,(∀ call sh,op.run call sh s row dst p=some (.eff e))∧EffOK ρ B B' s2 s E e∧K (.eff E)=some r
section
variable {α : Type} {ρ : VMap} {B B':Nat} {s2:S2} {s:St} {op:AOp} {row dst p nx:Nat} {K:Res2→Option α} {r : α}
theorem MR.mono {m2:List (Tr E2)} {m:List (Tr Ent)} (h:MR ρ B m2 m) (hB:B≤B'):MR ρ B' m2 m:=
 ⟨h.len, fun lv sl e2 he => by
  obtain⟨e,h1,h2⟩:=h.ents lv sl e2 he
  exact⟨e,h1,RE.mono hB (fun _ _=>rfl) (fun _ _=>RC.move (Stab.refl _ _) hB fun _ _=>rfl) h2⟩⟩
theorem TR.up {t2 t:Tr Unit} (h:TR ρ B t2 t) (hB:B≤B'):TR ρ B' t2 t:=fun v hv=>⟨by have:=(h v hv).1;omega,(h v hv).2⟩
theorem RV.up {m:List (Tr E2)} {v:V2} {a:AV} (h:RV ρ B m v a) (hB:B≤B'):RV ρ B' m v a:=h.move (Stab.refl _ _) hB fun _ _=>rfl
theorem RC.up {m:List (Tr E2)} {v:Cell} {a:AV} (h:RC ρ B m v a) (hB:B≤B'):RC ρ B' m v a:=h.move (Stab.refl _ _) hB fun _ _=>rfl
theorem KeysR.nil {l2:List (Nat×Nat×Nat)} : KeysR ρ l2 []:=fun _ h=>by cases h
theorem KeysR.append {a b c d:List (Nat×Nat×Nat)} (h:KeysR ρ a b) (k:KeysR ρ c d):KeysR ρ (a++c) (b++d):=by
 intro x hx
 rcases List.mem_append.1 hx with hx|hx
 ·obtain⟨y,h1,h2⟩:=h x hx;exact⟨y,List.mem_append_left _ h1,h2⟩
 ·obtain⟨y,h1,h2⟩:=k x hx;exact⟨y,List.mem_append_right _ h1,h2⟩
theorem KeysR.consE {a b:List (Nat×Nat×Nat)} (lv sl:Nat) (h:KeysR ρ a b):KeysR ρ (keyE lv sl :: a) (keyE lv sl :: b):=by
 intro x hx
 rcases List.mem_cons.1 hx with rfl|hx
 ·simp_all[KeysR,VMap,KR,keyE]
 ·obtain⟨y,h1,h2⟩:=h x hx<;>grind
theorem KeysR.keysE (ks:List (Nat×Nat)):KeysR ρ (keysE ks) (keysE ks):=by
 intro x hx
 refine⟨x,hx,.inl ⟨rfl,?_⟩⟩
 obtain⟨k,_,rfl⟩:=List.mem_map.1 hx
 rfl
theorem keyC_ok {m:List (Tr E2)} {c:Cell} {a:AV} (h:RC ρ B m c a):KeysR ρ (keyC c) (keysOf a):=by
 cases c with
 |nil f=>cases f with
  |true=>cases h;exact KeysR.nil
  |false=>rcases h with rfl|⟨o,_,rfl⟩<;>exact KeysR.nil
 |sl t l o=>rcases (els_sl (m:=[]) h).2.1 with rfl|⟨o',rfl⟩<;>exact KeysR.nil
 |ref lv sl ver t=>obtain⟨_,u,n,_,rfl,_⟩:=h;exact KeysR.consE _ _ KeysR.nil
 |refp lv sl ver t off len=>obtain⟨_,u,_,rfl,_⟩:=h;exact KeysR.consE _ _ KeysR.nil
 |ptr lv sl ver i off=>obtain⟨_,u,_,rfl⟩:=h;exact KeysR.consE _ _ KeysR.nil
 |bref lv sl ver off n sz=>obtain⟨_,u,_,rfl⟩:=h;exact KeysR.consE _ _ KeysR.nil
 |mp lv sl ver=>obtain⟨_,u,_,rfl⟩:=h;exact KeysR.consE _ _ KeysR.nil
 |_=>cases h;exact KeysR.nil
theorem keyCs_ok {m:List (Tr E2)} : ∀ {cs:List Cell} {aSz:List AV},All2 (RC ρ B m) cs aSz→KeysR ρ (cs.flatMap keyC) (aSz.flatMap keysOf)
 |[],[],_=>KeysR.nil
 |c :: cs,a :: aSz,h=>by
  exact (keyC_ok h.1).append (keyCs_ok h.2)
 |[],_ :: _,h=>h.elim
 |_ :: _,[],h=>h.elim
theorem keysIn_cell {a:AV} (h:cellsOf a=some [a]) (h0:isCell0 a=true):keysIn a=keysOf a:=by
 cases a<;>first|rfl|cases h0
theorem keyV_ok {m:List (Tr E2)} {v:V2} {a:AV} (h:RV ρ B m v a):KeysR ρ (keyV v) (keysIn a):=by
 cases v with
 |c c=>
  rw[keysIn_cell (RC.cell h).1 (RC.cell h).2.1]
  exact keyC_ok h
 |agg cs=>obtain⟨aSz,rfl,h2⟩:=h;exact keyCs_ok h2
 |clo f cs=>obtain⟨aSz,rfl,h2⟩:=h;exact KeysR.nil
 |tup vs=>obtain⟨aSz,rfl,h2⟩:=h;exact KeysR.nil
theorem EffOK.of_val (hs:MR ρ B s2.mem s.mem) (ht:TR ρ B s2.tips s.tips) (hB:B≤B') {v:V2} {a:AV} {rd2 rd:List (Nat×Nat×Nat)} (hv:RV ρ B s2.mem v a) (hr:KeysR ρ rd2 rd) :
  EffOK ρ B B' s2 s { val:=v,upd:=[],tip:=[],rd:=rd2 } { val:=a,upd:=[],tip:=[],rd:=rd }:=
 ⟨hv.up hB,hs.mono hB,ht.up hB,Stab.refl _ _,hr,KeysR.nil⟩
variable (hm:MR ρ B s2.mem s.mem) (ht:TR ρ B s2.tips s.tips) (hsl:SlR ρ B s2.mem s2.slots s.slots) (hB:B≤B')
include hm ht hB
theorem Does.pure {v:V2} {a:AV} (hrun:∀ call sh,op.run call sh s row dst p=Eff.pure a) (hv:RV ρ B s2.mem v a) (hK:K (pureE v)=some r):Does ρ B B' s2 s op row dst p K r:=
 ⟨_,_,hrun,.of_val hm ht hB hv KeysR.nil,hK⟩
include hsl
omit hm ht hB hsl in
theorem boolOf_ok' {m:List (Tr E2)} {b:Bool} {a:AV} (h:RV ρ B m (.c (.bool b)) a):boolOfA a=some b:=by cases h;rfl
omit hm ht hB hsl in
theorem intOf_ok {m:List (Tr E2)} {k:IntKind} {n:Int} {a:AV} (h:RV ρ B m (.c (.int k n)) a):a=.d (.sc (.int k n)):=h
omit hm ht hB hsl in
theorem natOf_ok {m:List (Tr E2)} {k:IntKind} {n:Int} {a:AV} (h:RV ρ B m (.c (.int k n)) a) (h0:0≤n):natOfA a=some n.toNat:=by
 cases h;simp[natOfA,intOfA,h0]
theorem does_pick {c a b:Opd} {E:SEnv} {wk:Wk} {ctx:Nat} (h:run2 E wk ctx s2 row dst nx (.pick c a b) K=some r):Does ρ B B' s2 s (.pick c a b) row dst p K r:=by
 obtain⟨t,hc,h⟩:=boolK_some h
 have hb:=boolOf_ok' (ev2_ok hsl hc)
 have hrun:∀ call sh,AOp.run call sh s row dst p (.pick c a b)=Eff.pure (if t then a.ev s.slots else b.ev s.slots):=fun _ _=>by simp[AOp.run,hb]
 split at h
 ·rename_i x y hx hy
  refine .pure hm ht hB hrun (v:=.c (.bool (cond t x y))) ?_ h
  cases t with
  |true=>exact ev2_ok hsl hx
  |false=>exact ev2_ok hsl hy
 ·rename_i x y _ hx hy
  cases t with
  |true=>exact .pure hm ht hB hrun (ev2_ok hsl hx) h
  |false=>exact .pure hm ht hB hrun (ev2_ok hsl hy) h
 ·rename_i x hx _
  obtain⟨rfl,h⟩:=chk_some h
  exact .pure hm ht hB hrun (ev2_ok hsl hx) h
 ·rename_i y _ hy
  obtain⟨ht',h⟩:=chk_some h
  cases t with
  |true=>cases ht'
  |false=>exact .pure hm ht hB hrun (ev2_ok hsl hy) h
 grind
omit hm ht hB hsl in
theorem splice_ok {m:List (Tr E2)} {cs new:List Cell} {aSz as':List AV} (h:All2 (RC ρ B m) cs aSz) (h':All2 (RC ρ B m) new as') (off:Nat):All2 (RC ρ B m) (Eng.splice cs off new) (Eng.splice aSz off as'):=by
 unfold Eng.splice
 rw[h'.length]
 first|exact ((h.take off).append h').append (h.drop _)|exact (h.take off).append (h'.append (h.drop _))
omit hm ht hB in
theorem fill2_ok:∀ {ps:List (Nat×Nat×Opd)} {cs cs':List Cell} {aSz:List AV},fill2 s2 cs ps=some cs'→All2 (RC ρ B s2.mem) cs aSz→∃ as',fillA s.slots aSz ps=some as'∧All2 (RC ρ B s2.mem) cs' as'
 |[],cs,cs',aSz,h,ha=>by
  cases h
  exact⟨aSz,rfl,ha⟩
 | (off, sz, x) :: ps, cs, cs', aSz, h, ha => by
  simp[fill2] at h
  split at h
  ·rename_i new hn
   obtain⟨v,hv,hc⟩:=opt_bind hn
   split at h
   ·rename_i hb
    rw[Bool.and_eq_true] at hb
    have h1:=Nat.eq_of_beq_eq_true hb.1
    have h2:=Nat.le_of_ble_eq_true hb.2
    obtain⟨as1,g1,g2⟩:=cells_ok hc (ev2_ok hsl hv)
    obtain⟨as',g3,g4⟩:=fill2_ok h (splice_ok ha g2 off)
    refine⟨as',?_,g4⟩
    simp only[fillA,g1]
    rw[if_pos ⟨by rw[←g2.length];exact h1,by rw[←ha.length];exact h2⟩]<;>omega
   grind
  grind
theorem does_build {z:List AV} {ps:List (Nat×Nat×Opd)} (h:(optK ((cstCs z).bind fun cs=>fill2 s2 cs ps) fun cs=>K (pureE (.agg cs)))=some r):Does ρ B B' s2 s (.build z ps) row dst p K r:=by
 obtain⟨cs,hc,h⟩:=optK_some h
 obtain⟨cs0,h0,h1⟩:=opt_bind hc
 obtain⟨as',g1,g2⟩:=fill2_ok hsl h1 (cstCs_ok h0)
 exact .pure hm ht hB (fun _ _=>by simp[AOp.run,g1]) (v:=.agg cs) ⟨as',rfl,g2⟩ h
theorem does_nilCheck {x:Opd} {E:SEnv} {wk:Wk} {ctx:Nat} (h:run2 E wk ctx s2 row dst nx (.nilCheck x) K=some r):Does ρ B B' s2 s (.nilCheck x) row dst p K r:=by
 obtain⟨v,hv,h⟩:=optK_some h
 have hr:=ev2_ok hsl hv
 split at h
 ·have hr' := hr
  obtain⟨_,u,_,he⟩:=hr
  exact .pure hm ht hB (fun _ _=>by simp only[AOp.run,he]) hr' h
 ·have hr' := hr
  have he:x.ev s.slots=_:=hr
  exact .pure hm ht hB (fun _ _=>by simp only[AOp.run,he]) hr' h
 ·have hr' := hr
  obtain⟨aSz,he,_⟩:=hr
  exact .pure hm ht hB (fun _ _=>by simp[AOp.run,he]) hr' h
 grind
omit hm ht hB hsl in
theorem binN_ok {k k':IntKind} {a b:Int} {bop:BinOp} {K:Cell→Option α} (h:binN bop k a k' b K=some r):∃ v c,binI bop k a k' b=some v∧K c=some r∧∀ (m:List (Tr E2)),RC ρ B m c (.d (.sc v)):=by
 unfold binN at h
 split at h
 ·obtain ⟨h1, h⟩ := chk_some h
  refine⟨_,_,?_,h,fun _=>rfl⟩<;>simp_all[chk,VMap,RC,binI]
 ·obtain ⟨h1, h⟩ := chk_some h
  refine⟨_,_,?_,h,fun _=>rfl⟩<;>simp_all[chk,VMap,RC,binI]
 ·split at h
  ·cases h
  ·subst_vars
   split at h
   case h_4|h_5=>
    obtain⟨h1,h⟩:=chk_some h
    refine⟨_,_,?_,h,fun _=>rfl⟩
    have:¬b=0:=by simpa using h1
    simp[binI,this]
   all_goals first
    |(refine⟨_,_,?_,h,fun _=>rfl⟩;simp[binI,bitsI];done)
    |cases h
omit hm ht hB hsl in
theorem ba_toList (s:List UInt8):(⟨s.toArray⟩:ByteArray).toList=s:=by
 simp_all
end
end Go.Sym
