/- A part of the proof: EngZA, EngTop, EngBd, EngDf, EngDg, SymB. -/
import Derived.Test.YtkdilffhbejjaaaGreatEngZ
import Derived.Test.YtkdilffhbejjaaaGreatEngB
import Derived.Defers
import Derived.Test.YtkdilffhbejjaaaGreatSymA
set_option linter.unusedVariables false
set_option linter.unusedSimpArgs false
namespace Go.bM
open Go Go.RowKit
section
variable {P:Program} {X:Cx} {nt:NT} {s:St} {a:Act}
def EY (a:Act):ResultVar→Sem Value
 |.tmp t=>pure (a.tmps.getD t undef)
 |.cell c t=>do loadVar t (←asAddr (a.tmps.getD c undef))
theorem XK (hs:fu X nt s a) {rv:ResultVar} {ar:Am} {v:AV} (hp:abe P rv=some ar) (hr:HZ s ar=some v) :
  ∃ u,(EY a rv).run P X.w=.ok u X.w∧V1 X v u:=by
 cases rv with
 | tmp t =>
  cases hp
  simp[HZ] at hr
  split at hr
  ·rename_i hn
   cases hr
   exact⟨_,rfl,V1.Ew hn (hs.slots t)⟩
  grind
 | cell c t =>
  simp[abe] at hp
  split at hp
  ·rename_i sz agg hsz yU
   split at hp
   ·rename_i h1
    cases hp
    obtain⟨cs,hcs,hw⟩:=aV hr
    obtain⟨b,off,vs,hv,hc,h2,hlen⟩:=H7 hs.mem (hs.slots c) hcs
    obtain⟨u,hrun,hV⟩:=Be (P:=P) hsz yU h1 hc h2 hlen hw
    exact⟨u,by simp only[EY,hv];simp[asAddr,hrun],hV⟩
   grind
  grind
theorem xR (hs:fu X nt s a):∀ {l:List ResultVar} {rs:List Am} {vs:List AV},Ee P l=some rs→jV s rs=some vs→
  ∃ us,(l.mapM (EY a)).run P X.w=.ok us X.w∧aE (V1 X) vs us
 |[],rs,vs,hp,hr=>by
  simp_all[jV,Ee,V1,aE,EY]
 | rv :: r, rs, vs, hp, hr => by
  simp[Ee] at hp
  split at hp
  ·rename_i y ys h1 h2
   cases hp
   simp[jV] at hr
   split at hr
   ·rename_i v vs' h3 h4
    cases hr
    obtain⟨u,g1,g2⟩:=XK hs h1 h3
    obtain⟨us,g3,g4⟩:=xR hs h2 h4
    refine⟨u :: us,?_,g2,g4⟩<;>simp_all
   grind
  grind
theorem qV:∀ (l:List AV) (i:Nat) (t:Tr AV) (k:Nat),dz (dS i l t) k=if h:i≤k∧k<i+l.length then l[k-i]'(by omega) else dz t k
 |[],i,t,k=>by grind[dS,dz]
 | x :: r, i, t, k => by
  rw[dS,qV r (i+1)]
  by_cases h1:i+1≤k∧k<i+1+r.length
  ·grind
  ·rw [wd h1]
   by_cases h2:k=i
   ·subst h2
    simp[dz,Tr.cy]
   ·rw [wd (by simp; omega)]
    unfold dz
    rw[Tr.cy,be (pj h2)]
theorem Nl {args:List AV} {cL:Array Value} (h:aE (V1 X) args cL.toList) (n:Nat) (t:Nat):VR X (dz (dS 0 args .lf) t) ((cL++Array.replicate n undef).getD t undef):=by
 rw[qV]
 have hl:=h.length
 simp at hl
 by_cases ht:0≤t∧t<0+args.length
 ·rw [dif_pos ht]
  obtain⟨b,hb,hr⟩:=h.get t args[t] (al (by omega))
  have:(cL++Array.replicate n undef).getD t undef=b:=by
   rw[i5,pD (by omega)]<;>grind
  rw[this]
  exact .vK hr
 ·rw [wd ht]
  have:(cL++Array.replicate n undef).getD t undef=undef:=by
   rw[i5,Array.getElem?_append_right (by omega),Array.getElem?_replicate]<;>grind
  rw[this]
  exact oh
theorem RS {vs:List AV} {us:List Value} (h:aE (V1 X) vs us):VR X (iZ vs) (if h:us.toArray.size=1 then us.toArray[0] else .tuple us.toArray):=by
 match vs,us,h with
 |[],[],_=>grind[V1,aE,iZ,VR]
 |[v],[u],h=>exact .vK h.1
 |v :: w :: r,u :: x :: q,h=>grind[V1,aE,iZ,VR]
def wG (call:Go.bM.Call) (Fs:Nat→Option qC) (n:Nat):Go.bM.Call:=fun f args mem aK nv=>match Fs f with
 |none=>none
 | some fn => match Nat.beq args.length fn.np with
  |false=>none
  |true=>match exec call (fun g=>((Fs g).map (·.sh)).getD false) n fn.body { slots:=dS 0 args .lf,mem,aK,nv } with
   |some (.normal,s)|some (.ret,s)=>(jV s fn.res).map fun vs=>(iZ vs,s.mem,s.aK,s.nv)
   |_=>none
theorem B0 {call : Go.bM.Call} (cH : eo P call) {dm : Nat → Option TypeId} {md : Nat → Mode} {Fs : Nat → Option qC} (hm : P.follows .mixedOrders = true) (gP : ∀ f T, dm f = some T → jZ P f T) (n : Nat)
  {f:Nat} (DW:∀ fn,Fs f=some fn→Og P dm md f=some fn) {args:List AV} {mem:List (Tr bH)} {aK:Tr Unit} {nv:Nat} {r:AV} {mem':List (Tr bH)} {oV:Tr Unit} {HJ:Nat} (h:wG call Fs n f args mem aK nv=some (r,mem',oV,HJ)) (X:Cx) (cL:Array Value) (hmem:aH X mem aK) (hdom:∀ v,nv≤v→X.ρ v=none) (hargs:aE (V1 X) args cL.toList) :
  ∃ pf c,P.funcs[f]?=some pf∧pf.body=some c∧(pf.name == "runtime.NumGoroutine")=false∧
   c.wp P (bodyPost P pf (fun e w'=>∃ Y v,e=.returned v∧Y.w=w'∧Ext X Y∧VR Y r v∧aH Y mem' oV∧nv≤HJ∧∀ u L,Y.ρ u=some L→X.ρ u=some L∨(nv≤u∧u<HJ))) { tmps:=cL++Array.replicate (pf.ntmps-cL.size) undef,defers:=[] } X.w:=by
  simp only[wG] at h
  split at h
  ·cases h
  ·rename_i fn hfn
   split at h
   ·cases h
   ·rename_i hnp
    have hnp:=aw hnp
    have hf:=DW fn hfn
    unfold Og at hf
    split at hf
    ·cases hf
    ·rename_i pf hpf
     split at hf
     ·cases hf
     ·rename_i c hbody
      split at hf
      ·cases hf
      ·rename_i hname
       split at hf
       ·rename_i b rs hc QK
        simp only at hf
        split at hf
        ·rename_i hle
         injection hf with hf
         subst hf
         refine⟨pf,c,hpf,hbody,by simpa using hname,?_⟩
         have hlen:=hargs.length
         simp only[ft] at hlen
         simp only at hnp h
         have start:fu X ⟨pf.ntmps,[]⟩ { slots:=dS 0 args .lf,mem,aK,nv } { tmps:=cL++Array.replicate (pf.ntmps-cL.size) undef,defers:=[] }:=
          ⟨fun t=>Nl hargs _ t,by simp;omega,rfl,hmem⟩
         have fin:∀ (x:AX) (s:St),(jV s rs).map (fun vs=>(iZ vs,s.mem,s.aK,s.nv))=some (r,mem',oV,HJ)→∀ (Y:Cx) (a':Act),Ext X Y→fu Y ⟨pf.ntmps,[]⟩ s a'→nv≤s.nv→(∀ v L,Y.ρ v=some L→X.ρ v=some L∨(nv≤v∧v<s.nv))→
           a'.defers=[]∧∃ v,(results pf a'.tmps).run P Y.w=.ok v Y.w∧∃ Z u,Ending.returned v=.returned u∧Z.w=Y.w∧Ext X Z∧VR Z r u∧aH Z mem' oV∧nv≤HJ∧∀ u L,Z.ρ u=some L→X.ρ u=some L∨(nv≤u∧u<HJ):=by
          intro x s hres Y a' hx hs' hn hd
          obtain⟨vs,hvs,he⟩:=aQ hres
          simp only[eb] at he
          obtain⟨rfl,rfl,rfl,rfl⟩:=he
          obtain⟨us,g1,g2⟩:=xR hs' QK hvs
          refine⟨hs'.defers,_,?_,Y,_,rfl,rfl,hx,RS g2,hs'.mem,hn,hd⟩
          have e:results pf a'.tmps=(do
            let vs ←pf.results.mapM (EY a')
            pure (if h:vs.size=1 then vs[0] else .tuple vs)):=by
           unfold results
           congr 1
          rw[e,←Array.toArray_toList (xs:=pf.results),List.mapM_toArray]
          simp[g1]
         split at h
         ·rename_i s he
          refine (AG (nt:=⟨pf.ntmps,[]⟩) hm cH gP n).1 c b X _ _ (.normal,s) _ hc he start hdom fun Y a' hx hs' hn hd=>?_
          exact fin .normal s h Y a' hx hs' hn hd
         ·rename_i s he
          refine (AG (nt:=⟨pf.ntmps,[]⟩) hm cH gP n).1 c b X _ _ (.ret,s) _ hc he start hdom fun Y a' hx hs' hn hd=>?_
          exact fin .ret s h Y a' hx hs' hn hd
         ·cases h
        ·cases hf
       ·cases hf
theorem RT {call:Go.bM.Call} (cH:eo P call) {dm:Nat→Option TypeId} {md:Nat→Mode} {Fs:Nat→Option qC} (hm:P.follows .mixedOrders=true) (gP:∀ f T,dm f=some T→jZ P f T) (DW:∀ f fn,Fs f=some fn→Og P dm md f=some fn) (n:Nat):eo P (wG call Fs n):=by
  intro f args mem aK nv r mem' oV HJ h X cL hmem hdom hargs
  obtain⟨pf,c,h1,h2,h3,h4⟩:=B0 cH hm gP n (DW f) h X cL hmem hdom hargs
  exact⟨⟨pf,h1,by rw[h2];rfl,h3⟩,calls_of_wp h1 h2 h4⟩
theorem Nn {dm:Nat→Option TypeId} {md:Nat→Mode} {Fs:Nat→Option qC} (hm:P.follows .mixedOrders=true) (gP:∀ f T,dm f=some T→jZ P f T) (DW:∀ f fn,Fs f=some fn→Og P dm md f=some fn):∀ n,eo P (W8 Fs n)
 |0=>fun _ _ _ _ _ _ _ _ _ h=>by simp[W8] at h
 |n+1=>RT (Nn hm gP DW n) hm gP DW n
end
end Go.bM
namespace Go.bM
open Go Go.RowKit
def cx0 (w:World):Cx:={ w,F:=fun _ _=>False,ρ:=fun _=>none,old:=fun b=>b<w.heap.size }
theorem XL (w:World) (hg:(∀ b,KJ b→b<w.heap.size)∧Zv w) (m:List (Tr bH)) (hm:∀ lv sl,aN m lv sl=none):aH (cx0 w) m .lf where
 fZ lv sl e he:=by rw[hm] at he;cases he
 aK v hv:=by simp at hv
 apart k k' v v' L L' a b:=by
  rcases a with⟨_,_,_,_,he,_⟩|⟨_,he⟩
  ·rw[hm] at he;cases he
  ·simp at he
 p7 b o h:=h.elim
 Aq:=⟨fun _ h=>h,hg.1,hg.2⟩
theorem xS (lv sl:Nat):aN [.lf] lv sl=none:=by
 unfold aN
 cases lv<;>simp
theorem abQ {P:Program} {dm:Nat→Option TypeId} {md:Nat→Mode} {Fs:Nat→Option qC} {n f:Nat} (hm:P.follows .mixedOrders=true) (gP:∀ f T,dm f=some T→jZ P f T) (DW:∀ f fn,Fs f=some fn→Og P dm md f=some fn)
  (h:(W8 Fs n f [] [.lf] .lf 0).map (·.1)=some (.d (.sc (.bool true)))) (w:World) (hg:(∀ b,KJ b→b<w.heap.size)∧Zv w):Calls P f #[] w fun e w'=>e=.returned (.bool true)∧Below w.heap.size w w':=by
 obtain⟨⟨r,m,t,v⟩,hr,he⟩:=aQ h
 obtain⟨_,hc⟩:=Nn hm gP DW n f [] [.lf] .lf 0 r m t v hr (cx0 w) #[] (XL w hg _ xS) (fun _ _=>rfl) trivial
 refine hc.mono ?_
 rintro e w' ⟨Y,u,rfl,rfl,hx,hv,_⟩
 subst he
 cases hv
 exact⟨rfl,hx.below.toBelow⟩
def B1:List (Nat×qC)→Nat→Option qC
 |[],_=>none
 |(g,fn) :: r,f=>match Nat.beq g f with
  |true=>some fn
  |false=>B1 r f
inductive wH (P:Program) (dm:Nat→Option TypeId) (md:Nat→Mode):List (Nat×qC)→Prop where
 |nil:wH P dm md []
 |cons {g:Nat} {fn:qC} {r:List (Nat×qC)} : Og P dm md g=some fn→wH P dm md r→wH P dm md ((g,fn) :: r)
theorem RU {P:Program} {dm:Nat→Option TypeId} {md:Nat→Mode} {l:List (Nat×qC)} (h:wH P dm md l):∀ f fn,B1 l f=some fn→Og P dm md f=some fn:=by
 induction h with
 |nil=>intro f fn h;cases h
 | @cons g fn' r h1 _ ih=>
  intro f fn h
  simp[B1] at h
  split at h<;>simp_all
end Go.bM
namespace Go.bM
open Go
structure DFn where
 np:Nat
 nt:Nat
 pre:AC
 g:Nat
 caps:List Nat
 dst:Nat
 body:AC
 res:List Am
 sh:Bool
 deriving Inhabited
def tmpsOf:List Operand→Option (List Nat)
 |[]=>some []
 |.tmp t :: r=>(tmpsOf r).map (t :: ·)
 |_=>none
def Lt : Code → Option (Code × Nat × List Nat × Nat × Code)
 | .seq r1 (.seq (.region _ ⟨[o1, o2]⟩ false) rest) => match o1.op, o1.dst, o1.guard, o2.op, o2.dst, o2.guard with
  | .makeFunc (.func g) ⟨[]⟩ ⟨cap⟩, some d, none, .defer c, none, none => match c.callee, c.args with
   |.value (.tmp d'),⟨[]⟩=>match Nat.beq d' d,tmpsOf cap with
    |true,some l=>some (r1,g,l,d,rest)
    |_,_=>none
   |_,_=>none
  |_,_,_,_,_,_=>none
 |_=>none
def RW (P : Program) (dm : Nat → Option TypeId) (md : Nat → Mode) (f : Nat) : Option DFn :=
 match P.funcs[f]? with
 |none=>none
 | some fn => match fn.body with
  |none=>none
  | some c =>
   if fn.name == "runtime.NumGoroutine" then none
   else match Lt c,Ee P fn.results.toList with
    | some (r1, g, caps, d, rest), some rs => match Q9 P dm fn.ntmps (md f).rows r1, Q9 P dm fn.ntmps (md f).rows rest with
     |some pre,some body=>
      if fn.params.size+fn.nfree≤fn.ntmps∧d<fn.ntmps then some { np:=fn.params.size+fn.nfree,nt:=fn.ntmps,pre,g,caps,dst:=d,body,res:=rs,sh:=(md f).sh } else none
     |_,_=>none
    |_,_=>none
def ou (id:Nat):AC→AC
 |.seq a b=>.seq (ou id a) (ou id b)
 |.cond c a b=>.cond c (ou id a) (ou id b)
 |.block i c=>.block i (ou id c)
 |.loop c=>.loop (ou id c)
 |.ret=>.exit id
 |c=>c
def rY (id:Nat):AC→Bool
 |.seq a b=>rY id a&&rY id b
 |.cond _ a b=>rY id a&&rY id b
 |.block i c=>!Nat.beq i id&&rY id c
 |.loop c=>rY id c
 |.exit i=>!Nat.beq i id
 |_=>true
def uE (t:Nat):AC→Bool
 |.region ops _=>ops.all fun o=>match o.dst with
  |some d=>!Nat.beq d t
  |none=>true
 |.seq a b=>uE t a&&uE t b
 |.cond _ a b=>uE t a&&uE t b
 |.block _ c=>uE t c
 |.loop c=>uE t c
 |_=>true
def XM:Nat:=1099511627776
def ZO:AC→Bool
 |.region _ _=>true
 |_=>false
def mkD (d:DFn):qC:=
 { np := d.np, nt := d.nt, res := d.res, sh := d.sh, body:=.seq d.pre (.seq (.region [⟨some d.dst,.makeFunc d.g (d.caps.map .t),none,0,0⟩] false)
   (.seq (.block XM (ou XM d.body)) (.region [⟨none,.yS (.t d.dst) [],none,0,0⟩] false))) }
def abR (d:DFn):Bool:=ZO d.pre&&rY XM d.body&&uE d.dst d.body
def af5 (P:Program) (dm:Nat→Option TypeId) (md:Nat→Mode) (f:Nat):Option qC:=match RW P dm md f with
 |none=>none
 | some d => match abR d, Og P dm md d.g with
  |true,some g=>match g.sh&&g.res.isEmpty with
   |true=>some (mkD d)
   |false=>none
  |_,_=>none
def KE (P:Program) (dm:Nat→Option TypeId) (md:Nat→Mode) (f:Nat):Option qC:=match Og P dm md f with
 |some x=>some x
 |none=>af5 P dm md f
end Go.bM
namespace Go.bM
open Go Go.RowKit
section
variable {P:Program} {X:Cx}
theorem zA:∀ {l:List Operand} {ts:List Nat},tmpsOf l=some ts→jf l=some (ts.map .t)
 |[],ts,h=>by simp only[tmpsOf] at h;injection h with h;subst h;rfl
 |.tmp t :: r,ts,h=>by
  simp only[tmpsOf] at h
  obtain⟨ys,h1,rfl⟩:=aQ h
  simp only[jf,dh,zA h1,fj]
 |.const _ :: _,_,h=>by simp[tmpsOf] at h
 |.global _ :: _,_,h=>by simp[tmpsOf] at h
 |.func _ :: _,_,h=>by simp[tmpsOf] at h
theorem H6.V1 {x:AV} {v:Value} (h:H6 X x v):Go.bM.V1 X x v:=by
 cases x<;>first|exact h|exact h.elim
structure af6 (c r1 rest:Code) (g:Nat) (caps:List Nat) (d:Nat):Prop where
 code:∃ id o1 o2 cap vE,c=.seq r1 (.seq (.region id #[o1,o2] false) rest)∧o1.op=.makeFunc (.func g) #[] cap∧o1.dst=some d∧o1.guard=none∧o2.op=.defer vE∧o2.dst=none∧o2.guard=none∧
  vE.callee=.value (.tmp d)∧vE.args = #[]∧jf cap.toList=some (caps.map .t)
theorem IK {c r1 rest:Code} {g d:Nat} {caps:List Nat} (h:Lt c=some (r1,g,caps,d,rest)):af6 c r1 rest g caps d:=by
 unfold Lt at h
 split at h
 case h_2=>cases h
 rename_i r1' id o1 o2 rest'
 split at h
 case h_2=>cases h
 rename_i g' cap d' vE h1 h2 h3 h4 h5 h6
 split at h
 case h_2=>cases h
 rename_i d'' h7 h8
 split at h
 case h_2=>cases h
 rename_i l hb hl
 have hb:=aw hb
 subst hb
 simp only[eI,eb] at h
 obtain⟨rfl,rfl,rfl,rfl,rfl⟩:=h
 exact⟨⟨id,o1,o2,⟨cap⟩,vE,rfl,h1,h2,h3,h4,h5,h6,h7,h8,zA hl⟩⟩
end
end Go.bM
namespace Go.bM
open Go Go.RowKit
def IL (id:Nat):AX→AX
 |.ret=>.exit id
 |x=>x
section
variable {call:Go.bM.Call} {sh:Nat→Bool} {id:Nat}
theorem RX {a b:Nat} (h:Nat.beq a b=false):a≠b:=mi h
theorem hD:∀ (n:Nat) (c:AC) (s:St),rY id c=true→exec call sh n (ou id c) s=(exec call sh n c s).map fun r=>(IL id r.1,r.2)
 |0,_,_,_=>rfl
 |n+1,.skip,s,_=>rfl
 |n+1,.region ops draw,s,_=>by
  simp[ou,exec]
  cases gh call sh ops draw s<;>rfl
 | n + 1, .seq a b, s, h => by
  simp[rY,am] at h
  simp[ou,exec,hD n a s h.1]
  cases exec call sh n a s with
  |none=>rfl
  |some r=>
   obtain⟨x,s'⟩:=r
   cases x<;>simp[IL,hD n b s' h.2]
 |n+1,.cond c a b,s,h=>by
  simp[rY,am] at h
  simp only[ou,exec,hD n a s h.1,hD n b s h.2]<;>grind
 | n + 1, .block i c, s, h => by
  simp[rY,am,eK] at h
  simp[ou,exec,hD n c s h.2]
  cases exec call sh n c s with
  |none=>rfl
  | some r =>
   obtain⟨x,s'⟩:=r
   cases x with
   |normal=>rfl
   | ret =>
    have:Nat.beq id i=false:=by
     have:=RX h.1
     cases hq:Nat.beq id i with
     |false=>rfl
     |true=>simp_all
    simp[IL,this]
   |exit j=>
    simp only[IL,ca]<;>grind
 | n + 1, .loop c, s, h => by
  simp[ou,exec,hD n c s h]
  cases exec call sh n c s with
  |none=>rfl
  |some r=>
   obtain⟨x,s'⟩:=r
   cases x with
   |normal=>exact hD n (.loop c) s' h
   |ret=>rfl
   |exit j=>rfl
 |n+1,.exit i,s,h=>rfl
 |n+1,.ret,s,_=>rfl
theorem kE:∀ (n:Nat) (c:AC) (s s':St),rY id c=true→exec call sh n c s=some (.exit id,s')→False
 |0,_,_,_,_,h=>by cases h
 |n+1,.skip,s,_,_,h=>by simp[exec] at h
 |n+1,.region ops draw,s,_,_,h=>by
  simp[exec] at h
 |n+1,.seq a b,s,s',h0,h=>by
  simp[rY,am] at h0
  simp[exec] at h
  split at h
  ·exact kE n b _ _ h0.2 h
  ·exact kE n a _ _ h0.1 h
 |n+1,.cond c a b,s,s',h0,h=>by
  simp[rY,am] at h0
  simp[exec] at h
  split at h
  ·exact kE n a _ _ h0.1 h
  ·exact kE n b _ _ h0.2 h
  grind
 | n + 1, .block i c, s, s', h0, h => by
  simp[rY,am] at h0
  simp[exec] at h
  split at h
  ·rename_i j s2 he
   split at h
   ·simp at h
   ·cases h
    exact kE n c _ _ h0.2 he
  grind
 |n+1,.loop c,s,s',h0,h=>by
  have h1:=h0
  simp[exec] at h
  split at h
  ·exact kE n (.loop c) _ _ h1 h
  ·exact kE n c _ _ h0 h
 |n+1,.exit i,s,s',h0,h=>by
  simp_all[exec,rY,Call]
 |n+1,.ret,s,_,_,h=>by simp[exec] at h
theorem IM {s:St} {dst:Option Nat} {e:gT} {t:Nat} (h:(match dst with|some d=>!Nat.beq d t|none=>true)=true):dz (s.app dst e).slots t=dz s.slots t:=by
 have:∀ v,dz (nE s.slots dst v) t=dz s.slots t:=fun v=>by
  cases dst with
  |none=>rfl
  |some d=>
   simp only[eK] at h
   have:=RX h
   simp[dz,nE,Tr.cy,this]
 cases e<;>exact this _
theorem IN {lN t:Nat} : ∀ {l:List bE} {i:Nat} {s s':St},(l.all fun o=>match o.dst with|some d=>!Nat.beq d t|none=>true)=true→ji call sh lN i l s=some s'→dz s'.slots t=dz s.slots t
 |[],_,_,_,_,h=>by cases h;rfl
 | o :: r, i, s, s', h0, h => by
  simp only[d9,am] at h0
  simp[ji] at h
  split at h
  ·cases h
  ·rw [IN h0.2 h]
   exact IM h0.1
theorem IP {lN t:Nat} : ∀ {l:List bE} {i:Nat} {eg:List (Nat×gT)} {s s':St},(l.all fun o=>match o.dst with|some d=>!Nat.beq d t|none=>true)=true→jU call sh lN i l eg s=some s'→dz s'.slots t=dz s.slots t
 |[],_,_,_,_,_,h=>by cases h;rfl
 | o :: r, i, eg, s, s', h0, h => by
  simp only[d9,am] at h0
  simp[jU] at h
  split at h
  ·cases h
  ·split at h
   ·rw [IP h0.2 h]
    exact IM h0.1
   grind
theorem gi {t:Nat} : ∀ (n:Nat) (c:AC) (s:St) (x:AX) (s':St),uE t c=true→exec call sh n c s=some (x,s')→dz s'.slots t=dz s.slots t
 |0,_,_,_,_,_,h=>by cases h
 |n+1,.skip,s,_,_,_,h=>by cases h;rfl
 |n+1,.region ops draw,s,x,s',h0,h=>by
  simp only[exec,fd] at h
  obtain⟨s2,h1,h2⟩:=h
  cases h2
  cases draw with
  |false=>exact IN (s:={ s with nv:=s.nv+ops.length }) h0 h1
  |true=>exact IP (s:={ s with nv:=s.nv+ops.length }) h0 h1
 | n + 1, .seq a b, s, x, s', h0, h => by
  simp[uE,am] at h0
  simp[exec] at h
  split at h
  ·rename_i s2 he
   rw[gi n b _ _ _ h0.2 h,gi n a _ _ _ h0.1 he]
  ·exact gi n a _ _ _ h0.1 h
 |n+1,.cond c a b,s,x,s',h0,h=>by
  simp[uE,am] at h0
  simp[exec] at h
  split at h
  ·exact gi n a _ _ _ h0.1 h
  ·exact gi n b _ _ _ h0.2 h
  grind
 | n + 1, .block i c, s, x, s', h0, h => by
  simp[exec] at h
  split at h
  ·rename_i j s2 he
   split at h
   ·cases h
    exact gi n c _ _ _ h0 he
   ·cases h
    exact gi n c _ _ _ h0 he
  ·exact gi n c _ _ _ h0 h
 | n + 1, .loop c, s, x, s', h0, h => by
  have h1:=h0
  simp[exec] at h
  split at h
  ·rename_i s2 he
   rw[gi n (.loop c) _ _ _ h1 h,gi n c _ _ _ h0 he]
  ·exact gi n c _ _ _ h0 h
 |n+1,.exit i,s,x,s',_,h=>by cases h;rfl
 |n+1,.ret,s,x,s',_,h=>by cases h;rfl
end
section
variable {P:Program} {X:Cx} {call:Go.bM.Call} {sh:Nat→Bool}
theorem B2 {n:Nat} {a b:AC} {s:St} {r:AX×St} (h:exec call sh n (.seq a b) s=some r):∃ m,n=m+1∧((∃ s1,exec call sh m a s=some (.normal,s1)∧exec call sh m b s1=some r)∨(exec call sh m a s=some r∧r.1≠.normal)):=by
 cases n with
 |zero=>cases h
 |succ m=>
  refine⟨m,rfl,?_⟩
  simp only[exec] at h<;>grind
theorem GH {n:Nat} {c:AC} {s s2:St} (hc:rY XM c=true) (h:exec call sh n (.block XM (ou XM c)) s=some (.normal,s2)):∃ m ax,exec call sh m c s=some (ax,s2)∧(ax=.normal∨ax=.ret):=by
 cases n with
 |zero=>cases h
 | succ m =>
  simp[exec,hD m c s hc] at h
  cases he:exec call sh m c s with
  |none=>grind
  | some r =>
   obtain⟨ax,s3⟩:=r
   rw[he] at h
   cases ax with
   |normal=>
    grind
   |ret=>
    grind
   | exit j =>
    simp[IL,ca] at h
    split at h
    ·rename_i hb
     cases aw hb
     exact (kE m c s s3 hc he).elim
    grind
theorem OX {n:Nat} {c:AC} {s s2:St} (hc:rY XM c=true):exec call sh n (.block XM (ou XM c)) s≠some (.ret,s2):=by
 intro h
 cases n with
 |zero=>cases h
 | succ m =>
  simp[exec,hD m c s hc] at h
  cases he:exec call sh m c s with
  |none=>grind
  | some r =>
   obtain⟨ax,s3⟩:=r
   rw[he] at h
   cases ax with
   |normal=>simp[IL] at h
   |ret=>simp[IL] at h
   |exit j=>
    simp only[IL,ca] at h<;>grind
end
end Go.bM
namespace Go.Sym
open Go Go.bM
abbrev bD:=Nat→Option Nat
def bx (t:Ty) (l:List t.den):List (List D):=l.map (fy t)
def RC (ρ : bD) (B:Nat) (m:List (Tr E2)):Cell→AV→Prop
 |.int k a,x=>x=.d (.sc (.int k a))
 |.bool b,x=>x=.d (.sc (.bool b))
 |.er b,x=>x=.d (match b with
  |true=>.er
  |false=>.sc .nilIface)
 |.str s,x=>x=.d (.sc (.string ⟨s.toArray⟩))
 |.raw v,x=>x=.d (.sc v)
 |.nil true,x=>x=.own [] .full
 |.nil false,x=>x=.d (.sl [])∨∃ o,o≠.bC∧x=.own [] o
 |.sl t l .d,x=>x=.d (.sl (bx t l))∨∃ o,o≠.bC∧x=.own (bx t l) o
 |.sl t l .bC,x=>x=.d (.sl (bx t l))∨∃ o,x=.own (bx t l) o
 |.sl t l .full,x=>x=.own (bx t l) .full
 |.sl t l (.app v),x=>v<B∧((ρ v=none∧x=.own (bx t l) .full)∨∃ u,ρ v=some u∧x=.own (bx t l) (.cK u t.size))
 |.ref lv sl au t,x=>au<B∧∃ u n,ρ au=some u∧x=.ref lv sl u 0 n t.size∧∀ r,rowOf m lv sl au=some r→n=r.l.length
 |.j0 lv sl au t off len,x=>au<B∧∃ u,ρ au=some u∧x=.ref lv sl u off len t.size∧∀ r,rowOf m lv sl au=some r→off+len≤r.l.length
 |.ptr lv sl au i off,x=>au<B∧∃ u,ρ au=some u∧x=.ptr lv sl u i off
 |.fW t e off,x=>x=.fW (fy t e) off
 |.fF lv sl au off n sz,x=>au<B∧∃ u,ρ au=some u∧x=.fF lv sl u off n sz
 |.mp lv sl au,x=>au<B∧∃ u,ρ au=some u∧x=.mp lv sl u
def R1 (ρ : bD) (B:Nat) (m:List (Tr E2)):Bool×List Cell→AV→Prop
 |(true,cs),a=>∃ aO,a=.agg aO∧aE (RC ρ B m) cs aO
 |(false,cs),a=>∃ c,cs=[c]∧RC ρ B m c a
def RV (ρ : bD) (B:Nat) (m:List (Tr E2)):V2→AV→Prop
 |.c x,a=>RC ρ B m x a
 |.agg cs,a=>∃ aO,a=.agg aO∧aE (RC ρ B m) cs aO
 |.fk f cs,a=>∃ aO,a=.fk f aO∧aE (RC ρ B m) cs aO
 |.jF vs,a=>∃ aO,a=.jF aO∧aE (R1 ρ B m) vs aO
def RE (ρ : bD) (B:Nat) (m:List (Tr E2)):E2→bH→Prop
 |.row au t l,e=>au<B∧∃ u,ρ au=some u∧e=.row u (bx t l)
 |.box au cs,e=>au<B∧∃ u aO,ρ au=some u∧e=.box u aO∧aE (RC ρ B m) cs aO
 |.set au l,e=>au<B∧∃ u,ρ au=some u∧e=.mp u l
structure MR (ρ : bD) (B:Nat) (m2:List (Tr E2)) (m:List (Tr bH)):Prop where
 len:m2.length=m.length
 fZ:∀ lv sl e2,jO m2 lv sl=some e2→∃ e,aN m lv sl=some e∧RE ρ B m2 e2 e
def TR (ρ : bD) (B:Nat) (t2 t:Tr Unit):Prop:=∀ v,t2.get? v=some ()→v<B∧∀ u,ρ v=some u→t.get? u=some ()
structure VOK (ρ : bD) (n2 n:Nat):Prop where
 low:∀ v u,v<n2→ρ v=some u→u<n
 high:∀ v,n2≤v→ρ v=some (n+(v-n2))
 inj:∀ v v' u,ρ v=some u→ρ v'=some u→v=v'
def va (ρ : bD) (B:Nat) (m:List (Tr E2)) (t:Tr V2) (o:Tr AV):Prop:=∀ k v,t.get? k=some v→RV ρ B m v (dz o k)
structure SR (ρ : bD) (B:Nat) (os:List (Tr AV)) (s2:S2) (s:St):Prop where
 slots:va ρ B s2.mem s2.slots s.slots
 outer:aE (va ρ B s2.mem) s2.outer os
 mem:MR ρ B s2.mem s.mem
 aK:TR ρ B s2.aK s.aK
 au:VOK ρ s2.nv s.nv
 le:B≤s2.nv
def fA (B:Nat) (m m':List (Tr E2)):Prop:=∀ lv sl au r',au<B→rowOf m' lv sl au=some r'→∃ r,rowOf m lv sl au=some r∧r.l.length=r'.l.length
theorem fA.refl (B:Nat) (m:List (Tr E2)):fA B m m:=fun _ _ _ r _ h=>⟨r,h,rfl⟩
theorem fA.trans {B:Nat} {m m' m'':List (Tr E2)} (h:fA B m m') (k:fA B m' m''):fA B m m'':=by
 grind[fA]
theorem RC.move {ρ ρ':bD} {B B':Nat} {m m':List (Tr E2)} (hs:fA B m m') (hB:B≤B') (hρ : ∀ v,v<B→ρ' v = ρ v):∀ {c:Cell} {x:AV},RC ρ B m c x→RC ρ' B' m' c x:=by
 intro c x h
 cases c with
 |nil f=>cases f<;>exact h
 | sl t l o =>
  cases o with
  |app v=>
   obtain⟨hv,h⟩:=h
   refine⟨by omega,?_⟩<;>grind
  |d=>exact h
  |full=>exact h
  |bC=>exact h
 |ref lv sl au t=>
  obtain⟨hv,u,n,hu,hx,hr⟩:=h
  refine⟨by omega,u,n,by rw[hρ au hv];exact hu,hx,fun r' hr'=>?_⟩
  obtain⟨r,h1,h2⟩:=hs _ _ _ _ hv hr'<;>grind
 |j0 lv sl au t off len=>
  obtain⟨hv,u,hu,hx,hr⟩:=h
  refine⟨by omega,u,by rw[hρ au hv];exact hu,hx,fun r' hr'=>?_⟩
  obtain⟨r,h1,h2⟩:=hs _ _ _ _ hv hr'<;>grind
 |ptr lv sl au i off=>
  obtain⟨hv,u,hu,hx⟩:=h
  exact⟨by omega,u,by rw[hρ au hv];exact hu,hx⟩
 |fF lv sl au off n sz=>
  obtain⟨hv,u,hu,hx⟩:=h
  exact⟨by omega,u,by rw[hρ au hv];exact hu,hx⟩
 |mp lv sl au=>
  obtain⟨hv,u,hu,hx⟩:=h
  exact⟨by omega,u,by rw[hρ au hv];exact hu,hx⟩
 |_=>exact h
theorem R1.mono {ρ ρ':bD} {B B':Nat} {m m':List (Tr E2)} (hc:∀ c x,RC ρ B m c x→RC ρ' B' m' c x):∀ {v:Bool×List Cell} {x:AV},R1 ρ B m v x→R1 ρ' B' m' v x
 |(true,_),_,⟨aO,h1,h2⟩=>⟨aO,h1,h2.mono hc⟩
 |(false,_),_,⟨c,h1,h2⟩=>⟨c,h1,hc _ _ h2⟩
theorem RV.mono {ρ ρ':bD} {B B':Nat} {m m':List (Tr E2)} (hc:∀ c x,RC ρ B m c x→RC ρ' B' m' c x):∀ {v:V2} {x:AV},RV ρ B m v x→RV ρ' B' m' v x:=by
 intro v x h
 cases v with
 |c c=>exact hc _ _ h
 |agg cs=>obtain⟨aO,h1,h2⟩:=h;exact⟨aO,h1,h2.mono hc⟩
 |fk f cs=>obtain⟨aO,h1,h2⟩:=h;exact⟨aO,h1,h2.mono hc⟩
 |jF vs=>obtain⟨aO,h1,h2⟩:=h;exact⟨aO,h1,h2.mono fun _ _=>R1.mono hc⟩
theorem RE.mono {ρ ρ':bD} {B B':Nat} {m m':List (Tr E2)} (hB:B≤B') (hρ : ∀ v,v<B→ρ' v = ρ v) (hc:∀ c x,RC ρ B m c x→RC ρ' B' m' c x):∀ {e2:E2} {e:bH},RE ρ B m e2 e→RE ρ' B' m' e2 e:=by
 intro e2 e h
 cases e2 with
 |row au t l=>obtain⟨hv,u,h1,h2⟩:=h;exact⟨by omega,u,by rw[hρ au hv];exact h1,h2⟩
 |box au cs=>obtain⟨hv,u,aO,h1,h2,h3⟩:=h;exact⟨by omega,u,aO,by rw[hρ au hv];exact h1,h2,h3.mono hc⟩
 |set au l=>obtain⟨hv,u,h1,h2⟩:=h;exact⟨by omega,u,by rw[hρ au hv];exact h1,h2⟩
theorem va.mono {ρ ρ':bD} {B B':Nat} {m m':List (Tr E2)} (hc:∀ c x,RC ρ B m c x→RC ρ' B' m' c x) {t:Tr V2} {o:Tr AV} (h:va ρ B m t o):va ρ' B' m' t o:=
 fun k v hk=>RV.mono hc (h k v hk)
theorem RV.move {ρ ρ':bD} {B B':Nat} {m m':List (Tr E2)} (hs:fA B m m') (hB:B≤B') (hρ : ∀ v,v<B→ρ' v = ρ v) {v:V2} {x:AV} (h:RV ρ B m v x):RV ρ' B' m' v x:=
 RV.mono (fun _ _=>RC.move hs hB hρ) h
theorem va.move {ρ ρ':bD} {B B':Nat} {m m':List (Tr E2)} (hs:fA B m m') (hB:B≤B') (hρ : ∀ v,v<B→ρ' v = ρ v) {t:Tr V2} {o:Tr AV} (h:va ρ B m t o):va ρ' B' m' t o:=
 va.mono (fun _ _=>RC.move hs hB hρ) h
theorem qi:∀ l:List qD,EK l=l.map Lm
 |[]=>by simp[EK]
 |v :: r=>by simp[EK,qi r]
theorem eU:∀ (t:Ty) (x:t.den),(fy t x).length=t.size
 |.val,v=>by cases v;simp[fy,Lm,Ty.size]
 |.int _,_=>rfl
 |.bool,_=>rfl
 |.str,_=>rfl
 |.sl _,_=>rfl
 |.unit,_=>rfl
 |.prod a b,x=>by simp[fy,Ty.size,eU a,eU b]
 |.sum _ _,_=>rfl
theorem lT {ρ : bD} {B:Nat} {m:List (Tr E2)} : ∀ (t:Ty) (x:t.den),aE (RC ρ B m) (jl t x) ((fy t x).map .d)
 |.val,v=>by
  cases v
  refine⟨rfl,rfl,rfl,.inl ?_,rfl,trivial⟩
  simp[bx,qD.list,qi,fy]
 |.int _,_=>⟨rfl,trivial⟩
 |.bool,_=>⟨rfl,trivial⟩
 |.str,_=>⟨rfl,trivial⟩
 |.sl _,_=>⟨.inl rfl,trivial⟩
 |.unit,_=>trivial
 |.prod a b,x=>by
  simp[jl,fy,fw]
  exact (lT a x.1).append (lT b x.2)
 |.sum _ _,_=>trivial
theorem B3 {a b:Ty} {l:List a.den} {l':List b.den} (h:jS a b l=some l'):∃ e:a=b,l'=e ▸ l:=by
 unfold jS at h
 split at h<;>grind
theorem OY {a b:Ty} {l:a.den} {l':b.den} (h:u0 a b l=some l'):∃ e:a=b,l'=e ▸ l:=by
 unfold u0 at h
 split at h<;>grind
def ov:Cell→Option D
 |.int k a=>some (.sc (.int k a))
 |.bool b=>some (.sc (.bool b))
 |.str s=>some (.sc (.string ⟨s.toArray⟩))
 |.raw v=>some (.sc v)
 |.nil _=>some (.sl [])
 |.sl t l _=>some (.sl (bx t l))
 |_=>none
def cv:List Cell→Option (List D)
 |[]=>some []
 |c :: r=>match ov c,cv r with
  |some x,some xs=>some (x :: xs)
  |_,_=>none
theorem mJ:∀ {l l':List Cell} {ds ds':List D},cv l=some ds→cv l'=some ds'→cv (l++l')=some (ds++ds')
 |[],_,_,_,h,h'=>by cases h<;>grind
 | c :: r, l', ds, ds', h, h' => by
  simp[cv] at h
  split at h
  ·rename_i x xs h1 h2
   cases h
   simp[n3,cv,h1,mJ h2 h']
  grind
theorem gU {c:Cell} {r:List Cell} {ds:List D} (h:cv (c :: r)=some ds):∃ x xs,ov c=some x∧cv r=some xs∧ds=x :: xs:=by
 grind[cv,ov]
theorem B4 {k:IntKind} {cs r:List Cell} {x:Int} {ds:List D} (h:IC k cs=some (x,r)) (hd:cv cs=some ds):∃ ds',ds=.sc (.int k x) :: ds'∧cv r=some ds':=by
 unfold IC at h
 split at h
 ·split at h
  ·obtain ⟨y, ys, h1, h2, rfl⟩ := gU hd
   cases h1<;>grind
  grind
 grind
theorem EZ {cs r:List Cell} {x:Bool} {ds:List D} (h:Gw cs=some (x,r)) (hd:cv cs=some ds):∃ ds',ds=.sc (.bool x) :: ds'∧cv r=some ds':=by
 unfold Gw at h
 split at h
 ·obtain ⟨y, ys, h1, h2, rfl⟩ := gU hd
  cases h1<;>grind
 grind
theorem IQ {cs r:List Cell} {x:List UInt8} {ds:List D} (h:Nd cs=some (x,r)) (hd:cv cs=some ds):∃ ds',ds=.sc (.string ⟨x.toArray⟩) :: ds'∧cv r=some ds':=by
 unfold Nd at h
 split at h
 ·obtain ⟨y, ys, h1, h2, rfl⟩ := gU hd
  cases h1<;>grind
 grind
theorem Np {t:Ty} {cs r:List Cell} {x:List t.den} {ds:List D} (h:XB t cs=some (x,r)) (hd:cv cs=some ds):∃ ds',ds=.sl (bx t x) :: ds'∧cv r=some ds':=by
 unfold XB at h
 split at h
 ·cases h
  obtain⟨y,ys,h1,h2,rfl⟩:=gU hd
  cases h1
  exact⟨ys,rfl,h2⟩
 ·split at h
  ·rename_i hc
   obtain⟨e,hl⟩:=B3 hc
   obtain⟨y,ys,h1,h2,rfl⟩:=gU hd
   cases h1<;>grind
  grind
 grind
theorem B5:∀ (t:Ty) {cs r:List Cell} {x:t.den},zq t cs=some (x,r)→∀ {ds:List D},cv cs=some ds→∃ ds',ds=fy t x++ds'∧cv r=some ds'
 | .val, cs, r, x, h, ds, hd => by
  simp[zq,ZH] at h
  split at h
  ·rename_i k r1 h1
   split at h
   ·rename_i i r2 h2
    split at h
    ·rename_i s r3 h3
     split at h
     ·rename_i l r4 h4
      split at h
      ·rename_i c r5 h5
       cases h
       obtain⟨d1,rfl,e1⟩:=B4 h1 hd
       obtain⟨d2,rfl,e2⟩:=B4 h2 e1
       obtain⟨d3,rfl,e3⟩:=IQ h3 e2
       obtain⟨d4,rfl,e4⟩:=Np h4 e3
       obtain⟨d5,rfl,e5⟩:=EZ h5 e4
       refine⟨d5,?_,e5⟩
       have:bx .val l=EK l:=by rw[qi];rfl
       simp[fy,Lm,this]
      grind
     grind
    grind
   grind
  grind
 |.int k,_,_,_,h,_,hd=>B4 h hd
 |.bool,_,_,_,h,_,hd=>EZ h hd
 |.str,_,_,_,h,_,hd=>IQ h hd
 |.sl t,_,_,_,h,_,hd=>Np h hd
 |.unit,_,_,_,h,ds,hd=>by
  cases h
  exact⟨ds,rfl,hd⟩
 | .prod a b, cs, r, x, h, ds, hd => by
  simp[zq] at h
  split at h
  ·rename_i x1 r1 h1
   split at h
   ·rename_i x2 r2 h2
    cases h
    obtain⟨d1,rfl,e1⟩:=B5 a h1 hd
    obtain⟨d2,rfl,e2⟩:=B5 b h2 e1<;>simp_all[zq,cv,Ty.den,fy]
   grind
  grind
 |.sum _ _,_,_,_,h,_,_=>by simp[zq] at h
theorem qj {t:Ty} {cs:List Cell} {x:t.den} {ds:List D} (h:zu t cs=some x) (hd:cv cs=some ds):ds=fy t x:=by
 unfold zu at h
 split at h
 ·rename_i y h1
  cases h
  obtain⟨ds',rfl,e⟩:=B5 t h1 hd
  cases e
  simp
 grind
end Go.Sym
