/- A part of the proof: EngBd, EngDf. -/
import Derived.Test.YtleacocdepjflaaGreatEngB
import Derived.Test.YtleacocdepjflaaGreatEngZA
import Derived.Defers
namespace Go.Eng
open Go
structure DFn where
 np:Nat
 nt:Nat
 pre:AC
 g:Nat
 caps:List Nat
 dst:Nat
 body:AC
 res:List ARes
 sh:Bool
 deriving Inhabited
def tmpsOf:List Operand→Option (List Nat)
 |[]=>some []
 |.tmp t :: r=>(tmpsOf r).map (t :: ·)
 |_=>none
def dcodeP : Code → Option (Code × Nat × List Nat × Nat × Code)
 | .seq r1 (.seq (.region _ ⟨[o1, o2]⟩ false) rest) => match o1.op, o1.dst, o1.guard, o2.op, o2.dst, o2.guard with
  | .makeFunc (.func g) ⟨[]⟩ ⟨cap⟩, some d, none, .defer c, none, none => match c.callee, c.args with
   |.value (.tmp d'),⟨[]⟩=>match Nat.beq d' d,tmpsOf cap with
    |true,some l=>some (r1,g,l,d,rest)
    |_,_=>none
   |_,_=>none
  |_,_,_,_,_,_=>none
 |_=>none
def dfnP (P : Program) (lib : Nat → Option TypeId) (md : Nat → Mode) (f : Nat) : Option DFn :=
 match P.funcs[f]? with
 |none=>none
 | some fn => match fn.body with
  |none=>none
  | some c =>
   if fn.name == "runtime.NumGoroutine" then none
   else match dcodeP c,ressP P fn.results.toList with
    | some (r1, g, caps, d, rest), some rs => match codeP P lib fn.ntmps (md f).rows r1, codeP P lib fn.ntmps (md f).rows rest with
     |some pre,some body=>
      if fn.params.size+fn.nfree≤fn.ntmps∧d<fn.ntmps then some { np:=fn.params.size+fn.nfree,nt:=fn.ntmps,pre,g,caps,dst:=d,body,res:=rs,sh:=(md f).sh } else none
     |_,_=>none
    |_,_=>none
def deferF (call : Go.Eng.Call) (sh : Nat → Bool) (gstep : Go.Eng.Call) (DF : Nat → Option DFn) (n : Nat) : Go.Eng.Call := fun f args mem tips nv => match DF f with
 |none=>none
 | some d => match Nat.beq args.length d.np with
  |false=>none
  | true => match exec call sh n d.pre { slots := argSlots 0 args .lf, mem, tips, nv } with
   | some (.normal, s1) => match (d.caps.map (getS s1.slots)).all isCell0 with
    |false=>none
    | true => match exec call sh n d.body { s1 with slots := putS s1.slots (some d.dst) (.clo d.g (d.caps.map (getS s1.slots))) } with
     |some (.normal,s2)|some (.ret,s2)=>match gstep d.g (d.caps.map (getS s1.slots)) (s2.mem++[.lf]) s2.tips s2.nv with
      |some (_,cm,ts,n2)=>(resAll { s2 with mem:=cm,tips:=ts,nv:=n2 } d.res).map fun vs=>(tupOf vs,cm,ts,n2)
      |none=>none
     |_=>none
   |_=>none
end Go.Eng
namespace Go.Eng
open Go Go.RowKit
section
variable {P:Program} {X:Cx}
theorem tmpsOf_opds:∀ {l:List Operand} {ts:List Nat},tmpsOf l=some ts→opds l=some (ts.map .t)
 |[],ts,h=>by simp only[tmpsOf] at h;injection h with h;subst h;rfl
 |.tmp t :: r,ts,h=>by
  simp only[tmpsOf] at h
  obtain⟨ys,h1,rfl⟩:=opt_map h
  simp only[opds,opd,tmpsOf_opds h1,List.map_cons]
 |.const _ :: _,_,h=>by simp[tmpsOf] at h
 |.global _ :: _,_,h=>by simp[tmpsOf] at h
 |.func _ :: _,_,h=>by simp[tmpsOf] at h
theorem VC0.V1 {x:AV} {v:Value} (h:VC0 X x v):Go.Eng.V1 X x v:=by
 cases x<;>first|exact h|exact h.elim
structure DCode (c r1 rest:Code) (g:Nat) (caps:List Nat) (d:Nat):Prop where
 code:∃ id o1 o2 cap cal,c=.seq r1 (.seq (.region id #[o1,o2] false) rest)∧o1.op=.makeFunc (.func g) #[] cap∧o1.dst=some d∧o1.guard=none∧o2.op=.defer cal∧o2.dst=none∧o2.guard=none∧
  cal.callee=.value (.tmp d)∧cal.args = #[]∧opds cap.toList=some (caps.map .t)
theorem dcodeP_spec {c r1 rest:Code} {g d:Nat} {caps:List Nat} (h:dcodeP c=some (r1,g,caps,d,rest)):DCode c r1 rest g caps d:=by
 unfold dcodeP at h
 split at h
 case h_2=>cases h
 rename_i r1' id o1 o2 rest'
 split at h
 case h_2=>cases h
 rename_i g' cap d' cal h1 h2 h3 h4 h5 h6
 split at h
 case h_2=>cases h
 rename_i d'' h7 h8
 split at h
 case h_2=>cases h
 rename_i l hb hl
 have hb:=Nat.eq_of_beq_eq_true hb
 subst hb
 simp only[Option.some.injEq,Prod.mk.injEq] at h
 obtain⟨rfl,rfl,rfl,rfl,rfl⟩:=h
 exact⟨⟨id,o1,o2,⟨cap⟩,cal,rfl,h1,h2,h3,h4,h5,h6,h7,h8,tmpsOf_opds hl⟩⟩
theorem deferF_ok {call:Go.Eng.Call} (hcall:CallOK P call) {lib:Nat→Option TypeId} {md:Nat→Mode} {sh:Nat→Bool} {Fs:Nat→Option AFn} {DF:Nat→Option DFn} (hm:P.follows .mixedOrders=true) (hlib:∀ f T,lib f=some T→IsLib P f T)
  (hFs:∀ f fn,Fs f=some fn→fnP P lib md f=some fn) (hDF:∀ f d,DF f=some d→dfnP P lib md f=some d) (n:Nat):CallOK P (deferF call sh (stepF call Fs n) DF n):=by
 intro f args mem tips nv r mem' tips' nv' h X vargs hmem hdom hargs
 unfold deferF at h
 split at h
 ·cases h
 rename_i d hd
 split at h
 ·cases h
 rename_i hnp
 have hnp:=Nat.eq_of_beq_eq_true hnp
 split at h
 case h_2=>cases h
 rename_i s1 he1
 split at h
 ·cases h
 rename_i hcell
 have hdf:=hDF f d hd
 unfold dfnP at hdf
 split at hdf
 ·cases hdf
 rename_i pf hpf
 split at hdf
 ·cases hdf
 rename_i c hbody
 split at hdf
 ·cases hdf
 rename_i hname
 split at hdf
 case h_2=>cases hdf
 rename_i r1 g caps dd rest rs hcode hrs
 split at hdf
 case h_2=>cases hdf
 rename_i pre body hpre hrest
 split at hdf
 case isFalse=>cases hdf
 rename_i hle
 injection hdf with hdf
 subst hdf
 simp only at hnp he1 hcell h
 obtain⟨⟨id,o1,o2,cap,cal,rfl,ho1,hd1,hg1,ho2,hd2,hg2,hc1,hc2,hcap⟩⟩:=dcodeP_spec hcode
 refine⟨⟨pf,hpf,by rw[hbody];rfl,by simpa using hname⟩,?_⟩
 have hlen:=hargs.length
 simp only[Array.length_toList] at hlen
 have start:Sim X ⟨pf.ntmps,[]⟩ { slots:=argSlots 0 args .lf,mem,tips,nv } { tmps:=vargs++Array.replicate (pf.ntmps-vargs.size) undef,defers:=[] }:=
  ⟨fun t=>args_ok hargs _ t,by simp;omega,rfl,hmem⟩
 refine calls_of_wp_defers hpf hbody (wp_seq ?_)
 refine (exec_ok (nt:=⟨pf.ntmps,[]⟩) hm hcall hlib n).1 r1 pre X _ _ (.normal,s1) _ hpre he1 start hdom fun Y a1 hxY hsY hnY hdY=>?_
 show Code.wp P _ _ _ _
 refine wp_seq (wp_region ?_)
 show wpOps P #[o1,o2] _ [0,1] _ _
 have hcap':evs s1.slots (caps.map .t)=caps.map (getS s1.slots):=by
  unfold evs;rw[List.map_map];rfl
 obtain⟨fv,hrun1,hfv⟩:=makeFunc_ok (P:=P) hsY ho1 hcap (by rw[hcap'];exact hcell)
 rw[hcap'] at hfv
 refine wpOps_one (o:=o1) rfl hg1 (wp_val hrun1 ?_)
 rw[hd1]
 have hfv0:=hfv
 obtain⟨vs,rfl,hvs⟩:=hfv
 let dfd:Deferred:={ target:=.fn (.func g) vs,args:=#[] }
 have hz1:a1.tmps.size=pf.ntmps:=hsY.size
 have hle2:=hle.2
 have hev:(a1.put (some dd) (.func (.func g) #[] vs)).eval (.tmp dd)=.func (.func g) #[] vs:=by
  simp[Act.eval,Act.put]
  intro h
  omega
 have hrun2:(execOp (a1.put (some dd) (.func (.func g) #[] vs)).eval o2).run P Y.w=.ok (.defer dfd) Y.w:=by
  simp[execOp,ho2,resolve,hc1,hc2,hev,Deferred.ofValue,dfd]
 refine wpOps_one (o:=o2) rfl hg2 ?_
 unfold Oper.wp
 rw[hrun2]
 rw[Oper.upon_defer,hd2]
 show Code.wp P _ _ _ _
 let a2:Act:={ (a1.put (some dd) (.func (.func g) #[] vs)) with defers:=[dfd] }
 have ha2:({ (a1.put (some dd) (.func (.func g) #[] vs)) with defers:=dfd :: (a1.put (some dd) (.func (.func g) #[] vs)).defers } : Act).put none undef=a2:=by
  have:a1.defers=[]:=hsY.defers
  simp only[Act.put,this,a2]
 rw[ha2]
 let s1':St:={ s1 with slots:=putS s1.slots (some dd) (.clo g (caps.map (getS s1.slots))) }
 have hsY2:Sim Y ⟨pf.ntmps,[dfd]⟩ s1' a2:=by
  refine⟨fun t=>?_,?_,rfl,hsY.mem⟩
  ·show VR Y (getS (putS s1.slots (some dd) _) t) ((a1.tmps.setIfInBounds dd _).getD t undef)
   have hz:=hsY.size
   simp only at hz
   by_cases htd:t=dd
   ·subst htd
    have e1:getS (putS s1.slots (some t) (.clo g (caps.map (getS s1.slots)))) t=.clo g (caps.map (getS s1.slots)):=by
     simp[getS,putS,Tr.get_set]
    rw[e1,Array.getD_eq_getD_getElem?,Array.getElem?_setIfInBounds_self_of_lt (by omega)]
    exact hfv0
   ·have e1 : getS (putS s1.slots (some dd) (.clo g (caps.map (getS s1.slots)))) t = getS s1.slots t := by
     unfold getS putS
     simp only
     rw[Tr.get_set,if_neg (fun q=>htd q.symm)]
    rw[e1,Array.getD_eq_getD_getElem?,Array.getElem?_setIfInBounds_ne (fun q=>htd q.symm),←Array.getD_eq_getD_getElem?]
    exact hsY.slots t
  ·show (a1.tmps.setIfInBounds dd _).size = _
   rw[Array.size_setIfInBounds];exact hsY.size
 have hdomY:∀ v,s1.nv≤v→Y.ρ v=none:=fun v hv=>by
  cases hz:Y.ρ v with
  |none=>rfl
  |some L=>
   rcases hdY v L hz with h|h
   ·rw[hdom v (by simp at hnY;omega)] at h;cases h
   ·simp at h;omega
 have fin:∀ (s2:St),(match stepF call Fs n g (caps.map (getS s1.slots)) (s2.mem++[.lf]) s2.tips s2.nv with
   |some (_,cm,ts,n2)=>(resAll { s2 with mem:=cm,tips:=ts,nv:=n2 } rs).map fun vs=>(tupOf vs,cm,ts,n2)
   |none=>none)=some (r,mem',tips',nv')→∀ (Z:Cx) (a3:Act),Ext Y Z→Sim Z ⟨pf.ntmps,[dfd]⟩ s2 a3→s1.nv≤s2.nv→(∀ v L,Z.ρ v=some L→Y.ρ v=some L∨(s1.nv≤v∧v<s2.nv))→
   Leaves P pf a3.tmps (fun e w'=>∃ Y v,e=.returned v∧Y.w=w'∧Ext X Y∧VR Y r v∧MemOK Y mem' tips'∧nv≤nv'∧∀ u L,Y.ρ u=some L→X.ρ u=some L∨(nv≤u∧u<nv')) a3.defers .returning Z.w:=by
  intro s2 hfin Z a3 hxZ hsZ hnZ hdZ
  split at hfin
  case h_2=>cases hfin
  rename_i rg cm ts n2 hg
  obtain⟨ws,hws,he⟩:=opt_map hfin
  simp only[Prod.mk.injEq] at he
  obtain⟨rfl,rfl,rfl,rfl⟩:=he
  have hdomZ:∀ v,s2.nv≤v→Z.ρ v=none:=fun v hv=>by
   cases hz:Z.ρ v with
   |none=>rfl
   |some L=>
    rcases hdZ v L hz with h|h
    ·rw[hdomY v (by omega)] at h;cases h
    ·omega
  have hm0:MemOK Z (s2.mem++[.lf]) s2.tips:=hsZ.mem.congr (fun lv sl=>memGet_append_lf _ _ _) fun _=>rfl
  have hvsZ:All2 (V1 Z) (caps.map (getS s1.slots)) vs.toList:=hvs.mono fun _ _ h=>((h.ext hxZ).V1)
  obtain⟨pg,cg,g1,g2,g3,g4⟩:=stepF_wp hcall hm hlib hFs n hg Z vs hm0 hdomZ hvsZ
  rw[hsZ.defers]
  have hinv:(invoke (.fn (.func g) vs) #[]).run P Z.w=.ok (.enter g vs) Z.w:=by
   have:=callFunc_enter (P:=P) (args:=vs) (w:=Z.w) g1 (by rw[g2];rfl) g3
   simpa[invoke] using this
  refine leaves_cons (fun h=>by cases h) hinv ((callsD_of_wp g1 g2 g4).mono ?_)
  rintro e u' w' ⟨rfl,V,v,rfl,rfl,hxV,hvV,hmV,hnV,hdV⟩
  have hxX:Ext X V:=(hxY.trans hxZ).trans hxV
  have hs3:Sim V ⟨pf.ntmps,[dfd]⟩ { s2 with mem:=cm,tips:=ts,nv:=n2 } a3:=⟨fun t=>(hsZ.slots t).ext hxV,hsZ.size,hsZ.defers,hmV⟩
  obtain⟨us,q1,q2⟩:=resAll_ok hs3 hrs hws
  refine⟨_,?_,V,_,rfl,rfl,hxX,tup_ok q2,hmV,by simp at hnY;omega,fun u L hu=>?_⟩
  ·have e : results pf a3.tmps = (do
     let vs ←pf.results.mapM (resOf a3)
     pure (if h:vs.size=1 then vs[0] else .tuple vs)):=by
    unfold results
    congr 1
   rw[e,←Array.toArray_toList (xs:=pf.results),List.mapM_toArray]
   simp[q1]
  ·rcases hdV u L hu with h | h
   ·rcases hdZ u L h with h | h
    ·rcases hdY u L h with h | h
     ·exact .inl h
     ·right;simp at h;omega
    ·right;simp at hnY;omega
   ·right;simp at hnY;omega
 split at h
 ·rename_i s2 he2
  exact (exec_ok (nt:=⟨pf.ntmps,[dfd]⟩) hm hcall hlib n).1 rest body Y s1' a2 (.normal,s2) _ hrest he2 hsY2 hdomY fun Z a3 hxZ hsZ hnZ hdZ=>fin s2 h Z a3 hxZ hsZ hnZ hdZ
 ·rename_i s2 he2
  exact (exec_ok (nt:=⟨pf.ntmps,[dfd]⟩) hm hcall hlib n).1 rest body Y s1' a2 (.ret,s2) _ hrest he2 hsY2 hdomY fun Z a3 hxZ hsZ hnZ hdZ=>fin s2 h Z a3 hxZ hsZ hnZ hdZ
 ·cases h
end
end Go.Eng
