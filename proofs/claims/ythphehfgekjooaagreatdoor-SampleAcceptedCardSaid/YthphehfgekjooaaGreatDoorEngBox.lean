/- A part of the proof: EngR, EngBox. -/
import Derived.Test.YthphehfgekjooaaGreatDoorEngQ
set_option linter.unusedVariables false
set_option linter.unusedSimpArgs false
namespace Go.bq
open Go Go.RowKit
structure Good (Z:Cx) (cm:List (Tr aZ)) (top pk:Nat) (Y:Cx):Prop where
 w:Y.w=Z.w
 F:∀ b o,Z.F b o→Y.F b o
 ρ : 0<top→∀ v L,Z.ρ v=some L→Y.ρ v=some L
 fz:pk=0→∀ bV cS e L,top≤bV→aC cm bV cS=some e→e.fz=false→Z.ρ e.aa=some L→0<L.cap→∀ o,Y.F L.b o
def cU {α : Type} (Z:Cx) (cm:List (Tr aZ)) (top pk lv sl aa:Nat) (R:Cx→α→Prop) (y : α) (us:List (List (List D))):Prop:=
 (us=[]∧∀ Y,Good Z cm top pk Y→R Y y)∨
 (∃ els len sz v',us=[els]∧(pk≠0∧Qk Z top cm els len sz v')∧∀ Y,Good Z cm top pk Y→VC Y (.ref lv sl aa 0 len sz) v'→R Y y)∨2≤us.length
theorem cU.map {α β : Type} {Z:Cx} {cm:List (Tr aZ)} {top pk lv sl aa:Nat} {R:Cx→α→Prop} {S:Cx→β→Prop} {y : α} {z : β} {us:List (List (List D))} (h:cU Z cm top pk lv sl aa R y us) (hrs:∀ Y,R Y y→S Y z):cU Z cm top pk lv sl aa S z us:=by
 grind[cU]
theorem cU.pair {α β γ : Type} {Z:Cx} {cm:List (Tr aZ)} {top pk lv sl aa:Nat} {R:Cx→α→Prop} {S:Cx→β→Prop} {T:Cx→γ→Prop} {y : α} {z : β} {x : γ} {us vs:List (List (List D))} (h:cU Z cm top pk lv sl aa R y us) (k:cU Z cm top pk lv sl aa S z vs)
  (hrs:∀ Y,R Y y→S Y z→T Y x):cU Z cm top pk lv sl aa T x (us++vs):=by
 grind[cU]
section
variable {Z:Cx} {cm:List (Tr aZ)} {ts:Tr Unit} {top pk lv sl aa:Nat}
theorem wh (h:aA Z cm ts) {k:Nat} {x y:AV} {us:List (List (List D))} {v:Value} (hx:aW cm top pk k lv sl aa x=some (y,us)) (hv:VC Z x v):cU Z cm top pk lv sl aa (fun Y y=>VC Y y v) y us:=by
 by_cases hu:us=[]
 ·refine .inl ⟨hu, fun Y hY => ?_⟩
  rcases zW h hY.w hY.F hY.ρ hY.fz hx hv with⟨_,h⟩|⟨_,_,_,h,_⟩<;>grind
 ·rcases zW (Y:={ Z with F:=fun _ _=>True }) h rfl (fun _ _ _=>trivial) (fun _ _ _ h=>h) (fun _ _ _ _ _ _ _ _ _ _ _=>trivial) hx hv with⟨h,_⟩|⟨els,len,sz,h1,rfl,h2,h3⟩<;>grind[aW,VC,cU]
theorem zX (h:aA Z cm ts):∀ {k:Nat} {xs ys:List AV} {us:List (List (List D))} {vs:List Value},bZ cm top pk lv sl aa k xs=some (ys,us)→aq (VC Z) xs vs→cU Z cm top pk lv sl aa (fun Y ys=>aq (VC Y) ys vs) ys us
 |k,[],ys,us,[],hx,_=>by grind[bZ,VC,aq,cU]
 | k, x :: xs, ys, us, v :: vs, hx, hv => by
  simp[bZ] at hx
  split at hx
  ·rename_i y u ys' us' h1 h2
   cases hx
   exact (wh h h1 hv.1).pair (zX h h2 hv.2) fun Y a b=>⟨a,b⟩
  grind
 |_,[],_,_,_ :: _,_,hv=>hv.elim
 |_,_ :: _,_,_,[],_,hv=>hv.elim
theorem Ql (h:aA Z cm ts) {k:Nat} {x y:AV} {us:List (List (List D))} {v:Value} (hx:kj cm top pk lv sl aa k x=some (y,us)) (hv:V1 Z x v):cU Z cm top pk lv sl aa (fun Y y=>V1 Y y v) y us:=by
 cases x with
 | agg cs =>
  simp only[kj] at hx
  cases hd:bZ cm top pk lv sl aa k cs with
  |none=>grind
  |some p=>
   rw[hd] at hx
   cases hx
   obtain⟨vs,rfl,h3⟩:=hv
   exact (zX h (us:=p.2) hd h3).map fun Y h=>⟨vs,rfl,h⟩
 |gN cs=>cases hx
 |_=>simp only[kj] at hx;exact (wh h hx hv).map fun Y h=>.eL h
theorem GY (h:aA Z cm ts):∀ {k:Nat} {xs ys:List AV} {us:List (List (List D))} {vs:List Value},eX cm top pk lv sl aa k xs=some (ys,us)→aq (V1 Z) xs vs→cU Z cm top pk lv sl aa (fun Y ys=>aq (V1 Y) ys vs) ys us
 |k,[],ys,us,[],hx,_=>by grind[eX,V1,aq,cU]
 | k, x :: xs, ys, us, v :: vs, hx, hv => by
  simp[eX] at hx
  split at hx
  ·rename_i y u ys' us' h1 h2
   cases hx
   exact (Ql h h1 hv.1).pair (GY h h2 hv.2) fun Y a b=>⟨a,b⟩
  grind
 |_,[],_,_,_ :: _,_,hv=>hv.elim
 |_,_ :: _,_,_,[],_,hv=>hv.elim
theorem EH (h:aA Z cm ts) {x y:AV} {us:List (List (List D))} {v:Value} (hx:fF cm top pk lv sl aa x=some (y,us)) (hv:VR Z x v):cU Z cm top pk lv sl aa (fun Y y=>VR Y y v) y us:=by
 cases x with
 | gN cs =>
  simp only[fF] at hx
  cases hd:eX cm top pk lv sl aa 1 cs with
  |none=>grind
  |some p=>
   rw[hd] at hx
   cases hx
   obtain⟨vs,rfl,h3⟩:=hv
   exact (GY h (us:=p.2) hd h3).map fun Y h=>⟨vs,rfl,h⟩
 |_=>simp only[fF] at hx;exact (Ql h hx hv).map fun Y h=>.ux h
theorem zY {Y:Cx} {m:List (Tr aZ)} {t:Tr Unit} {els:List (List D)} {len sz off cap:Nat} {a:Option Addr} {L:Loc} (hm:aA Y m t) (hw:Y.w=Z.w) (hF:∀ b o,Z.F b o→Y.F b o) (hb:∀ b,Y.old b→Z.old b) (hfr:Y.ρ aa=none)
  (h1 : len ≤ cap) (h2 : els.length = len) (h3 : ∀ e ∈ els, e.length = sz) (h4 : 0 < cap → a = some ⟨L.b, L.o + off * sz, none⟩ ∧ off + cap ≤ L.cap ∧ L.sz = sz ∧ 0 < L.cap ∧
   Block Z L.b (L.o+L.cap*L.sz)∧(∀ o,¬Z.F L.b o)∧∀ i e j x,els[i]?=some e→e[j]?=some x→∃ u,Z.w.cell? ⟨L.b,L.o+off*sz+i*sz+j,none⟩=some u∧DR Z.w Z.F x u)
  (hno:0<cap→(∀ o,¬Y.F L.b o)∧∀ k u M,Holds m t k u→Y.ρ u=some M→0<M.cap→M.b≠L.b) :
  ∃ W:Cx,W.w=Y.w∧W.F=Y.F∧W.old=Y.old∧(∀ u M,Y.ρ u=some M→W.ρ u=some M)∧(∀ u M,W.ρ u=some M→Y.ρ u=some M∨u=aa)∧aA W (bF m lv sl (some (.row aa els))) t∧VC W (.ref lv sl aa 0 len sz) (.slice a len cap):=by
 let L':Loc:=⟨L.b,L.o+off*sz,sz,cap⟩
 refine⟨Y.name aa L',rfl,rfl,rfl,(dn hfr).loc,fun u M hu=>?_,?_,L',a,cap,dL,rfl,rfl,h1,fun hc=>⟨by rw[(h4 hc).1];simp[L'],by simp[L']⟩⟩
 ·grind[Cx.name,Holds,Block]
 ·refine (fG hm hfr).add (e := .row aa els) (L := L') dL ⟨by rw [h2]; exact h1, h3, fun hc => ?_, fun i e j x hi hj => ?_⟩ fun k u M hk _ hu vT hc => ?_
  ·obtain ⟨g1, g2, g3, g4, ⟨g5, C, ce, g6, g7⟩, g8, _⟩ := h4 hc
   refine⟨⟨fun q=>g5 (hb _ q),C,ce,by show Y.w.heap[L.b]?=_;rw[hw];exact g6,?_⟩,(hno hc).1⟩
   have:=Nat.mul_le_mul_right sz g2<;>grind
  ·have hi' : i < els.length := (List.getElem?_eq_some_iff.1 hi).1
   obtain⟨u,hu,hd⟩:=(h4 (by omega)).2.2.2.2.2.2 i e j x hi hj
   refine⟨u,?_,?_⟩
   ·grind[Holds,Block,Cx.name]
   ·show DR Y.w Y.F x u
    rw[hw];exact hd.mono hF
  ·obtain⟨M',jx,_⟩:=hm.cz hk<;>grind[Cx.name,bw,Holds,Block]
end
theorem nG (m:List (Tr aZ)) (k lv sl:Nat):aC (m.take k) lv sl=if lv<k then aC m lv sl else none:=by
 grind[aC]
section
variable {P:Program} {X:Cx} {nt:Nat} {s:St} {a:Act} {o:Oper} {dst:Option Nat} {aH:Nat}
theorem zZ {call:Go.bq.Call} (cc:bX P call) (hs:eC X nt s a) (hfr:X.ρ aH=none) {f pk lv sl:Nat} {bu:Array Value} {aD:List AV} {ks:List (Nat×Nat)} {r val:AV} {cm:List (Tr aZ)} {ts:Tr Unit} {n':Nat} {us:List (List (List D))} {u:List (Nat×Nat×Option aZ)} {rd:List (Nat×Nat×Nat)}
  (hV:aq (V1 (X.lz s.mem ks).inner) aD bu.toList) (hc:call f aD [.lf] .lf 0=some (r,cm,ts,n')) (hi:fF cm 0 pk lv sl aH r=some (val,us)) (hu:jA lv sl aH us=some u)
  (hrun:(∃ fn,P.funcs[f]?=some fn∧fn.body.isSome=true∧(fn.name == "runtime.NumGoroutine")=false)→(execOp a.eval o).run P X.w=.ok (.enter f bu) X.w) :
  cD P X s a o dst aH (.bC { val,cv:=di s.mem ks++u,bR:=[],rd }):=by
 intro K Q hK
 have CP:=Eu hs.mem ks
 have hx1:=pG hs.mem ks
 obtain⟨hfn,pJ⟩:=cc f aD [.lf] .lf 0 r cm ts n' hc (X.lz s.mem ks).inner bu (Nt CP) (fun _ _=>rfl) hV
 unfold Oper.wp
 rw[hrun hfn]
 refine Calls.mono pJ ?_
 rintro e w' ⟨Z,v,rfl,rfl,yZ,Uk,CX,_,_⟩
 have hblk:∀ b,b<X.w.heap.size→Z.w.heap[b]?=X.w.heap[b]?:=fun b hb=>yZ.below.block b hb
 have Qm:Z.old=fun b=>b<X.w.heap.size:=yZ.base
 have hZF:∀ b o,Z.F b o→(X.lz s.mem ks).F b o∨X.w.heap.size≤b:=fun b o h=>(yZ.new b o h).imp id fun h=>Nat.le_of_not_lt h
 have mk:∀ (p:Option Nat),∃ Y:Cx,Y.w=Z.w∧Y.old=X.old∧Y.ρ = X.ρ∧(∀ b o,Y.F b o↔Z.F b o∨(X.w.heap.size≤b∧b<Z.w.heap.size∧some b≠p))∧Ext X Y∧aA Y (aX s.mem (di s.mem ks)) s.aB:=by
  intro p
  let Y:Cx:={ w:=Z.w,F:=fun b o=>Z.F b o∨(X.w.heap.size≤b∧b<Z.w.heap.size∧some b≠p),ρ:=X.ρ,old:=X.old }
  have hx:Ext (X.lz s.mem ks) Y:=by
   refine⟨rfl,yZ.below.mono hs.mem.low,fun b o h=>.inl (yZ.TZ b o h),fun b o h=>?_,fun _ _ h=>h,fun b o h=>?_⟩
   ·exact yZ.keep b o h
   ·rcases h with h | h
    ·exact (hZF b o h).imp id fun h q=>Nat.lt_irrefl _ (Nat.lt_of_lt_of_le (hs.mem.low _ q) h)
    ·exact .inr fun q=>Nat.lt_irrefl _ (Nat.lt_of_lt_of_le (hs.mem.low _ q) h.1)
  refine⟨Y,rfl,rfl,rfl,fun _ _=>Iff.rfl,hx1.trans hx,CP.move hx (fun k v L hk hv hc=>?_) (fun k v L o hk hv hc h=>?_) fun b o h=>?_⟩
  ·obtain ⟨M, hM, h2⟩ := CP.cz hk
   rw[hv] at hM;cases hM
   exact hblk _ (h2 hc).1
  ·obtain ⟨M, hM, h2⟩ := CP.cz hk
   rw[hv] at hM;cases hM
   have:=(h2 hc).1
   have this:L.b<X.w.heap.size:=this<;>grind
  ·rcases h with h | h
   ·exact CX.ni b o h
   grind
 rcases EH CX hi Uk with⟨rfl,hb⟩|⟨els,len,sz,v',rfl,⟨hpk,⟨L,off,ad,cap,g3,g4,g5,g6,Zi⟩⟩,hb⟩|hlen
 ·cases hu
  obtain⟨Y,y1,y2,y3,y4,y5,y6⟩:=mk none
  rw[←y1]
  refine hK Y v y5 (hb Y ⟨y1,fun b o h=>(y4 b o).2 (.inl h),fun h=>absurd h (by omega),fun _ bV cS e L _ hg hz hL hc o=>?_⟩) ?_ ?_
  ·obtain⟨M,hM,h2⟩:=CX.cz (.inl ⟨bV,cS,e,rfl,hg,rfl,hz⟩)<;>grind
  ·rw [List.append_nil]
   exact y6
  ·exact ew.EA y3
 ·cases hu
  subst g3
  have g7:=fun hc=>(Zi hc).2
  obtain⟨Y,y1,y2,y3,y4,y5,y6⟩:=mk (some L.b)
  have hLb:0<cap→X.w.heap.size≤L.b:=fun hc=>by
   have:=(g7 hc).2.2.2.2.1.1
   rw[Qm] at this
   exact Nat.le_of_not_lt this
  obtain⟨W,w1,w2,w3,w4,w5,w6,w7⟩:=zY (Z:=Z) (lv:=lv) (sl:=sl) (aa:=aH) y6 y1 (fun b o h=>(y4 b o).2 (.inl h)) (by rw[y2,Qm];exact hs.mem.low) (by rw[y3];exact hfr) g4 g5 g6 g7 fun hc=>⟨fun o h=>by
    rcases (y4 _ _).1 h with h|h
    ·exact (g7 hc).2.2.2.2.2.1 o h
    ·exact h.2.2 rfl,fun k u M hk hM vT=>by
    obtain⟨M',jx,h2⟩:=CP.cz hk
    rw[y3] at hM
    have jx:X.ρ u=some M':=jx
    rw[hM] at jx;injection jx with jx;subst jx
    have:M.b<X.w.heap.size:=(h2 vT).1
    have:=hLb hc
    omega⟩
  have hxW:Ext Y W:=⟨w3,by rw[w1];exact dK.refl _ _,fun b o h=>by rw[w2];exact h,fun b o _=>by rw[w1],w4,fun b o h=>by rw[w2] at h;exact .inl h⟩
  rw[←y1,←w1]
  refine hK W v (y5.trans hxW) (hb W ⟨w1.trans y1,fun b o h=>by rw[w2];exact (y4 b o).2 (.inl h),fun h=>absurd h (by omega),fun h=>absurd h hpk⟩ w7) ?_ ?_
  ·show aA W (aX s.mem (di s.mem ks ++ _)) s.aB
   rw[jd]
   exact w6
  ·refine⟨Nat.le_refl _,fun u M hM=>?_⟩<;>grind
 ·match us, hlen with
  |_ :: _ :: _,_=>simp[jA] at hu
end
end Go.bq
namespace Go.bq
open Go Go.RowKit
theorem qU {X Y:Cx} (hw:Y.w=X.w) (hF:∀ b o,X.F b o→Y.F b o) {x:AV} {v:Value} (h:zC x=true) (hv:VC X x v):VC Y x v:=by
 cases x with
 |d x=>
  show DR Y.w Y.F x v
  rw[hw]
  exact DR.mono hF hv
 |_=>cases h
theorem wj {X Y:Cx} (hw:Y.w=X.w) (hF:∀ b o,X.F b o→Y.F b o):∀ {xs:List AV} {vs:List Value},xs.all zC=true→aq (VC X) xs vs→aq (VC Y) xs vs
 |[],[],_,_=>trivial
 |x :: xs,v :: vs,h,hv=>by
  simp only[List.all_cons,Bool.and_eq_true] at h
  exact⟨qU hw hF h.1 hv.1,wj hw hF h.2 hv.2⟩
 |[],_ :: _,_,hv=>hv.elim
 |_ :: _,[],_,hv=>hv.elim
theorem Nu {X Y:Cx} (hw:Y.w=X.w) (hF:∀ b o,X.F b o→Y.F b o) {x:AV} {v:Value} (h:vV x=true) (hv:V1 X x v):V1 Y x v:=by
 cases x with
 |agg cs=>
  obtain⟨vs,rfl,hv⟩:=hv
  exact⟨vs,rfl,wj hw hF h hv⟩
 |d x=>exact qU (x:=.d x) hw hF h hv
 |_=>cases h
theorem z1 {X Y:Cx} (hw:Y.w=X.w) (hF:∀ b o,X.F b o→Y.F b o):∀ {xs:List AV} {vs:List Value},xs.all vV=true→aq (V1 X) xs vs→aq (V1 Y) xs vs
 |[],[],_,_=>trivial
 |x :: xs,v :: vs,h,hv=>by
  simp only[List.all_cons,Bool.and_eq_true] at h
  exact⟨Nu hw hF h.1 hv.1,z1 hw hF h.2 hv.2⟩
 |[],_ :: _,_,hv=>hv.elim
 |_ :: _,[],_,hv=>hv.elim
theorem Nv {X Y:Cx} (hw:Y.w=X.w) (hF:∀ b o,X.F b o→Y.F b o) {x:AV} {v:Value} (h:Ek x=true) (hv:VR X x v):VR Y x v:=by
 cases x with
 |gN vs=>
  obtain⟨us,rfl,hv⟩:=hv
  exact⟨us,rfl,z1 hw hF h hv⟩
 |agg cs=>
  obtain⟨vs,rfl,hv⟩:=hv
  exact⟨vs,rfl,wj hw hF h hv⟩
 |d x=>exact qU (x:=.d x) hw hF h hv
 |_=>cases h
theorem tE {X Y:Cx} (hw:Y.w=X.w) (hF:∀ b o,X.F b o→Y.F b o) {x y:AV} {v:Value} (h:nB x=some y) (hv:VC X x v):VC Y y v:=by
 have data:∀ {els a cap sz b o},v=.slice a els.length cap→els.length≤cap→(0<els.length→a=some ⟨b,o,none⟩)→dH X.w X.F X.F els b o sz→VC Y (.d (.sl els)) v:=by
  rintro els a cap sz b o rfl h2 h3 h4
  refine DR.fD (b:=b) (o:=o) (sz:=sz) ?_ rfl h2 h3
  rw[hw]
  exact h4.mono hF fun q _ hq=>hF _ _ hq
 cases x with
 |d x=>
  cases h
  exact qU hw hF rfl hv
 | own els ow =>
  cases ow with
  |full=>
   cases h
   obtain⟨a,b,o,sz,g1,g2,g3⟩:=hv<;>grind
  |bR aa tz=>
   cases h
   obtain⟨a,b,o,sz,cap,g1,g2,g3,g4,_⟩:=hv<;>grind
  |bB=>cases h
 |_=>cases h
theorem xm {X Y:Cx} (hw:Y.w=X.w) (hF:∀ b o,X.F b o→Y.F b o):∀ {xs ys:List AV} {vs:List Value},iQ xs=some ys→aq (VC X) xs vs→aq (VC Y) ys vs
 |[],ys,[],h,_=>by cases h;trivial
 | x :: xs, ys, v :: vs, h, hv => by
  simp[iQ] at h
  split at h
  ·rename_i y ys' h1 h2
   cases h
   exact⟨tE hw hF h1 hv.1,xm hw hF h2 hv.2⟩
  grind
 |[],_,_ :: _,_,hv=>hv.elim
 |_ :: _,_,[],_,hv=>hv.elim
theorem xo:∀ {xs ys:List AV},iQ xs=some ys→ys.length=xs.length∧∀ (j:Nat) (y:AV),ys[j]?=some y→∃ x,xs[j]?=some x∧nB x=some y
 |[],ys,h=>by
  cases h<;>grind
 | x :: xs, ys, h => by
  simp[iQ] at h
  split at h
  ·rename_i y ys' h1 h2
   obtain⟨g1,g2⟩:=xo h2<;>grind
  grind
theorem Nw {X Y:Cx} (hw:Y.w=X.w) (hF:∀ b o,X.F b o→Y.F b o) {x y:AV} {v:Value} (h:El x=some y) (hv:VR X x v):V1 Y y v:=by
 have one:∀ {x y:AV},nB x=some y→VC X x v→V1 Y y v:=fun {x y} h hv=>.eL (tE hw hF h hv)
 cases x with
 |agg cs=>
  obtain⟨ys,h1,rfl⟩:=Option.map_eq_some_iff.1 h
  obtain⟨vs,rfl,hv⟩:=hv
  exact⟨vs,rfl,xm hw hF h1 hv⟩
 |d x=>exact one (x:=.d x) h hv
 |own els o=>exact one (x:=.own els o) h hv
 |_=>cases h
theorem z6 {X Y:Cx} (hw:Y.w=X.w) (hF:∀ b o,X.F b o→Y.F b o):∀ {xs ys:List AV} {vs:List Value},nC xs=some ys→aq (VR X) xs vs→aq (V1 Y) ys vs
 |[],ys,[],h,_=>by cases h;trivial
 | x :: xs, ys, v :: vs, h, hv => by
  simp[nC] at h
  split at h
  ·rename_i y ys' h1 h2
   cases h
   exact⟨Nw hw hF h1 hv.1,z6 hw hF h2 hv.2⟩
  grind
 |[],_,_ :: _,_,hv=>hv.elim
 |_ :: _,_,[],_,hv=>hv.elim
theorem CY {m:List (Tr aZ)} {lv sl aa:Nat} {cs:List AV} (h:fK m lv sl aa=some cs):aC m lv sl=some (.box aa cs):=by
 unfold fK at h
 split at h
 ·split at h<;>simp_all
 grind
theorem JV {args rest:List AV} {lb sb vb:Nat} (h:nD args=some (lb,sb,vb,rest)):args=.ptr lb sb vb 0 0 :: rest:=by
 unfold nD at h
 split at h
 ·split at h<;>simp_all
 grind
theorem z7 {cs:List AV} {lv sl:Nat} {e:aZ} (h:aC (qD cs) lv sl=some e):lv=0∧sl=0∧e=.box 0 cs:=by
 unfold qD at h
 rw[bM] at h
 split at h
 ·grind
 ·unfold aC at h
  grind[Tr.get?]
theorem xp {cm:List (Tr aZ)} {top lv sl aa:Nat} : ∀ {k:Nat} {xs ys:List AV},bZ cm top 0 lv sl aa k xs=some (ys,[])→ys.length=xs.length∧∀ j y,ys[j]?=some y→∃ x,xs[j]?=some x∧aW cm top 0 (k+j) lv sl aa x=some (y,[])
 |_,[],ys,h=>by
  cases h<;>grind
 | k, x :: xs, ys, h => by
  simp[bZ] at h
  split at h
  ·rename_i y u ys' us h1 h2
   simp at h
   obtain⟨rfl,rfl,rfl⟩:=h
   obtain⟨g1,g2⟩:=xp h2<;>grind
  grind
section
variable {P:Program} {X:Cx} {nt:Nat} {s:St} {a:Act} {o:Oper} {dst:Option Nat} {aH:Nat}
theorem Qn {call:Go.bq.Call} (cc:bX P call) (hs:eC X nt s a) {f lb sb vb:Nat} {args:List AV} {bu:Array Value} {r:cR}
  (hargs:aq (VR X) (.ptr lb sb vb 0 0 :: args) bu.toList) (hr:qE call s f lb sb vb args=some r)
  (hrun:(∃ fn,P.funcs[f]?=some fn∧fn.body.isSome=true∧(fn.name == "runtime.NumGoroutine")=false)→(execOp a.eval o).run P X.w=.ok (.enter f bu) X.w) :
  cD P X s a o dst aH r:=by
 unfold qE at hr
 split at hr
 ·cases hr
 rename_i cs hb
 split at hr
 rotate_left
 ·cases hr
 rename_i cs0 aD hd0 hda
 obtain⟨acX,ahb⟩:=xo hd0
 split at hr
 ·cases hr
 rename_i r' cm ts n' hc
 split at hr
 ·cases hr
 rename_i cs' hb'
 split at hr
 rotate_left
 ·cases hr
 rename_i ds val hi hir
 split at hr
 rotate_left
 ·cases hr
 rename_i Zj
 rw[Bool.and_eq_true] at Zj
 cases hr
 have hg:=CY hb
 have hg':=CY hb'
 obtain⟨L,hL,hcap,hblk,hF,hcells⟩:=hs.mem.dW _ _ _ hg
 have hL:X.ρ vb=some L:=hL
 have JW:Holds s.mem s.aB (bw lb sb) vb:=.inl ⟨lb,sb,_,rfl,hg,rfl,rfl⟩
 have hLs:L.b<X.w.heap.size:=hblk.lt
 let Z0:Cx:={ w:=X.w,F:=X.F,ρ:=fun v=>if v=0 then some L else none,old:=fun b=>b<X.w.heap.size∧b≠L.b }
 have hρ0:Z0.ρ 0=some L:=rfl
 have hZ0:aA Z0 (qD cs0) .lf:=by
  refine⟨fun lv sl e he=>?_,fun v hv=>by simp at hv,fun k k' v v' L1 L2 h1 h2 hne _ _ _ _=>?_,hs.mem.ni,fun b h=>h.1,fun b hb=>⟨hs.mem.low b (hs.mem.pz.gb b hb),fun e=>hblk.1 (e ▸ hs.mem.pz.gb b hb)⟩,hs.mem.pz.gk⟩
  ·obtain ⟨_, _, rfl⟩ := z7 he
   refine⟨L,hρ0,hcap,⟨fun h=>h.2 rfl,by rw[acX];exact hblk.2⟩,hF,fun j y hj=>?_⟩
   obtain⟨x,hx0,hxy⟩:=ahb j y hj
   obtain⟨v,hv,hvc⟩:=hcells j x hx0
   exact⟨v,hv,tE (X:=X) (Y:=Z0) rfl (fun _ _ h=>h) hxy hvc⟩
  ·have one : ∀ {k : Nat × Nat × Nat} {v : Nat}, Holds (qD cs0) .lf k v → k = bw 0 0 := by
    rintro k v (⟨lv,sl,e,rfl,he,_,_⟩|⟨_,he⟩)
    ·obtain⟨rfl,rfl,_⟩:=z7 he;rfl
    simp_all
   grind
 have hA:aq (V1 Z0) (.ptr 0 0 0 0 0 :: aD) bu.toList:=by
  revert hargs
  cases bu.toList with
  |nil=>exact fun h=>h.elim
  |cons v0 vs=>
   intro h
   refine⟨?_,z6 (X:=X) (Y:=Z0) rfl (fun _ _ h=>h) hda h.2⟩
   obtain⟨L',hL',hv0⟩:=h.1
   rw[hL] at hL';cases hL'
   exact⟨L,hρ0,hv0⟩
 obtain⟨hfn,pJ⟩:=cc f _ _ _ _ r' cm ts n' hc Z0 bu hZ0 (fun v hv=>if_neg (by omega)) hA
 intro K Q hK
 unfold Oper.wp
 rw[hrun hfn]
 refine Calls.mono pJ ?_
 rintro e w' ⟨Z,v,rfl,rfl,yZ,Uk,CX,_,_⟩
 have hZL:Z.ρ 0=some L:=yZ.loc 0 L hρ0
 obtain⟨L2,Zh,_,acZ,hF2,Ul⟩:=CX.dW _ _ _ hg'
 have Zh:Z.ρ 0=some L2:=Zh
 rw[hZL] at Zh;cases Zh
 have ac1:Holds cm ts (bw 0 0) 0:=.inl ⟨0,0,_,rfl,hg',rfl,rfl⟩
 have hold:∀ b,X.old b→b<X.w.heap.size∧b≠L.b:=fun b hb=>⟨hs.mem.low b hb,fun e=>hblk.1 (e ▸ hb)⟩
 have aji:Z.old=fun b=>b<X.w.heap.size∧b≠L.b:=yZ.base
 have hnew:∀ b o,Z.F b o→X.F b o∨¬(b<X.w.heap.size∧b≠L.b):=yZ.new
 let Y:Cx:={ w:=Z.w,F:=fun b o=>Z.F b o∨(X.w.heap.size≤b∧b<Z.w.heap.size),ρ:=X.ρ,old:=X.old }
 have hx:Ext X Y:=by
  refine⟨rfl,yZ.below.mono hold,fun b o h=>.inl (yZ.TZ b o h),fun b o h=>yZ.keep b o h,fun _ _ h=>h,fun b o h=>?_⟩<;>grind
 have other:∀ k u M,Holds (bF s.mem lb sb none) s.aB k u→X.ρ u=some M→0<M.cap→M.b<X.w.heap.size∧M.b≠L.b:=by
  intro k u M hk hu hc
  have hk2:Holds s.mem s.aB k u∧k≠bw lb sb:=by
   rcases hk with⟨bV,cS,e,rfl,he,h1,h2⟩|⟨rfl,he⟩
   ·rw [bM] at he
    split at he
    ·cases he
    ·rename_i hne
     refine⟨.inl ⟨bV,cS,e,rfl,he,h1,h2⟩,fun hq=>?_⟩
     obtain⟨q1,q2⟩:=qI hq
     subst q1 q2
     unfold aC at hg<;>grind
   ·exact⟨.inr ⟨rfl,he⟩,fun hq=>dI hq.symm⟩
  obtain⟨M',jx,h3⟩:=hs.mem.cz hk2.1
  rw[hu] at jx;cases jx
  exact⟨(h3 hc).1,hs.mem.apart _ _ _ _ _ _ hk2.1 JW hk2.2 hu hL hc (by omega)⟩
 have hY0:aA Y (bF s.mem lb sb none) s.aB:=by
  refine (hs.mem.erase lb sb).move hx (fun k u M hk hu hc=>?_) (fun k u M q hk hu hc h=>?_) fun b q h=>?_
  ·exact yZ.below.block _ (other k u M hk hu hc)
  ·grind
  ·rcases h with h | h
   ·exact CX.ni b q h
   ·exact h.2
 let Y':Cx:={ Y with ρ:=Z.ρ }
 have ac2:Good Z cm 1 0 Y':=by
  refine⟨rfl,fun b q h=>.inl h,fun _ _ _ h=>h,fun _ bV cS e M hlv he hz hM hc q=>?_⟩
  obtain⟨M',jx,h3⟩:=CX.cz (.inl ⟨bV,cS,e,rfl,he,rfl,hz⟩)
  rw[hM] at jx;cases jx
  have h4:=(h3 hc).2
  have h5:M.b≠L.b:=CX.apart (bw bV cS) (bw 0 0) _ _ _ _ (.inl ⟨bV,cS,e,rfl,he,rfl,hz⟩) ac1 (fun hq=>by have:=(qI hq).1;omega) hM hZL hc (by omega)<;>grind
 have hval:VR Y val v:=by
  rcases EH CX hir Uk with⟨_,hb⟩|⟨_,_,_,_,h,_⟩|h
  ·exact Nv (X:=Y') (Y:=Y) rfl (fun _ _ h=>h) Zj.2 (hb Y' ac2)
  ·cases h
  ·simp at h
 obtain⟨hlen,qq⟩:=xp hi
 have ahd:l7 Y (.box vb ds) L:=by
  refine⟨hcap,⟨hblk.1,by rw[hlen];exact acZ.2⟩,fun q h=>?_,fun j y hj=>?_⟩
  ·grind
  ·obtain ⟨x, q1, q2⟩ := qq j y hj
   obtain⟨u,hu,hvc⟩:=Ul j x q1
   refine⟨u,hu,qU (X:=Y') (Y:=Y) rfl (fun _ _ h=>h) (List.all_eq_true.1 Zj.1 y (List.mem_of_getElem? hj)) ?_⟩
   rcases wh CX q2 hvc with⟨_,hb⟩|⟨_,_,_,_,h,_⟩|h<;>grind
 refine hK Y v hx hval ?_ (ew.EA rfl)
 exact hY0.reset hL ahd fun k u M hk hu hc _=>(other k u M hk hu hc).2
end
end Go.bq
