/- Calls: the result, and the whole of it. -/
import Derived.Test.YtokjmkblnafppaaGreatDoorEngQ
set_option linter.unusedVariables false
set_option linter.unusedSimpArgs false
namespace Go.bI
open Go Go.RowKit
structure Good (Z:Cx) (cm:List (Tr bH)) (top pk:Nat) (Y:Cx):Prop where
 w:Y.w=Z.w
 F:∀ b o,Z.F b o→Y.F b o
 ρ : 0<top→∀ v L,Z.ρ v=some L→Y.ρ v=some L
 fz:pk=0→∀ cl cX e L,top≤cl→aN cm cl cX=some e→e.fz=false→Z.ρ e.af=some L→0<L.cap→∀ o,Y.F L.b o
def eV {α : Type} (Z:Cx) (cm:List (Tr bH)) (top pk lv sl af:Nat) (R:Cx→α→Prop) (y : α) (us:List (List (List D))):Prop:=
 (us=[]∧∀ Y,Good Z cm top pk Y→R Y y)∨
 (∃ els len sz v',us=[els]∧(pk≠0∧Nr Z top cm els len sz v')∧∀ Y,Good Z cm top pk Y→VC Y (.ref lv sl af 0 len sz) v'→R Y y)∨2≤us.length
theorem eV.map {α β : Type} {Z:Cx} {cm:List (Tr bH)} {top pk lv sl af:Nat} {R:Cx→α→Prop} {S:Cx→β→Prop} {y : α} {z : β} {us:List (List (List D))} (h:eV Z cm top pk lv sl af R y us) (hrs:∀ Y,R Y y→S Y z):eV Z cm top pk lv sl af S z us:=by
 rcases h with⟨h1,h2⟩|⟨els,len,sz,v',h1,h2,h3⟩|h
 ·exact .inl ⟨h1,fun Y hY=>hrs Y (h2 Y hY)⟩
 ·exact .inr (.inl ⟨els,len,sz,v',h1,h2,fun Y hY hv=>hrs Y (h3 Y hY hv)⟩)
 ·exact .inr (.inr h)
theorem eV.pair {α β γ : Type} {Z:Cx} {cm:List (Tr bH)} {top pk lv sl af:Nat} {R:Cx→α→Prop} {S:Cx→β→Prop} {T:Cx→γ→Prop} {y : α} {z : β} {x : γ} {us vs:List (List (List D))} (h:eV Z cm top pk lv sl af R y us) (k:eV Z cm top pk lv sl af S z vs)
  (hrs:∀ Y,R Y y→S Y z→T Y x):eV Z cm top pk lv sl af T x (us++vs):=by
 rcases h with⟨h1,h2⟩|⟨els,len,sz,v',h1,h2,h3⟩|h
 ·subst h1
  rcases k with⟨k1,k2⟩|⟨els,len,sz,v',k1,k2,k3⟩|k
  ·exact .inl ⟨by simp[k1],fun Y hY=>hrs Y (h2 Y hY) (k2 Y hY)⟩
  ·exact .inr (.inl ⟨els,len,sz,v',by simp[k1],k2,fun Y hY hv=>hrs Y (h2 Y hY) (k3 Y hY hv)⟩)
  ·exact .inr (.inr (by simpa using k))
 ·subst h1
  rcases k with⟨k1,k2⟩|⟨els',len',sz',w',k1,k2,k3⟩|k
  ·exact .inr (.inl ⟨els,len,sz,v',by simp[k1],h2,fun Y hY hv=>hrs Y (h3 Y hY hv) (k2 Y hY)⟩)
  ·exact .inr (.inr (by simp[k1]))
  ·exact .inr (.inr (by simp;omega))
 ·exact .inr (.inr (by simp;omega))
section
variable {Z:Cx} {cm:List (Tr bH)} {ts:Tr Unit} {top pk lv sl af:Nat}
theorem vp (h:aB Z cm ts) {k:Nat} {x y:AV} {us:List (List (List D))} {v:Value} (hx:bu cm top pk k lv sl af x=some (y,us)) (hv:VC Z x v):eV Z cm top pk lv sl af (fun Y y=>VC Y y v) y us:=by
 by_cases hu:us=[]
 ·refine .inl ⟨hu, fun Y hY => ?_⟩
  rcases zx h hY.w hY.F hY.ρ hY.fz hx hv with⟨_,h⟩|⟨_,_,_,h,_⟩
  ·exact h
  ·rw[hu] at h;cases h
 ·rcases zx (Y := { Z with F := fun _ _ => True }) h rfl (fun _ _ _ => trivial) (fun _ _ _ h => h) (fun _ _ _ _ _ _ _ _ _ _ _ => trivial) hx hv with ⟨h, _⟩ | ⟨els, len, sz, h1, rfl, h2, h3⟩
  ·exact absurd h hu
  ·exact .inr (.inl ⟨els,len,sz,v,h1,⟨h2,h3⟩,fun Y _ h=>h⟩)
theorem zy (h:aB Z cm ts):∀ {k:Nat} {xs ys:List AV} {us:List (List (List D))} {vs:List Value},cA cm top pk lv sl af k xs=some (ys,us)→az (VC Z) xs vs→eV Z cm top pk lv sl af (fun Y ys=>az (VC Y) ys vs) ys us
 |k,[],ys,us,[],hx,_=>by simp only[cA] at hx;injection hx with hx;injection hx with h1 h2;subst h1;exact .inl ⟨h2.symm,fun _ _=>trivial⟩
 | k, x :: xs, ys, us, v :: vs, hx, hv => by
  simp only[cA] at hx
  split at hx
  ·rename_i y u ys' us' h1 h2
   injection hx with hx;injection hx with e1 e2;subst e1;subst e2
   exact (vp h h1 hv.1).pair (zy h h2 hv.2) fun Y a b=>⟨a,b⟩
  ·cases hx
 |_,[],_,_,_ :: _,_,hv=>hv.elim
 |_,_ :: _,_,_,[],_,hv=>hv.elim
theorem Nt (h:aB Z cm ts) {k:Nat} {x y:AV} {us:List (List (List D))} {v:Value} (hx:jG cm top pk lv sl af k x=some (y,us)) (hv:V1 Z x v):eV Z cm top pk lv sl af (fun Y y=>V1 Y y v) y us:=by
 cases x with
 | agg cs =>
  simp only[jG] at hx
  cases hd:cA cm top pk lv sl af k cs with
  |none=>rw[hd] at hx;cases hx
  |some p=>
   rw[hd] at hx
   simp only[Option.map_some] at hx
   injection hx with hx;injection hx with h1 h2;subst h1;subst h2
   obtain⟨vs,rfl,h3⟩:=hv
   exact (zy h (us:=p.2) hd h3).map fun Y h=>⟨vs,rfl,h⟩
 |gZ cs=>simp only[jG,bu] at hx;cases hx
 |_=>simp only[jG] at hx;exact (vp h hx hv).map fun Y h=>.fQ h
theorem Fc (h:aB Z cm ts):∀ {k:Nat} {xs ys:List AV} {us:List (List (List D))} {vs:List Value},fc cm top pk lv sl af k xs=some (ys,us)→az (V1 Z) xs vs→eV Z cm top pk lv sl af (fun Y ys=>az (V1 Y) ys vs) ys us
 |k,[],ys,us,[],hx,_=>by simp only[fc] at hx;injection hx with hx;injection hx with h1 h2;subst h1;exact .inl ⟨h2.symm,fun _ _=>trivial⟩
 | k, x :: xs, ys, us, v :: vs, hx, hv => by
  simp only[fc] at hx
  split at hx
  ·rename_i y u ys' us' h1 h2
   injection hx with hx;injection hx with e1 e2;subst e1;subst e2
   exact (Nt h h1 hv.1).pair (Fc h h2 hv.2) fun Y a b=>⟨a,b⟩
  ·cases hx
 |_,[],_,_,_ :: _,_,hv=>hv.elim
 |_,_ :: _,_,_,[],_,hv=>hv.elim
theorem Dz (h:aB Z cm ts) {x y:AV} {us:List (List (List D))} {v:Value} (hx:fI cm top pk lv sl af x=some (y,us)) (hv:VR Z x v):eV Z cm top pk lv sl af (fun Y y=>VR Y y v) y us:=by
 cases x with
 | gZ cs =>
  simp only[fI] at hx
  cases hd:fc cm top pk lv sl af 1 cs with
  |none=>rw[hd] at hx;cases hx
  |some p=>
   rw[hd] at hx
   simp only[Option.map_some] at hx
   injection hx with hx;injection hx with h1 h2;subst h1;subst h2
   obtain⟨vs,rfl,h3⟩:=hv
   exact (Fc h (us:=p.2) hd h3).map fun Y h=>⟨vs,rfl,h⟩
 |_=>simp only[fI] at hx;exact (Nt h hx hv).map fun Y h=>.tH h
theorem zz {Y:Cx} {m:List (Tr bH)} {t:Tr Unit} {els:List (List D)} {len sz off cap:Nat} {a:Option Addr} {L:Loc} (hm:aB Y m t) (hw:Y.w=Z.w) (hF:∀ b o,Z.F b o→Y.F b o) (hb:∀ b,Y.old b→Z.old b) (hfr:Y.ρ af=none)
  (h1 : len ≤ cap) (h2 : els.length = len) (h3 : ∀ e ∈ els, e.length = sz) (h4 : 0 < cap → a = some ⟨L.b, L.o + off * sz, none⟩ ∧ off + cap ≤ L.cap ∧ L.sz = sz ∧ 0 < L.cap ∧
   Block Z L.b (L.o+L.cap*L.sz)∧(∀ o,¬Z.F L.b o)∧∀ i e j x,els[i]?=some e→e[j]?=some x→∃ u,Z.w.cell? ⟨L.b,L.o+off*sz+i*sz+j,none⟩=some u∧DR Z.w Z.F x u)
  (hno:0<cap→(∀ o,¬Y.F L.b o)∧∀ k u M,Holds m t k u→Y.ρ u=some M→0<M.cap→M.b≠L.b) :
  ∃ W:Cx,W.w=Y.w∧W.F=Y.F∧W.old=Y.old∧(∀ u M,Y.ρ u=some M→W.ρ u=some M)∧(∀ u M,W.ρ u=some M→Y.ρ u=some M∨u=af)∧aB W (bN m lv sl (some (.row af els))) t∧VC W (.ref lv sl af 0 len sz) (.slice a len cap):=by
 let L':Loc:=⟨L.b,L.o+off*sz,sz,cap⟩
 refine⟨Y.name af L',rfl,rfl,rfl,(cZ hfr).loc,fun u M hu=>?_,?_,L',a,cap,dP,rfl,rfl,h1,fun hc=>⟨by rw[(h4 hc).1];simp[L'],by simp[L']⟩⟩
 ·rcases (fS (X := Y) (v := af) (n := 0) (L := L')).2 u M hu with h | h | h
  ·exact .inl h
  ·exact .inr h
  ·omega
 ·refine (fR hm hfr).add (e := .row af els) (L := L') dP ⟨by rw [h2]; exact h1, h3, fun hc => ?_, fun i e j x hi hj => ?_⟩ fun k u M hk _ hu tO hc => ?_
  ·obtain ⟨g1, g2, g3, g4, ⟨g5, C, ce, g6, g7⟩, g8, _⟩ := h4 hc
   refine⟨⟨fun q=>g5 (hb _ q),C,ce,by show Y.w.heap[L.b]?=_;rw[hw];exact g6,?_⟩,(hno hc).1⟩
   show L.o+off*sz+cap*sz≤C.size
   rw[Nat.add_assoc,←Nat.add_mul]
   have:=Nat.mul_le_mul_right sz g2
   rw[g3] at g7
   omega
  ·have hi' : i < els.length := (List.getElem?_eq_some_iff.1 hi).1
   obtain⟨u,hu,hd⟩:=(h4 (by omega)).2.2.2.2.2.2 i e j x hi hj
   refine⟨u,?_,?_⟩
   ·show Y.w.cell? _ = _
    rw[hw];exact hu
   ·show DR Y.w Y.F x u
    rw[hw];exact hd.mono hF
  ·obtain ⟨M', gG, _⟩ := hm.cR hk
   have:(Y.name af L').ρ u=some M':=(cZ hfr).loc _ _ gG
   rw[hu] at this;injection this with this;subst this
   exact (hno hc).2 k u M hk gG tO
end
theorem mQ (m:List (Tr bH)) (k lv sl:Nat):aN (m.take k) lv sl=if lv<k then aN m lv sl else none:=by
 unfold aN
 rw[List.getElem?_take]
 split<;>rfl
section
variable {P:Program} {X:Cx} {nt:Nat} {s:St} {a:Act} {o:Oper} {dst:Option Nat} {aR:Nat}
theorem zA {call:Go.bI.Call} (cE:cF P call) (hs:eL X nt s a) (hfr:X.ρ aR=none) {f pk lv sl:Nat} {bQ:Array Value} {aK:List AV} {ks:List (Nat×Nat)} {r val:AV} {cm:List (Tr bH)} {ts:Tr Unit} {n':Nat} {us:List (List (List D))} {u:List (Nat×Nat×Option bH)} {rd:List (Nat×Nat×Nat)}
  (hV:az (V1 (X.j5 s.mem ks).inner) aK bQ.toList) (hc:call f aK [.lf] .lf 0=some (r,cm,ts,n')) (hi:fI cm 0 pk lv sl aR r=some (val,us)) (hu:gP lv sl aR us=some u)
  (hrun:(∃ fn,P.funcs[f]?=some fn∧fn.body.isSome=true∧(fn.name == "runtime.NumGoroutine")=false)→(execOp a.eval o).run P X.w=.ok (.enter f bQ) X.w) :
  cU P X s a o dst aR (.bS { val,cK:=dy s.mem ks++u,cx:=[],rd }):=by
 intro K Q hK
 have wu:=Dn hs.mem ks
 have hx1:=oA hs.mem ks
 obtain⟨hfn,oB⟩:=cE f aK [.lf] .lf 0 r cm ts n' hc (X.j5 s.mem ks).inner bQ (La wu) (fun _ _=>rfl) hV
 unfold Oper.wp
 rw[hrun hfn,Oper.upon_enter]
 refine Calls.mono oB ?_
 rintro e w' ⟨Z,v,rfl,rfl,wE,Ri,B9,_,_⟩
 show K (a.put o.dst v) Z.w
 have hsize:X.w.heap.size≤Z.w.heap.size:=wE.below.size
 have hblk:∀ b,b<X.w.heap.size→Z.w.heap[b]?=X.w.heap[b]?:=fun b hb=>wE.below.block b hb
 have HW:Z.old=fun b=>b<X.w.heap.size:=wE.base
 have hZF:∀ b o,Z.F b o→(X.j5 s.mem ks).F b o∨X.w.heap.size≤b:=fun b o h=>(wE.new b o h).imp id fun h=>Nat.le_of_not_lt h
 have mk:∀ (p:Option Nat),∃ Y:Cx,Y.w=Z.w∧Y.old=X.old∧Y.ρ = X.ρ∧(∀ b o,Y.F b o↔Z.F b o∨(X.w.heap.size≤b∧b<Z.w.heap.size∧some b≠p))∧Ext X Y∧aB Y (bB s.mem (dy s.mem ks)) s.aE:=by
  intro p
  let Y:Cx:={ w:=Z.w,F:=fun b o=>Z.F b o∨(X.w.heap.size≤b∧b<Z.w.heap.size∧some b≠p),ρ:=X.ρ,old:=X.old }
  have hx:Ext (X.j5 s.mem ks) Y:=by
   refine⟨rfl,wE.below.mono hs.mem.low,fun b o h=>.inl (wE.QZ b o h),fun b o h=>?_,fun _ _ h=>h,fun b o h=>?_⟩
   ·exact wE.keep b o h
   ·rcases h with h | h
    ·exact (hZF b o h).imp id fun h q=>Nat.lt_irrefl _ (Nat.lt_of_lt_of_le (hs.mem.low _ q) h)
    ·exact .inr fun q=>Nat.lt_irrefl _ (Nat.lt_of_lt_of_le (hs.mem.low _ q) h.1)
  refine⟨Y,rfl,rfl,rfl,fun _ _=>Iff.rfl,hx1.trans hx,wu.move hx (fun k v L hk hv hc=>?_) (fun k v L o hk hv hc h=>?_) fun b o h=>?_⟩
  ·obtain ⟨M, hM, h2⟩ := wu.cR hk
   rw[hv] at hM;injection hM with hM;subst hM
   exact hblk _ (h2 hc).1
  ·obtain ⟨M, hM, h2⟩ := wu.cR hk
   rw[hv] at hM;injection hM with hM;subst hM
   have:=(h2 hc).1
   have this:L.b<X.w.heap.size:=this
   rcases h with h|h
   ·exact (hZF _ _ h).resolve_right (by omega)
   ·omega
  ·rcases h with h | h
   ·exact B9.mI b o h
   ·exact h.2.1
 rcases Dz B9 hi Ri with⟨rfl,hb⟩|⟨els,len,sz,v',rfl,⟨hpk,⟨L,off,ad,cap,g3,g4,g5,g6,U7⟩⟩,hb⟩|hlen
 ·simp only [gP] at hu
  injection hu with hu;subst hu
  obtain⟨Y,y1,y2,y3,y4,y5,y6⟩:=mk none
  rw[←y1]
  refine hK Y v y5 (hb Y ⟨y1,fun b o h=>(y4 b o).2 (.inl h),fun h=>absurd h (by omega),fun _ cl cX e L _ hg hz hL hc o=>?_⟩) ?_ ?_
  ·obtain ⟨M, hM, h2⟩ := B9.cR (.inl ⟨cl, cX, e, rfl, hg, rfl, hz⟩)
   rw[hL] at hM;injection hM with hM;subst hM
   exact (y4 _ _).2 (.inr ⟨Nat.le_of_not_lt (by have:=(h2 hc).2;rw[HW] at this;exact this),(h2 hc).1,by simp⟩)
  ·show aB Y (bB s.mem (dy s.mem ks ++ [])) s.aE
   rw[List.append_nil]
   exact y6
  ·exact eC.Dr y3
 ·simp only [gP] at hu
  injection hu with hu;subst hu
  subst g3
  have g7:=fun hc=>(U7 hc).2
  obtain⟨Y,y1,y2,y3,y4,y5,y6⟩:=mk (some L.b)
  have hLb:0<cap→X.w.heap.size≤L.b:=fun hc=>by
   have:=(g7 hc).2.2.2.2.1.1
   rw[HW] at this
   exact Nat.le_of_not_lt this
  obtain⟨W,w1,w2,w3,w4,w5,w6,w7⟩:=zz (Z:=Z) (lv:=lv) (sl:=sl) (af:=aR) y6 y1 (fun b o h=>(y4 b o).2 (.inl h)) (by rw[y2,HW];exact hs.mem.low) (by rw[y3];exact hfr) g4 g5 g6 g7 fun hc=>⟨fun o h=>by
    rcases (y4 _ _).1 h with h|h
    ·exact (g7 hc).2.2.2.2.2.1 o h
    ·exact h.2.2 rfl,fun k u M hk hM tO=>by
    obtain⟨M',gG,h2⟩:=wu.cR hk
    rw[y3] at hM
    have gG:X.ρ u=some M':=gG
    rw[hM] at gG;injection gG with gG;subst gG
    have:M.b<X.w.heap.size:=(h2 tO).1
    have:=hLb hc
    omega⟩
  have hxW:Ext Y W:=⟨w3,by rw[w1];exact dO.refl _ _,fun b o h=>by rw[w2];exact h,fun b o _=>by rw[w1],w4,fun b o h=>by rw[w2] at h;exact .inl h⟩
  rw[←y1,←w1]
  refine hK W v (y5.trans hxW) (hb W ⟨w1.trans y1,fun b o h=>by rw[w2];exact (y4 b o).2 (.inl h),fun h=>absurd h (by omega),fun h=>absurd h hpk⟩ w7) ?_ ?_
  ·show aB W (bB s.mem (dy s.mem ks ++ _)) s.aE
   rw[jo]
   exact w6
  ·refine ⟨Nat.le_refl _, fun u M hM => ?_⟩
   rcases w5 u M hM with h|h
   ·rw[y3] at h;exact .inl h
   ·exact .inr (.inl h)
 ·match us, hlen with
  |_ :: _ :: _,_=>simp[gP] at hu
end
end Go.bI
