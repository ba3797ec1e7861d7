/- Calls that are handed the address of a box with plain data: the box is lent, no more. -/
import Derived.Test.YtokjmkblnafppaaGreatDoorEngR
set_option linter.unusedVariables false
set_option linter.unusedSimpArgs false
namespace Go.bI
open Go Go.RowKit
theorem qe {X Y:Cx} (hw:Y.w=X.w) (hF:∀ b o,X.F b o→Y.F b o) {x:AV} {v:Value} (h:yV x=true) (hv:VC X x v):VC Y x v:=by
 cases x with
 |d x=>
  show DR Y.w Y.F x v
  rw[hw]
  exact DR.mono hF hv
 |_=>cases h
theorem vq {X Y:Cx} (hw:Y.w=X.w) (hF:∀ b o,X.F b o→Y.F b o):∀ {xs:List AV} {vs:List Value},xs.all yV=true→az (VC X) xs vs→az (VC Y) xs vs
 |[],[],_,_=>trivial
 |x :: xs,v :: vs,h,hv=>by
  simp only[List.all_cons,Bool.and_eq_true] at h
  exact⟨qe hw hF h.1 hv.1,vq hw hF h.2 hv.2⟩
 |[],_ :: _,_,hv=>hv.elim
 |_ :: _,[],_,hv=>hv.elim
theorem Lb {X Y:Cx} (hw:Y.w=X.w) (hF:∀ b o,X.F b o→Y.F b o) {x:AV} {v:Value} (h:vk x=true) (hv:V1 X x v):V1 Y x v:=by
 cases x with
 |agg cs=>
  obtain⟨vs,rfl,hv⟩:=hv
  exact⟨vs,rfl,vq hw hF h hv⟩
 |d x=>exact qe (x:=.d x) hw hF h hv
 |_=>cases h
theorem zB {X Y:Cx} (hw:Y.w=X.w) (hF:∀ b o,X.F b o→Y.F b o):∀ {xs:List AV} {vs:List Value},xs.all vk=true→az (V1 X) xs vs→az (V1 Y) xs vs
 |[],[],_,_=>trivial
 |x :: xs,v :: vs,h,hv=>by
  simp only[List.all_cons,Bool.and_eq_true] at h
  exact⟨Lb hw hF h.1 hv.1,zB hw hF h.2 hv.2⟩
 |[],_ :: _,_,hv=>hv.elim
 |_ :: _,[],_,hv=>hv.elim
theorem Lc {X Y:Cx} (hw:Y.w=X.w) (hF:∀ b o,X.F b o→Y.F b o) {x:AV} {v:Value} (h:Dd x=true) (hv:VR X x v):VR Y x v:=by
 cases x with
 |gZ vs=>
  obtain⟨us,rfl,hv⟩:=hv
  exact⟨us,rfl,zB hw hF h hv⟩
 |agg cs=>
  obtain⟨vs,rfl,hv⟩:=hv
  exact⟨vs,rfl,vq hw hF h hv⟩
 |d x=>exact qe (x:=.d x) hw hF h hv
 |_=>cases h
theorem sH {X Y:Cx} (hw:Y.w=X.w) (hF:∀ b o,X.F b o→Y.F b o) {x y:AV} {v:Value} (h:jH x=some y) (hv:VC X x v):VC Y y v:=by
 have data:∀ {els a cap sz b o},v=.slice a els.length cap→els.length≤cap→(0<els.length→a=some ⟨b,o,none⟩)→eW X.w X.F X.F els b o sz→VC Y (.d (.sl els)) v:=by
  rintro els a cap sz b o rfl h2 h3 h4
  refine DR.fL (b:=b) (o:=o) (sz:=sz) ?_ rfl h2 h3
  rw[hw]
  exact h4.mono hF fun q _ hq=>hF _ _ hq
 cases x with
 |d x=>
  simp only[jH,Option.some.injEq] at h
  subst h
  exact qe hw hF rfl hv
 | own els ow =>
  cases ow with
  |full=>
   simp only[jH,Option.some.injEq] at h
   subst h
   obtain⟨a,b,o,sz,g1,g2,g3⟩:=hv
   exact data g1 (Nat.le_refl _) g2 g3
  |cx af tz=>
   simp only[jH,Option.some.injEq] at h
   subst h
   obtain⟨a,b,o,sz,cap,g1,g2,g3,g4,_⟩:=hv
   exact data g1 g2 (fun h=>g3 (by omega)) g4
  |aJ=>cases h
 |_=>cases h
theorem wG {X Y:Cx} (hw:Y.w=X.w) (hF:∀ b o,X.F b o→Y.F b o):∀ {xs ys:List AV} {vs:List Value},hD xs=some ys→az (VC X) xs vs→az (VC Y) ys vs
 |[],ys,[],h,_=>by simp only[hD,Option.some.injEq] at h;subst h;trivial
 | x :: xs, ys, v :: vs, h, hv => by
  simp only[hD] at h
  split at h
  ·rename_i y ys' h1 h2
   simp only[Option.some.injEq] at h;subst h
   exact⟨sH hw hF h1 hv.1,wG hw hF h2 hv.2⟩
  ·cases h
 |[],_,_ :: _,_,hv=>hv.elim
 |_ :: _,_,[],_,hv=>hv.elim
theorem wH:∀ {xs ys:List AV},hD xs=some ys→ys.length=xs.length∧∀ (j:Nat) (y:AV),ys[j]?=some y→∃ x,xs[j]?=some x∧jH x=some y
 |[],ys,h=>by
  simp only[hD,Option.some.injEq] at h;subst h
  exact⟨rfl,fun j y hy=>by simp at hy⟩
 | x :: xs, ys, h => by
  simp only[hD] at h
  split at h
  ·rename_i y ys' h1 h2
   simp only[Option.some.injEq] at h;subst h
   obtain⟨g1,g2⟩:=wH h2
   refine⟨by simp[g1],fun j z hz=>?_⟩
   cases j with
   |zero=>
    simp only[List.getElem?_cons_zero,Option.some.injEq] at hz
    subst hz
    exact⟨x,rfl,h1⟩
   |succ j=>
    obtain⟨x',q1,q2⟩:=g2 j z (by simpa using hz)
    exact⟨x',by simpa using q1,q2⟩
  ·cases h
theorem Ld {X Y:Cx} (hw:Y.w=X.w) (hF:∀ b o,X.F b o→Y.F b o) {x y:AV} {v:Value} (h:yW x=some y) (hv:VR X x v):V1 Y y v:=by
 have one:∀ {x y:AV},jH x=some y→VC X x v→V1 Y y v:=fun {x y} h hv=>.fQ (sH hw hF h hv)
 cases x with
 |agg cs=>
  simp only[yW] at h
  obtain⟨ys,h1,rfl⟩:=Option.map_eq_some_iff.1 h
  obtain⟨vs,rfl,hv⟩:=hv
  exact⟨vs,rfl,wG hw hF h1 hv⟩
 |d x=>exact one (x:=.d x) h hv
 |own els o=>exact one (x:=.own els o) h hv
 |_=>cases h
theorem zC {X Y:Cx} (hw:Y.w=X.w) (hF:∀ b o,X.F b o→Y.F b o):∀ {xs ys:List AV} {vs:List Value},mL xs=some ys→az (VR X) xs vs→az (V1 Y) ys vs
 |[],ys,[],h,_=>by simp only[mL,Option.some.injEq] at h;subst h;trivial
 | x :: xs, ys, v :: vs, h, hv => by
  simp only[mL] at h
  split at h
  ·rename_i y ys' h1 h2
   simp only[Option.some.injEq] at h;subst h
   exact⟨Ld hw hF h1 hv.1,zC hw hF h2 hv.2⟩
  ·cases h
 |[],_,_ :: _,_,hv=>hv.elim
 |_ :: _,_,[],_,hv=>hv.elim
theorem Ca {m:List (Tr bH)} {lv sl af:Nat} {cs:List AV} (h:fX m lv sl af=some cs):aN m lv sl=some (.box af cs):=by
 unfold fX at h
 split at h
 ·rename_i v cs' hg
  split at h
  ·rename_i hv
   injection h with h
   rw[hg,beq_true.1 hv,h]
  ·cases h
 ·cases h
theorem HX {args rest:List AV} {lb sb vb:Nat} (h:mM args=some (lb,sb,vb,rest)):args=.ptr lb sb vb 0 0 :: rest:=by
 unfold mM at h
 split at h
 ·split at h
  ·rename_i hc
   simp only[Option.some.injEq,Prod.mk.injEq] at h
   obtain⟨rfl,rfl,rfl,rfl⟩:=h
   rw[Bool.and_eq_true] at hc
   rw[beq_true.1 hc.1,beq_true.1 hc.2]
  ·cases h
 ·cases h
theorem zD {cs:List AV} {lv sl:Nat} {e:bH} (h:aN (pS cs) lv sl=some e):lv=0∧sl=0∧e=.box 0 cs:=by
 unfold pS at h
 rw[bX] at h
 split at h
 ·rename_i hc
  injection h with h
  exact⟨hc.1.symm,hc.2.1.symm,h.symm⟩
 ·exfalso
  unfold aN at h
  match lv with
  |0=>simp at h
  |1=>simp at h
  |lv+2=>simp at h
theorem wI {cm:List (Tr bH)} {top lv sl af:Nat} : ∀ {k:Nat} {xs ys:List AV},cA cm top 0 lv sl af k xs=some (ys,[])→ys.length=xs.length∧∀ j y,ys[j]?=some y→∃ x,xs[j]?=some x∧bu cm top 0 (k+j) lv sl af x=some (y,[])
 |_,[],ys,h=>by
  simp only[cA,Option.some.injEq,Prod.mk.injEq] at h
  obtain⟨rfl,_⟩:=h
  exact⟨rfl,fun j y hy=>by simp at hy⟩
 | k, x :: xs, ys, h => by
  simp only[cA] at h
  split at h
  ·rename_i y u ys' us h1 h2
   simp only[Option.some.injEq,Prod.mk.injEq,List.append_eq_nil_iff] at h
   obtain⟨rfl,rfl,rfl⟩:=h
   obtain⟨g1,g2⟩:=wI h2
   refine⟨by simp[g1],fun j z hz=>?_⟩
   cases j with
   |zero=>
    simp only[List.getElem?_cons_zero,Option.some.injEq] at hz
    subst hz
    exact⟨x,rfl,h1⟩
   |succ j=>
    obtain⟨x',q1,q2⟩:=g2 j z (by simpa using hz)
    exact⟨x',by simpa using q1,by rw[show k+(j+1)=k+1+j by omega];exact q2⟩
  ·cases h
section
variable {P:Program} {X:Cx} {nt:Nat} {s:St} {a:Act} {o:Oper} {dst:Option Nat} {aR:Nat}
theorem Nu {call:Go.bI.Call} (cE:cF P call) (hs:eL X nt s a) {f lb sb vb:Nat} {args:List AV} {bQ:Array Value} {r:fW}
  (hargs:az (VR X) (.ptr lb sb vb 0 0 :: args) bQ.toList) (hr:pT call s f lb sb vb args=some r)
  (hrun:(∃ fn,P.funcs[f]?=some fn∧fn.body.isSome=true∧(fn.name == "runtime.NumGoroutine")=false)→(execOp a.eval o).run P X.w=.ok (.enter f bQ) X.w) :
  cU P X s a o dst aR r:=by
 unfold pT at hr
 split at hr
 ·cases hr
 rename_i cs hb
 split at hr
 rotate_left
 ·cases hr
 rename_i cs0 aK YR hda
 obtain⟨ZJ,aed⟩:=wH YR
 split at hr
 ·cases hr
 rename_i r' cm ts n' hc
 split at hr
 ·cases hr
 rename_i cs' hb'
 split at hr
 rotate_left
 ·cases hr
 rename_i ds val hi hir
 split at hr
 rotate_left
 ·cases hr
 rename_i U8
 rw[Bool.and_eq_true] at U8
 injection hr with hr;subst hr
 have hg:=Ca hb
 have hg':=Ca hb'
 obtain⟨L,hL,hcap,hblk,hF,hcells⟩:=hs.mem.ec _ _ _ hg
 have hL:X.ρ vb=some L:=hL
 have HY:Holds s.mem s.aE (cg lb sb) vb:=.inl ⟨lb,sb,_,rfl,hg,rfl,rfl⟩
 have hLs:L.b<X.w.heap.size:=hblk.lt
 let Z0:Cx:={ w:=X.w,F:=X.F,ρ:=fun v=>if v=0 then some L else none,old:=fun b=>b<X.w.heap.size∧b≠L.b }
 have hρ0:Z0.ρ 0=some L:=rfl
 have hZ0:aB Z0 (pS cs0) .lf:=by
  refine⟨fun lv sl e he=>?_,fun v hv=>by simp at hv,fun k k' v v' L1 L2 h1 h2 hne _ _ _ _=>?_,hs.mem.mI,fun b h=>h.1,fun b hb=>⟨hs.mem.low b (hs.mem.oq.gb b hb),fun e=>hblk.1 (e ▸ hs.mem.oq.gb b hb)⟩,hs.mem.oq.gk⟩
  ·obtain ⟨_, _, rfl⟩ := zD he
   refine⟨L,hρ0,hcap,⟨fun h=>h.2 rfl,by rw[ZJ];exact hblk.2⟩,hF,fun j y hj=>?_⟩
   obtain⟨x,hx0,hxy⟩:=aed j y hj
   obtain⟨v,hv,ZK⟩:=hcells j x hx0
   exact⟨v,hv,sH (X:=X) (Y:=Z0) rfl (fun _ _ h=>h) hxy ZK⟩
  ·exfalso
   have one:∀ {k:Nat×Nat×Nat} {v:Nat},Holds (pS cs0) .lf k v→k=cg 0 0:=by
    rintro k v (⟨lv,sl,e,rfl,he,_,_⟩|⟨_,he⟩)
    ·obtain⟨rfl,rfl,_⟩:=zD he;rfl
    ·simp at he
   exact hne ((one h1).trans (one h2).symm)
 have hA:az (V1 Z0) (.ptr 0 0 0 0 0 :: aK) bQ.toList:=by
  revert hargs
  cases bQ.toList with
  |nil=>exact fun h=>h.elim
  |cons v0 vs=>
   intro h
   refine⟨?_,zC (X:=X) (Y:=Z0) rfl (fun _ _ h=>h) hda h.2⟩
   obtain⟨L',hL',hv0⟩:=h.1
   rw[hL] at hL';injection hL' with hL';subst hL'
   exact⟨L,hρ0,hv0⟩
 obtain⟨hfn,oB⟩:=cE f _ _ _ _ r' cm ts n' hc Z0 bQ hZ0 (fun v hv=>if_neg (by omega)) hA
 intro K Q hK
 unfold Oper.wp
 rw[hrun hfn,Oper.upon_enter]
 refine Calls.mono oB ?_
 rintro e w' ⟨Z,v,rfl,rfl,wE,Ri,B9,_,_⟩
 show K (a.put o.dst v) Z.w
 have hZL:Z.ρ 0=some L:=wE.loc 0 L hρ0
 obtain⟨L2,Ns,_,ZL,hF2,Rj⟩:=B9.ec _ _ _ hg'
 have Ns:Z.ρ 0=some L2:=Ns
 rw[hZL] at Ns;injection Ns with Ns;subst Ns
 have ZM:Holds cm ts (cg 0 0) 0:=.inl ⟨0,0,_,rfl,hg',rfl,rfl⟩
 have hsize:X.w.heap.size≤Z.w.heap.size:=wE.below.size
 have hold:∀ b,X.old b→b<X.w.heap.size∧b≠L.b:=fun b hb=>⟨hs.mem.low b hb,fun e=>hblk.1 (e ▸ hb)⟩
 have ZN:Z.old=fun b=>b<X.w.heap.size∧b≠L.b:=wE.base
 have hnew:∀ b o,Z.F b o→X.F b o∨¬(b<X.w.heap.size∧b≠L.b):=wE.new
 let Y:Cx:={ w:=Z.w,F:=fun b o=>Z.F b o∨(X.w.heap.size≤b∧b<Z.w.heap.size),ρ:=X.ρ,old:=X.old }
 have hx:Ext X Y:=by
  refine⟨rfl,wE.below.mono hold,fun b o h=>.inl (wE.QZ b o h),fun b o h=>wE.keep b o h,fun _ _ h=>h,fun b o h=>?_⟩
  rcases h with h|h
  ·exact (hnew b o h).imp id fun hno ho=>hno (hold b ho)
  ·exact .inr fun ho=>by have:=(hold b ho).1;omega
 have other:∀ k u M,Holds (bN s.mem lb sb none) s.aE k u→X.ρ u=some M→0<M.cap→M.b<X.w.heap.size∧M.b≠L.b:=by
  intro k u M hk hu hc
  have hk2:Holds s.mem s.aE k u∧k≠cg lb sb:=by
   rcases hk with⟨cl,cX,e,rfl,he,h1,h2⟩|⟨rfl,he⟩
   ·rw [bX] at he
    split at he
    ·cases he
    ·rename_i hne
     refine⟨.inl ⟨cl,cX,e,rfl,he,h1,h2⟩,fun hq=>?_⟩
     obtain⟨q1,q2⟩:=kO hq
     subst q1 q2
     refine hne ⟨rfl,rfl,?_⟩
     unfold aN at hg
     rcases Nat.lt_or_ge cl s.mem.length with hl|hl
     ·exact hl
     ·rw[List.getElem?_eq_none hl] at hg;cases hg
   ·exact⟨.inr ⟨rfl,he⟩,fun hq=>dI hq.symm⟩
  obtain⟨M',gG,h3⟩:=hs.mem.cR hk2.1
  rw[hu] at gG;injection gG with gG;subst gG
  exact⟨(h3 hc).1,hs.mem.apart _ _ _ _ _ _ hk2.1 HY hk2.2 hu hL hc (by omega)⟩
 have hY0:aB Y (bN s.mem lb sb none) s.aE:=by
  refine (hs.mem.erase lb sb).move hx (fun k u M hk hu hc=>?_) (fun k u M q hk hu hc h=>?_) fun b q h=>?_
  ·exact wE.below.block _ (other k u M hk hu hc)
  ·rcases h with h | h
   ·exact (hnew _ _ h).resolve_right fun hno=>hno (other k u M hk hu hc)
   ·have:=(other k u M hk hu hc).1;omega
  ·rcases h with h | h
   ·exact B9.mI b q h
   ·exact h.2
 let Y':Cx:={ Y with ρ:=Z.ρ }
 have Ua:Good Z cm 1 0 Y':=by
  refine⟨rfl,fun b q h=>.inl h,fun _ _ _ h=>h,fun _ cl cX e M hlv he hz hM hc q=>?_⟩
  obtain⟨M',gG,h3⟩:=B9.cR (.inl ⟨cl,cX,e,rfl,he,rfl,hz⟩)
  rw[hM] at gG;injection gG with gG;subst gG
  have h4:=(h3 hc).2
  rw[ZN] at h4
  have h5:M.b≠L.b:=B9.apart (cg cl cX) (cg 0 0) _ _ _ _ (.inl ⟨cl,cX,e,rfl,he,rfl,hz⟩) ZM (fun hq=>by have:=(kO hq).1;omega) hM hZL hc (by omega)
  refine .inr ⟨?_,(h3 hc).1⟩
  rcases Nat.lt_or_ge M.b X.w.heap.size with h6|h6
  ·exact absurd ⟨h6,h5⟩ h4
  ·exact h6
 have hval:VR Y val v:=by
  rcases Dz B9 hir Ri with⟨_,hb⟩|⟨_,_,_,_,h,_⟩|h
  ·exact Lc (X:=Y') (Y:=Y) rfl (fun _ _ h=>h) U8.2 (hb Y' Ua)
  ·cases h
  ·simp at h
 obtain⟨hlen,hat⟩:=wI hi
 have aeh:wv Y (.box vb ds) L:=by
  refine⟨hcap,⟨hblk.1,by rw[hlen];exact ZL.2⟩,fun q h=>?_,fun j y hj=>?_⟩
  ·rcases h with h | h
   ·exact hF2 q h
   ·omega
  ·obtain ⟨x, q1, q2⟩ := hat j y hj
   obtain⟨u,hu,ZK⟩:=Rj j x q1
   refine⟨u,hu,qe (X:=Y') (Y:=Y) rfl (fun _ _ h=>h) (List.all_eq_true.1 U8.1 y (List.mem_of_getElem? hj)) ?_⟩
   rcases vp B9 q2 ZK with⟨_,hb⟩|⟨_,_,_,_,h,_⟩|h
   ·exact hb Y' Ua
   ·cases h
   ·simp at h
 refine hK Y v hx hval ?_ (eC.Dr rfl)
 exact hY0.reset hL aeh fun k u M hk hu hc _=>(other k u M hk hu hc).2
end
end Go.bI
