/- Calls that are handed the address of a box with plain data: the box is lent, no more. -/
import Derived.Test.YtnhbhdopamdgpaaGreatDoorEngR
namespace Go.Eng
open Go Go.RowKit
theorem isDat_VC {X Y:Cx} (hw:Y.w=X.w) (hF:∀ b o,X.F b o→Y.F b o) {x:AV} {v:Value} (h:isDat x=true) (hv:VC X x v):VC Y x v:=by
 cases x with
 |d x=>
  show DR Y.w Y.F x v
  rw[hw]
  exact DR.mono hF hv
 |_=>cases h
theorem isDats_VC {X Y:Cx} (hw:Y.w=X.w) (hF:∀ b o,X.F b o→Y.F b o):∀ {xs:List AV} {vs:List Value},xs.all isDat=true→All2 (VC X) xs vs→All2 (VC Y) xs vs
 |[],[],_,_=>trivial
 |x :: xs,v :: vs,h,hv=>by
  simp only[List.all_cons,Bool.and_eq_true] at h
  exact⟨isDat_VC hw hF h.1 hv.1,isDats_VC hw hF h.2 hv.2⟩
 |[],_ :: _,_,hv=>hv.elim
 |_ :: _,[],_,hv=>hv.elim
theorem plain1_V1 {X Y:Cx} (hw:Y.w=X.w) (hF:∀ b o,X.F b o→Y.F b o) {x:AV} {v:Value} (h:plain1 x=true) (hv:V1 X x v):V1 Y x v:=by
 cases x with
 |agg cs=>
  obtain⟨vs,rfl,hv⟩:=hv
  exact⟨vs,rfl,isDats_VC hw hF h hv⟩
 |d x=>exact isDat_VC (x:=.d x) hw hF h hv
 |_=>cases h
theorem plain1s_V1 {X Y:Cx} (hw:Y.w=X.w) (hF:∀ b o,X.F b o→Y.F b o):∀ {xs:List AV} {vs:List Value},xs.all plain1=true→All2 (V1 X) xs vs→All2 (V1 Y) xs vs
 |[],[],_,_=>trivial
 |x :: xs,v :: vs,h,hv=>by
  simp only[List.all_cons,Bool.and_eq_true] at h
  exact⟨plain1_V1 hw hF h.1 hv.1,plain1s_V1 hw hF h.2 hv.2⟩
 |[],_ :: _,_,hv=>hv.elim
 |_ :: _,[],_,hv=>hv.elim
theorem plain1_VR {X Y:Cx} (hw:Y.w=X.w) (hF:∀ b o,X.F b o→Y.F b o) {x:AV} {v:Value} (h:plain1 x=true) (hv:VR X x v):V1 Y x v:=by
 cases x with
 |agg cs=>
  obtain⟨vs,rfl,hv⟩:=hv
  exact⟨vs,rfl,isDats_VC hw hF h hv⟩
 |d x=>exact isDat_VC (x:=.d x) hw hF h hv
 |_=>cases h
theorem plain1s_VR {X Y:Cx} (hw:Y.w=X.w) (hF:∀ b o,X.F b o→Y.F b o):∀ {xs:List AV} {vs:List Value},xs.all plain1=true→All2 (VR X) xs vs→All2 (V1 Y) xs vs
 |[],[],_,_=>trivial
 |x :: xs,v :: vs,h,hv=>by
  simp only[List.all_cons,Bool.and_eq_true] at h
  exact⟨plain1_VR hw hF h.1 hv.1,plain1s_VR hw hF h.2 hv.2⟩
 |[],_ :: _,_,hv=>hv.elim
 |_ :: _,[],_,hv=>hv.elim
theorem plainR_VR {X Y:Cx} (hw:Y.w=X.w) (hF:∀ b o,X.F b o→Y.F b o) {x:AV} {v:Value} (h:plainR x=true) (hv:VR X x v):VR Y x v:=by
 cases x with
 |tup vs=>
  obtain⟨us,rfl,hv⟩:=hv
  exact⟨us,rfl,plain1s_V1 hw hF h hv⟩
 |agg cs=>
  obtain⟨vs,rfl,hv⟩:=hv
  exact⟨vs,rfl,isDats_VC hw hF h hv⟩
 |d x=>exact isDat_VC (x:=.d x) hw hF h hv
 |_=>cases h
theorem datCell_VC {X Y:Cx} (hw:Y.w=X.w) (hF:∀ b o,X.F b o→Y.F b o) {x y:AV} {v:Value} (h:datCell x=some y) (hv:VC X x v):VC Y y v:=by
 have data:∀ {els a cap sz b o},v=.slice a els.length cap→els.length≤cap→(0<els.length→a=some ⟨b,o,none⟩)→Lies X.w X.F X.F els b o sz→VC Y (.d (.sl els)) v:=by
  rintro els a cap sz b o rfl h2 h3 h4
  refine DR.of_lies (b:=b) (o:=o) (sz:=sz) ?_ rfl h2 h3
  rw[hw]
  exact h4.mono hF fun q _ hq=>hF _ _ hq
 cases x with
 |d x=>
  simp only[datCell,Option.some.injEq] at h
  subst h
  exact isDat_VC hw hF rfl hv
 | own els ow =>
  cases ow with
  |full=>
   simp only[datCell,Option.some.injEq] at h
   subst h
   obtain⟨a,b,o,sz,g1,g2,g3⟩:=hv
   exact data g1 (Nat.le_refl _) g2 g3
  |tip ver tz=>
   simp only[datCell,Option.some.injEq] at h
   subst h
   obtain⟨a,b,o,sz,cap,g1,g2,g3,g4,_⟩:=hv
   exact data g1 g2 (fun h=>g3 (by omega)) g4
  |bor=>cases h
 |_=>cases h
theorem datCells_VC {X Y:Cx} (hw:Y.w=X.w) (hF:∀ b o,X.F b o→Y.F b o):∀ {xs ys:List AV} {vs:List Value},datCells xs=some ys→All2 (VC X) xs vs→All2 (VC Y) ys vs
 |[],ys,[],h,_=>by simp only[datCells,Option.some.injEq] at h;subst h;trivial
 | x :: xs, ys, v :: vs, h, hv => by
  simp only[datCells] at h
  split at h
  ·rename_i y ys' h1 h2
   simp only[Option.some.injEq] at h;subst h
   exact⟨datCell_VC hw hF h1 hv.1,datCells_VC hw hF h2 hv.2⟩
  ·cases h
 |[],_,_ :: _,_,hv=>hv.elim
 |_ :: _,_,[],_,hv=>hv.elim
theorem datCells_at:∀ {xs ys:List AV},datCells xs=some ys→ys.length=xs.length∧∀ (j:Nat) (y:AV),ys[j]?=some y→∃ x,xs[j]?=some x∧datCell x=some y
 |[],ys,h=>by
  simp only[datCells,Option.some.injEq] at h;subst h
  exact⟨rfl,fun j y hy=>by simp at hy⟩
 | x :: xs, ys, h => by
  simp only[datCells] at h
  split at h
  ·rename_i y ys' h1 h2
   simp only[Option.some.injEq] at h;subst h
   obtain⟨g1,g2⟩:=datCells_at h2
   refine⟨by simp[g1],fun j z hz=>?_⟩
   cases j with
   |zero=>
    simp only[List.getElem?_cons_zero,Option.some.injEq] at hz
    subst hz
    exact⟨x,rfl,h1⟩
   |succ j=>
    obtain⟨x',q1,q2⟩:=g2 j z (by simpa using hz)
    exact⟨x',by simpa using q1,q2⟩
  ·cases h
theorem datArg_VR {X Y:Cx} (hw:Y.w=X.w) (hF:∀ b o,X.F b o→Y.F b o) {x y:AV} {v:Value} (h:datArg x=some y) (hv:VR X x v):V1 Y y v:=by
 have one:∀ {x y:AV},datCell x=some y→VC X x v→V1 Y y v:=fun {x y} h hv=>.of_VC (datCell_VC hw hF h hv)
 cases x with
 |agg cs=>
  simp only[datArg] at h
  obtain⟨ys,h1,rfl⟩:=Option.map_eq_some_iff.1 h
  obtain⟨vs,rfl,hv⟩:=hv
  exact⟨vs,rfl,datCells_VC hw hF h1 hv⟩
 |d x=>exact one (x:=.d x) h hv
 |own els o=>exact one (x:=.own els o) h hv
 |_=>cases h
theorem datArgs_VR {X Y:Cx} (hw:Y.w=X.w) (hF:∀ b o,X.F b o→Y.F b o):∀ {xs ys:List AV} {vs:List Value},datArgs xs=some ys→All2 (VR X) xs vs→All2 (V1 Y) ys vs
 |[],ys,[],h,_=>by simp only[datArgs,Option.some.injEq] at h;subst h;trivial
 | x :: xs, ys, v :: vs, h, hv => by
  simp only[datArgs] at h
  split at h
  ·rename_i y ys' h1 h2
   simp only[Option.some.injEq] at h;subst h
   exact⟨datArg_VR hw hF h1 hv.1,datArgs_VR hw hF h2 hv.2⟩
  ·cases h
 |[],_,_ :: _,_,hv=>hv.elim
 |_ :: _,_,[],_,hv=>hv.elim
theorem boxAt_get {m:List (Tr Ent)} {lv sl ver:Nat} {cs:List AV} (h:boxAt m lv sl ver=some cs):memGet m lv sl=some (.box ver cs):=by
 unfold boxAt at h
 split at h
 ·rename_i v cs' hg
  split at h
  ·rename_i hv
   injection h with h
   rw[hg,beq_true.1 hv,h]
  ·cases h
 ·cases h
theorem boxArgs_eq {args rest:List AV} {lb sb vb:Nat} (h:boxArgs args=some (lb,sb,vb,rest)):args=.ptr lb sb vb 0 0 :: rest:=by
 unfold boxArgs at h
 split at h
 ·split at h
  ·rename_i hc
   simp only[Option.some.injEq,Prod.mk.injEq] at h
   obtain⟨rfl,rfl,rfl,rfl⟩:=h
   rw[Bool.and_eq_true] at hc
   rw[beq_true.1 hc.1,beq_true.1 hc.2]
  ·cases h
 ·cases h
theorem boxMem_get {cs:List AV} {lv sl:Nat} {e:Ent} (h:memGet (boxMem cs) lv sl=some e):lv=0∧sl=0∧e=.box 0 cs:=by
 unfold boxMem at h
 rw[memGet_set] at h
 split at h
 ·rename_i hc
  injection h with h
  exact⟨hc.1.symm,hc.2.1.symm,h.symm⟩
 ·exfalso
  unfold memGet at h
  match lv with
  |0=>simp at h
  |1=>simp at h
  |lv+2=>simp at h
theorem impCells_at {cm:List (Tr Ent)} {top lv sl ver:Nat} : ∀ {k:Nat} {xs ys:List AV},impCells cm top 0 lv sl ver k xs=some (ys,[])→ys.length=xs.length∧∀ j y,ys[j]?=some y→∃ x,xs[j]?=some x∧impCell cm top 0 (k+j) lv sl ver x=some (y,[])
 |_,[],ys,h=>by
  simp only[impCells,Option.some.injEq,Prod.mk.injEq] at h
  obtain⟨rfl,_⟩:=h
  exact⟨rfl,fun j y hy=>by simp at hy⟩
 | k, x :: xs, ys, h => by
  simp only[impCells] at h
  split at h
  ·rename_i y u ys' us h1 h2
   simp only[Option.some.injEq,Prod.mk.injEq,List.append_eq_nil_iff] at h
   obtain⟨rfl,rfl,rfl⟩:=h
   obtain⟨g1,g2⟩:=impCells_at h2
   refine⟨by simp[g1],fun j z hz=>?_⟩
   cases j with
   |zero=>
    simp only[List.getElem?_cons_zero,Option.some.injEq] at hz
    subst hz
    exact⟨x,rfl,h1⟩
   |succ j=>
    obtain⟨x',q1,q2⟩:=g2 j z (by simpa using hz)
    exact⟨x',by simpa using q1,by rw[show k+(j+1)=k+1+j by omega];exact q2⟩
  ·cases h
section
variable {P:Program} {X:Cx} {nt:Nat} {s:St} {a:Act} {o:Oper} {dst:Option Nat} {nvi:Nat}
theorem call_box {call:Go.Eng.Call} (hcall:CallOK P call) (hs:Sim X nt s a) {f lb sb vb:Nat} {args:List AV} {vargs:Array Value} {r:Res}
  (hargs:All2 (VR X) (.ptr lb sb vb 0 0 :: args) vargs.toList) (hr:doBox call s f lb sb vb args=some r)
  (hrun:(∃ fn,P.funcs[f]?=some fn∧fn.body.isSome=true∧(fn.name == "runtime.NumGoroutine")=false)→(execOp a.eval o).run P X.w=.ok (.enter f vargs) X.w) :
  After P X s a o dst nvi r:=by
 unfold doBox at hr
 split at hr
 ·cases hr
 rename_i cs hb
 split at hr
 rotate_left
 ·cases hr
 rename_i cs0 as hd0 hda
 obtain⟨hlen0,hat0⟩:=datCells_at hd0
 split at hr
 ·cases hr
 rename_i r' cm ts n' hc
 split at hr
 ·cases hr
 rename_i cs' hb'
 split at hr
 rotate_left
 ·cases hr
 rename_i ds val hi hir
 split at hr
 rotate_left
 ·cases hr
 rename_i hdat
 rw[Bool.and_eq_true] at hdat
 injection hr with hr;subst hr
 have hg:=boxAt_get hb
 have hg':=boxAt_get hb'
 obtain⟨L,hL,hcap,hblk,hF,hcells⟩:=hs.mem.ents _ _ _ hg
 have hL:X.ρ vb=some L:=hL
 have hbox:Holds s.mem s.tips (keyE lb sb) vb:=.inl ⟨lb,sb,_,rfl,hg,rfl,rfl⟩
 have hLs:L.b<X.w.heap.size:=hblk.lt
 let Z0:Cx:={ w:=X.w,F:=X.F,ρ:=fun v=>if v=0 then some L else none,old:=fun b=>b<X.w.heap.size∧b≠L.b }
 have hρ0:Z0.ρ 0=some L:=rfl
 have hZ0:MemOK Z0 (boxMem cs0) .lf:=by
  refine⟨fun lv sl e he=>?_,fun v hv=>by simp at hv,fun k k' v v' L1 L2 h1 h2 hne _ _ _ _=>?_,hs.mem.inF,fun b h=>h.1,fun b hb=>⟨hs.mem.low b (hs.mem.lows.gb b hb),fun e=>hblk.1 (e ▸ hs.mem.lows.gb b hb)⟩,hs.mem.lows.gk⟩
  ·obtain ⟨_, _, rfl⟩ := boxMem_get he
   refine⟨L,hρ0,hcap,⟨fun h=>h.2 rfl,by rw[hlen0];exact hblk.2⟩,hF,fun j y hj=>?_⟩
   obtain⟨x,hx0,hxy⟩:=hat0 j y hj
   obtain⟨v,hv,hvc⟩:=hcells j x hx0
   exact⟨v,hv,datCell_VC (X:=X) (Y:=Z0) rfl (fun _ _ h=>h) hxy hvc⟩
  ·exfalso
   have one:∀ {k:Nat×Nat×Nat} {v:Nat},Holds (boxMem cs0) .lf k v→k=keyE 0 0:=by
    rintro k v (⟨lv,sl,e,rfl,he,_,_⟩|⟨_,he⟩)
    ·obtain⟨rfl,rfl,_⟩:=boxMem_get he;rfl
    ·simp at he
   exact hne ((one h1).trans (one h2).symm)
 have hA:All2 (V1 Z0) (.ptr 0 0 0 0 0 :: as) vargs.toList:=by
  revert hargs
  cases vargs.toList with
  |nil=>exact fun h=>h.elim
  |cons v0 vs=>
   intro h
   refine⟨?_,datArgs_VR (X:=X) (Y:=Z0) rfl (fun _ _ h=>h) hda h.2⟩
   obtain⟨L',hL',hv0⟩:=h.1
   rw[hL] at hL';injection hL' with hL';subst hL'
   exact⟨L,hρ0,hv0⟩
 obtain⟨hfn,hcalls⟩:=hcall f _ _ _ _ r' cm ts n' hc Z0 vargs hZ0 (fun v hv=>if_neg (by omega)) hA
 intro K Q hK
 unfold Oper.wp
 rw[hrun hfn,Oper.upon_enter]
 refine Calls.mono hcalls ?_
 rintro e w' ⟨Z,v,rfl,rfl,hxZ,hvZ,hmZ,_,_⟩
 show K (a.put o.dst v) Z.w
 have hZL:Z.ρ 0=some L:=hxZ.loc 0 L hρ0
 obtain⟨L2,hL2,_,hblk2,hF2,hcells2⟩:=hmZ.ents _ _ _ hg'
 have hL2:Z.ρ 0=some L2:=hL2
 rw[hZL] at hL2;injection hL2 with hL2;subst hL2
 have hbox':Holds cm ts (keyE 0 0) 0:=.inl ⟨0,0,_,rfl,hg',rfl,rfl⟩
 have hsize:X.w.heap.size≤Z.w.heap.size:=hxZ.below.size
 have hold:∀ b,X.old b→b<X.w.heap.size∧b≠L.b:=fun b hb=>⟨hs.mem.low b hb,fun e=>hblk.1 (e ▸ hb)⟩
 have hZold:Z.old=fun b=>b<X.w.heap.size∧b≠L.b:=hxZ.base
 have hnew:∀ b o,Z.F b o→X.F b o∨¬(b<X.w.heap.size∧b≠L.b):=hxZ.new
 let Y:Cx:={ w:=Z.w,F:=fun b o=>Z.F b o∨(X.w.heap.size≤b∧b<Z.w.heap.size),ρ:=X.ρ,old:=X.old }
 have hx:Ext X Y:=by
  refine⟨rfl,hxZ.below.mono hold,fun b o h=>.inl (hxZ.reg b o h),fun b o h=>hxZ.keep b o h,fun _ _ h=>h,fun b o h=>?_⟩
  rcases h with h|h
  ·exact (hnew b o h).imp id fun hno ho=>hno (hold b ho)
  ·exact .inr fun ho=>by have:=(hold b ho).1;omega
 have other:∀ k u M,Holds (memSet s.mem lb sb none) s.tips k u→X.ρ u=some M→0<M.cap→M.b<X.w.heap.size∧M.b≠L.b:=by
  intro k u M hk hu hc
  have hk2:Holds s.mem s.tips k u∧k≠keyE lb sb:=by
   rcases hk with⟨lv',sl',e,rfl,he,h1,h2⟩|⟨rfl,he⟩
   ·rw [memGet_set] at he
    split at he
    ·cases he
    ·rename_i hne
     refine⟨.inl ⟨lv',sl',e,rfl,he,h1,h2⟩,fun hq=>?_⟩
     obtain⟨q1,q2⟩:=keyE_inj hq
     subst q1 q2
     refine hne ⟨rfl,rfl,?_⟩
     unfold memGet at hg
     rcases Nat.lt_or_ge lv' s.mem.length with hl|hl
     ·exact hl
     ·rw[List.getElem?_eq_none hl] at hg;cases hg
   ·exact⟨.inr ⟨rfl,he⟩,fun hq=>keyE_ne_keyT hq.symm⟩
  obtain⟨M',hM',h3⟩:=hs.mem.holds_ρ hk2.1
  rw[hu] at hM';injection hM' with hM';subst hM'
  exact⟨(h3 hc).1,hs.mem.apart _ _ _ _ _ _ hk2.1 hbox hk2.2 hu hL hc (by omega)⟩
 have hY0:MemOK Y (memSet s.mem lb sb none) s.tips:=by
  refine (hs.mem.erase lb sb).move hx (fun k u M hk hu hc=>?_) (fun k u M q hk hu hc h=>?_) fun b q h=>?_
  ·exact hxZ.below.block _ (other k u M hk hu hc)
  ·rcases h with h | h
   ·exact (hnew _ _ h).resolve_right fun hno=>hno (other k u M hk hu hc)
   ·have:=(other k u M hk hu hc).1;omega
  ·rcases h with h | h
   ·exact hmZ.inF b q h
   ·exact h.2
 let Y':Cx:={ Y with ρ:=Z.ρ }
 have hgood:Good Z cm 1 0 Y':=by
  refine⟨rfl,fun b q h=>.inl h,fun _ _ _ h=>h,fun _ lv' sl' e M hlv he hz hM hc q=>?_⟩
  obtain⟨M',hM',h3⟩:=hmZ.holds_ρ (.inl ⟨lv',sl',e,rfl,he,rfl,hz⟩)
  rw[hM] at hM';injection hM' with hM';subst hM'
  have h4:=(h3 hc).2
  rw[hZold] at h4
  have h5:M.b≠L.b:=hmZ.apart (keyE lv' sl') (keyE 0 0) _ _ _ _ (.inl ⟨lv',sl',e,rfl,he,rfl,hz⟩) hbox' (fun hq=>by have:=(keyE_inj hq).1;omega) hM hZL hc (by omega)
  refine .inr ⟨?_,(h3 hc).1⟩
  rcases Nat.lt_or_ge M.b X.w.heap.size with h6|h6
  ·exact absurd ⟨h6,h5⟩ h4
  ·exact h6
 have hval:VR Y val v:=by
  rcases impR_b hmZ hir hvZ with⟨_,hb⟩|⟨_,_,_,_,h,_⟩|h
  ·exact plainR_VR (X:=Y') (Y:=Y) rfl (fun _ _ h=>h) hdat.2 (hb Y' hgood)
  ·cases h
  ·simp at h
 obtain⟨hlen,hat⟩:=impCells_at hi
 have hEnt:EntOK Y (.box vb ds) L:=by
  refine⟨hcap,⟨hblk.1,by rw[hlen];exact hblk2.2⟩,fun q h=>?_,fun j y hj=>?_⟩
  ·rcases h with h | h
   ·exact hF2 q h
   ·omega
  ·obtain ⟨x, q1, q2⟩ := hat j y hj
   obtain⟨u,hu,hvc⟩:=hcells2 j x q1
   refine⟨u,hu,isDat_VC (X:=Y') (Y:=Y) rfl (fun _ _ h=>h) (List.all_eq_true.1 hdat.1 y (List.mem_of_getElem? hj)) ?_⟩
   rcases impCell_b hmZ q2 hvc with⟨_,hb⟩|⟨_,_,_,_,h,_⟩|h
   ·exact hb Y' hgood
   ·cases h
   ·simp at h
 refine hK Y v hx hval ?_ (DomOK.of_ρ rfl)
 exact hY0.reset hL hEnt fun k u M hk hu hc _=>(other k u M hk hu hc).2
end
end Go.Eng
