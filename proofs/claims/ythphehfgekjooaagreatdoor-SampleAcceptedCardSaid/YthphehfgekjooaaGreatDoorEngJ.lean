/- A part of the proof: EngH, EngI, EngJ. -/
import Derived.Test.YthphehfgekjooaaGreatDoorEngG
import Derived.Laws.Append
import Derived.Laws.AppendOwn
import Derived.Laws.CopyOwn
set_option linter.unusedVariables false
set_option linter.unusedSimpArgs false
namespace Go.bq
open Go Go.RowKit
def ew (X Y:Cx) (aH n n':Nat):Prop:=n≤n'∧∀ v L,Y.ρ v=some L→X.ρ v=some L∨v=aH∨(n≤v∧v<n')
theorem mF {X:Cx} {C:Array Value} {e:TypeId} {v:Nat} {L:Loc} {n:Nat} : ew X (X.alloc C e v L) v n n:=
 ⟨Nat.le_refl _, fun u M h => by
  grind[Cx.alloc]⟩
theorem ew.refl (X:Cx) (v n:Nat):ew X X v n n:=⟨Nat.le_refl _,fun _ _ h=>.inl h⟩
section
variable {X:Cx} {m:List (Tr aZ)} {t:Tr Unit}
theorem qN (X:Cx) (C:Array Value) (e:TypeId) (v:Nat) (L:Loc):(X.alloc C e v L).w.heap[X.w.heap.size]?=some (.cells C e (0,0)):=heap_alloc_new _ _
theorem uE (X:Cx) (C:Array Value) (e:TypeId) (v:Nat) (L:Loc):(X.alloc C e v L).ρ v=some L:=if_pos rfl
theorem su (h:aA X m t) {C:Array Value} {e:TypeId} {v:Nat} {L:Loc} (hv:X.ρ v=none) {k:Nat×Nat×Nat} {u:Nat} {M:Loc} (hk:Holds m t k u) (hu:(X.alloc C e v L).ρ u=some M) (hc:0<M.cap):M.b≠X.w.heap.size:=by
 obtain⟨M',jx,h2⟩:=h.cz hk<;>grind[Cx.alloc,Holds]
theorem L4 (h:aA X m t) {C:Array Value} {e:TypeId} {v:Nat} {cs:List AV} (lv sl:Nat) (hv:X.ρ v=none) (hc:aq (VC X) cs C.toList) :
  aA (X.alloc C e v ⟨X.w.heap.size,0,C.size,1⟩) (bF m lv sl (some (.box v cs))) t:=by
 have hx:Ext X (X.alloc C e v ⟨X.w.heap.size,0,C.size,1⟩):=Ext.alloc h.ni h.low hv
 refine (h.alloc hv).add (L:=⟨X.w.heap.size,0,C.size,1⟩) (uE _ _ _ _ _) ⟨rfl,⟨h.fresh,C,e,qN _ _ _ _ _,by rw[hc.length];simp⟩,fun o ho=>?_,fun j x hj=>?_⟩ fun k u M hk _ hu hc _=>su h hv hk hu hc
 ·exact Nat.lt_irrefl _ (h.ni _ _ ho)
 ·obtain ⟨u, hu, hr⟩ := hc.get _ _ hj
  refine⟨u,?_,hr.ext hx⟩<;>simp_all[aq,VC,Cx.alloc]
theorem Ey (h:aA X m t) {C:Array Value} {e:TypeId} {v:Nat} {els:List (List D)} {sz cap:Nat} {vs:List Value} (lv sl:Nat) (hv:X.ρ v=none) (hl:∀ e∈els,e.length=sz) (hC:cap*sz≤C.size) (hle:els.length≤cap)
  (hvs:∀ (j:Nat) (u:Value),vs[j]?=some u→C[j]?=some u) (hd:aq (DR X.w X.F) els.flatten vs) :
  aA (X.alloc C e v ⟨X.w.heap.size,0,sz,cap⟩) (bF m lv sl (some (.row v els))) t:=by
 have hx:Ext X (X.alloc C e v ⟨X.w.heap.size,0,sz,cap⟩):=Ext.alloc h.ni h.low hv
 refine (h.alloc hv).add (L:=⟨X.w.heap.size,0,sz,cap⟩) (uE _ _ _ _ _) ⟨hle,hl,fun _=>⟨⟨h.fresh,C,e,qN _ _ _ _ _,by simpa using hC⟩,fun o ho=>?_⟩,fun i f j x h1 h2=>?_⟩ fun k u M hk _ hu hc _=>su h hv hk hu hc
 ·exact Nat.lt_irrefl _ (h.ni _ _ ho)
 ·have := uC (R := fun _ _ => True) (o := 0) (qN X C e v ⟨X.w.heap.size, 0, sz, cap⟩) hl (fun j u hj => by rw [Nat.zero_add]; exact hvs j u hj) (hd.mono fun _ _ => DR.ext hx) (fun _ _ => trivial)
  grind[dH,aq,Cx.alloc]
theorem L5 (h:aA X m t) {C:Array Value} {e:TypeId} {v:Nat} {els:List (List D)} {sz cap:Nat} {vs:List Value} (hv:X.ρ v=none) (hl:∀ e∈els,e.length=sz) (hC:cap*sz≤C.size) (hle:els.length≤cap)
  (hvs:∀ (j:Nat) (u:Value),vs[j]?=some u→C[j]?=some u) (hd:aq (DR X.w X.F) els.flatten vs) :
  let Y:=(X.alloc C e v ⟨X.w.heap.size,0+els.length*sz,sz,cap-els.length⟩).more fun b o=>b=X.w.heap.size∧o<els.length*sz
  Ext X Y∧aA Y m (t.set v (some ()))∧dH Y.w Y.F Y.F els X.w.heap.size 0 sz∧ew X Y v 0 0:=by
 intro Y
 let Z:=X.alloc C e v ⟨X.w.heap.size,0+els.length*sz,sz,cap-els.length⟩
 have hz:Ext X Z:=Ext.alloc h.ni h.low hv
 have hm:Ext Z Y:=Ext.more fun b o hb=>by rw[hb.1];exact h.fresh
 have hmem:aA Y m t:=(h.alloc hv).more (fun b o hb=>⟨by rw[hb.1];exact h.fresh,by rw[hb.1];show _<(X.w.alloc _).heap.size;rw[World.size_alloc];omega⟩)
  fun k u M o hk hu hc hb=>su (C:=C) (e:=e) (L:=⟨X.w.heap.size,0+els.length*sz,sz,cap-els.length⟩) h hv hk hu hc hb.1
 refine⟨hz.trans hm,hmem.T0 (L:=⟨X.w.heap.size,0+els.length*sz,sz,cap-els.length⟩) (uE X C e v _) (fun hc=>⟨⟨h.fresh,C,e,qN X C e v ⟨X.w.heap.size,0+els.length*sz,sz,cap-els.length⟩,?_⟩,fun o ho hF=>?_⟩) (fun k u M hk _ hu hc _=>su (C:=C) (e:=e) (L:=⟨X.w.heap.size,0+els.length*sz,sz,cap-els.length⟩) h hv hk hu hc),?_,⟨Nat.le_refl _,fun u M hu=>?_⟩⟩
 ·rw[Nat.zero_add,←Nat.add_mul,Nat.add_sub_cancel' hle]<;>omega
 ·rcases hF with hF | hF
  ·exact Nat.lt_irrefl _ (h.ni _ _ hF)
  grind
 ·exact uC (o:=0) (qN X C e v ⟨X.w.heap.size,0+els.length*sz,sz,cap-els.length⟩) hl (fun j u hj=>by rw[Nat.zero_add];exact hvs j u hj) (hd.mono fun _ _=>DR.ext (hz.trans hm)) (fun k hk=>.inr ⟨rfl,by omega⟩)
 ·exact (mF (C:=C) (e:=e) (n:=0)).2 u M hu
def Cx.set (X:Cx) (g:Nat) (C:Array Value):Cx:={ X with w:=X.w.setRow g C }
theorem iR {g:Nat} {C C':Array Value} {e:TypeId} (hg:X.w.heap[g]?=some (.cells C e (0,0))):(X.set g C').w.heap[g]?=some (.cells C' e (0,0)):=setRow_heap _ _ _ _ _ _ hg
theorem uF {g:Nat} {C C':Array Value} {e:TypeId} (hg:X.w.heap[g]?=some (.cells C e (0,0))) (hb:¬X.old g) (hF:∀ o,X.F g o→C'[o]?=C[o]?):Ext X (X.set g C'):=by
 refine⟨rfl,(dK.refl _ _).setRow hb _,fun _ _ h=>h,fun b o h=>?_,fun _ _ h=>h,fun _ _ h=>.inl h⟩
 by_cases hbg:b=g
 ·subst hbg
  rw[cell_of_row _ _ _ _ _ _ (iR hg),cell_of_row _ _ _ _ _ _ hg]<;>grind
 ·have := setRow_other X.w g b C' hbg
  simp[World.cell?,Cx.set,this]
theorem yX (h:aA X m t) {g:Nat} {C C':Array Value} {e:TypeId} (hg:X.w.heap[g]?=some (.cells C e (0,0))) (hb:¬X.old g) (hF:∀ o,X.F g o→C'[o]?=C[o]?)
  (hk:∀ k v L,Holds m t k v→X.ρ v=some L→0<L.cap→L.b≠g):aA (X.set g C') m t:=
 h.move (uF hg hb hF) (fun k v L a b c=>setRow_other X.w g L.b C' (hk k v L a b c)) (fun _ _ _ _ _ _ _ h=>h) fun b o hb=>by
  have:=h.ni b o hb<;>simp_all[Holds,Cx.set]
end
end Go.bq
namespace Go.bq
open Go Go.RowKit
def cR.val:cR→AV
 |.bC e=>e.val
 |.all v _ _ _=>v
def cD (P:Program) (X:Cx) (s:St) (a:Act) (o:Oper) (dst:Option Nat) (aH:Nat) (r:cR):Prop:=
 ∀ (K:Act→World→Prop) (Q:Exit→Act→World→Prop),
  (∀ Y v,Ext X Y→VR Y r.val v→aA Y (s.app dst r).mem (s.app dst r).aB→ew X Y aH s.nv (s.app dst r).nv→K (a.put o.dst v) Y.w)→Oper.wp P o a X.w K Q
section
variable {P:Program} {X:Cx} {nt:Nat} {s:St} {a:Act} {o:Oper} {dst:Option Nat} {aH:Nat}
theorem cD.value {r:cR} {Y:Cx} {v:Value} (hrun:(execOp a.eval o).run P X.w=.ok (.value v) Y.w) (hx:Ext X Y) (hv:VR Y r.val v) (hm:aA Y (s.app dst r).mem (s.app dst r).aB) (hd:ew X Y aH s.nv (s.app dst r).nv) :
  cD P X s a o dst aH r:=by
 intro K Q h
 unfold Oper.wp
 rw[hrun]
 exact h Y v hx hv hm hd
theorem cD.skip {r:cR} {Y:Cx} (hrun:(execOp a.eval o).run P X.w=.ok .skip Y.w) (hx:Ext X Y) (hv:VR Y r.val undef) (hm:aA Y (s.app dst r).mem (s.app dst r).aB) (hd:ew X Y aH s.nv (s.app dst r).nv) :
  cD P X s a o dst aH r:=by
 intro K Q h
 unfold Oper.wp
 rw[hrun]
 exact h Y undef hx hv hm hd
theorem cD.quiet {val:AV} {rd:List (Nat×Nat×Nat)} (hs:eC X nt s a) (h:Quiet P X o a val):cD P X s a o dst aH (.bC { val,cv:=[],bR:=[],rd }):=by
 obtain⟨v,hrun,hv⟩:=h
 exact .value hrun (Ext.refl X) hv hs.mem (ew.refl _ _ _)
theorem iB {t:TypeId} {z:List Value} (h:mM P t=some z):∃ i v,P.info? t=some i∧i.zero=some v∧z=v.cells.toList:=by
 unfold mM at h
 cases hi:P.info? t with
 |none=>grind
 |some i=>
  rw[hi] at h
  cases hz:i.zero with
  |none=>grind
  |some v=>grind
theorem CM (hs:eC X nt s a) (hv:X.ρ aH=none) {d:Nat} {C:Array Value} {e:TypeId} {cs:List AV} {rd:List (Nat×Nat×Nat)}
  (hrun:(execOp a.eval o).run P X.w=.ok (.value (.pointer (some ⟨X.w.heap.size,0,none⟩))) (X.w.alloc (.cells C e))) (hc:aq (VC X) cs C.toList) :
  cD P X s a o dst aH (.bC { val:=.ptr (s.mem.length-1) d aH 0 0,cv:=[(s.mem.length-1,d,some (.box aH cs))],bR:=[],rd }):=
 .value (Y:=X.alloc C e aH ⟨X.w.heap.size,0,C.size,1⟩) hrun (Ext.alloc hs.mem.ni hs.mem.low hv) ⟨_,uE _ _ _ _ _,by simp⟩ (L4 hs.mem _ _ hv hc) mF
theorem P3 (hs:eC X nt s a) (hv:X.ρ aH=none) {t:TypeId} {z:List Value} {cs:List AV} {d:Nat} {rd:List (Nat×Nat×Nat)} (ho:o.op=.alloc t) (hz:mM P t=some z) (hc:eH z=some cs) :
  cD P X s a o dst aH (.bC { val:=.ptr (s.mem.length-1) d aH 0 0,cv:=[(s.mem.length-1,d,some (.box aH cs))],bR:=[],rd }):=by
 obtain⟨i,v,hi,Ez,rfl⟩:=iB hz
 refine CM hs hv (C:=v.cells) (e:=t) ?_ (kU hc)
 simp[execOp,ho,Instr.alloc,zeroValue,typeInfo,hi,Ez,newVar,newRow]
theorem Y9 (hs:eC X nt s a) (hv:X.ρ aH=none) {t:TypeId} {x:Operand} {x':bA} {cs:List AV} {d:Nat} {rd:List (Nat×Nat×Nat)} (ho:o.op=.box t x) (hx:cr x=some x') (hc:cellsOf (x'.ev s.slots)=some cs) :
  cD P X s a o dst aH (.bC { val:=.ptr (s.mem.length-1) d aH 0 0,cv:=[(s.mem.length-1,d,some (.box aH cs))],bR:=[],rd }):=by
 refine CM hs hv (C:=(a.eval x).cells) (e:=t) ?_ (pE hc (aU hs hx))
 simp[execOp,ho,Instr.box,newVar,newRow]
theorem aq.one {X:Cx} : ∀ {cs:List AV} {vs:List Value},aq (VC X) cs vs→∀ v∈vs,v.oneCell'=true
 |[],[],_,v,h=>by cases h
 |_ :: _,_ :: _,h,v,hv=>by
  rcases List.mem_cons.1 hv with rfl|hv
  ·exact VC.one h.1
  ·exact aq.one h.2 v hv
 |[],_ :: _,h,_,_=>h.elim
 |_ :: _,[],h,_,_=>h.elim
theorem aq.Ud {w:World} {F:Nat→Nat→Prop} : ∀ {cs:List D} {vs:List Value},aq (DR w F) cs vs→∀ v∈vs,v.oneCell'=true
 |[],[],_,v,h=>by cases h
 |_ :: _,_ :: _,h,v,hv=>by
  rcases List.mem_cons.1 hv with rfl|hv
  ·exact DR.one h.1
  ·exact aq.Ud h.2 v hv
 |[],_ :: _,h,_,_=>h.elim
 |_ :: _,[],h,_,_=>h.elim
theorem mz {C:Array Value} {k:Nat} {vs:List Value} (h:k+vs.length≤C.size) (j:Nat):(C.toList.take k++vs++C.toList.drop (k+vs.length)).toArray[j]?=if k≤j∧j<k+vs.length then vs[j-k]? else C[j]?:=by
 grind
theorem Nn {X:Cx} {m:List (Tr aZ)} {t:Tr Unit} (h:aA X m t) {lv sl aa:Nat} {cells:List AV} (hg:aC m lv sl=some (.box aa cells)) :
  ∃ L C e,X.ρ aa=some L∧L.cap=1∧X.w.heap[L.b]?=some (.cells C e (0,0))∧¬X.old L.b∧L.o+cells.length≤C.size∧(∀ o,¬X.F L.b o)∧
   (∀ k v M,Holds (bF m lv sl none) t k v→X.ρ v=some M→0<M.cap→M.b≠L.b)∧∀ j x,cells[j]?=some x→∃ v,C[L.o+j]?=some v∧VC X x v:=by
 obtain⟨L,hL,h1,⟨h2,C,e,h3,h4⟩,h5,h6⟩:=h.dW _ _ _ hg
 refine⟨L,C,e,hL,h1,h3,h2,h4,h5,fun k v M hk hv hc=>?_,fun j x hj=>?_⟩
 ·have hh : Holds m t k v ∧ k ≠ bw lv sl := by
   rcases hk with⟨bV,cS,e',rfl,he',lU⟩|⟨rfl,he'⟩
   ·rw [bM] at he'
    grind[aZ.fz,VC,aZ.aa,aC,bw,Holds]
   ·exact⟨.inr ⟨rfl,he'⟩,fun hq=>dI hq.symm⟩
  exact h.apart _ _ _ _ _ _ hh.1 (.inl ⟨lv,sl,_,rfl,hg,rfl,rfl⟩) hh.2 hv hL hc (by omega)
 ·obtain ⟨v, hv, hr⟩ := h6 j x hj
  rw[cell_of_row _ _ _ _ _ _ h3] at hv<;>grind
theorem mG {X:Cx} {m:List (Tr aZ)} {t:Tr Unit} (h:aA X m t) {lv sl aa:Nat} {els:List (List D)} (hg:aC m lv sl=some (.row aa els)) {L:Loc} (hL:X.ρ aa=some L) (hc0:0<L.cap) :
  ∃ C e,X.w.heap[L.b]?=some (.cells C e (0,0))∧¬X.old L.b∧L.o+L.cap*L.sz≤C.size∧(∀ o,¬X.F L.b o)∧els.length≤L.cap∧(∀ e∈els,e.length=L.sz)∧
   (∀ k v M,Holds (bF m lv sl none) t k v→X.ρ v=some M→0<M.cap→M.b≠L.b)∧∀ i e j x,els[i]?=some e→e[j]?=some x→∃ v,C[L.o+i*L.sz+j]?=some v∧DR X.w X.F x v:=by
 obtain⟨L',hL',h1,h2,h3,h4⟩:=h.dW _ _ _ hg
 have:X.ρ aa=some L':=hL'
 rw[hL] at this;cases this
 obtain⟨⟨h5,C,e,h6,h7⟩,h8⟩:=h3 hc0
 refine⟨C,e,h6,h5,h7,h8,h1,h2,fun k v M hk hv hc=>?_,fun i f j x hi hj=>?_⟩
 ·have hh : Holds m t k v ∧ k ≠ bw lv sl := by
   rcases hk with⟨bV,cS,e',rfl,he',lU⟩|⟨rfl,he'⟩
   ·rw [bM] at he'
    grind[aZ.fz,Block,aZ.aa,aC,bw,Holds]
   ·exact⟨.inr ⟨rfl,he'⟩,fun hq=>dI hq.symm⟩
  exact h.apart _ _ _ _ _ _ hh.1 (.inl ⟨lv,sl,_,rfl,hg,rfl,rfl⟩) hh.2 hv hL hc hc0
 ·obtain ⟨v, hv, hr⟩ := h4 i f j x hi hj
  rw[cell_of_row _ _ _ _ _ _ h6] at hv<;>grind
theorem aA.reset {X:Cx} {m:List (Tr aZ)} {t:Tr Unit} {lv sl:Nat} {e:aZ} {L:Loc} (h:aA X (bF m lv sl none) t) (hL:X.ρ e.aa=some L) (hE:l7 X e L)
  (hap:∀ k v M,Holds (bF m lv sl none) t k v→X.ρ v=some M→0<M.cap→0<L.cap→M.b≠L.b):aA X (bF m lv sl (some e)) t:=
 (h.add (lv := lv) (sl := sl) hL hE fun k v M a _ b c d => hap k v M a b c d).congr (fun bV cS => by
  rw[bM,bM,bM]<;>grind[Holds,l7,aZ.aa,bF,aC]) fun _=>rfl
theorem CN {X:Cx} {m:List (Tr aZ)} {t:Tr Unit} (h:aA X m t) {lv sl aa off:Nat} {cells new:List AV} {vs:List Value} (hg:aC m lv sl=some (.box aa cells)) (hoff:off+new.length≤cells.length) (hn:aq (VC X) new vs) :
  ∃ L Y,X.ρ aa=some L∧Ext X Y∧Y.ρ = X.ρ∧aA Y (bF m lv sl (some (.box aa (splice cells off new)))) t∧(storeCells ⟨L.b,L.o+off,none⟩ vs).run P X.w=.ok () Y.w:=by
 obtain⟨L,C,e,hL,h1,h2,h3,h4,h5,h6,h7⟩:=Nn h hg
 have hlen:=hn.length
 have hst:=run_storeCells_at P L.b (L.o+off) e vs 0 C X.w h2 (by omega) (aq.one hn)
 let C':=(C.toList.take (L.o+off)++vs++C.toList.drop (L.o+off+vs.length)).toArray
 have od:∀ j,C'[j]?=if L.o+off≤j∧j<L.o+off+vs.length then vs[j-(L.o+off)]? else C[j]?:=mz (by omega)
 have hx:Ext X (X.set L.b C'):=uF h2 h3 fun o ho=>absurd ho (h5 o)
 refine⟨L,X.set L.b C',hL,hx,rfl,?_,hst⟩
 refine (yX (h.erase lv sl) h2 h3 (fun o ho=>absurd ho (h5 o)) h6).reset (e:=.box aa (splice cells off new)) (L:=L) hL ⟨h1,⟨h3,C',e,iR h2,?_⟩,h5,fun j x hj=>?_⟩ fun k v M a b c _=>h6 k v M a b c
 ·rw [jD _ _ _ hoff]
  have hs:C'.size=C.size:=by
   show (C.toList.take (L.o+off)++vs++C.toList.drop (L.o+off+vs.length)).toArray.size=C.size
   simp
   omega
  omega
 ·rw [cY _ _ _ hoff] at hj
  rw[cell_of_row _ _ _ _ _ _ (iR h2),od]
  by_cases hb:off≤j∧j<off+new.length
  ·rw [if_pos hb] at hj
   obtain⟨v,hv,hr⟩:=hn.get _ _ hj
   rw[if_pos (by omega),show L.o+j-(L.o+off)=j-off by omega]
   exact⟨v,hv,hr.ext hx⟩
  ·rw [if_neg hb] at hj
   obtain⟨v,hv,hr⟩:=h7 j x hj
   rw[if_neg (by omega)]
   exact⟨v,hv,hr.ext hx⟩
theorem CO {X:Cx} {m:List (Tr aZ)} {t:Tr Unit} (h:aA X m t) {lv sl aa k:Nat} {els els':List (List D)} {vs:List Value} {L:Loc} (hg:aC m lv sl=some (.row aa els)) (hL:X.ρ aa=some L) (hc:0<L.cap)
  (hk:k+vs.length≤L.cap*L.sz) (hn:aq (DR X.w X.F) ((els'.flatten.drop k).take vs.length) vs) (hl':∀ e∈els',e.length=L.sz) (hle:els'.length≤L.cap)
  (hold:∀ j x,els'.flatten[j]?=some x→(k≤j∧j<k+vs.length)∨els.flatten[j]?=some x) :
  ∃ Y,Ext X Y∧Y.ρ = X.ρ∧aA Y (bF m lv sl (some (.row aa els'))) t∧(storeCells ⟨L.b,L.o+k,none⟩ vs).run P X.w=.ok () Y.w:=by
 obtain⟨C,e,h2,h3,h4,h5,h8,h9,h6,h7⟩:=mG h hg hL hc
 have hst:=run_storeCells_at P L.b (L.o+k) e vs 0 C X.w h2 (by omega) (aq.Ud hn)
 let C':=(C.toList.take (L.o+k)++vs++C.toList.drop (L.o+k+vs.length)).toArray
 have od:∀ j,C'[j]?=if L.o+k≤j∧j<L.o+k+vs.length then vs[j-(L.o+k)]? else C[j]?:=mz (by omega)
 have hx:Ext X (X.set L.b C'):=uF h2 h3 fun o ho=>absurd ho (h5 o)
 have hs:C'.size=C.size:=by
  show (C.toList.take (L.o+k)++vs++C.toList.drop (L.o+k+vs.length)).toArray.size=C.size
  simp
  omega
 refine⟨X.set L.b C',hx,rfl,?_,hst⟩
 refine (yX (h.erase lv sl) h2 h3 (fun o ho=>absurd ho (h5 o)) h6).reset (e:=.row aa els') (L:=L) hL ⟨hle,hl',fun _=>⟨⟨h3,C',e,iR h2,by omega⟩,h5⟩,fun i f j x hi hj=>?_⟩ fun k v M a b c _=>h6 k v M a b c
 have Es:j<L.sz:=by rw[←hl' f (List.mem_of_getElem? hi)];exact (List.getElem?_eq_some_iff.1 hj).1
 have hf:=e8 hl' i j f hi Es
 rw[hj] at hf
 rw[cell_of_row _ _ _ _ _ _ (iR h2),od]
 by_cases hb:k≤i*L.sz+j∧i*L.sz+j<k+vs.length
 ·rw [if_pos (by omega)]
  have hq:((els'.flatten.drop k).take vs.length)[i*L.sz+j-k]?=some x:=by
   rw[List.getElem?_take,if_pos (by omega),List.getElem?_drop,show k+(i*L.sz+j-k)=i*L.sz+j by omega]
   exact hf
  obtain⟨v,hv,hr⟩:=hn.get _ _ hq
  rw[show L.o+i*L.sz+j-(L.o+k)=i*L.sz+j-k by omega]
  exact⟨v,hv,hr.ext hx⟩
 ·rw [if_neg (by omega)]
  have hq:=(hold _ _ hf).resolve_left hb
  have hlt:i*L.sz+j<els.length*L.sz:=by rw[←aP h9];exact (List.getElem?_eq_some_iff.1 hq).1
  have hi':i<els.length:=by
   rcases Nat.lt_or_ge i els.length with hi'|hi'
   ·exact hi'
   ·have := Nat.mul_le_mul_right L.sz hi'
    omega
  have hg2:=e8 h9 i j _ (List.getElem?_eq_getElem hi') Es
  rw[hq] at hg2
  obtain⟨v,hv,hr⟩:=h7 i _ j x (List.getElem?_eq_getElem hi') hg2.symm
  exact⟨v,hv,hr.ext hx⟩
end
end Go.bq
namespace Go.bq
open Go Go.RowKit
theorem jd:∀ (u v:List (Nat×Nat×Option aZ)) (m:List (Tr aZ)),aX m (u++v)=aX (aX m u) v
 |[],_,_=>rfl
 |(lv,sl,e) :: u,v,m=>by exact jd u v _
theorem oe {α : Type} (cs new:List α) (off:Nat) (h:off≤cs.length):((splice cs off new).drop off).take new.length=new:=by
 grind[splice]
theorem P4 {sz:Nat} {els:List (List D)} (hl:∀ e∈els,e.length=sz) {i off:Nat} {e ds:List D} (hi:els[i]?=some e) (ho:off+ds.length≤sz):(els.set i (splice e off ds)).flatten=splice els.flatten (i*sz+off) ds:=by
 have he:=hl e (List.mem_of_getElem? hi)
 have hlt:i<els.length:=(List.getElem?_eq_some_iff.1 hi).1
 have hle:i*sz+sz≤els.flatten.length:=by
  rw[aP hl]
  have:=Nat.mul_le_mul_right sz (show i+1≤els.length from hlt)
  rw[Nat.add_mul] at this
  omega
 have h1:(splice e off ds).length=sz:=by rw[jD _ _ _ (by omega),he]
 rw[qL hl i _ hlt h1]
 apply List.ext_getElem?
 intro j
 have q1:=cY els.flatten (splice e off ds) (i*sz) (by omega) j
 have q2:=cY els.flatten ds (i*sz+off) (by omega) j
 have q3:=cY e ds off (by omega) (j-i*sz)
 rw[q1,q2,h1]
 by_cases hb:i*sz≤j∧j<i*sz+sz
 ·rw [if_pos hb, q3]
  by_cases hc:off≤j-i*sz∧j-i*sz<off+ds.length
  ·rw[if_pos hc,if_pos (by omega),show j-i*sz-off=j-(i*sz+off) by omega]
  ·rw [if_neg hc, if_neg (by omega)]
   have:=e8 hl i (j-i*sz) e hi (by omega)
   rw[show i*sz+(j-i*sz)=j by omega] at this
   exact this.symm
 ·rw[if_neg hb,if_neg (by omega)]
section
variable {P:Program} {X:Cx} {nt:Nat} {s:St} {a:Act} {o:Oper} {dst:Option Nat} {aH:Nat}
theorem ew.EA {X Y:Cx} {v n:Nat} (h:Y.ρ = X.ρ):ew X Y v n n:=⟨Nat.le_refl _,fun u L hu=>.inl (by grind)⟩
theorem P5 (hs : eC X nt s a) {t : TypeId} {x v : Operand} {x' v' : bA} {sz : Nat} {e : eU} (ho : o.op = .store t x v) (hsz : cC P t = some sz) (hx : cr x = some x') (hv : cr v = some v') (hr : pg s.mem sz (x'.ev s.slots) (v'.ev s.slots) = some e) :
  cD P X s a o dst aH (.bC e):=by
 obtain⟨i,hi,P6⟩:=eD hsz
 have hp:=aU hs hx
 have hval:=aU hs hv
 have run:∀ (b off:Nat) (Y:Cx),a.eval x=.pointer (some ⟨b,off,none⟩)→(a.eval v).cells.size=sz→(storeCells ⟨b,off,none⟩ (a.eval v).cells.toList).run P X.w=.ok () Y.w→(execOp a.eval o).run P X.w=.ok .skip Y.w:=by
  intro b off Y h1 h2 h3
  simp[execOp,ho,Instr.storeAt,h1,iz,storeVar,sizeOf,typeInfo,hi,P6,h2,h3]
 unfold pg at hr
 split at hr
 ·rename_i lv sl aa j off new hq hc
  rw[hq] at hp
  obtain⟨L,hL,hp⟩:=hp
  have hcells:=pE hc hval
  split at hr
  ·rename_i hlen
   have hsize:(a.eval v).cells.size=sz:=by rw[←hlen,hcells.length,Array.length_toList]
   split at hr
   ·rename_i fN cs hg
    split at hr
    ·rename_i Cj hj
     split at hr
     ·rename_i hle
      cases hr
      have Cj:=beq_true.1 Cj
      have hj:=beq_true.1 hj
      subst Cj;subst hj
      obtain⟨L',Y,hL',hx',hρ,hm,hst⟩:=CN (P:=P) hs.mem hg (by rw[hlen];exact hle) hcells
      rw[hL] at hL';cases hL'
      refine .skip (Y:=Y) (run L.b (L.o+off) Y (by rw[hp];simp) hsize hst) hx' mN hm (ew.EA hρ)
     grind
    grind
   ·rename_i fN els hg
    split at hr
    ·rename_i Cj
     split at hr
     ·rename_i el ds ks hel hds
      split at hr
      ·rename_i hle
       obtain⟨hle,hks⟩:=hle
       cases hr
       have Cj:=beq_true.1 Cj
       subst Cj
       have Jw:=Ew hs.mem (ks:=ks) hds hcells fun p hp=>hp
       have CP:=Eu hs.mem ks
       have hx1:=pG hs.mem ks
       have hg1:aC (aX s.mem (di s.mem ks)) lv sl=some (.row fN els):=by rw[pF,if_neg hks,hg]
       have hlt:j<els.length:=(List.getElem?_eq_some_iff.1 hel).1
       obtain⟨L',hL',hE⟩:=hs.mem.dW _ _ _ hg
       have:X.ρ fN=some L':=hL'
       rw[hL] at this;cases this
       obtain⟨e1,e2,_,_⟩:=hE
       have hcap:0<L.cap:=by omega
       have zL:=e2 el (List.mem_of_getElem? hel)
       have hlen':ds.length=(a.eval v).cells.toList.length:=Jw.length
       have akU:(a.eval v).cells.toList.length=sz:=by grind
       have hfl:=P4 (ds:=ds) e2 hel (off:=off) (by omega)
       have agV:=aP e2
       have hjl:j*L.sz+L.sz≤els.length*L.sz:=by
        have:=Nat.mul_le_mul_right L.sz (show j+1≤els.length from hlt)<;>grind
       have hjc:els.length*L.sz≤L.cap*L.sz:=Nat.mul_le_mul_right _ e1
       obtain⟨Y,hx',hρ,hm,hst⟩:=CO (P:=P) CP (k:=j*L.sz+off) (els':=els.set j (splice el off ds)) (vs:=(a.eval v).cells.toList) hg1 hL hcap (by omega) (by
         rw[hfl,←hlen',oe _ _ _ (by omega)]
         exact Jw) (fun f hf=>by
         rcases List.mem_or_eq_of_mem_set hf with hf|rfl
         ·exact e2 f hf
         ·rw[jD _ _ _ (by omega),zL]) (by simpa using e1) (fun q y hq=>by
         rw[hfl,cY _ _ _ (by omega)] at hq
         split at hq
         ·exact .inl (by omega)
         ·exact .inr hq)
       refine .skip (Y:=Y) (run L.b (L.o+j*L.sz+off) Y hp hsize (by rw[Nat.add_assoc];exact hst)) (hx1.trans hx') mN ?_ (ew.EA hρ)
       show aA Y (aX s.mem (di s.mem ks++_)) s.aB
       rw[jd]
       exact hm
      grind
     grind
    grind
   ·cases hr
   ·cases hr
   grind
  grind
 grind
theorem Np {w:World} {F:Nat→Nat→Prop} {v:Value} {x:D} (h:tv v=some x):DR w F x v:=by
 cases v with
 | slice a n c =>
  simp[tv] at h
  split at h
  ·rename_i hv
   cases hv
   cases h
   exact .sl [] none 0 0 0 0 0 (fun _ _=>undef) rfl (Nat.le_refl _) (by simp) (fun h=>absurd h (by simp)) (by simp) (by simp) (by simp)
  all_goals first|(cases h;done)|simp_all
 |agg cs=>simp[tv] at h
 |tuple cs=>simp[tv] at h
 |func fn first cap=>simp[tv] at h
 |_=>simp only[tv] at h;injection h with h;subst h;exact DR.sc _ rfl
theorem kr {w:World} {F:Nat→Nat→Prop} : ∀ {vs:List Value} {xs:List D},iy vs=some xs→aq (DR w F) xs vs
 |[],xs,h=>by grind[iy,aq]
 | v :: r, xs, h => by
  simp[iy] at h
  split at h
  ·rename_i x xs' h1 h2
   cases h
   exact⟨Np h1,kr h2⟩
  grind
theorem gQ {w:World} {F:Nat→Nat→Prop} {z:List D} {Z:Array Value} {sz:Nat} (hz:aq (DR w F) z Z.toList) (hl:z.length=sz) (h0:0<sz) (n k:Nat) (hk:n*sz≤k) :
  aq (DR w F) (List.replicate n z).flatten ((madeCells Z k).toList.take (n*sz)):=by
 have hu:∀ e∈List.replicate n z,e.length=sz:=fun e he=>by rw[(List.mem_replicate.1 he).2];exact hl
 refine .tw (by rw[aP hu];simp[madeCells];omega) fun i x v hx hv=>?_
 have hi:i<n*sz:=by
  grind
 have hq:i / sz<n:=(Nat.div_lt_iff_lt_mul h0).2 hi
 have hg:=e8 hu (i / sz) (i % sz) z (by rw[List.getElem?_replicate,if_pos hq]) (Nat.mod_lt _ h0)
 rw[show i / sz*sz+i % sz=i by rw[Nat.mul_comm];exact Nat.div_add_mod i sz,hx] at hg
 have hZ:Z.size=sz:=by rw[←hl,hz.length,Array.length_toList]
 obtain⟨u,j7,hr⟩:=hz.get _ _ hg.symm
 have:v=u:=by
  simp only[madeCells,Array.getElem?_toList,Array.getElem?_map] at hv<;>grind
 grind
theorem nT {Z:Array Value} {k:Nat} : (madeCells Z k).toList.take k=(madeCells Z k).toList:=List.take_of_length_le (by simp[madeCells])
theorem GM (hs : eC X nt s a) {sz : Nat} {K : List (Nat × Nat)} : ∀ (ps : List (Nat × Operand)) (l : List (Nat × bA)) (els els' : List (List D)) (ks : List (Nat × Nat)) (C : Array Value),
  nF ps=some l→(∀ e∈els,e.length=sz)→aq (DR X.w (X.lz s.mem K).F) els.flatten C.toList→n9 s.mem s.slots sz els l=some (els',ks)→(∀ p∈ks,p∈K)→
   ∃ C',Instr.fill (fun i=>some (i*sz,sz)) C (ps.map fun p=>(p.1,a.eval p.2))=some C'∧aq (DR X.w (X.lz s.mem K).F) els'.flatten C'.toList∧(∀ e∈els',e.length=sz)∧els'.length=els.length
 |[],l,els,els',ks,C,hp,hl,hd,hf,hk=>by
  cases hp
  cases hf
  exact⟨C,rfl,hd,hl,rfl⟩
 | (i, x) :: ps, l, els, els', ks, C, hp, hl, hd, hf, hk => by
  simp[nF] at hp
  split at hp
  ·rename_i y ys h2 h3
   cases hp
   simp[n9] at hf
   split at hf
   ·rename_i e k1 he
    split at hf
    ·rename_i hc
     obtain⟨hc1,mP⟩:=hc
     split at hf
     ·rename_i Za k2 hf'
      injection hf with hf;injection hf with e1 e2;subst e1;subst e2
      unfold CB at he
      cases hcs:cellsOf (y.ev s.slots) with
      |none=>grind
      | some cs =>
       rw[hcs] at he
       have hv:=Ew hs.mem (ks:=K) he (pE hcs (aU hs h2)) fun p hp=>hk p (by simp[hp])
       have hsz:(a.eval x).cells.size=sz:=by rw[←hc1,hv.length,Array.length_toList]
       have hC:C.size=els.length*sz:=by rw[←aP hl,hd.length,Array.length_toList]
       have hle:i*sz+sz≤C.size:=by
        have:=Nat.mul_le_mul_right sz (show i+1≤els.length from mP)<;>grind
       obtain⟨C',h4,h5,h6,h7⟩:=GM hs ps ys (els.set i e) Za k2 ((a.eval x).cells.zipIdx.foldl (fun cs x=>match x with|(c,j)=>cs.setIfInBounds (i*sz+j) c) C) h3 (fun f hf=>by
         rcases List.mem_or_eq_of_mem_set hf with hf|rfl
         ·exact hl f hf
         ·exact hc1) (by
         rw[CJ _ _ C (by omega),qL hl i e mP hc1]
         exact hd.splice hv) hf' fun p hp=>hk p (by simp[hp])
       simp only[List.map_cons,Instr.fill,hsz,ne_eq,not_true_eq_false,decide_false,Bool.false_or]<;>grind
     grind
    grind
   grind
  grind
theorem qO {t e:TypeId} {n sz:Nat} {ps:Array (Nat×Operand)} {i:TypeInfo} {zv:Value} {C':Array Value} (ho:o.op=.buildSlice t n ps) (ht:P.underlying t=some (.slice e)) (hi:P.info? e=some i) (P6:i.size=sz) (hz:i.zero=some zv) (h24:n*sz≤16777216)
  (hf:Instr.fill (fun i=>some (i*sz,sz)) (madeCells zv.cells (n*sz)) (ps.toList.map fun p=>(p.1,a.eval p.2))=some C') :
  (execOp a.eval o).run P X.w=.ok (.value (.slice (some ⟨X.w.heap.size,0,none⟩) n n)) (X.w.alloc (.cells C' e)):=by
 have hn:¬(16777216<n*sz):=by omega
 have key:(Instr.buildSlice t n (ps.map fun (x:Nat×Operand)=>(x.1,a.eval x.2))).run P X.w=.ok (.slice (some ⟨X.w.heap.size,0,none⟩) n n) (X.w.alloc (.cells C' e)):=by
  unfold madeCells at hf
  by_cases h0:n*sz=0
  ·have e0 : Array.range 0 = #[] := rfl
   rw[h0,e0,Array.map_empty] at hf
   simp[Instr.buildSlice,run_underlying ht,sizeOf,typeInfo,hi,P6,h0,newRow,e0,hf]
  ·simp[Instr.buildSlice,run_underlying ht,sizeOf,typeInfo,hi,P6,hn,h0,zeroValue,hz,hf,newRow]
 simp[execOp,ho]
 simp[key]
end
end Go.bq
