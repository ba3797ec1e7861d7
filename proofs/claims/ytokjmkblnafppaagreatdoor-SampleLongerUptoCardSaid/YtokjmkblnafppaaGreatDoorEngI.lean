/- A part of the proof: EngH, EngI. -/
import Derived.Test.YtokjmkblnafppaaGreatDoorEngG
import Derived.Laws.Append
import Derived.Laws.AppendOwn
import Derived.Laws.CopyOwn
set_option linter.unusedVariables false
set_option linter.unusedSimpArgs false
namespace Go.bI
open Go Go.RowKit
def eC (X Y:Cx) (aR n n':Nat):Prop:=n≤n'∧∀ v L,Y.ρ v=some L→X.ρ v=some L∨v=aR∨(n≤v∧v<n')
theorem lV {X:Cx} {C:Array Value} {e:TypeId} {v:Nat} {L:Loc} {n:Nat} : eC X (X.alloc C e v L) v n n:=
 ⟨Nat.le_refl _, fun u M h => by
  change (if u=v then some L else X.ρ u)=some M at h
  by_cases hu:u=v
  ·exact .inr (.inl hu)
  ·rw[if_neg hu] at h;exact .inl h⟩
theorem eC.refl (X:Cx) (v n:Nat):eC X X v n n:=⟨Nat.le_refl _,fun _ _ h=>.inl h⟩
section
variable {X:Cx} {m:List (Tr bH)} {t:Tr Unit}
theorem nA (X:Cx) (C:Array Value) (e:TypeId) (v:Nat) (L:Loc):(X.alloc C e v L).w.heap[X.w.heap.size]?=some (.cells C e (0,0)):=heap_alloc_new _ _
theorem tP (X:Cx) (C:Array Value) (e:TypeId) (v:Nat) (L:Loc):(X.alloc C e v L).ρ v=some L:=if_pos rfl
theorem rj (h:aB X m t) {C:Array Value} {e:TypeId} {v:Nat} {L:Loc} (hv:X.ρ v=none) {k:Nat×Nat×Nat} {u:Nat} {M:Loc} (hk:Holds m t k u) (hu:(X.alloc C e v L).ρ u=some M) (hc:0<M.cap):M.b≠X.w.heap.size:=by
 obtain⟨M',gG,h2⟩:=h.cR hk
 change (if u=v then some L else X.ρ u)=some M at hu
 rw[if_neg (by rintro rfl;rw[hv] at gG;cases gG)] at hu
 rw[hu] at gG;injection gG with gG;subst gG
 have:=(h2 hc).1
 omega
theorem JN (h:aB X m t) {C:Array Value} {e:TypeId} {v:Nat} {cs:List AV} (lv sl:Nat) (hv:X.ρ v=none) (hc:az (VC X) cs C.toList) :
  aB (X.alloc C e v ⟨X.w.heap.size,0,C.size,1⟩) (bN m lv sl (some (.box v cs))) t:=by
 have hx:Ext X (X.alloc C e v ⟨X.w.heap.size,0,C.size,1⟩):=Ext.alloc h.mI h.low hv
 refine (h.alloc hv).add (L:=⟨X.w.heap.size,0,C.size,1⟩) (tP _ _ _ _ _) ⟨rfl,⟨h.fresh,C,e,nA _ _ _ _ _,by rw[hc.length];simp⟩,fun o ho=>?_,fun j x hj=>?_⟩ fun k u M hk _ hu hc _=>rj h hv hk hu hc
 ·exact Nat.lt_irrefl _ (h.mI _ _ ho)
 ·obtain ⟨u, hu, hr⟩ := hc.get _ _ hj
  refine⟨u,?_,hr.ext hx⟩
  rw[cell_of_row _ _ _ _ _ _ (nA X C e v _),Nat.zero_add]
  simpa using hu
theorem Dq (h:aB X m t) {C:Array Value} {e:TypeId} {v:Nat} {els:List (List D)} {sz cap:Nat} {vs:List Value} (lv sl:Nat) (hv:X.ρ v=none) (hl:∀ e∈els,e.length=sz) (hC:cap*sz≤C.size) (hle:els.length≤cap)
  (hvs:∀ (j:Nat) (u:Value),vs[j]?=some u→C[j]?=some u) (hd:az (DR X.w X.F) els.flatten vs) :
  aB (X.alloc C e v ⟨X.w.heap.size,0,sz,cap⟩) (bN m lv sl (some (.row v els))) t:=by
 have hx:Ext X (X.alloc C e v ⟨X.w.heap.size,0,sz,cap⟩):=Ext.alloc h.mI h.low hv
 refine (h.alloc hv).add (L:=⟨X.w.heap.size,0,sz,cap⟩) (tP _ _ _ _ _) ⟨hle,hl,fun _=>⟨⟨h.fresh,C,e,nA _ _ _ _ _,by simpa using hC⟩,fun o ho=>?_⟩,fun i f j x h1 h2=>?_⟩ fun k u M hk _ hu hc _=>rj h hv hk hu hc
 ·exact Nat.lt_irrefl _ (h.mI _ _ ho)
 ·have := tM (R := fun _ _ => True) (o := 0) (nA X C e v ⟨X.w.heap.size, 0, sz, cap⟩) hl (fun j u hj => by rw [Nat.zero_add]; exact hvs j u hj) (hd.mono fun _ _ => DR.ext hx) (fun _ _ => trivial)
  exact (this.2 i f j x h1 h2).2
theorem JO (h:aB X m t) {C:Array Value} {e:TypeId} {v:Nat} {els:List (List D)} {sz cap:Nat} {vs:List Value} (hv:X.ρ v=none) (hl:∀ e∈els,e.length=sz) (hC:cap*sz≤C.size) (hle:els.length≤cap)
  (hvs:∀ (j:Nat) (u:Value),vs[j]?=some u→C[j]?=some u) (hd:az (DR X.w X.F) els.flatten vs) :
  let Y:=(X.alloc C e v ⟨X.w.heap.size,0+els.length*sz,sz,cap-els.length⟩).more fun b o=>b=X.w.heap.size∧o<els.length*sz
  Ext X Y∧aB Y m (t.set v (some ()))∧eW Y.w Y.F Y.F els X.w.heap.size 0 sz∧eC X Y v 0 0:=by
 intro Y
 let Z:=X.alloc C e v ⟨X.w.heap.size,0+els.length*sz,sz,cap-els.length⟩
 have hz:Ext X Z:=Ext.alloc h.mI h.low hv
 have hm:Ext Z Y:=Ext.more fun b o hb=>by rw[hb.1];exact h.fresh
 have hmem:aB Y m t:=(h.alloc hv).more (fun b o hb=>⟨by rw[hb.1];exact h.fresh,by rw[hb.1];show _<(X.w.alloc _).heap.size;rw[World.size_alloc];omega⟩)
  fun k u M o hk hu hc hb=>rj (C:=C) (e:=e) (L:=⟨X.w.heap.size,0+els.length*sz,sz,cap-els.length⟩) h hv hk hu hc hb.1
 refine⟨hz.trans hm,hmem.Q0 (L:=⟨X.w.heap.size,0+els.length*sz,sz,cap-els.length⟩) (tP X C e v _) (fun hc=>⟨⟨h.fresh,C,e,nA X C e v ⟨X.w.heap.size,0+els.length*sz,sz,cap-els.length⟩,?_⟩,fun o ho hF=>?_⟩) (fun k u M hk _ hu hc _=>rj (C:=C) (e:=e) (L:=⟨X.w.heap.size,0+els.length*sz,sz,cap-els.length⟩) h hv hk hu hc),?_,⟨Nat.le_refl _,fun u M hu=>?_⟩⟩
 ·show 0 + els.length * sz + (cap - els.length) * sz ≤ C.size
  rw[Nat.zero_add,←Nat.add_mul,Nat.add_sub_cancel' hle]
  exact hC
 ·rcases hF with hF | hF
  ·exact Nat.lt_irrefl _ (h.mI _ _ hF)
  ·have := hF.2
   simp only at ho
   omega
 ·exact tM (o:=0) (nA X C e v ⟨X.w.heap.size,0+els.length*sz,sz,cap-els.length⟩) hl (fun j u hj=>by rw[Nat.zero_add];exact hvs j u hj) (hd.mono fun _ _=>DR.ext (hz.trans hm)) (fun k hk=>.inr ⟨rfl,by omega⟩)
 ·exact (lV (C:=C) (e:=e) (n:=0)).2 u M hu
def Cx.set (X:Cx) (g:Nat) (C:Array Value):Cx:={ X with w:=X.w.setRow g C }
theorem je {g:Nat} {C C':Array Value} {e:TypeId} (hg:X.w.heap[g]?=some (.cells C e (0,0))):(X.set g C').w.heap[g]?=some (.cells C' e (0,0)):=setRow_heap _ _ _ _ _ _ hg
theorem tQ {g:Nat} {C C':Array Value} {e:TypeId} (hg:X.w.heap[g]?=some (.cells C e (0,0))) (hb:¬X.old g) (hF:∀ o,X.F g o→C'[o]?=C[o]?):Ext X (X.set g C'):=by
 refine⟨rfl,(dO.refl _ _).setRow hb _,fun _ _ h=>h,fun b o h=>?_,fun _ _ h=>h,fun _ _ h=>.inl h⟩
 by_cases hbg:b=g
 ·subst hbg
  rw[cell_of_row _ _ _ _ _ _ (je hg),cell_of_row _ _ _ _ _ _ hg]
  exact hF o h
 ·have := setRow_other X.w g b C' hbg
  simp[World.cell?,Cx.set,this]
theorem yg (h:aB X m t) {g:Nat} {C C':Array Value} {e:TypeId} (hg:X.w.heap[g]?=some (.cells C e (0,0))) (hb:¬X.old g) (hF:∀ o,X.F g o→C'[o]?=C[o]?)
  (hk:∀ k v L,Holds m t k v→X.ρ v=some L→0<L.cap→L.b≠g):aB (X.set g C') m t:=
 h.move (tQ hg hb hF) (fun k v L a b c=>setRow_other X.w g L.b C' (hk k v L a b c)) (fun _ _ _ _ _ _ _ h=>h) fun b o hb=>by
  have:=h.mI b o hb
  have hs:(X.w.setRow g C').heap.size=X.w.heap.size:=by simp[World.setRow]
  show b<(X.w.setRow g C').heap.size
  omega
end
end Go.bI
namespace Go.bI
open Go Go.RowKit
def fW.val:fW→AV
 |.bS e=>e.val
 |.all v _ _ _=>v
def cU (P:Program) (X:Cx) (s:St) (a:Act) (o:Oper) (dst:Option Nat) (aR:Nat) (r:fW):Prop:=
 ∀ (K:Act→World→Prop) (Q:Exit→Act→World→Prop),
  (∀ Y v,Ext X Y→VR Y r.val v→aB Y (s.app dst r).mem (s.app dst r).aE→eC X Y aR s.nv (s.app dst r).nv→K (a.put o.dst v) Y.w)→Oper.wp P o a X.w K Q
section
variable {P:Program} {X:Cx} {nt:Nat} {s:St} {a:Act} {o:Oper} {dst:Option Nat} {aR:Nat}
theorem cU.value {r:fW} {Y:Cx} {v:Value} (hrun:(execOp a.eval o).run P X.w=.ok (.value v) Y.w) (hx:Ext X Y) (hv:VR Y r.val v) (hm:aB Y (s.app dst r).mem (s.app dst r).aE) (hd:eC X Y aR s.nv (s.app dst r).nv) :
  cU P X s a o dst aR r:=by
 intro K Q h
 unfold Oper.wp
 rw[hrun]
 exact h Y v hx hv hm hd
theorem cU.skip {r:fW} {Y:Cx} (hrun:(execOp a.eval o).run P X.w=.ok .skip Y.w) (hx:Ext X Y) (hv:VR Y r.val undef) (hm:aB Y (s.app dst r).mem (s.app dst r).aE) (hd:eC X Y aR s.nv (s.app dst r).nv) :
  cU P X s a o dst aR r:=by
 intro K Q h
 unfold Oper.wp
 rw[hrun]
 exact h Y undef hx hv hm hd
theorem cU.quiet {val:AV} {rd:List (Nat×Nat×Nat)} (hs:eL X nt s a) (h:Quiet P X o a val):cU P X s a o dst aR (.bS { val,cK:=[],cx:=[],rd }):=by
 obtain⟨v,hrun,hv⟩:=h
 exact .value hrun (Ext.refl X) hv hs.mem (eC.refl _ _ _)
theorem iK {t:TypeId} {z:List Value} (h:l7 P t=some z):∃ i v,P.info? t=some i∧i.zero=some v∧z=v.cells.toList:=by
 unfold l7 at h
 cases hi:P.info? t with
 |none=>rw[hi] at h;cases h
 |some i=>
  rw[hi] at h
  simp only[Option.bind_some] at h
  cases hz:i.zero with
  |none=>rw[hz] at h;cases h
  |some v=>rw[hz] at h;simp only[Option.map_some] at h;injection h with h;exact⟨i,v,rfl,hz,h.symm⟩
theorem B0 (hs:eL X nt s a) (hv:X.ρ aR=none) {d:Nat} {C:Array Value} {e:TypeId} {cs:List AV} {rd:List (Nat×Nat×Nat)}
  (hrun:(execOp a.eval o).run P X.w=.ok (.value (.pointer (some ⟨X.w.heap.size,0,none⟩))) (X.w.alloc (.cells C e))) (hc:az (VC X) cs C.toList) :
  cU P X s a o dst aR (.bS { val:=.ptr (s.mem.length-1) d aR 0 0,cK:=[(s.mem.length-1,d,some (.box aR cs))],cx:=[],rd }):=
 .value (Y:=X.alloc C e aR ⟨X.w.heap.size,0,C.size,1⟩) hrun (Ext.alloc hs.mem.mI hs.mem.low hv) ⟨_,tP _ _ _ _ _,by simp⟩ (JN hs.mem _ _ hv hc) lV
theorem Nf (hs:eL X nt s a) (hv:X.ρ aR=none) {t:TypeId} {z:List Value} {cs:List AV} {d:Nat} {rd:List (Nat×Nat×Nat)} (ho:o.op=.alloc t) (hz:l7 P t=some z) (hc:eS z=some cs) :
  cU P X s a o dst aR (.bS { val:=.ptr (s.mem.length-1) d aR 0 0,cK:=[(s.mem.length-1,d,some (.box aR cs))],cx:=[],rd }):=by
 obtain⟨i,v,hi,Bp,rfl⟩:=iK hz
 refine B0 hs hv (C:=v.cells) (e:=t) ?_ (kF hc)
 simp[execOp,ho,Instr.alloc,zeroValue,typeInfo,hi,Bp,newVar,newRow]
theorem UZ (hs:eL X nt s a) (hv:X.ρ aR=none) {t:TypeId} {x:Operand} {x':bR} {cs:List AV} {d:Nat} {rd:List (Nat×Nat×Nat)} (ho:o.op=.box t x) (hx:cL x=some x') (hc:cellsOf (x'.ev s.slots)=some cs) :
  cU P X s a o dst aR (.bS { val:=.ptr (s.mem.length-1) d aR 0 0,cK:=[(s.mem.length-1,d,some (.box aR cs))],cx:=[],rd }):=by
 refine B0 hs hv (C:=(a.eval x).cells) (e:=t) ?_ (ot hc (bw hs hx))
 simp[execOp,ho,Instr.box,newVar,newRow]
theorem az.one {X:Cx} : ∀ {cs:List AV} {vs:List Value},az (VC X) cs vs→∀ v∈vs,v.oneCell'=true
 |[],[],_,v,h=>by cases h
 |_ :: _,_ :: _,h,v,hv=>by
  rcases List.mem_cons.1 hv with rfl|hv
  ·exact VC.one h.1
  ·exact az.one h.2 v hv
 |[],_ :: _,h,_,_=>h.elim
 |_ :: _,[],h,_,_=>h.elim
theorem az.Rc {w:World} {F:Nat→Nat→Prop} : ∀ {cs:List D} {vs:List Value},az (DR w F) cs vs→∀ v∈vs,v.oneCell'=true
 |[],[],_,v,h=>by cases h
 |_ :: _,_ :: _,h,v,hv=>by
  rcases List.mem_cons.1 hv with rfl|hv
  ·exact DR.one h.1
  ·exact az.Rc h.2 v hv
 |[],_ :: _,h,_,_=>h.elim
 |_ :: _,[],h,_,_=>h.elim
theorem lQ {C:Array Value} {k:Nat} {vs:List Value} (h:k+vs.length≤C.size) (j:Nat):(C.toList.take k++vs++C.toList.drop (k+vs.length)).toArray[j]?=if k≤j∧j<k+vs.length then vs[j-k]? else C[j]?:=by
 have:=cQ C.toList vs k (by simpa using h) j
 unfold splice at this
 rw[List.getElem?_toArray,this]
 simp
theorem K1 {X:Cx} {m:List (Tr bH)} {t:Tr Unit} (h:aB X m t) {lv sl af:Nat} {cells:List AV} (hg:aN m lv sl=some (.box af cells)) :
  ∃ L C e,X.ρ af=some L∧L.cap=1∧X.w.heap[L.b]?=some (.cells C e (0,0))∧¬X.old L.b∧L.o+cells.length≤C.size∧(∀ o,¬X.F L.b o)∧
   (∀ k v M,Holds (bN m lv sl none) t k v→X.ρ v=some M→0<M.cap→M.b≠L.b)∧∀ j x,cells[j]?=some x→∃ v,C[L.o+j]?=some v∧VC X x v:=by
 obtain⟨L,hL,h1,⟨h2,C,e,h3,h4⟩,h5,h6⟩:=h.ec _ _ _ hg
 refine⟨L,C,e,hL,h1,h3,h2,h4,h5,fun k v M hk hv hc=>?_,fun j x hj=>?_⟩
 ·have hh : Holds m t k v ∧ k ≠ cg lv sl := by
   rcases hk with⟨cl,cX,e',rfl,he',jd⟩|⟨rfl,he'⟩
   ·rw [bX] at he'
    split at he'
    ·cases he'
    ·rename_i hn
     refine⟨.inl ⟨cl,cX,e',rfl,he',jd⟩,fun hq=>?_⟩
     obtain⟨rfl,rfl⟩:=kO hq
     apply hn
     refine⟨rfl,rfl,?_⟩
     unfold aN at he'
     rcases Nat.lt_or_ge cl m.length with hl|hl
     ·exact hl
     ·rw[List.getElem?_eq_none hl] at he';cases he'
   ·exact⟨.inr ⟨rfl,he'⟩,fun hq=>dI hq.symm⟩
  exact h.apart _ _ _ _ _ _ hh.1 (.inl ⟨lv,sl,_,rfl,hg,rfl,rfl⟩) hh.2 hv hL hc (by omega)
 ·obtain ⟨v, hv, hr⟩ := h6 j x hj
  rw[cell_of_row _ _ _ _ _ _ h3] at hv
  exact⟨v,hv,hr⟩
theorem lW {X:Cx} {m:List (Tr bH)} {t:Tr Unit} (h:aB X m t) {lv sl af:Nat} {els:List (List D)} (hg:aN m lv sl=some (.row af els)) {L:Loc} (hL:X.ρ af=some L) (hc0:0<L.cap) :
  ∃ C e,X.w.heap[L.b]?=some (.cells C e (0,0))∧¬X.old L.b∧L.o+L.cap*L.sz≤C.size∧(∀ o,¬X.F L.b o)∧els.length≤L.cap∧(∀ e∈els,e.length=L.sz)∧
   (∀ k v M,Holds (bN m lv sl none) t k v→X.ρ v=some M→0<M.cap→M.b≠L.b)∧∀ i e j x,els[i]?=some e→e[j]?=some x→∃ v,C[L.o+i*L.sz+j]?=some v∧DR X.w X.F x v:=by
 obtain⟨L',hL',h1,h2,h3,h4⟩:=h.ec _ _ _ hg
 have:X.ρ af=some L':=hL'
 rw[hL] at this;injection this with this;subst this
 obtain⟨⟨h5,C,e,h6,h7⟩,h8⟩:=h3 hc0
 refine⟨C,e,h6,h5,h7,h8,h1,h2,fun k v M hk hv hc=>?_,fun i f j x hi hj=>?_⟩
 ·have hh : Holds m t k v ∧ k ≠ cg lv sl := by
   rcases hk with⟨cl,cX,e',rfl,he',jd⟩|⟨rfl,he'⟩
   ·rw [bX] at he'
    split at he'
    ·cases he'
    ·rename_i hn
     refine⟨.inl ⟨cl,cX,e',rfl,he',jd⟩,fun hq=>?_⟩
     obtain⟨rfl,rfl⟩:=kO hq
     apply hn
     refine⟨rfl,rfl,?_⟩
     unfold aN at he'
     rcases Nat.lt_or_ge cl m.length with hl|hl
     ·exact hl
     ·rw[List.getElem?_eq_none hl] at he';cases he'
   ·exact⟨.inr ⟨rfl,he'⟩,fun hq=>dI hq.symm⟩
  exact h.apart _ _ _ _ _ _ hh.1 (.inl ⟨lv,sl,_,rfl,hg,rfl,rfl⟩) hh.2 hv hL hc hc0
 ·obtain ⟨v, hv, hr⟩ := h4 i f j x hi hj
  rw[cell_of_row _ _ _ _ _ _ h6] at hv
  exact⟨v,hv,hr⟩
theorem aB.reset {X:Cx} {m:List (Tr bH)} {t:Tr Unit} {lv sl:Nat} {e:bH} {L:Loc} (h:aB X (bN m lv sl none) t) (hL:X.ρ e.af=some L) (hE:wv X e L)
  (hap:∀ k v M,Holds (bN m lv sl none) t k v→X.ρ v=some M→0<M.cap→0<L.cap→M.b≠L.b):aB X (bN m lv sl (some e)) t:=
 (h.add (lv := lv) (sl := sl) hL hE fun k v M a _ b c d => hap k v M a b c d).congr (fun cl cX => by
  rw[bX,bX,bX]
  have hlen:(bN m lv sl none).length=m.length:=by simp[bN]
  rw[hlen]
  split<;>rfl) fun _=>rfl
theorem B1 {X:Cx} {m:List (Tr bH)} {t:Tr Unit} (h:aB X m t) {lv sl af off:Nat} {cells new:List AV} {vs:List Value} (hg:aN m lv sl=some (.box af cells)) (hoff:off+new.length≤cells.length) (hn:az (VC X) new vs) :
  ∃ L Y,X.ρ af=some L∧Ext X Y∧Y.ρ = X.ρ∧aB Y (bN m lv sl (some (.box af (splice cells off new)))) t∧(storeCells ⟨L.b,L.o+off,none⟩ vs).run P X.w=.ok () Y.w:=by
 obtain⟨L,C,e,hL,h1,h2,h3,h4,h5,h6,h7⟩:=K1 h hg
 have hlen:=hn.length
 have hst:=run_storeCells_at P L.b (L.o+off) e vs 0 C X.w h2 (by omega) (az.one hn)
 simp only[Nat.add_zero] at hst
 let C':=(C.toList.take (L.o+off)++vs++C.toList.drop (L.o+off+vs.length)).toArray
 have tR:∀ j,C'[j]?=if L.o+off≤j∧j<L.o+off+vs.length then vs[j-(L.o+off)]? else C[j]?:=lQ (by omega)
 have hx:Ext X (X.set L.b C'):=tQ h2 h3 fun o ho=>absurd ho (h5 o)
 refine⟨L,X.set L.b C',hL,hx,rfl,?_,hst⟩
 refine (yg (h.erase lv sl) h2 h3 (fun o ho=>absurd ho (h5 o)) h6).reset (e:=.box af (splice cells off new)) (L:=L) hL ⟨h1,⟨h3,C',e,je h2,?_⟩,h5,fun j x hj=>?_⟩ fun k v M a b c _=>h6 k v M a b c
 ·rw [jM _ _ _ hoff]
  have hs:C'.size=C.size:=by
   show (C.toList.take (L.o+off)++vs++C.toList.drop (L.o+off+vs.length)).toArray.size=C.size
   simp
   omega
  omega
 ·rw [cQ _ _ _ hoff] at hj
  rw[cell_of_row _ _ _ _ _ _ (je h2),tR]
  by_cases hb:off≤j∧j<off+new.length
  ·rw [if_pos hb] at hj
   obtain⟨v,hv,hr⟩:=hn.get _ _ hj
   rw[if_pos (by omega),show L.o+j-(L.o+off)=j-off by omega]
   exact⟨v,hv,hr.ext hx⟩
  ·rw [if_neg hb] at hj
   obtain⟨v,hv,hr⟩:=h7 j x hj
   rw[if_neg (by omega)]
   exact⟨v,hv,hr.ext hx⟩
theorem B2 {X:Cx} {m:List (Tr bH)} {t:Tr Unit} (h:aB X m t) {lv sl af k:Nat} {els els':List (List D)} {vs:List Value} {L:Loc} (hg:aN m lv sl=some (.row af els)) (hL:X.ρ af=some L) (hc:0<L.cap)
  (hk:k+vs.length≤L.cap*L.sz) (hn:az (DR X.w X.F) ((els'.flatten.drop k).take vs.length) vs) (hl':∀ e∈els',e.length=L.sz) (hle:els'.length≤L.cap)
  (hold:∀ j x,els'.flatten[j]?=some x→(k≤j∧j<k+vs.length)∨els.flatten[j]?=some x) :
  ∃ Y,Ext X Y∧Y.ρ = X.ρ∧aB Y (bN m lv sl (some (.row af els'))) t∧(storeCells ⟨L.b,L.o+k,none⟩ vs).run P X.w=.ok () Y.w:=by
 obtain⟨C,e,h2,h3,h4,h5,h8,h9,h6,h7⟩:=lW h hg hL hc
 have hst:=run_storeCells_at P L.b (L.o+k) e vs 0 C X.w h2 (by omega) (az.Rc hn)
 simp only[Nat.add_zero] at hst
 let C':=(C.toList.take (L.o+k)++vs++C.toList.drop (L.o+k+vs.length)).toArray
 have tR:∀ j,C'[j]?=if L.o+k≤j∧j<L.o+k+vs.length then vs[j-(L.o+k)]? else C[j]?:=lQ (by omega)
 have hx:Ext X (X.set L.b C'):=tQ h2 h3 fun o ho=>absurd ho (h5 o)
 have hs:C'.size=C.size:=by
  show (C.toList.take (L.o+k)++vs++C.toList.drop (L.o+k+vs.length)).toArray.size=C.size
  simp
  omega
 refine⟨X.set L.b C',hx,rfl,?_,hst⟩
 refine (yg (h.erase lv sl) h2 h3 (fun o ho=>absurd ho (h5 o)) h6).reset (e:=.row af els') (L:=L) hL ⟨hle,hl',fun _=>⟨⟨h3,C',e,je h2,by omega⟩,h5⟩,fun i f j x hi hj=>?_⟩ fun k v M a b c _=>h6 k v M a b c
 have Dl:j<L.sz:=by rw[←hl' f (List.mem_of_getElem? hi)];exact (List.getElem?_eq_some_iff.1 hj).1
 have hf:=fu hl' i j f hi Dl
 rw[hj] at hf
 rw[cell_of_row _ _ _ _ _ _ (je h2),tR]
 by_cases hb:k≤i*L.sz+j∧i*L.sz+j<k+vs.length
 ·rw [if_pos (by omega)]
  have hq:((els'.flatten.drop k).take vs.length)[i*L.sz+j-k]?=some x:=by
   rw[List.getElem?_take,if_pos (by omega),List.getElem?_drop,show k+(i*L.sz+j-k)=i*L.sz+j by omega]
   exact hf
  obtain⟨v,hv,hr⟩:=hn.get _ _ hq
  rw[show L.o+i*L.sz+j-(L.o+k)=i*L.sz+j-k by omega]
  exact⟨v,hv,hr.ext hx⟩
 ·rw [if_neg (by omega)]
  have hq:=(hold _ _ hf).resolve_left hb
  have hsz:0<L.sz:=by omega
  have hlt:i*L.sz+j<els.length*L.sz:=by rw[←bf h9];exact (List.getElem?_eq_some_iff.1 hq).1
  have hi':i<els.length:=by
   rcases Nat.lt_or_ge i els.length with hi'|hi'
   ·exact hi'
   ·have := Nat.mul_le_mul_right L.sz hi'
    omega
  have hg2:=fu h9 i j _ (List.getElem?_eq_getElem hi') Dl
  rw[hq] at hg2
  obtain⟨v,hv,hr⟩:=h7 i _ j x (List.getElem?_eq_getElem hi') hg2.symm
  exact⟨v,hv,hr.ext hx⟩
end
end Go.bI
