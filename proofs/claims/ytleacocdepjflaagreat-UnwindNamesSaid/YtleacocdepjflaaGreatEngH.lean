/- New blocks, blocks written, appends: what becomes of the relation. -/
import Derived.Test.YtleacocdepjflaaGreatEngG
import Derived.Laws.Append
import Derived.Laws.AppendOwn
import Derived.Laws.CopyOwn
namespace Go.Eng
open Go Go.RowKit
def DomOK (X Y:Cx) (nvi n n':Nat):Prop:=n≤n'∧∀ v L,Y.ρ v=some L→X.ρ v=some L∨v=nvi∨(n≤v∧v<n')
theorem alloc_dom {X:Cx} {C:Array Value} {e:TypeId} {v:Nat} {L:Loc} {n:Nat} : DomOK X (X.alloc C e v L) v n n:=
 ⟨Nat.le_refl _, fun u M h => by
  change (if u=v then some L else X.ρ u)=some M at h
  by_cases hu:u=v
  ·exact .inr (.inl hu)
  ·rw[if_neg hu] at h;exact .inl h⟩
theorem DomOK.refl (X:Cx) (v n:Nat):DomOK X X v n n:=⟨Nat.le_refl _,fun _ _ h=>.inl h⟩
section
variable {X:Cx} {m:List (Tr Ent)} {t:Tr Unit}
theorem new_heap (X:Cx) (C:Array Value) (e:TypeId) (v:Nat) (L:Loc):(X.alloc C e v L).w.heap[X.w.heap.size]?=some (.cells C e (0,0)):=heap_alloc_new _ _
theorem new_ρ (X:Cx) (C:Array Value) (e:TypeId) (v:Nat) (L:Loc):(X.alloc C e v L).ρ v=some L:=if_pos rfl
theorem new_apart (h:MemOK X m t) {C:Array Value} {e:TypeId} {v:Nat} {L:Loc} (hv:X.ρ v=none) {k:Nat×Nat×Nat} {u:Nat} {M:Loc} (hk:Holds m t k u) (hu:(X.alloc C e v L).ρ u=some M) (hc:0<M.cap):M.b≠X.w.heap.size:=by
 obtain⟨M',hM',h2⟩:=h.holds_ρ hk
 change (if u=v then some L else X.ρ u)=some M at hu
 rw[if_neg (by rintro rfl;rw[hv] at hM';cases hM')] at hu
 rw[hu] at hM';injection hM' with hM';subst hM'
 have:=(h2 hc).1
 omega
theorem new_box (h:MemOK X m t) {C:Array Value} {e:TypeId} {v:Nat} {cs:List AV} (lv sl:Nat) (hv:X.ρ v=none) (hc:All2 (VC X) cs C.toList) :
  MemOK (X.alloc C e v ⟨X.w.heap.size,0,C.size,1⟩) (memSet m lv sl (some (.box v cs))) t:=by
 have hx:Ext X (X.alloc C e v ⟨X.w.heap.size,0,C.size,1⟩):=Ext.alloc h.inF h.low hv
 refine (h.alloc hv).add (L:=⟨X.w.heap.size,0,C.size,1⟩) (new_ρ _ _ _ _ _) ⟨rfl,⟨h.fresh,C,e,new_heap _ _ _ _ _,by have:=hc.length;simp at this ⊢;omega⟩,fun o ho=>?_,fun j x hj=>?_⟩ fun k u M hk _ hu hc _=>new_apart h hv hk hu hc
 ·exact Nat.lt_irrefl _ (h.inF _ _ ho)
 ·obtain ⟨u, hu, hr⟩ := hc.get _ _ hj
  refine⟨u,?_,hr.ext hx⟩
  rw[cell_of_row _ _ _ _ _ _ (new_heap X C e v _),Nat.zero_add]
  simpa using hu
theorem new_row (h:MemOK X m t) {C:Array Value} {e:TypeId} {v:Nat} {els:List (List D)} {sz cap:Nat} {vs:List Value} (lv sl:Nat) (hv:X.ρ v=none) (hl:∀ e∈els,e.length=sz) (hC:cap*sz≤C.size) (hle:els.length≤cap)
  (hvs:∀ (j:Nat) (u:Value),vs[j]?=some u→C[j]?=some u) (hd:All2 (DR X.w X.F) els.flatten vs) :
  MemOK (X.alloc C e v ⟨X.w.heap.size,0,sz,cap⟩) (memSet m lv sl (some (.row v els))) t:=by
 have hx:Ext X (X.alloc C e v ⟨X.w.heap.size,0,sz,cap⟩):=Ext.alloc h.inF h.low hv
 refine (h.alloc hv).add (L:=⟨X.w.heap.size,0,sz,cap⟩) (new_ρ _ _ _ _ _) ⟨hle,hl,fun _=>⟨⟨h.fresh,C,e,new_heap _ _ _ _ _,by simpa using hC⟩,fun o ho=>?_⟩,fun i f j x h1 h2=>?_⟩ fun k u M hk _ hu hc _=>new_apart h hv hk hu hc
 ·exact Nat.lt_irrefl _ (h.inF _ _ ho)
 ·have := lies_of_flat (R := fun _ _ => True) (o := 0) (new_heap X C e v ⟨X.w.heap.size, 0, sz, cap⟩) hl (fun j u hj => by rw [Nat.zero_add]; exact hvs j u hj) (hd.mono fun _ _ => DR.ext hx) (fun _ _ => trivial)
  exact (this.2 i f j x h1 h2).2
theorem new_tip (h:MemOK X m t) {C:Array Value} {e:TypeId} {v:Nat} {els:List (List D)} {sz cap:Nat} {vs:List Value} (hv:X.ρ v=none) (hl:∀ e∈els,e.length=sz) (hC:cap*sz≤C.size) (hle:els.length≤cap)
  (hvs:∀ (j:Nat) (u:Value),vs[j]?=some u→C[j]?=some u) (hd:All2 (DR X.w X.F) els.flatten vs) :
  let Y:=(X.alloc C e v ⟨X.w.heap.size,0+els.length*sz,sz,cap-els.length⟩).more fun b o=>b=X.w.heap.size∧o<els.length*sz
  Ext X Y∧MemOK Y m (t.set v (some ()))∧Lies Y.w Y.F Y.F els X.w.heap.size 0 sz∧DomOK X Y v 0 0:=by
 intro Y
 let Z:=X.alloc C e v ⟨X.w.heap.size,0+els.length*sz,sz,cap-els.length⟩
 have hz:Ext X Z:=Ext.alloc h.inF h.low hv
 have hm:Ext Z Y:=Ext.more fun b o hb=>by rw[hb.1];exact h.fresh
 have hmem:MemOK Y m t:=(h.alloc hv).more (fun b o hb=>⟨by rw[hb.1];exact h.fresh,by rw[hb.1];show _<(X.w.alloc _).heap.size;rw[World.size_alloc];omega⟩)
  fun k u M o hk hu hc hb=>new_apart (C:=C) (e:=e) (L:=⟨X.w.heap.size,0+els.length*sz,sz,cap-els.length⟩) h hv hk hu hc hb.1
 refine⟨hz.trans hm,hmem.addT (L:=⟨X.w.heap.size,0+els.length*sz,sz,cap-els.length⟩) (new_ρ X C e v _) (fun hc=>⟨⟨h.fresh,C,e,new_heap X C e v ⟨X.w.heap.size,0+els.length*sz,sz,cap-els.length⟩,?_⟩,fun o ho hF=>?_⟩) (fun k u M hk _ hu hc _=>new_apart (C:=C) (e:=e) (L:=⟨X.w.heap.size,0+els.length*sz,sz,cap-els.length⟩) h hv hk hu hc),?_,⟨Nat.le_refl _,fun u M hu=>?_⟩⟩
 ·show 0 + els.length * sz + (cap - els.length) * sz ≤ C.size
  rw[Nat.zero_add,←Nat.add_mul,Nat.add_sub_cancel' hle]
  exact hC
 ·rcases hF with hF | hF
  ·exact Nat.lt_irrefl _ (h.inF _ _ hF)
  ·have := hF.2
   simp only at ho
   omega
 ·exact lies_of_flat (o:=0) (new_heap X C e v ⟨X.w.heap.size,0+els.length*sz,sz,cap-els.length⟩) hl (fun j u hj=>by rw[Nat.zero_add];exact hvs j u hj) (hd.mono fun _ _=>DR.ext (hz.trans hm)) (fun k hk=>.inr ⟨rfl,by omega⟩)
 ·exact (alloc_dom (C:=C) (e:=e) (n:=0)).2 u M hu
def Cx.set (X:Cx) (g:Nat) (C:Array Value):Cx:={ X with w:=X.w.setRow g C }
theorem set_heap {g:Nat} {C C':Array Value} {e:TypeId} (hg:X.w.heap[g]?=some (.cells C e (0,0))):(X.set g C').w.heap[g]?=some (.cells C' e (0,0)):=setRow_heap _ _ _ _ _ _ hg
theorem set_ext {g:Nat} {C C':Array Value} {e:TypeId} (hg:X.w.heap[g]?=some (.cells C e (0,0))) (hb:¬X.old g) (hF:∀ o,X.F g o→C'[o]?=C[o]?):Ext X (X.set g C'):=by
 refine⟨rfl,(Stays.refl _ _).setRow hb _,fun _ _ h=>h,fun b o h=>?_,fun _ _ h=>h,fun _ _ h=>.inl h⟩
 by_cases hbg:b=g
 ·subst hbg
  rw[cell_of_row _ _ _ _ _ _ (set_heap hg),cell_of_row _ _ _ _ _ _ hg]
  exact hF o h
 ·have := setRow_other X.w g b C' hbg
  simp[World.cell?,Cx.set,this]
theorem set_mem (h:MemOK X m t) {g:Nat} {C C':Array Value} {e:TypeId} (hg:X.w.heap[g]?=some (.cells C e (0,0))) (hb:¬X.old g) (hF:∀ o,X.F g o→C'[o]?=C[o]?)
  (hk:∀ k v L,Holds m t k v→X.ρ v=some L→0<L.cap→L.b≠g):MemOK (X.set g C') m t:=
 h.move (set_ext hg hb hF) (fun k v L a b c=>setRow_other X.w g L.b C' (hk k v L a b c)) (fun _ _ _ _ _ _ _ h=>h) fun b o hb=>by
  have:=h.inF b o hb
  have hs:(X.w.setRow g C').heap.size=X.w.heap.size:=by simp[World.setRow]
  show b<(X.w.setRow g C').heap.size
  omega
end
end Go.Eng
