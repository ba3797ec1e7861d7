/- The operations that change memory, each against the model. -/
import Derived.Test.YtleacocdepjflaaGreatEngH
namespace Go.Eng
open Go Go.RowKit
def Res.val:Res→AV
 |.eff e=>e.val
 |.all v _ _ _ _ _=>v
def After (P:Program) (X:Cx) (s:St) (a:Act) (o:Oper) (dst:Option Nat) (nvi:Nat) (r:Res):Prop:=
 ∀ (K:Act→World→Prop) (Q:Exit→Act→World→Prop),
  (∀ Y v,Ext X Y→VR Y r.val v→MemOK Y (s.app dst r).mem (s.app dst r).tips→DomOK X Y nvi s.nv (s.app dst r).nv→K (a.put o.dst v) Y.w)→Oper.wp P o a X.w K Q
section
variable {P:Program} {X:Cx} {nt:NT} {s:St} {a:Act} {o:Oper} {dst:Option Nat} {nvi:Nat}
theorem After.value {r:Res} {Y:Cx} {v:Value} (hrun:(execOp a.eval o).run P X.w=.ok (.value v) Y.w) (hx:Ext X Y) (hv:VR Y r.val v) (hm:MemOK Y (s.app dst r).mem (s.app dst r).tips) (hd:DomOK X Y nvi s.nv (s.app dst r).nv) :
  After P X s a o dst nvi r:=by
 intro K Q h
 unfold Oper.wp
 rw[hrun]
 exact h Y v hx hv hm hd
theorem After.skip {r:Res} {Y:Cx} (hrun:(execOp a.eval o).run P X.w=.ok .skip Y.w) (hx:Ext X Y) (hv:VR Y r.val undef) (hm:MemOK Y (s.app dst r).mem (s.app dst r).tips) (hd:DomOK X Y nvi s.nv (s.app dst r).nv) :
  After P X s a o dst nvi r:=by
 intro K Q h
 unfold Oper.wp
 rw[hrun]
 exact h Y undef hx hv hm hd
theorem After.quiet {val:AV} {rd:List (Nat×Nat×Nat)} (hs:Sim X nt s a) (h:Quiet P X o a val):After P X s a o dst nvi (.eff { val,upd:=[],tip:=[],rd }):=by
 obtain⟨v,hrun,hv⟩:=h
 exact .value hrun (Ext.refl X) hv hs.mem (DomOK.refl _ _ _)
theorem zeroP_run {t:TypeId} {z:List Value} (h:zeroP P t=some z):∃ i v,P.info? t=some i∧i.zero=some v∧z=v.cells.toList:=by
 unfold zeroP at h
 cases hi:P.info? t with
 |none=>rw[hi] at h;cases h
 |some i=>
  rw[hi] at h
  simp only[Option.bind_some] at h
  cases hz:i.zero with
  |none=>rw[hz] at h;cases h
  |some v=>rw[hz] at h;simp only[Option.map_some] at h;injection h with h;exact⟨i,v,rfl,hz,h.symm⟩
theorem box_after {lq:Nat} (hs:Sim X nt s a) (hv:X.ρ nvi=none) {d:Nat} {C:Array Value} {e:TypeId} {cs:List AV} {rd:List (Nat×Nat×Nat)}
  (hrun:(execOp a.eval o).run P X.w=.ok (.value (.pointer (some ⟨X.w.heap.size,0,none⟩))) (X.w.alloc (.cells C e))) (hc:All2 (VC X) cs C.toList) :
  After P X s a o dst nvi (.eff { val:=.ptr lq d nvi 0 0,upd:=[(lq,d,some (.box nvi cs))],tip:=[],rd }):=
 .value (Y:=X.alloc C e nvi ⟨X.w.heap.size,0,C.size,1⟩) hrun (Ext.alloc hs.mem.inF hs.mem.low hv) ⟨_,new_ρ _ _ _ _ _,by simp⟩ (new_box hs.mem _ _ hv hc) alloc_dom
theorem alloc_ok {lq:Nat} (hs:Sim X nt s a) (hv:X.ρ nvi=none) {t:TypeId} {z:List Value} {cs:List AV} {d:Nat} {rd:List (Nat×Nat×Nat)} (ho:o.op=.alloc t) (hz:zeroP P t=some z) (hc:constCells z=some cs) :
  After P X s a o dst nvi (.eff { val:=.ptr lq d nvi 0 0,upd:=[(lq,d,some (.box nvi cs))],tip:=[],rd }):=by
 obtain⟨i,v,hi,hiz,rfl⟩:=zeroP_run hz
 refine box_after hs hv (C:=v.cells) (e:=t) ?_ (constCells_ok hc)
 simp[execOp,ho,Instr.alloc,zeroValue,typeInfo,hi,hiz,newVar,newRow]
theorem box_ok {lq:Nat} (hs:Sim X nt s a) (hv:X.ρ nvi=none) {t:TypeId} {x:Operand} {x':Opd} {cs:List AV} {d:Nat} {rd:List (Nat×Nat×Nat)} (ho:o.op=.box t x) (hx:opd x=some x') (hc:cellsOf (x'.ev s.slots)=some cs) :
  After P X s a o dst nvi (.eff { val:=.ptr lq d nvi 0 0,upd:=[(lq,d,some (.box nvi cs))],tip:=[],rd }):=by
 refine box_after hs hv (C:=(a.eval x).cells) (e:=t) ?_ (cellsOf_ok hc (opd_ok hs hx))
 simp[execOp,ho,Instr.box,newVar,newRow]
theorem dAll_ok {X:Cx} : ∀ {cs:List AV} {ds:List D} {vs:List Value},dAll cs=some ds→All2 (VC X) cs vs→All2 (DR X.w X.F) ds vs
 |[],ds,[],h,_=>by simp only[dAll] at h;injection h with h;subst h;trivial
 |.d x :: r,ds,v :: vs,h,hv=>by
  simp only[dAll] at h
  obtain⟨ys,h1,rfl⟩:=Option.map_eq_some_iff.1 h
  exact⟨hv.1,dAll_ok h1 hv.2⟩
 |[],_,_ :: _,_,hv=>hv.elim
 |.d _ :: _,_,[],_,hv=>hv.elim
 |.own _ _ :: _,_,_,h,_=>by simp[dAll] at h
 |.agg _ :: _,_,_,h,_=>by simp[dAll] at h
 |.tup _ :: _,_,_,h,_=>by simp[dAll] at h
 |.ref .. :: _,_,_,h,_=>by simp[dAll] at h
 |.ptr .. :: _,_,_,h,_=>by simp[dAll] at h
 |.bref .. :: _,_,_,h,_=>by simp[dAll] at h
 |.dptr .. :: _,_,_,h,_=>by simp[dAll] at h
 |.clo .. :: _,_,_,h,_=>by simp[dAll] at h
 |.mp .. :: _,_,_,h,_=>by simp[dAll] at h
theorem boxD_ok (hs:Sim X nt s a) (hv:X.ρ nvi=none) {t:TypeId} {x:Operand} {x':Opd} {cs:List AV} {ds:List D} (ho:o.op=.box t x) (hx:opd x=some x') (hc:cellsOf (x'.ev s.slots)=some cs) (hd:dAll cs=some ds) :
  After P X s a o dst nvi (.eff { val:=.dptr ds 0,upd:=[],tip:=[],rd:=[] }):=by
 have hcs:=dAll_ok hd (cellsOf_ok hc (opd_ok hs hx))
 let C:=(a.eval x).cells
 let L:Loc:=⟨X.w.heap.size,0,C.size,1⟩
 let Z:=X.alloc C t nvi L
 have hz:Ext X Z:=Ext.alloc hs.mem.inF hs.mem.low hv
 let Y:=Z.more fun b _=>b=X.w.heap.size
 have hm:Ext Z Y:=Ext.more fun b o hb=>by rw[hb];exact hs.mem.fresh
 have hsz:X.w.heap.size<Z.w.heap.size:=by show _<(X.w.alloc _).heap.size;rw[World.size_alloc];omega
 have hmem:MemOK Y s.mem s.tips:=(hs.mem.alloc hv).more (fun b o hb=>⟨by rw[hb];exact hs.mem.fresh,by rw[hb];exact hsz⟩)
  fun k u M o hk hu hc hb=>new_apart (C:=C) (e:=t) (L:=L) hs.mem hv hk hu hc hb
 refine .value (Y:=Y) (v:=.pointer (some ⟨X.w.heap.size,0,none⟩)) ?_ (hz.trans hm) ⟨X.w.heap.size,0,by simp,fun j x hj=>?_⟩ hmem ⟨Nat.le_refl _,fun u M hu=>?_⟩
 ·simp [execOp, ho, Instr.box, newVar, newRow]
  rfl
 ·obtain ⟨u, hu, hr⟩ := hcs.get _ _ hj
  refine⟨.inl (.inr rfl),u,?_,hr.ext (hz.trans hm)⟩
  show (X.alloc C t nvi L).w.cell? _=_
  rw[cell_of_row _ _ _ _ _ _ (new_heap X C t nvi L),Nat.zero_add]
  simpa using hu
 ·exact (alloc_dom (X:=X) (C:=C) (e:=t) (v:=nvi) (L:=L) (n:=s.nv)).2 u M hu
theorem All2.one {X:Cx} : ∀ {cs:List AV} {vs:List Value},All2 (VC X) cs vs→∀ v∈vs,v.oneCell'=true
 |[],[],_,v,h=>by cases h
 |_ :: _,_ :: _,h,v,hv=>by
  rcases List.mem_cons.1 hv with rfl|hv
  ·exact VC.one h.1
  ·exact All2.one h.2 v hv
 |[],_ :: _,h,_,_=>h.elim
 |_ :: _,[],h,_,_=>h.elim
theorem All2.oneD {w:World} {F:Nat→Nat→Prop} : ∀ {cs:List D} {vs:List Value},All2 (DR w F) cs vs→∀ v∈vs,v.oneCell'=true
 |[],[],_,v,h=>by cases h
 |_ :: _,_ :: _,h,v,hv=>by
  rcases List.mem_cons.1 hv with rfl|hv
  ·exact DR.one h.1
  ·exact All2.oneD h.2 v hv
 |[],_ :: _,h,_,_=>h.elim
 |_ :: _,[],h,_,_=>h.elim
theorem getElem?_put {C:Array Value} {k:Nat} {vs:List Value} (h:k+vs.length≤C.size) (j:Nat):(C.toList.take k++vs++C.toList.drop (k+vs.length)).toArray[j]?=if k≤j∧j<k+vs.length then vs[j-k]? else C[j]?:=by
 have:=getElem?_splice C.toList vs k (by simpa using h) j
 unfold splice at this
 rw[List.getElem?_toArray,this]
 simp
theorem box_block {X:Cx} {m:List (Tr Ent)} {t:Tr Unit} (h:MemOK X m t) {lv sl ver:Nat} {cells:List AV} (hg:memGet m lv sl=some (.box ver cells)) :
  ∃ L C e,X.ρ ver=some L∧L.cap=1∧X.w.heap[L.b]?=some (.cells C e (0,0))∧¬X.old L.b∧L.o+max cells.length L.sz≤C.size∧(∀ o,¬X.F L.b o)∧
   (∀ k v M,Holds (memSet m lv sl none) t k v→X.ρ v=some M→0<M.cap→M.b≠L.b)∧∀ j x,cells[j]?=some x→∃ v,C[L.o+j]?=some v∧VC X x v:=by
 obtain⟨L,hL,h1,⟨h2,C,e,h3,h4⟩,h5,h6⟩:=h.ents _ _ _ hg
 refine⟨L,C,e,hL,h1,h3,h2,h4,h5,fun k v M hk hv hc=>?_,fun j x hj=>?_⟩
 ·have hh : Holds m t k v ∧ k ≠ keyE lv sl := by
   rcases hk with⟨lv',sl',e',rfl,he',hv'⟩|⟨rfl,he'⟩
   ·rw [memGet_set] at he'
    split at he'
    ·cases he'
    ·rename_i hn
     refine⟨.inl ⟨lv',sl',e',rfl,he',hv'⟩,fun hq=>?_⟩
     obtain⟨rfl,rfl⟩:=keyE_inj hq
     apply hn
     refine⟨rfl,rfl,?_⟩
     unfold memGet at he'
     rcases Nat.lt_or_ge lv' m.length with hl|hl
     ·exact hl
     ·rw[List.getElem?_eq_none hl] at he';cases he'
   ·exact⟨.inr ⟨rfl,he'⟩,fun hq=>keyE_ne_keyT hq.symm⟩
  exact h.apart _ _ _ _ _ _ hh.1 (.inl ⟨lv,sl,_,rfl,hg,rfl,rfl⟩) hh.2 hv hL hc (by omega)
 ·obtain ⟨v, hv, hr⟩ := h6 j x hj
  rw[cell_of_row _ _ _ _ _ _ h3] at hv
  exact⟨v,hv,hr⟩
theorem row_block {X:Cx} {m:List (Tr Ent)} {t:Tr Unit} (h:MemOK X m t) {lv sl ver:Nat} {els:List (List D)} (hg:memGet m lv sl=some (.row ver els)) {L:Loc} (hL:X.ρ ver=some L) (hc0:0<L.cap) :
  ∃ C e,X.w.heap[L.b]?=some (.cells C e (0,0))∧¬X.old L.b∧L.o+L.cap*L.sz≤C.size∧(∀ o,¬X.F L.b o)∧els.length≤L.cap∧(∀ e∈els,e.length=L.sz)∧
   (∀ k v M,Holds (memSet m lv sl none) t k v→X.ρ v=some M→0<M.cap→M.b≠L.b)∧∀ i e j x,els[i]?=some e→e[j]?=some x→∃ v,C[L.o+i*L.sz+j]?=some v∧DR X.w X.F x v:=by
 obtain⟨L',hL',h1,h2,h3,h4⟩:=h.ents _ _ _ hg
 have:X.ρ ver=some L':=hL'
 rw[hL] at this;injection this with this;subst this
 obtain⟨⟨h5,C,e,h6,h7⟩,h8⟩:=h3 hc0
 refine⟨C,e,h6,h5,h7,h8,h1,h2,fun k v M hk hv hc=>?_,fun i f j x hi hj=>?_⟩
 ·have hh : Holds m t k v ∧ k ≠ keyE lv sl := by
   rcases hk with⟨lv',sl',e',rfl,he',hv'⟩|⟨rfl,he'⟩
   ·rw [memGet_set] at he'
    split at he'
    ·cases he'
    ·rename_i hn
     refine⟨.inl ⟨lv',sl',e',rfl,he',hv'⟩,fun hq=>?_⟩
     obtain⟨rfl,rfl⟩:=keyE_inj hq
     apply hn
     refine⟨rfl,rfl,?_⟩
     unfold memGet at he'
     rcases Nat.lt_or_ge lv' m.length with hl|hl
     ·exact hl
     ·rw[List.getElem?_eq_none hl] at he';cases he'
   ·exact⟨.inr ⟨rfl,he'⟩,fun hq=>keyE_ne_keyT hq.symm⟩
  exact h.apart _ _ _ _ _ _ hh.1 (.inl ⟨lv,sl,_,rfl,hg,rfl,rfl⟩) hh.2 hv hL hc hc0
 ·obtain ⟨v, hv, hr⟩ := h4 i f j x hi hj
  rw[cell_of_row _ _ _ _ _ _ h6] at hv
  exact⟨v,hv,hr⟩
theorem MemOK.reset {X:Cx} {m:List (Tr Ent)} {t:Tr Unit} {lv sl:Nat} {e:Ent} {L:Loc} (h:MemOK X (memSet m lv sl none) t) (hL:X.ρ e.ver=some L) (hE:EntOK X e L)
  (hap:∀ k v M,Holds (memSet m lv sl none) t k v→X.ρ v=some M→0<M.cap→0<L.cap→M.b≠L.b):MemOK X (memSet m lv sl (some e)) t:=
 (h.add (lv := lv) (sl := sl) hL hE fun k v M a _ b c d => hap k v M a b c d).congr (fun lv' sl' => by
  rw[memGet_set,memGet_set,memGet_set]
  have hlen:(memSet m lv sl none).length=m.length:=by simp[memSet]
  rw[hlen]
  split<;>rfl) fun _=>rfl
theorem box_write {X:Cx} {m:List (Tr Ent)} {t:Tr Unit} (h:MemOK X m t) {lv sl ver off:Nat} {cells new:List AV} {vs:List Value} (hg:memGet m lv sl=some (.box ver cells)) (hoff:off+new.length≤cells.length) (hn:All2 (VC X) new vs) :
  ∃ L Y,X.ρ ver=some L∧Ext X Y∧Y.ρ = X.ρ∧MemOK Y (memSet m lv sl (some (.box ver (splice cells off new)))) t∧(storeCells ⟨L.b,L.o+off,none⟩ vs).run P X.w=.ok () Y.w:=by
 obtain⟨L,C,e,hL,h1,h2,h3,h4,h5,h6,h7⟩:=box_block h hg
 have hlen:=hn.length
 have hst:=run_storeCells_at P L.b (L.o+off) e vs 0 C X.w h2 (by omega) (All2.one hn)
 simp only[Nat.add_zero] at hst
 let C':=(C.toList.take (L.o+off)++vs++C.toList.drop (L.o+off+vs.length)).toArray
 have hget:∀ j,C'[j]?=if L.o+off≤j∧j<L.o+off+vs.length then vs[j-(L.o+off)]? else C[j]?:=getElem?_put (by omega)
 have hx:Ext X (X.set L.b C'):=set_ext h2 h3 fun o ho=>absurd ho (h5 o)
 refine⟨L,X.set L.b C',hL,hx,rfl,?_,hst⟩
 refine (set_mem (h.erase lv sl) h2 h3 (fun o ho=>absurd ho (h5 o)) h6).reset (e:=.box ver (splice cells off new)) (L:=L) hL ⟨h1,⟨h3,C',e,set_heap h2,?_⟩,h5,fun j x hj=>?_⟩ fun k v M a b c _=>h6 k v M a b c
 ·rw [length_splice' _ _ _ hoff]
  have hs:C'.size=C.size:=by
   show (C.toList.take (L.o+off)++vs++C.toList.drop (L.o+off+vs.length)).toArray.size=C.size
   simp
   omega
  omega
 ·rw [getElem?_splice _ _ _ hoff] at hj
  rw[cell_of_row _ _ _ _ _ _ (set_heap h2),hget]
  by_cases hb:off≤j∧j<off+new.length
  ·rw [if_pos hb] at hj
   obtain⟨v,hv,hr⟩:=hn.get _ _ hj
   rw[if_pos (by omega),show L.o+j-(L.o+off)=j-off by omega]
   exact⟨v,hv,hr.ext hx⟩
  ·rw [if_neg hb] at hj
   obtain⟨v,hv,hr⟩:=h7 j x hj
   rw[if_neg (by omega)]
   exact⟨v,hv,hr.ext hx⟩
theorem row_write {X:Cx} {m:List (Tr Ent)} {t:Tr Unit} (h:MemOK X m t) {lv sl ver k:Nat} {els els':List (List D)} {vs:List Value} {L:Loc} (hg:memGet m lv sl=some (.row ver els)) (hL:X.ρ ver=some L) (hc:0<L.cap)
  (hk:k+vs.length≤L.cap*L.sz) (hn:All2 (DR X.w X.F) ((els'.flatten.drop k).take vs.length) vs) (hl':∀ e∈els',e.length=L.sz) (hle:els'.length≤L.cap)
  (hold:∀ j x,els'.flatten[j]?=some x→(k≤j∧j<k+vs.length)∨els.flatten[j]?=some x) :
  ∃ Y,Ext X Y∧Y.ρ = X.ρ∧MemOK Y (memSet m lv sl (some (.row ver els'))) t∧(storeCells ⟨L.b,L.o+k,none⟩ vs).run P X.w=.ok () Y.w:=by
 obtain⟨C,e,h2,h3,h4,h5,h8,h9,h6,h7⟩:=row_block h hg hL hc
 have hst:=run_storeCells_at P L.b (L.o+k) e vs 0 C X.w h2 (by omega) (All2.oneD hn)
 simp only[Nat.add_zero] at hst
 let C':=(C.toList.take (L.o+k)++vs++C.toList.drop (L.o+k+vs.length)).toArray
 have hget:∀ j,C'[j]?=if L.o+k≤j∧j<L.o+k+vs.length then vs[j-(L.o+k)]? else C[j]?:=getElem?_put (by omega)
 have hx:Ext X (X.set L.b C'):=set_ext h2 h3 fun o ho=>absurd ho (h5 o)
 have hs:C'.size=C.size:=by
  show (C.toList.take (L.o+k)++vs++C.toList.drop (L.o+k+vs.length)).toArray.size=C.size
  simp
  omega
 refine⟨X.set L.b C',hx,rfl,?_,hst⟩
 refine (set_mem (h.erase lv sl) h2 h3 (fun o ho=>absurd ho (h5 o)) h6).reset (e:=.row ver els') (L:=L) hL ⟨hle,hl',fun _=>⟨⟨h3,C',e,set_heap h2,by omega⟩,h5⟩,fun i f j x hi hj=>?_⟩ fun k v M a b c _=>h6 k v M a b c
 have hjs:j<L.sz:=by rw[←hl' f (List.mem_of_getElem? hi)];exact (List.getElem?_eq_some_iff.1 hj).1
 have hf:=flatten_get hl' i j f hi hjs
 rw[hj] at hf
 rw[cell_of_row _ _ _ _ _ _ (set_heap h2),hget]
 by_cases hb:k≤i*L.sz+j∧i*L.sz+j<k+vs.length
 ·rw [if_pos (by omega)]
  have hq:((els'.flatten.drop k).take vs.length)[i*L.sz+j-k]?=some x:=by
   rw[List.getElem?_take,if_pos (by omega),List.getElem?_drop,show k+(i*L.sz+j-k)=i*L.sz+j by omega]
   exact hf
  obtain⟨v,hv,hr⟩:=hn.get _ _ hq
  rw[show L.o+i*L.sz+j-(L.o+k)=i*L.sz+j-k by omega]
  exact⟨v,hv,hr.ext hx⟩
 ·rw [if_neg (by omega)]
  have hq:=(hold _ _ hf).resolve_left hb
  have hsz:0<L.sz:=by omega
  have hlt:i*L.sz+j<els.length*L.sz:=by rw[←flatten_length h9];exact (List.getElem?_eq_some_iff.1 hq).1
  have hi':i<els.length:=by
   rcases Nat.lt_or_ge i els.length with hi'|hi'
   ·exact hi'
   ·have := Nat.mul_le_mul_right L.sz hi'
    omega
  have hg2:=flatten_get h9 i j _ (List.getElem?_eq_getElem hi') hjs
  rw[hq] at hg2
  obtain⟨v,hv,hr⟩:=h7 i _ j x (List.getElem?_eq_getElem hi') hg2.symm
  exact⟨v,hv,hr.ext hx⟩
end
end Go.Eng
