/- A part of the proof: EngM, EngMB, EngN, EngMap. -/
import Derived.Test.YtjejefeomeddhaaGreatEngL
import Derived.Laws.BytesArg
import Derived.Laws.IdiomStrings
import Derived.MapKept
set_option linter.unusedVariables false
set_option linter.unusedSimpArgs false
variable [Go.Eng.Rho]
set_option linter.unusedSectionVars false
namespace Go.Eng
open Go Go.RowKit
section
variable {P:Program} {X:Cx} {nt:NT} {s:St} {a:Act} {o:Oper} {dst:Option Nat} {nvi:Nat}
theorem grown_tip (h:MemOK X s.mem s.tips) (hfr:X.ρ nvi=none) {C:Array Value} {e:TypeId} {els:List (List D)} {sz G n:Nat} {vs:List Value} {tips:Tr Unit} (hl:∀ e∈els,e.length=sz) (hC:G*sz≤C.size) (hle:els.length≤G)
  (hvs:∀ (j:Nat) (u:Value),vs[j]?=some u→C[j]?=some u) (hd:All2 (DR X.w X.F) els.flatten vs) (htips:∀ v,tips.get? v=some ()→s.tips.get? v=some ()) :
  ∃ Y,Y.w=X.w.drew.alloc (.cells C e)∧Ext X Y∧VR Y (.own els (.tip nvi sz)) (.slice (some ⟨X.w.heap.size,0,none⟩) els.length G)∧MemOK Y s.mem (tips.set nvi (some ()))∧DomOK X Y nvi n n:=by
 have h':MemOK X.drew s.mem tips:=drew_mem (h.less (fun _ _ _ h=>h) htips)
 have nt:=new_tip (X:=X.drew) h' (C:=C) (e:=e) (v:=nvi) (els:=els) (sz:=sz) (cap:=G) (vs:=vs) hfr hl hC hle hvs (hd.mono fun _ _=>DR.ext drew_ext)
 obtain⟨g1,g2,g3,g4⟩:=nt
 refine⟨_,rfl,drew_ext.trans g1,⟨some ⟨X.w.heap.size,0,none⟩,X.w.heap.size,0,sz,G,rfl,hle,fun _=>rfl,g3,new_ρ X.drew C e nvi _,rfl⟩,g2,⟨Nat.le_refl _,fun v L hv=>?_⟩⟩
 rcases g4.2 v L hv with h|h|h
 ·exact .inl h
 ·grind
 ·omega
theorem grown_row (h:MemOK X s.mem s.tips) (hfr:X.ρ nvi=none) {m:List (Tr Ent)} {C:Array Value} {e:TypeId} {els:List (List D)} {sz G n lv sl:Nat} {vs:List Value} (hl:∀ e∈els,e.length=sz) (hC:G*sz≤C.size) (hle:els.length≤G)
  (hvs:∀ (j:Nat) (u:Value),vs[j]?=some u→C[j]?=some u) (hd:All2 (DR X.w X.F) els.flatten vs) (hm:MemOK X m s.tips) :
  ∃ Y,Y.w=X.w.drew.alloc (.cells C e)∧Ext X Y∧VR Y (.ref lv sl nvi 0 els.length sz) (.slice (some ⟨X.w.heap.size,0,none⟩) els.length G)∧MemOK Y (memSet m lv sl (some (.row nvi els))) s.tips∧DomOK X Y nvi n n:=by
 have nr:=new_row (X:=X.drew) (drew_mem hm) (C:=C) (e:=e) (v:=nvi) (els:=els) (sz:=sz) (cap:=G) (vs:=vs) lv sl hfr hl hC hle hvs (hd.mono fun _ _=>DR.ext drew_ext)
 refine⟨X.drew.alloc C e nvi ⟨X.w.heap.size,0,sz,G⟩,rfl,drew_ext.trans (Ext.alloc (X:=X.drew) h.inF h.low hfr),⟨⟨X.w.heap.size,0,sz,G⟩,some ⟨X.w.heap.size,0,none⟩,G,new_ρ X.drew C e nvi _,rfl,rfl,hle,fun _=>⟨by simp,by simp⟩⟩,nr,?_⟩
 have:=alloc_dom (X:=X.drew) (C:=C) (e:=e) (v:=nvi) (L:=⟨X.w.heap.size,0,sz,G⟩) (n:=n)
 exact this
theorem reset_eq {X:Cx} {m:List (Tr Ent)} {t:Tr Unit} {lv sl:Nat} {e:Ent} (h:MemOK X (memSet (memSet m lv sl none) lv sl (some e)) t):MemOK X (memSet m lv sl (some e)) t:=
 h.congr (fun lv' sl'=>by
  rw[memGet_set,memGet_set,memGet_set]<;>grind[memSet,memGet]) fun _=>rfl
theorem append_ref (h:MemOK X s.mem s.tips) (hfr:X.ρ nvi=none) {t u ty e:TypeId} {i:TypeInfo} {z:Value} {xv yv:Value} {lv sl ver off len n:Nat} {els news:List (List D)} {new:List Value} {rd:List (Nat×Nat×Nat)} (ht:P.underlying t=some (.slice e)) (hs:Src P u i X.w yv news.length new) (hi:P.info? e=some i) (hz:i.zero=some z) (hzs:z.cells.size=i.size)
  (hx:VR X (.ref lv sl ver off len i.size) xv) (hrow:rowAt s.mem lv sl ver=some els) (hc1:off+len≤els.length) (hc2:len+news.length≤maxLenA) (hc3:(len+news.length)*i.bytes≤roomA) (hnl:∀ e∈news,e.length=i.size) (hd2:All2 (DR X.w X.F) news.flatten new) :
  Appended P X s t u ty xv yv nvi n { val:=.ref lv sl nvi 0 (len+news.length) i.size,upd:=[(lv,sl,some (.row nvi ((els.drop off).take len++news)))],tip:=[],rd }:=by
 obtain⟨L,hL,hE,hg⟩:=row_lies h hrow
 obtain⟨L1,ad,cap,hL1,h1,rfl,h3,h4⟩:=hx
 rw[hL] at hL1;cases hL1
 have hnewlen:new.length=news.length*i.size:=by rw[←hd2.length,flatten_length hnl]
 have hbl:((els.drop off).take len).length=len:=by grind
 have hbs:∀ e∈(els.drop off).take len,e.length=i.size:=fun f hf=>by rw[hE.2.1 f (List.mem_of_mem_drop (List.mem_of_mem_take hf)),h1]
 have hll:((els.drop off).take len++news).length=len+news.length:=by grind
 have hls:∀ e∈(els.drop off).take len++news,e.length=i.size:=fun f hf=>(List.mem_append.1 hf).elim (hbs f) (hnl f)
 by_cases hroom:len+news.length≤cap
 ·
  by_cases hcap:0<cap
  ·obtain ⟨rfl, h5⟩ := h4 hcap
   have hc0:0<L.cap:=by omega
   obtain⟨C,ce,hb2,hb1,hb3,hb4,hb5,hb6,hap,hcont⟩:=row_block h hg hL hc0
   have hfit:L.o+off*L.sz+len*L.sz+new.length≤C.size:=by
    rw[hnewlen,←h1,Nat.add_assoc (L.o+off*L.sz),←Nat.add_mul,Nat.add_assoc,←Nat.add_mul]
    have:=Nat.mul_le_mul_right L.sz (show off+(len+news.length)≤L.cap by omega)
    omega
   have hst:=run_storeCells_at P L.b (L.o+off*L.sz+len*L.sz) ce new 0 C X.w hb2 (by omega) (All2.oneD hd2)
   let C':=(C.toList.take (L.o+off*L.sz+len*L.sz)++new++C.toList.drop (L.o+off*L.sz+len*L.sz+new.length)).toArray
   have hget:∀ j,C'[j]?=if L.o+off*L.sz+len*L.sz≤j∧j<L.o+off*L.sz+len*L.sz+new.length then new[j-(L.o+off*L.sz+len*L.sz)]? else C[j]?:=getElem?_put hfit
   have hsize:C'.size=C.size:=by
    show (C.toList.take (L.o+off*L.sz+len*L.sz)++new++C.toList.drop (L.o+off*L.sz+len*L.sz+new.length)).toArray.size=C.size
    simp
    omega
   have hFk:∀ q,X.F L.b q→C'[q]?=C[q]?:=fun q hq=>absurd hq (hb4 q)
   have hx1:Ext X (X.set L.b C'):=set_ext hb2 hb1 hFk
   have hm1:MemOK (X.set L.b C') (memSet s.mem lv sl none) s.tips:=set_mem (h.erase lv sl) hb2 hb1 hFk hap
   let L':Loc:=⟨L.b,L.o+off*L.sz,i.size,cap⟩
   have hx2:Ext (X.set L.b C') ((X.set L.b C').name nvi L'):=name_ext hfr
   have hx:Ext X ((X.set L.b C').name nvi L'):=hx1.trans hx2
   refine⟨(X.set L.b C').name nvi L',.slice (some ⟨L.b,L.o+off*i.size,none⟩) (len+news.length) cap,?_,hx,?_,?_,?_⟩
   ·rw [append_room (i := i) (new := new) ht hs hi hroom]
    rw[←h1]
    simp only[Addr.add_lit,hst,Result.andThen_ok]
    rfl
   ·exact⟨L',_,cap,name_ρ,rfl,rfl,hroom,fun _=>⟨by simp[L',h1],by simp[L']⟩⟩
   ·refine (name_mem hm1 hfr).reset (e := .row nvi ((els.drop off).take len ++ news)) (L := L') name_ρ ⟨by rw [hll]; exact hroom, hls, fun _ => ⟨⟨hb1, C', ce, set_heap hb2, ?_⟩, hb4⟩, fun q f j x hq hj => ?_⟩ fun k w M hk hw hMc _ => ?_
    ·show L.o + off * L.sz + cap * i.size ≤ C'.size
     rw[←h1,Nat.add_assoc,←Nat.add_mul]
     have:=Nat.mul_le_mul_right L.sz h5
     omega
    ·show ∃ v, (X.set L.b C').w.cell? ⟨L.b, L.o + off * L.sz + q * i.size + j, none⟩ = some v ∧ _
     rw[cell_of_row _ _ _ _ _ _ (set_heap hb2),hget]
     have hjs:j<i.size:=by rw[←hls f (List.mem_of_getElem? hq)];exact (List.getElem?_eq_some_iff.1 hj).1
     by_cases hql:q<len
     ·rw [List.getElem?_append_left (by omega)] at hq
      have hqe:=(getElem?_drop_take hq).1
      obtain⟨v,hv,hdr⟩:=hcont _ f j x hqe hj
      have e1:L.o+off*L.sz+q*i.size+j=L.o+(off+q)*L.sz+j:=by rw[h1,Nat.add_mul];omega
      have hlt:q*i.size+j<len*L.sz:=by
       have:=Nat.mul_le_mul_right i.size (show q+1≤len from hql)
       rw[Nat.add_mul] at this
       rw[h1]
       omega
      rw[if_neg (by omega),e1]
      exact⟨v,hv,hdr.ext hx⟩
     ·rw [List.getElem?_append_right (by omega), hbl] at hq
      have hg2:=flatten_get hnl _ j f hq hjs
      rw[hj] at hg2
      obtain⟨v,hv,hdr⟩:=hd2.get _ _ hg2
      have hlt:=(List.getElem?_eq_some_iff.1 hv).1
      have e1:q*i.size+j=len*L.sz+((q-len)*i.size+j):=by
       have:q=len+(q-len):=by omega
       conv=>lhs;rw[this,Nat.add_mul]
       rw[h1]
       omega
      rw[if_pos (by omega)]
      rw[show L.o+off*L.sz+q*i.size+j-(L.o+off*L.sz+len*L.sz)=(q-len)*i.size+j by omega]
      exact⟨v,hv,hdr.ext hx⟩
    ·obtain ⟨M', hM', _⟩ := (h.erase lv sl).holds_ρ hk
     have:((X.set L.b C').name nvi L').ρ w=some M':=hx.loc _ _ hM'
     rw[hw] at this;cases this
     exact hap k w M hk hM' hMc
   ·exact⟨Nat.le_refl _,fun w M hw=>by
     rcases (name_dom (X:=X.set L.b C') (v:=nvi) (n:=0) (L:=L')).2 w M hw with hq|hq|hq
     ·exact .inl hq
     ·exact .inr (.inl hq)
     ·omega⟩
  ·
   have hm0:news.length=0:=by omega
   have hl0:len=0:=by omega
   subst hl0
   have hnil:news=[]:=List.eq_nil_of_length_eq_zero hm0
   subst hnil
   have hnew:new=[]:=List.eq_nil_of_length_eq_zero (by simpa using hnewlen)
   subst hnew
   have hrun:(Builtin.append_ #[t,u] ty #[.slice ad 0 cap,yv]).run P X.w=.ok (.slice ad 0 cap) X.w:=by
    rw[append_room (i:=i) (m:=0) (new:=[]) ht hs hi (by omega)]
    cases ad with
    |none=>rfl
    |some ad=>simp[storeCells]
   refine⟨X.name nvi ⟨0,0,i.size,0⟩,_,hrun,name_ext hfr,⟨⟨0,0,i.size,0⟩,ad,cap,name_ρ,rfl,rfl,by simp,fun hq=>absurd hq hcap⟩,?_,name_dom⟩
   exact (name_mem h hfr).add (e:=.row nvi ((els.drop off).take 0++[])) (L:=⟨0,0,i.size,0⟩) name_ρ ⟨by simp,by simp,fun hq=>absurd hq (by simp),by simp⟩ fun _ _ _ _ _ _ _ hq=>absurd hq (by simp)
 ·have hli : Lies X.w X.F (fun _ _ => True) ((els.drop off).take len) L.b (L.o + off * L.sz) L.sz := (hE.lies (R := fun _ _ => True) fun _ _ => trivial).sub off len
  obtain⟨old,ho,hd1⟩:=firstCells_own (P:=P) (n:=len) (cap:=cap) (ad:=ad) (X:=X) (w:=X.w.drew) (sz:=i.size) (fun _ _=>rfl) hli hbs hbl (fun hq=>by rw[(h4 (by omega)).1,h1])
  have key:=append_new (P:=P) (X:=X) (ty:=ty) (els:=(els.drop off).take len) (ad:=ad) (cap:=cap) ht hs hi hz hzs (by rw[hbl];exact ho) (by omega) (by omega) (by rw[hbl];exact hc3) hd1 hd2 hbs hnl
  obtain⟨C,G,g1,hrun,g2,g3,g4,g5⟩:=key
  obtain⟨Y,hw,k1,k2,k3,k4⟩:=grown_row (e:=e) (lv:=lv) (sl:=sl) (m:=memSet s.mem lv sl none) h hfr g5 g2 (by rw[hll];omega) g3 g4 (n:=n) (h.erase lv sl)
  rw[hll] at k2
  rw[hbl] at hrun
  exact⟨Y,_,by rw[hrun,hw],k1,k2,reset_eq k3,k4⟩
theorem cut_ref (h:MemOK X s.mem s.tips) (hfr:X.ρ nvi=none) {lv sl ver off len l h' n sz cap:Nat} {els:List (List D)} {ad:Option Addr} (hx:VR X (.ref lv sl ver off len sz) (.slice ad len cap)) (hrow:rowAt s.mem lv sl ver=some els)
  (c1:l≤h') (c2:h'≤len) (c3:off+len≤els.length) :
  ∃ Y,Y.w=X.w∧Ext X Y∧VR Y (.ref lv sl nvi 0 (h'-l) sz) (.slice (if cap=l then ad else ad.map (·.add (l*sz))) (h'-l) (cap-l))∧MemOK Y (memSet s.mem lv sl (some (.row nvi ((els.drop (off+l)).take (h'-l))))) s.tips∧DomOK X Y nvi n n:=by
 obtain⟨L,hL,hE,hg⟩:=row_lies h hrow
 obtain⟨L1,ad',cap',hL1,h1,he,h3,h4⟩:=hx
 cases he
 rw[hL] at hL1;cases hL1
 have hbl:((els.drop (off+l)).take (h'-l)).length=h'-l:=by grind
 have hbs:∀ e∈(els.drop (off+l)).take (h'-l),e.length=sz:=fun f hf=>by rw[hE.2.1 f (List.mem_of_mem_drop (List.mem_of_mem_take hf)),h1]
 by_cases hcap:0<cap-l
 ·obtain ⟨rfl, h5⟩ := h4 (by omega)
  have hc0:0<L.cap:=by omega
  obtain⟨C,ce,hb2,hb1,hb3,hb4,hb5,hb6,hap,hcont⟩:=row_block h hg hL hc0
  let L':Loc:=⟨L.b,L.o+(off+l)*L.sz,sz,cap-l⟩
  refine⟨X.name nvi L',rfl,name_ext hfr,⟨L',_,_,name_ρ,rfl,rfl,by omega,fun _=>⟨?_,by simp[L']⟩⟩,?_,name_dom⟩
  ·simp only[Option.map_some,Addr.add_lit,L',h1]<;>grind
  ·refine (name_mem (h.erase lv sl) hfr).reset (e := .row nvi ((els.drop (off + l)).take (h' - l))) (L := L') name_ρ ⟨by rw [hbl]; show h' - l ≤ cap - l; omega, hbs, fun _ => ⟨⟨hb1, C, ce, hb2, ?_⟩, hb4⟩, fun q f j x hq hj => ?_⟩ fun k w M hk hw hMc _ => ?_
   ·show L.o + (off + l) * L.sz + (cap - l) * sz ≤ C.size
    rw[←h1,Nat.add_assoc,←Nat.add_mul]
    have:=Nat.mul_le_mul_right L.sz (show off+l+(cap-l)≤L.cap by omega)
    omega
   ·have hqe := (getElem?_drop_take hq).1
    obtain⟨v,hv,hdr⟩:=hE.2.2.2 _ f j x hqe hj
    refine⟨v,?_,hdr⟩
    show X.w.cell? ⟨L.b,L.o+(off+l)*L.sz+q*sz+j,none⟩=some v
    rw[←hv]
    congr 2
    rw[←h1,Nat.add_mul (off+l)]
    omega
   ·obtain ⟨M', hM', _⟩ := (h.erase lv sl).holds_ρ hk
    have:(X.name nvi L').ρ w=some M':=(name_ext hfr).loc _ _ hM'
    rw[hw] at this;cases this
    exact hap k w M hk hM' hMc
 ·have h0 : h' - l = 0 := by omega
  refine⟨X.name nvi ⟨0,0,sz,0⟩,rfl,name_ext hfr,⟨⟨0,0,sz,0⟩,_,_,name_ρ,rfl,rfl,by omega,fun hq=>absurd hq hcap⟩,?_,name_dom⟩
  exact (name_mem h hfr).add (e:=.row nvi ((els.drop (off+l)).take (h'-l))) (L:=⟨0,0,sz,0⟩) name_ρ ⟨by rw[hbl,h0];exact Nat.le_refl _,hbs,fun hq=>absurd hq (by simp),fun q f j x hq _=>by rw[h0] at hq;simp at hq⟩ fun _ _ _ _ _ _ _ hq=>absurd hq (by simp)
theorem move_ref (h:MemOK X s.mem s.tips) (hfr:X.ρ nvi=none) {lv sl ver off len n sz lv2 sl2:Nat} {els:List (List D)} {v:Value} (hx:VR X (.ref lv sl ver off len sz) v) (hrow:rowAt s.mem lv sl ver=some els) (c3:off+len≤els.length) :
  ∃ Y,Y.w=X.w∧Ext X Y∧VR Y (.ref lv2 sl2 nvi 0 len sz) v∧MemOK Y (memSet (memSet s.mem lv sl none) lv2 sl2 (some (.row nvi ((els.drop off).take len)))) s.tips∧DomOK X Y nvi n n:=by
 obtain⟨L,hL,hE,hg⟩:=row_lies h hrow
 obtain⟨L1,ad,cap,hL1,h1,rfl,h3,h4⟩:=hx
 rw[hL] at hL1;cases hL1
 have hbl:((els.drop off).take len).length=len:=by grind
 have hbs:∀ e∈(els.drop off).take len,e.length=sz:=fun f hf=>by rw[hE.2.1 f (List.mem_of_mem_drop (List.mem_of_mem_take hf)),h1]
 by_cases hcap:0<cap
 ·have hc0 : 0 < L.cap := by omega
  obtain⟨C,ce,hb2,hb1,hb3,hb4,hb5,hb6,hap,hcont⟩:=row_block h hg hL hc0
  let L':Loc:=⟨L.b,L.o+off*L.sz,sz,cap⟩
  refine⟨X.name nvi L',rfl,name_ext hfr,⟨L',_,_,name_ρ,rfl,rfl,h3,fun _=>⟨?_,by simp[L']⟩⟩,?_,name_dom⟩
  ·grind
  ·refine (name_mem (h.erase lv sl) hfr).add (e := .row nvi ((els.drop off).take len)) (L := L') name_ρ ⟨by rw [hbl]; exact h3, hbs, fun _ => ⟨⟨hb1, C, ce, hb2, ?_⟩, hb4⟩, fun q f j x hq hj => ?_⟩ fun k w M hk _ hw hMc _ => ?_
   ·show L.o + off * L.sz + cap * sz ≤ C.size
    rw[←h1,Nat.add_assoc,←Nat.add_mul]
    have:=Nat.mul_le_mul_right L.sz (show off+cap≤L.cap by omega)
    omega
   ·have hqe := (getElem?_drop_take hq).1
    obtain⟨v,hv,hdr⟩:=hE.2.2.2 _ f j x hqe hj
    refine⟨v,?_,hdr⟩
    show X.w.cell? ⟨L.b,L.o+off*L.sz+q*sz+j,none⟩=some v
    rw[←hv]
    congr 2
    rw[←h1,Nat.add_mul off]
    omega
   ·obtain ⟨M', hM', _⟩ := (h.erase lv sl).holds_ρ hk
    have:(X.name nvi L').ρ w=some M':=(name_ext hfr).loc _ _ hM'
    rw[hw] at this;cases this
    exact hap k w M hk hM' hMc
 ·have h0 : len = 0 := by omega
  subst h0
  refine⟨X.name nvi ⟨0,0,sz,0⟩,rfl,name_ext hfr,⟨⟨0,0,sz,0⟩,_,_,name_ρ,rfl,rfl,h3,fun hq=>absurd hq hcap⟩,?_,name_dom⟩
  exact (name_mem (h.erase lv sl) hfr).add (e:=.row nvi ((els.drop off).take 0)) (L:=⟨0,0,sz,0⟩) name_ρ ⟨by simp,by simp,fun hq=>absurd hq (by simp),fun q f j x hq _=>by simp at hq⟩ fun _ _ _ _ _ _ _ hq=>absurd hq (by simp)
theorem append_coreS (h : MemOK X s.mem s.tips) (hfr : X.ρ nvi = none) {t u ty e : TypeId} {i : TypeInfo} {z : Value} {xv yv : Value} {x y : AV} {row : Bool} {lv sl n : Nat} {E : Eff} (ht : P.underlying t = some (.slice e)) (hi : P.info? e = some i) (hz : i.zero = some z) (hzs : z.cells.size = i.size) (_h0 : 0 < i.size)
  (hx:VR X x xv) (hy:∀ news,newsOf s.mem y=some news→(∀ e∈news,e.length=i.size)→∃ new:List Value,All2 (DR X.w X.F) news.flatten new∧Src P u i X.w yv news.length new) (hr:appendA s row lv sl nvi i.size i.bytes x y=some E):Appended P X s t u ty xv yv nvi n E:=by
 unfold appendA at hr
 cases hn:newsOf s.mem y with
 |none=>grind
 | some news =>
  rw[hn] at hr
  simp only at hr
  split at hr
  ·rename_i hal
   have hnl:=all_len hal
   obtain⟨new,hd2,hs⟩:=hy news hn hnl
   have hnewlen:new.length=news.length*i.size:=by rw[←hd2.length,flatten_length hnl]
   split at hr
   ·rename_i els
    split at hr
    ·rename_i hc
     obtain⟨hc1,hc2,hc3⟩:=hc
     have hel:=all_len hc1
     obtain⟨ad,b,off,sz',rfl,had,hli⟩:=hx
     by_cases hm0:news.length=0
     ·have hnil : news = [] := List.eq_nil_of_length_eq_zero hm0
      subst hnil
      have hnew:new=[]:=List.eq_nil_of_length_eq_zero (by simpa using hnewlen)
      subst hnew
      have hrun:(Builtin.append_ #[t,u] ty #[.slice ad els.length els.length,yv]).run P X.w=.ok (.slice ad els.length els.length) X.w:=by
       rw[append_room (i:=i) (m:=0) (new:=[]) ht hs hi (by omega)]
       cases ad with
       |none=>rfl
       |some ad=>simp[storeCells]
      cases hrow:row with
      | false =>
       simp only[hrow] at hr
       cases hr
       refine⟨X.name nvi ⟨b,off+els.length*i.size,i.size,els.length-els.length⟩,_,hrun,name_ext hfr,?_,?_,name_dom⟩
       ·rw [List.append_nil]
        refine⟨ad,b,off,i.size,els.length,rfl,Nat.le_refl _,had,?_,name_ρ,rfl⟩
        grind[roomA,maxLenA,All2,newsOf,Cx.name,Lies]
       ·exact tip_fresh (name_mem h hfr) name_ρ (by simp)
      | true =>
       simp only[hrow] at hr
       split at hr
       ·cases hr
       ·cases hr
        have hels:els=[]:=by
         grind
        subst hels
        refine⟨X.name nvi ⟨0,0,i.size,0⟩,_,hrun,name_ext hfr,⟨⟨0,0,i.size,0⟩,ad,0,name_ρ,rfl,rfl,Nat.le_refl _,fun hq=>absurd hq (by omega)⟩,?_,name_dom⟩
        exact (name_mem h hfr).add (e:=.row nvi ([]++[])) (L:=⟨0,0,i.size,0⟩) name_ρ ⟨by simp,by simp,fun hq=>absurd hq (by simp),by simp⟩ fun _ _ _ _ _ _ _ hq=>absurd hq (by simp)
     ·obtain ⟨old, ho, hd1⟩ := firstCells_own (P := P) (n := els.length) (cap := els.length) (X := X) (w := X.w.drew) (fun _ _ => rfl) hli hel rfl had
      obtain⟨C,G,g1,hrun,g2,g3,g4,g5⟩:=append_new (P:=P) (X:=X) (ty:=ty) ht hs hi hz hzs ho (by omega) hc2 hc3 hd1 hd2 hel hnl
      have hll:(els++news).length=els.length+news.length:=List.length_append
      cases hrow:row with
      |false=>
       simp[hrow] at hr
       cases hr
       obtain⟨Y,hw,k1,k2,k3,k4⟩:=grown_tip (e:=e) h hfr g5 g2 (by omega) g3 g4 (tips:=s.tips) (n:=n) fun _ h=>h
       simp at k2
       exact⟨Y,_,by rw[hrun,hw],k1,k2,k3,k4⟩
      | true =>
       simp only[hrow] at hr
       split at hr
       ·cases hr
       ·cases hr
        obtain⟨Y,hw,k1,k2,k3,k4⟩:=grown_row (e:=e) (lv:=lv) (sl:=sl) h hfr g5 g2 (by omega) g3 g4 (n:=n) h
        simp at k2
        exact⟨Y,_,by rw[hrun,hw],k1,k2,k3,k4⟩
    grind
   ·rename_i els v tz
    split at hr
    ·rename_i hc
     obtain⟨hc0,hc2,hc3,hc4⟩:=hc
     cases hr
     have hlive:s.tips.get? v=some ():=by
      cases hg:s.tips.get? v with
      |none=>grind
      |some u=>rfl
     obtain⟨ad,b,off,sz',cap,rfl,hcap,had,hli,hL,htz⟩:=hx
     have hel:∀ e∈els,e.length=i.size:=fun e he=>by rw[hli.1 e he,htz,hc0]
     obtain⟨L',hL',hT⟩:=h.tips v hlive
     rw[hL] at hL';cases hL'
     by_cases hm0:news.length=0
     ·have hnil : news = [] := List.eq_nil_of_length_eq_zero hm0
      subst hnil
      have hnew:new=[]:=List.eq_nil_of_length_eq_zero (by simpa using hnewlen)
      subst hnew
      have hrun:(Builtin.append_ #[t,u] ty #[.slice ad els.length cap,yv]).run P X.w=.ok (.slice ad els.length cap) X.w:=by
       rw[append_room (i:=i) (m:=0) (new:=[]) ht hs hi (by omega)]
       cases ad with
       |none=>rfl
       |some ad=>simp[storeCells]
      refine⟨X.name nvi ⟨b,off+els.length*sz',sz',cap-els.length⟩,_,hrun,name_ext hfr,?_,?_,name_dom⟩
      ·rw [List.append_nil]
       exact⟨ad,b,off,sz',cap,rfl,hcap,had,hli.ext (name_ext hfr),name_ρ,htz.trans hc0⟩
      ·refine (name_mem (h.eraseT v) hfr).addT name_ρ hT fun k u M hk _ hu hMc hc => ?_
       have hold:Holds s.mem s.tips k u∧k≠keyT v:=by
        rcases hk with⟨lv',sl',e',rfl,he',hv'⟩|⟨rfl,he'⟩
        ·exact⟨.inl ⟨lv',sl',e',rfl,he',hv'⟩,keyE_ne_keyT⟩
        ·rw [Tr.get_set] at he'
         split at he'
         ·cases he'
         ·rename_i hvu
          exact⟨.inr ⟨rfl,he'⟩,fun hq=>hvu (by simpa[keyT] using hq.symm)⟩
       obtain⟨M',hM',_⟩:=h.holds_ρ hold.1
       have:(X.name nvi ⟨b,off+els.length*sz',sz',cap-els.length⟩).ρ u=some M':=(name_ext hfr).loc _ _ hM'
       simp_all
       exact h.apart _ _ _ _ _ _ hold.1 (.inr ⟨rfl,hlive⟩) hold.2 hM' hL hMc hc
     ·by_cases hroom : els.length + news.length ≤ cap
      ·have hcap0 : 0 < cap - els.length := by omega
       obtain⟨⟨hb1,C,ce,hb2,hb3⟩,hb4⟩:=hT hcap0
       simp at hb1 hb2 hb3 hb4
       have hadd:=had (by omega)
       subst hadd
       have hsz:sz'=i.size:=htz.trans hc0
       ·subst hsz
        have hfit:off+els.length*i.size+new.length≤C.size:=by
         have:=Nat.mul_le_mul_right i.size (show news.length≤cap-els.length by omega)
         omega
        have hst:=run_storeCells_at P b (off+els.length*i.size) ce new 0 C X.w hb2 (by omega) (All2.oneD hd2)
        let C':=(C.toList.take (off+els.length*i.size)++new++C.toList.drop (off+els.length*i.size+new.length)).toArray
        have hget:∀ j,C'[j]?=if off+els.length*i.size≤j∧j<off+els.length*i.size+new.length then new[j-(off+els.length*i.size)]? else C[j]?:=getElem?_put hfit
        have hsize:C'.size=C.size:=by
         show (C.toList.take (off+els.length*i.size)++new++C.toList.drop (off+els.length*i.size+new.length)).toArray.size=C.size
         simp
         omega
        have hFk:∀ q,X.F b q→C'[q]?=C[q]?:=fun q hq=>by
         rw[hget,if_neg]
         intro hq'
         exact hb4 q hq'.1 hq
        have hap:∀ k w M,Holds s.mem (s.tips.set v none) k w→X.ρ w=some M→0<M.cap→M.b≠b:=by
         intro k w M hk hw hMc
         have hold:Holds s.mem s.tips k w∧k≠keyT v:=by
          rcases hk with⟨lv',sl',e',rfl,he',hv'⟩|⟨rfl,he'⟩
          ·exact⟨.inl ⟨lv',sl',e',rfl,he',hv'⟩,keyE_ne_keyT⟩
          ·rw [Tr.get_set] at he'
           split at he'
           ·cases he'
           ·rename_i hvu
            exact⟨.inr ⟨rfl,he'⟩,fun hq=>hvu (by simpa[keyT] using hq.symm)⟩
         exact h.apart _ _ _ _ _ _ hold.1 (.inr ⟨rfl,hlive⟩) hold.2 hw hL hMc hcap0
        let X1:=X.set b C'
        have hx1:Ext X X1:=set_ext hb2 hb1 hFk
        have hm1:MemOK X1 s.mem (s.tips.set v none):=set_mem (h.eraseT v) hb2 hb1 hFk hap
        let X2:=X1.more fun b' q=>b'=b∧q<off+els.length*i.size+new.length∧off+els.length*i.size≤q
        have hx2:Ext X1 X2:=Ext.more fun b' q hq=>by rw[hq.1];exact hb1
        have hbs:b<X1.w.heap.size:=by
         have hh:=set_heap (X:=X) (C':=C') hb2
         rcases Nat.lt_or_ge b X1.w.heap.size with hl|hl
         ·exact hl
         ·rw[Array.getElem?_eq_none hl] at hh;cases hh
        have hm2:MemOK X2 s.mem (s.tips.set v none):=hm1.more (fun b' q hq=>by rw[hq.1];exact⟨hb1,hbs⟩) fun k w M q hk hw hMc hq=>hap k w M hk hw hMc hq.1
        let L:Loc:=⟨b,off+(els++news).length*i.size,i.size,cap-(els++news).length⟩
        have hx3:Ext X2 (X2.name nvi L):=name_ext hfr
        have hx:Ext X (X2.name nvi L):=(hx1.trans hx2).trans hx3
        have hll:(els++news).length=els.length+news.length:=List.length_append
        have hoff:off+(els++news).length*i.size=off+els.length*i.size+new.length:=by rw[hll,Nat.add_mul];omega
        refine⟨X2.name nvi L,.slice (some ⟨b,off,none⟩) (els.length+news.length) cap,?_,hx,?_,?_,?_⟩
        ·rw [append_room (i := i) (new := new) ht hs hi hroom]
         simp only[Addr.add_lit,hst,Result.andThen_ok]
         rfl
        ·refine ⟨some ⟨b, off, none⟩, b, off, i.size, cap, by rw [hll], by omega, fun _ => rfl, ?_, name_ρ, rfl⟩
         refine⟨fun f hf=>?_,fun q f j w hq hj=>?_⟩
         ·rcases List.mem_append.1 hf with hf | hf
          ·exact hel f hf
          ·exact hnl f hf
         ·have hjs : j < i.size := by
           have hff:f.length=i.size:=by
            rcases List.mem_append.1 (List.mem_of_getElem? hq) with hf|hf
            ·exact hel f hf
            ·exact hnl f hf
           rw[←hff];exact (List.getElem?_eq_some_iff.1 hj).1
          by_cases hql:q<els.length
          ·rw [List.getElem?_append_left hql] at hq
           obtain⟨hF,w',hw',hdr⟩:=hli.2 q f j w hq hj
           exact⟨hx.reg _ _ hF,w',(hx.keep _ _ hF).trans hw',hdr.ext hx⟩
          ·rw [List.getElem?_append_right (by omega)] at hq
           have hg:=flatten_get hnl _ j f hq hjs
           rw[hj] at hg
           obtain⟨w',hw',hdr⟩:=hd2.get _ _ hg
           have hlt:=(List.getElem?_eq_some_iff.1 hw').1
           have e1:off+q*i.size+j=off+els.length*i.size+((q-els.length)*i.size+j):=by
            have:q=els.length+(q-els.length):=by omega
            conv=>lhs;rw[this,Nat.add_mul]
            omega
           refine⟨.inr ⟨rfl,by omega,by omega⟩,w',?_,hdr.ext hx⟩
           show (X.set b C').w.cell? _=_
           rw[cell_of_row _ _ _ _ _ _ (set_heap hb2),e1,hget,if_pos (by omega)]
           rw[show off+els.length*i.size+((q-els.length)*i.size+j)-(off+els.length*i.size)=(q-els.length)*i.size+j by omega]
           exact hw'
        ·refine (name_mem hm2 hfr).addT (L := L) name_ρ (fun hc => ⟨⟨hb1, C', ce, set_heap hb2, ?_⟩, fun q hq hF => ?_⟩) fun k w M hk _ hw hMc _ => ?_
         ·rw [Nat.add_assoc, ← Nat.add_mul, show (els ++ news).length + (cap - (els ++ news).length) = cap by omega]
          have:off+els.length*i.size+(cap-els.length)*i.size=off+cap*i.size:=by rw[Nat.add_assoc,←Nat.add_mul,show els.length+(cap-els.length)=cap by omega]
          omega
         ·have hq : off + (els ++ news).length * i.size ≤ q := hq
          rcases hF with hF|hF
          ·exact hb4 q (by omega) hF
          ·omega
         ·have hold : ∃ M', X.ρ w = some M' := by
           obtain⟨M',hM',_⟩:=(h.eraseT v).holds_ρ hk
           exact⟨M',hM'⟩
          obtain⟨M',hM'⟩:=hold
          have:(X2.name nvi L).ρ w=some M':=hx.loc _ _ hM'
          rw[hw] at this;injection this with this;subst this
          exact hap k w M hk hM' hMc
        ·exact⟨Nat.le_refl _,fun w M hw=>by
          rcases (name_dom (X:=X2) (v:=nvi) (n:=0) (L:=L)).2 w M hw with hq|hq|hq
          ·exact .inl hq
          ·exact .inr (.inl hq)
          ·omega⟩
      ·obtain ⟨old, ho, hd1⟩ := firstCells_own (P := P) (n := els.length) (cap := cap) (X := X) (w := X.w.drew) (fun _ _ => rfl) hli hel rfl (fun hq => had (by omega))
       obtain⟨C,G,g1,hrun,g2,g3,g4,g5⟩:=append_new (P:=P) (X:=X) (ty:=ty) ht hs hi hz hzs ho (by omega) hc2 hc3 hd1 hd2 hel hnl
       have hll:(els++news).length=els.length+news.length:=List.length_append
       obtain⟨Y,hw,k1,k2,k3,k4⟩:=grown_tip (e:=e) h hfr g5 g2 (by omega) g3 g4 (tips:=s.tips.set v none) (n:=n) fun w hw=>by rw[Tr.get_set] at hw;split at hw<;>first|exact hw|cases hw
       simp at k2
       exact⟨Y,_,by rw[hrun,hw],k1,k2,k3,k4⟩
    ·cases hr
   ·split at hr
    ·rename_i els hrow
     split at hr
     ·rename_i hc
      obtain⟨hc0,hc1,hc2,hc3⟩:=hc
      cases hr;subst hc0
      exact append_ref h hfr ht hs hi hz hzs hx hrow hc1 hc2 hc3 hnl hd2
     ·cases hr
    grind
   grind
  grind
theorem append_core (h:MemOK X s.mem s.tips) (hfr:X.ρ nvi=none) {t u ty e:TypeId} {i:TypeInfo} {z:Value} {xv yv:Value} {x y:AV} {row:Bool} {lv sl n:Nat} {E:Eff} (ht:P.underlying t=some (.slice e)) (hu:notInt P u) (hi:P.info? e=some i) (hz:i.zero=some z) (hzs:z.cells.size=i.size) (h0:0<i.size)
  (hx:VR X x xv) (hy:VR X y yv) (hr:appendA s row lv sl nvi i.size i.bytes x y=some E):Appended P X s t u ty xv yv nvi n E:=
 append_coreS h hfr ht hi hz hzs h0 hx (fun news hn hnl=>by
  obtain⟨new,hd2,hlen,hfc⟩:=news_ok (P:=P) h hn hy hnl h0
  have hnewlen:new.length=news.length*i.size:=by rw[←hd2.length,flatten_length hnl]
  have hfc':∀ w:World,(∀ b o,w.cell? ⟨b,o,none⟩=X.w.cell? ⟨b,o,none⟩)→(Builtin.firstCells i.size news.length yv).run P w=.ok new.toArray w:=by
   grind
  exact⟨new,hd2,.val hu (hlen X.w) (hfc' X.w fun _ _=>rfl) (hfc' X.w.drew fun _ _=>rfl)⟩) hr
end
end Go.Eng
set_option linter.unusedSectionVars false
namespace Go.Eng
open Go Go.RowKit
section
variable {P:Program} {X:Cx} {nt:NT} {s:St} {a:Act} {o:Oper} {dst:Option Nat} {nvi:Nat}
theorem boxAt_mem {m:List (Tr Ent)} {lv sl ver:Nat} {cs:List AV} (h:boxAt m lv sl ver=some cs):memGet m lv sl=some (.box ver cs):=by
 unfold boxAt at h
 split at h
 ·rename_i v cs' hm
  split at h<;>simp_all
 grind
theorem cellsL_ok {m:List (Tr Ent)} {t:Tr Unit} (h:MemOK X m t) {y:AV} {new:List AV} {v:Value} {sz:Nat} (hc:cellsL m sz y=some new) (hv:VR X y v) (h0:0<sz) :
  ∃ (k:Nat) (vs:List Value),new.length=k*sz∧All2 (VC X) new vs∧(∀ w:World,(Builtin.lenOf v).run P w=.ok k w)∧
   (∀ w:World,(∀ b o,w.cell? ⟨b,o,none⟩=X.w.cell? ⟨b,o,none⟩)→(Builtin.firstCells sz k v).run P w=.ok vs.toArray w):=by
 have data:∀ els,elsOf m y=some els→(∀ e∈els,e.length=sz)→new=els.flatten.map .d→∃ (k:Nat) (vs:List Value),new.length=k*sz∧All2 (VC X) new vs∧(∀ w:World,(Builtin.lenOf v).run P w=.ok k w)∧
   (∀ w:World,(∀ b o,w.cell? ⟨b,o,none⟩=X.w.cell? ⟨b,o,none⟩)→(Builtin.firstCells sz k v).run P w=.ok vs.toArray w):=by
  rintro els he hl rfl
  obtain⟨ad,cap,sz',b,o,rfl,h2,h3,h4⟩:=elsOf_ok h he hv
  obtain⟨vs,h5,h6⟩:=flat_of_lies h4
  have hlen:vs.length=els.length*sz:=by rw[←h6.length,flatten_length hl]
  refine⟨els.length,vs,by rw[List.length_map,flatten_length hl],h6.mapD,fun w=>rfl,fun w hw=>?_⟩
  by_cases hz:els.length=0
  ·have : vs = [] := List.eq_nil_of_length_eq_zero (by rw [hlen, hz, Nat.zero_mul])
   subst this
   rw[hz]
   cases ad with
   |none=>simp[Builtin.firstCells]
   |some ad=>simp[Builtin.firstCells,loadCells,loadCellsFrom]
  ·have := h3 (by omega)
   subst this
   have:=run_loadCells_list (P:=P) w ⟨b,o,none⟩ vs fun j u hj=>by
    rw[Addr.add_lit,hw]
    exact h5 j u hj
   rw[hlen] at this
   simpa[Builtin.firstCells] using this
 unfold cellsL at hc
 split at hc
 ·rename_i lv sl ver off n sz'
  split at hc
  ·rename_i cs hb
   split at hc
   ·rename_i hq
    obtain⟨rfl,hoff⟩:=hq
    cases hc
    obtain⟨L,C,e,hL,h1,h2,h3,h4,h5,h6,h7⟩:=box_block h (boxAt_mem hb)
    obtain⟨L',cap,hL',rfl,hcap,hn,_⟩:=hv
    rw[hL] at hL';cases hL'
    have hlen:((C.toList.drop (L.o+off)).take (n*sz')).length=n*sz':=by
     grind
    have hget:∀ (j:Nat) (u:Value),((C.toList.drop (L.o+off)).take (n*sz'))[j]?=some u→C[L.o+off+j]?=some u:=by
     grind
    refine⟨n,(C.toList.drop (L.o+off)).take (n*sz'),by rw[List.length_take,List.length_drop];omega,.of_get (by rw[hlen,List.length_take,List.length_drop];omega) fun j x u hj hu=>?_,fun w=>rfl,fun w hw=>?_⟩
    ·grind
    ·have := run_loadCells_list (P := P) w ⟨L.b, L.o + off, none⟩ ((C.toList.drop (L.o + off)).take (n * sz')) fun j u hj => by
      rw[Addr.add_lit,hw,cell_of_row _ _ _ _ _ _ h2]
      exact hget j u hj
     rw[hlen] at this
     simpa[Builtin.firstCells] using this
   grind
  grind
 grind
theorem cellsL_some {m:List (Tr Ent)} {t:Tr Unit} (h:MemOK X m t) {y:AV} {new:List AV} {v:Value} {sz:Nat} (hc:cellsL m sz y=some new) (hv:VR X y v) (h0:0<new.length):∃ p m c,v=.slice (some p) m c:=by
 unfold cellsL at hc
 split at hc
 ·obtain⟨L',cap,hL',rfl,_⟩:=hv<;>grind
 ·split at hc
  ·rename_i els he
   split at hc
   ·cases hc
    obtain⟨ad,cap,sz',b,o,rfl,h2,h3,h4⟩:=elsOf_ok h he hv
    cases els with
    |nil=>grind
    |cons e els=>
     grind
   grind
  grind
theorem appendB_len {s:St} {lv sl nvi sz bytes:Nat} {x y:AV} {E:Eff} (h:appendB s lv sl nvi sz bytes x y=some E):∃ new,cellsL s.mem sz y=some new∧0<new.length:=by
 unfold appendB at h
 split at h
 ·cases h
 ·rename_i new hc
  refine⟨new,hc,?_⟩
  cases new with
  |nil=>simp at h
  |cons x l=>simp
theorem new_boxG {m:List (Tr Ent)} {t:Tr Unit} (h:MemOK X m t) {C:Array Value} {e:TypeId} {v:Nat} {cs:List AV} (lv sl:Nat) (hv:X.ρ v=none) (hle:cs.length≤C.size) (hc:∀ (j:Nat) (x:AV),cs[j]?=some x→∃ u:Value,C[j]?=some u∧VC X x u) :
  MemOK (X.alloc C e v ⟨X.w.heap.size,0,C.size,1⟩) (memSet m lv sl (some (.box v cs))) t:=by
 have hx:Ext X (X.alloc C e v ⟨X.w.heap.size,0,C.size,1⟩):=Ext.alloc h.inF h.low hv
 refine (h.alloc hv).add (L:=⟨X.w.heap.size,0,C.size,1⟩) (new_ρ _ _ _ _ _) ⟨rfl,⟨h.fresh,C,e,new_heap _ _ _ _ _,by simp;omega⟩,fun o ho=>?_,fun j x hj=>?_⟩ fun k u M hk _ hu hc _=>new_apart h hv hk hu hc
 ·exact Nat.lt_irrefl _ (h.inF _ _ ho)
 ·obtain ⟨u, hu, hr⟩ := hc _ _ hj
  refine⟨u,?_,hr.ext hx⟩<;>simp_all[VC,Cx.alloc]
theorem VC.drew {X:Cx} {x:AV} {v:Value} (h:VC X x v):VC X.drew x v:=h.ext drew_ext
theorem grown_box (h:MemOK X s.mem s.tips) (hfr:X.ρ nvi=none) {m:List (Tr Ent)} {C:Array Value} {e:TypeId} {cs:List AV} {sz k G n lv sl:Nat} {vs:List Value} (hl:cs.length=k*sz) (hC:G*sz≤C.size) (hle:k≤G) (h0:0<k)
  (hvs:∀ (j:Nat) (u:Value),vs[j]?=some u→C[j]?=some u) (hd:All2 (VC X) cs vs) (hm:MemOK X m s.tips) :
  ∃ Y,Y.w=X.w.drew.alloc (.cells C e)∧Ext X Y∧VR Y (.bref lv sl nvi 0 k sz) (.slice (some ⟨X.w.heap.size,0,none⟩) k G)∧MemOK Y (memSet m lv sl (some (.box nvi cs))) s.tips∧DomOK X Y nvi n n:=by
 have hk:=Nat.mul_le_mul_right sz hle
 have nr:=new_boxG (X:=X.drew) (drew_mem hm) (C:=C) (e:=e) (v:=nvi) (cs:=cs) lv sl hfr (by omega) (fun j x hj=>by
  obtain⟨u,hu,hr⟩:=hd.get _ _ hj
  exact⟨u,hvs _ _ hu,hr.drew⟩)
 refine⟨X.drew.alloc C e nvi ⟨X.w.heap.size,0,C.size,1⟩,rfl,drew_ext.trans (Ext.alloc (X:=X.drew) h.inF h.low hfr),⟨⟨X.w.heap.size,0,C.size,1⟩,G,new_ρ X.drew C e nvi _,by simp,hle,h0,fun _=>by show 0+G*sz≤C.size;omega⟩,nr,?_⟩
 exact alloc_dom (X:=X.drew) (C:=C) (e:=e) (v:=nvi) (L:=⟨X.w.heap.size,0,C.size,1⟩) (n:=n)
theorem append_box (h:MemOK X s.mem s.tips) (hfr:X.ρ nvi=none) {t u ty e:TypeId} {i:TypeInfo} {z:Value} {xv yv:Value} {lv sl ver off len k n:Nat} {cs new:List AV} {vs:List Value} {rd:List (Nat×Nat×Nat)} (ht:P.underlying t=some (.slice e)) (hs:Src P u i X.w yv k vs) (hi:P.info? e=some i) (hz:i.zero=some z) (hzs:z.cells.size=i.size) (h0:0<i.size)
  (hx:VR X (.bref lv sl ver off len i.size) xv) (hb:boxAt s.mem lv sl ver=some cs) (hc1:off+len*i.size≤cs.length) (hc2:len+k≤maxLenA) (hc3:(len+k)*i.bytes≤roomA) (hk:0<k) (hl:new.length=k*i.size) (hd:All2 (VC X) new vs) :
  Appended P X s t u ty xv yv nvi n { val:=.bref lv sl nvi 0 (len+k) i.size,upd:=[(lv,sl,some (.box nvi ((cs.drop off).take (len*i.size)++new)))],tip:=[],rd }:=by
 have hg:=boxAt_mem hb
 obtain⟨L,C,ce,hL,h1,hb2,hb1,hb3,hb4,hap,hcont⟩:=box_block h hg
 have hx0:=hx
 obtain⟨L1,cap,hL1,rfl,h3,h4,h5⟩:=hx
 rw[hL] at hL1;cases hL1
 have hvl:vs.length=k*i.size:=by rw[←hd.length,hl]
 have hbl:((cs.drop off).take (len*i.size)).length=len*i.size:=by grind
 have hll:((cs.drop off).take (len*i.size)++new).length=(len+k)*i.size:=by grind
 by_cases hroom:len+k≤cap
 ·have h6 := h5 (by omega)
  have hm:=Nat.mul_le_mul_right i.size hroom
  rw[Nat.add_mul] at hm
  have hfit:L.o+off+len*i.size+vs.length≤C.size:=by omega
  have hst:=run_storeCells_at P L.b (L.o+off+len*i.size) ce vs 0 C X.w hb2 (by omega) (All2.one hd)
  simp only[Nat.add_zero] at hst
  let C':=(C.toList.take (L.o+off+len*i.size)++vs++C.toList.drop (L.o+off+len*i.size+vs.length)).toArray
  have hget:∀ j,C'[j]?=if L.o+off+len*i.size≤j∧j<L.o+off+len*i.size+vs.length then vs[j-(L.o+off+len*i.size)]? else C[j]?:=getElem?_put hfit
  have hsize:C'.size=C.size:=by
   show (C.toList.take (L.o+off+len*i.size)++vs++C.toList.drop (L.o+off+len*i.size+vs.length)).toArray.size=C.size
   simp
   omega
  have hFk:∀ q,X.F L.b q→C'[q]?=C[q]?:=fun q hq=>absurd hq (hb4 q)
  have hx1:Ext X (X.set L.b C'):=set_ext hb2 hb1 hFk
  have hm1:MemOK (X.set L.b C') (memSet s.mem lv sl none) s.tips:=set_mem (h.erase lv sl) hb2 hb1 hFk hap
  let L':Loc:=⟨L.b,L.o+off,cap*i.size,1⟩
  have hx2:Ext (X.set L.b C') ((X.set L.b C').name nvi L'):=name_ext hfr
  have hx:Ext X ((X.set L.b C').name nvi L'):=hx1.trans hx2
  refine⟨(X.set L.b C').name nvi L',.slice (some ⟨L.b,L.o+off,none⟩) (len+k) cap,?_,hx,?_,?_,?_⟩
  ·rw [append_room (i := i) (new := vs) ht hs hi hroom]
   simp only[Addr.add_lit,hst,Result.andThen_ok]
   rfl
  ·exact⟨L',cap,name_ρ,rfl,hroom,by omega,fun _=>by show 0+cap*i.size≤cap*i.size;omega⟩
  ·show MemOK _ (memSet s.mem lv sl _) s.tips
   refine (name_mem hm1 hfr).reset (e:=.box nvi ((cs.drop off).take (len*i.size)++new)) (L:=L') name_ρ ⟨rfl,⟨hb1,C',ce,set_heap hb2,?_⟩,hb4,fun j x hj=>?_⟩ fun k' w M hk' hw hMc _=>?_
   ·show L.o + off + max ((cs.drop off).take (len * i.size) ++ new).length (cap * i.size) ≤ C'.size
    rw[hsize,hll,Nat.add_mul]
    omega
   ·show ∃ v, (X.set L.b C').w.cell? ⟨L.b, L.o + off + j, none⟩ = some v ∧ _
    rw[cell_of_row _ _ _ _ _ _ (set_heap hb2),hget]
    by_cases hq:j<len*i.size
    ·rw [List.getElem?_append_left (by omega), List.getElem?_take, if_pos hq, List.getElem?_drop] at hj
     obtain⟨v,hv,hr⟩:=hcont _ _ hj
     rw[if_neg (by omega),Nat.add_assoc]
     exact⟨v,hv,hr.ext hx⟩
    ·rw [List.getElem?_append_right (by omega), hbl] at hj
     obtain⟨v,hv,hr⟩:=hd.get _ _ hj
     have hlt:=(List.getElem?_eq_some_iff.1 hv).1
     rw[if_pos (by omega),show L.o+off+j-(L.o+off+len*i.size)=j-len*i.size by omega]
     exact⟨v,hv,hr.ext hx⟩
   ·obtain ⟨M', hM', _⟩ := (h.erase lv sl).holds_ρ hk'
    have:((X.set L.b C').name nvi L').ρ w=some M':=hx.loc _ _ hM'
    rw[hw] at this;injection this with this;subst this
    exact hap k' w M hk' hM' hMc
  ·exact⟨Nat.le_refl _,fun w M hw=>by
    rcases (name_dom (X:=X.set L.b C') (v:=nvi) (n:=0) (L:=L')).2 w M hw with hq|hq|hq
    ·exact .inl hq
    ·exact .inr (.inl hq)
    ·omega⟩
 ·have hcl : cellsL s.mem i.size (.bref lv sl ver off len i.size) = some ((cs.drop off).take (len * i.size)) := by
   simp[cellsL,hb,hc1,and_self,if_true]
  obtain⟨k',old,q1,q2,q3,q4⟩:=cellsL_ok (P:=P) h hcl hx0 h0
  have hkk:k'=len:=by
   rw[hbl] at q1
   exact (Nat.eq_of_mul_eq_mul_right h0 q1).symm
  subst hkk
  have hol:old.length=k'*i.size:=by rw[←q2.length,hbl]
  have hrun:=append_grow (P:=P) (t:=t) (u:=u) (ty:=ty) (w:=X.w) (cap:=cap) ht hs hi hz (q4 X.w.drew fun _ _=>rfl) (by omega) hc2 hc3
  have hG:=grownCap_ge X.w (k'+k) cap e
  obtain⟨Y,hw,k1,k2,k3,k4⟩:=grown_box (e:=e) (lv:=lv) (sl:=sl) (m:=memSet s.mem lv sl none) h hfr hll (grown_size hol hvl hzs hG) hG (by omega) (fun j u hj=>grown_cells j u hj) (q2.append hd) (n:=n) (h.erase lv sl)
  exact⟨Y,_,by rw[hrun,hw],k1,k2,reset_eq k3,k4⟩
theorem appendB_core (h:MemOK X s.mem s.tips) (hfr:X.ρ nvi=none) {t u ty e:TypeId} {i:TypeInfo} {z:Value} {xv yv:Value} {x y:AV} {lv sl n:Nat} {E:Eff} (ht:P.underlying t=some (.slice e)) (hu:notInt P u) (hi:P.info? e=some i) (hz:i.zero=some z) (hzs:z.cells.size=i.size) (h0:0<i.size)
  (hx:VR X x xv) (hy:VR X y yv) (hr:appendB s lv sl nvi i.size i.bytes x y=some E):Appended P X s t u ty xv yv nvi n E:=by
 unfold appendB at hr
 split at hr
 ·cases hr
 ·rename_i new hc
  obtain⟨k,vs,q1,q2,q3,q4⟩:=cellsL_ok (P:=P) h hc hy h0
  have hdiv:new.length / i.size=k:=by simp_all
  have hsrc:Src P u i X.w yv k vs:=.val hu (q3 X.w) (q4 X.w fun _ _=>rfl) (q4 X.w.drew fun _ _=>rfl)
  simp[hdiv] at hr
  split at hr
  ·cases hr
  ·rename_i hk
   have hk:0<k:=by
    rcases Nat.eq_zero_or_pos k with hq|hq<;>simp_all
   split at hr
   ·split at hr
    ·rename_i hc2
     cases hr
     obtain⟨ad,b,off,sz',rfl,_,_⟩:=hx
     have hrun:=append_grow (P:=P) (t:=t) (u:=u) (ty:=ty) (w:=X.w) (ad:=ad) (n:=0) (cap:=0) (old:=[]) ht hsrc hi hz (by
      cases ad with
      |none=>simp[Builtin.firstCells]
      |some ad=>simp[Builtin.firstCells,loadCells,loadCellsFrom]) (by omega) (by omega) (by rw[Nat.zero_add];exact hc2.2)
     have hG:=grownCap_ge X.w (0+k) 0 e
     have hvl:vs.length=k*i.size:=by rw[←q2.length,q1]
     obtain⟨Y,hw,k1,k2,k3,k4⟩:=grown_box (e:=e) (lv:=lv) (sl:=sl) (m:=s.mem) h hfr (k:=0+k) (by rw[q1,Nat.zero_add]) (grown_size (old:=[]) (n:=0) (by simp) hvl hzs hG) hG (by omega) (fun j u hj=>grown_cells j u (by simpa using hj)) q2 (n:=n) h
     simp at k2
     exact⟨Y,_,by show _=_;rw[hw];rw[Nat.zero_add] at hrun ⊢;exact hrun,k1,k2,k3,k4⟩
    grind
   ·split at hr
    ·rename_i cs hb
     split at hr
     ·rename_i hc2
      obtain⟨rfl,hc2,hc3,hc4⟩:=hc2
      cases hr
      exact append_box h hfr ht hsrc hi hz hzs h0 hx hb hc2 hc3 hc4 hk q1 q2
     grind
    grind
   grind
end
end Go.Eng
set_option linter.unusedSectionVars false
namespace Go.Eng
open Go Go.RowKit
theorem flatten_take_drop {α : Type} {sz:Nat} : ∀ {els:List (List α)},(∀ e∈els,e.length=sz)→∀ k,k≤els.length→(els.take k).flatten=els.flatten.take (k*sz)∧(els.drop k).flatten=els.flatten.drop (k*sz)
 |els,hl,0,_=>by simp
 |[],hl,k+1,h=>by simp at h
 |f :: els,hl,k+1,h=>by
  have ih:=flatten_take_drop (els:=els) (fun e he=>hl e (by simp[he])) k (by simpa using h)
  have hf:=hl f (by simp)
  simp[List.take_succ_cons,List.flatten_cons,List.drop_succ_cons,ih.1,ih.2]
  rw[show (k+1)*sz=f.length+k*sz by rw[Nat.add_mul,hf];omega]
  refine⟨?_,?_⟩
  ·grind
  ·rw[List.drop_append,List.drop_of_length_le (l:=f) (by omega),show f.length+k*sz-f.length=k*sz by omega,List.nil_append]
theorem flatten_splice {α : Type} {sz:Nat} {els new:List (List α)} (hl:∀ e∈els,e.length=sz) (hn:∀ e∈new,e.length=sz) {off:Nat} (h:off+new.length≤els.length):(splice els off new).flatten=splice els.flatten (off*sz) new.flatten:=by
 unfold splice
 rw[List.flatten_append,List.flatten_append,(flatten_take_drop hl off (by omega)).1,(flatten_take_drop hl (off+new.length) h).2,flatten_length hn,Nat.add_mul]
theorem splice_nil {α : Type} (els:List α) (off:Nat):splice els off []=els:=by simp[splice]
section
variable {P:Program} {X:Cx} {nt:NT} {s:St} {a:Act} {o:Oper} {dst:Option Nat} {nvi:Nat}
theorem MemOK.same {m:List (Tr Ent)} {t:Tr Unit} (h:MemOK X m t) {lv sl:Nat} {e:Ent} (hg:memGet m lv sl=some e):MemOK X (memSet m lv sl (some e)) t:=
 h.congr (fun lv' sl'=>by
  rw[memGet_set]<;>grind) fun _=>rfl
theorem row_splice {m:List (Tr Ent)} {t:Tr Unit} (h:MemOK X m t) {lv sl ver off:Nat} {els new:List (List D)} {vs:List Value} {L:Loc} (hg:memGet m lv sl=some (.row ver els)) (hL:X.ρ ver=some L) (hoff:off+new.length≤els.length) (hn:∀ e∈new,e.length=L.sz) (hd:All2 (DR X.w X.F) new.flatten vs) (h0:0<new.length) :
  ∃ Y,Ext X Y∧Y.ρ = X.ρ∧MemOK Y (memSet m lv sl (some (.row ver (splice els off new)))) t∧(storeCells ⟨L.b,L.o+off*L.sz,none⟩ vs).run P X.w=.ok () Y.w:=by
 obtain⟨L',hL',e1,e2,_,_⟩:=h.ents _ _ _ hg
 have:X.ρ ver=some L':=hL'
 rw[hL] at this;cases this
 have hvl:vs.length=new.length*L.sz:=by rw[←hd.length,flatten_length hn]
 have hfl:=flatten_splice e2 hn hoff
 have hfll:=flatten_length e2
 have hle:off*L.sz+new.length*L.sz≤els.length*L.sz:=by rw[←Nat.add_mul];exact Nat.mul_le_mul_right _ hoff
 have hcl:els.length*L.sz≤L.cap*L.sz:=Nat.mul_le_mul_right _ e1
 refine row_write (P:=P) h hg hL (by omega) (by omega) ?_ (fun f hf=>?_) (by rw[length_splice' _ _ _ hoff];exact e1) fun j x hj=>?_
 ·rw[hfl,hvl,←flatten_length hn,take_drop_splice _ _ _ (by omega)]<;>omega
 ·grind[splice,Block,Ent.ver,All2,memGet]
 ·rw [hfl, getElem?_splice _ _ _ (by rw [flatten_length hn]; omega)] at hj
  rw[flatten_length hn] at hj<;>grind
theorem copy_run {t u:TypeId} {e:TypeId} {i:TypeInfo} {x y:Operand} {ad:Option Addr} {len cap m:Nat} {cells:List Value} (ho:o.op=.call { callee:=.builtin .copy,args:=#[x,y],argTypes:=#[t,u] }) (ht:P.underlying t=some (.slice e)) (hi:P.info? e=some i) (hx:a.eval x=.slice ad len cap)
  (hl:(Builtin.lenOf (a.eval y)).run P X.w=.ok m X.w) (hf:(Builtin.firstCells i.size (Nat.min m len) (a.eval y)).run P X.w=.ok cells.toArray X.w) :
  (execOp a.eval o).run P X.w = match ad with
   |some ad=>((storeCells ad cells).run P X.w).andThen fun _ w'=>.ok (.value (goInt (Nat.min m len))) w'
   |none=>.ok (.value (goInt (Nat.min m len))) X.w:=by
 cases ad with
 |none=>simp[execOp,ho,resolve,invoke,builtin,Builtin.copy_,run_underlying ht,hx,hl,sizeOf,typeInfo,hi,hf]
 |some ad=>
  simp[execOp,ho,resolve,invoke,builtin,Builtin.copy_,run_underlying ht,hx,hl,sizeOf,typeInfo,hi,hf]
  cases Sem.run P (storeCells ad cells) X.w<;>rfl
theorem copyRow_ok (hs:Sim X nt s a) {t u e:TypeId} {i:TypeInfo} {x y:Operand} {x' y':Opd} {lv sl ver off ln:Nat} {els news:List (List D)} {rd:List (Nat×Nat×Nat)} (ho:o.op=.call { callee:=.builtin .copy,args:=#[x,y],argTypes:=#[t,u] }) (ht:P.underlying t=some (.slice e)) (hi:P.info? e=some i) (h0:0<i.size)
  (hx:opd x=some x') (hy:opd y=some y') (hq:x'.ev s.slots=.ref lv sl ver off ln i.size) (hn:newsOf s.mem (y'.ev s.slots)=some news) (hr:rowAt s.mem lv sl ver=some els) (hle:off+ln≤els.length) (hal:∀ e∈news,e.length=i.size) :
  After P X s a o dst nvi (.eff { val:=intA (min news.length ln),upd:=[(lv,sl,some (.row ver (splice els off (news.take (min news.length ln)))))],tip:=[],rd }):=by
 obtain⟨vs,hd,hlen,hfc⟩:=news_ok (P:=P) hs.mem hn (opd_ok hs hy) hal h0
 have hv:=opd_ok hs hx
 rw[hq] at hv
 obtain⟨L,ad,cap,hL,h1,h2,h3,h4⟩:=hv
 obtain⟨L',hL',hE,hg⟩:=row_lies hs.mem hr
 have hmin:Nat.min news.length ln=min news.length ln:=rfl
 have hrun:=copy_run (P:=P) (X:=X) ho ht hi h2 (hlen X.w) (hfc X.w (fun _ _=>rfl) _ (Nat.min_le_left _ _))
 rw[hmin] at hrun
 have htl:(news.take (min news.length ln)).length=min news.length ln:=by grind
 by_cases hz:min news.length ln=0
 ·have hnil : news.take (min news.length ln) = [] := by grind
  refine .value (Y:=X) (v:=goInt ((min news.length ln:Nat):Int)) ?_ (Ext.refl X) (.of_sc rfl) ?_ (DomOK.refl _ _ _)
  ·rw [hrun]
   cases ad with
   |none=>rfl
   |some ad=>rw[hz];simp[storeCells]
  ·rw [hnil, splice_nil]
   exact hs.mem.same hg
 ·obtain ⟨rfl, h5⟩ := h4 (by omega)
  have hnt:∀ e∈news.take (min news.length ln),e.length=L.sz:=fun f hf=>by rw[h1];exact hal f (List.mem_of_mem_take hf)
  obtain⟨Y,hx',hρ,hm,hst⟩:=row_splice (P:=P) hs.mem (off:=off) (new:=news.take (min news.length ln)) (vs:=vs.take (min news.length ln*i.size)) hg hL (by omega) hnt (by
   rw[(flatten_take_drop hal _ (Nat.min_le_left _ _)).1]
   exact hd.take _) (by omega)
  refine .value (Y:=Y) (v:=goInt ((min news.length ln:Nat):Int)) ?_ hx' (.of_sc rfl) hm (DomOK.of_ρ hρ)<;>simp_all
theorem copyBox_ok (hs:Sim X nt s a) {t u e:TypeId} {i:TypeInfo} {x y:Operand} {x' y':Opd} {lv sl ver off n:Nat} {cs:List AV} {news:List (List D)} {rd:List (Nat×Nat×Nat)} (ho:o.op=.call { callee:=.builtin .copy,args:=#[x,y],argTypes:=#[t,u] }) (ht:P.underlying t=some (.slice e)) (hi:P.info? e=some i) (h0:0<i.size)
  (hx:opd x=some x') (hy:opd y=some y') (hq:x'.ev s.slots=.bref lv sl ver off n i.size) (hn:newsOf s.mem (y'.ev s.slots)=some news) (hb:boxAt s.mem lv sl ver=some cs) (hle:off+n*i.size≤cs.length) (hal:∀ e∈news,e.length=i.size) :
  After P X s a o dst nvi (.eff { val:=intA (min news.length n),upd:=[(lv,sl,some (.box ver (splice cs off ((news.take (min news.length n)).flatten.map .d))))],tip:=[],rd }):=by
 obtain⟨vs,hd,hlen,hfc⟩:=news_ok (P:=P) hs.mem hn (opd_ok hs hy) hal h0
 have hv:=opd_ok hs hx
 rw[hq] at hv
 obtain⟨L,cap0,hL,h2,_⟩:=hv
 have hg:memGet s.mem lv sl=some (.box ver cs):=by
  unfold boxAt at hb
  split at hb
  ·split at hb<;>simp_all
  grind
 have hrun:=copy_run (P:=P) (X:=X) ho ht hi h2 (hlen X.w) (hfc X.w (fun _ _=>rfl) _ (Nat.min_le_left _ _))
 have hd':All2 (DR X.w X.F) (news.take (min news.length n)).flatten (vs.take (min news.length n*i.size)):=by
  rw[(flatten_take_drop hal _ (Nat.min_le_left _ _)).1]
  exact hd.take _
 have hdc:All2 (VC X) ((news.take (min news.length n)).flatten.map .d) (vs.take (min news.length n*i.size)):=by
  refine .of_get (by rw[List.length_map];exact hd'.length) fun j x v hj hv=>?_
  rw[List.getElem?_map] at hj
  cases hq':(news.take (min news.length n)).flatten[j]? with
  |none=>grind
  |some y=>
   rw[hq'] at hj
   cases hj
   obtain⟨v',hv',hdr⟩:=hd'.get _ _ hq'
   simp_all
   exact hdr
 have hfl:((news.take (min news.length n)).flatten.map AV.d).length≤n*i.size:=by
  rw[List.length_map,flatten_length (fun f hf=>hal f (List.mem_of_mem_take hf)),List.length_take]
  exact Nat.mul_le_mul_right _ (by omega)
 obtain⟨L',Y,hL',hx',hρ,hm,hst⟩:=box_write (P:=P) hs.mem hg (off:=off) (by omega) hdc
 rw[hL] at hL';refine .value (Y:=Y) (v:=goInt ((min news.length n:Nat):Int)) ?_ hx' (.of_sc rfl) hm (DomOK.of_ρ hρ)<;>simp_all
theorem clear_ok (hs:Sim X nt s a) {t e:TypeId} {sz:Nat} {x:Operand} {x':Opd} {lv sl ver off ln:Nat} {els:List (List D)} {z:List D} {zl:List Value} {rd:List (Nat×Nat×Nat)} (ho:o.op=.call { callee:=.builtin .clear,args:=#[x],argTypes:=#[t] }) (ht:P.underlying t=some (.slice e)) (hz:zeroP P e=some zl) (hzd:constDs zl=some z) (hzl:z.length=sz) (h0:0<sz)
  (hx:opd x=some x') (hq:x'.ev s.slots=.ref lv sl ver off ln sz) (hr:rowAt s.mem lv sl ver=some els) (hle:off+ln≤els.length) :
  After P X s a o dst nvi (.eff { val:=undefA,upd:=[(lv,sl,some (.row ver (splice els off (List.replicate ln z))))],tip:=[],rd }):=by
 have hv:=opd_ok hs hx
 rw[hq] at hv
 obtain⟨L,ad,cap,hL,h1,h2,h3,h4⟩:=hv
 obtain⟨L',hL',hE,hg⟩:=row_lies hs.mem hr
 obtain⟨i,zv,hi,hiz,rfl⟩:=zeroP_run hz
 by_cases hn:ln=0
 ·subst hn
  refine .value (Y:=X) (v:=undef) ?_ (Ext.refl X) undef_ok ?_ (DomOK.refl _ _ _)
  ·cases ad<;>simp[execOp,ho,resolve,invoke,builtin,Builtin.clear_,run_underlying ht,h2,undef]
  ·rw [show List.replicate 0 z = [] from rfl, splice_nil]
   exact hs.mem.same hg
 ·obtain ⟨rfl, h5⟩ := h4 (by omega)
  have hZ:All2 (DR X.w X.F) z zv.cells.toList:=constDs_ok hzd
  have hzs:zv.cells.size=sz:=by rw[←hzl,hZ.length,Array.length_toList]
  have hrep:=replicate_flat hZ hzl h0 ln (ln*sz) (Nat.le_refl _)
  rw[madeCells_all] at hrep
  obtain⟨Y,hx',hρ,hm,hst⟩:=row_splice (P:=P) hs.mem (off:=off) (new:=List.replicate ln z) hg hL (by simpa using hle) (fun f hf=>by rw[(List.mem_replicate.1 hf).2,h1];exact hzl) hrep (by simp;omega)
  refine .value (Y:=Y) (v:=undef) ?_ hx' undef_ok hm (DomOK.of_ρ hρ)
  have hzc:(Builtin.zeroCells zv.cells ln).toList=(madeCells zv.cells (ln*sz)).toList:=by simp[Builtin.zeroCells,madeCells,hzs]
  rw[h1] at hst
  simp[execOp,ho,resolve,invoke,builtin,Builtin.clear_,run_underlying ht,h2,zeroValue,typeInfo,hi,hiz,hzc,hst,undef]
theorem min_ok (hs:Sim X nt s a) {ts:Array TypeId} {x y:Operand} {x' y':Opd} {k:IntKind} {p q:Int} (ho:o.op=.call { callee:=.builtin .min,args:=#[x,y],argTypes:=ts }) (hx:opd x=some x') (hy:opd y=some y')
  (h1:x'.ev s.slots=.d (.sc (.int k p))) (h2:y'.ev s.slots=.d (.sc (.int k q))):Quiet P X o a (scA (.int k (min p q))):=by
 have g1:=opd_ok hs hx;rw[h1] at g1;have g1:=g1.sc
 have g2:=opd_ok hs hy;rw[h2] at g2;have g2:=g2.sc
 refine⟨_,?_,.scA rfl⟩
 have e:(if q<p then q else p)=min p q:=by grind
 simp[execOp,ho,resolve,invoke,builtin,Builtin.min_,g1,g2,Builtin.min2,e]
theorem max_ok (hs:Sim X nt s a) {ts:Array TypeId} {x y:Operand} {x' y':Opd} {k:IntKind} {p q:Int} (ho:o.op=.call { callee:=.builtin .max,args:=#[x,y],argTypes:=ts }) (hx:opd x=some x') (hy:opd y=some y')
  (h1:x'.ev s.slots=.d (.sc (.int k p))) (h2:y'.ev s.slots=.d (.sc (.int k q))):Quiet P X o a (scA (.int k (max p q))):=by
 have g1:=opd_ok hs hx;rw[h1] at g1;have g1:=g1.sc
 have g2:=opd_ok hs hy;rw[h2] at g2;have g2:=g2.sc
 refine⟨_,?_,.scA rfl⟩
 have e:(if p<q then q else p)=max p q:=by grind
 simp[execOp,ho,resolve,invoke,builtin,Builtin.max_,g1,g2,Builtin.max2,e]
end
end Go.Eng
set_option linter.unusedSectionVars false
namespace Go.Eng
open Go Go.RowKit
theorem bytesOf_nums:∀ {els:List (List D)} {l:List UInt8},bytesOf els=some l→∃ xs:List Int,els=xs.map (fun n=>[.sc (.int .u8 n)])∧l=xs.map fun n=>UInt8.ofNat n.toNat:=by
 intro els
 induction els with
 |nil=>simp_all[bytesOf]
 | cons e r ih =>
  intro l h
  unfold bytesOf at h
  split at h
  ·grind
  ·rename_i n r' hq
   cases hq
   obtain⟨l',hl',rfl⟩:=Option.map_eq_some_iff.1 h
   obtain⟨xs,rfl,rfl⟩:=ih hl'
   exact⟨n :: xs,rfl,rfl⟩
  grind
section
variable {P:Program} {X:Cx} {nt:NT} {s:St} {a:Act} {o:Oper} {dst:Option Nat} {nvi:Nat}
theorem b2s_ok (hs:Sim X nt s a) {src ds e:TypeId} {x:Operand} {x':Opd} {els:List (List D)} {l:List UInt8} (ho:o.op=.convert src ds x) (h1:P.underlying src=some (.slice e)) (h2:P.underlying e=some (.int .u8)) (h3:P.underlying ds=some .string)
  (hx:opd x=some x') (he:elsOf s.mem (x'.ev s.slots)=some els) (hl:bytesOf els=some l):Quiet P X o a (scA (.string (strOfB l))):=by
 obtain⟨xs,rfl,rfl⟩:=bytesOf_nums hl
 obtain⟨ad,cap,sz,b,off,hv,_,had,hli⟩:=elsOf_ok hs.mem he (opd_ok hs hx)
 refine⟨.string (strOfB (xs.map fun n=>UInt8.ofNat n.toNat)),?_,.scA rfl⟩
 have key:(convert src ds (a.eval x)).run P X.w=.ok (.string (strOfB (xs.map fun n=>UInt8.ofNat n.toNat))) X.w:=by
  rw[hv]
  by_cases h0:xs.length=0
  ·have hnil : xs = [] := List.eq_nil_of_length_eq_zero h0
   subst hnil
   rw[run_convert_bytes_string X.w src ds e ad _ cap h1 h2 h3]
   cases ad with
   |none=>rfl
   |some ad=>
    rfl
  ·have hlt : 0 < (xs.map (fun n => ([.sc (.int .u8 n)] : List D))).length := by grind
   have:=had hlt
   subst this
   have hsz:sz=1:=by
    have:=hli.1 _ (List.getElem_mem hlt)<;>grind
   subst hsz
   exact run_convert_bytes_arg X.w src e h1 h2 b off _ cap xs (by simp) (fun i hi=>by
    simp at hi
    obtain⟨_,v,hv,hd⟩:=hli.2 i [.sc (.int .u8 xs[i])] 0 (.sc (.int .u8 xs[i])) (by simp[List.getElem?_eq_getElem hi]) rfl
    cases hd
    simp only[Nat.mul_one,Nat.add_zero] at hv
    rw[hv]
    simp[List.getD,List.getElem?_eq_getElem hi]) ds h3
 simp[execOp,ho,key]
def Cx.allocO (X:Cx) (ob:Obj) (v:Nat) (L:Loc):Cx:={ X with w:=X.w.alloc ob,ρ:=fun u=>if u=v then some L else X.ρ u }
theorem allocO_ext {ob:Obj} {v:Nat} {L:Loc} (hin:∀ b o,X.F b o→b<X.w.heap.size) (hlow:∀ b,X.old b→b<X.w.heap.size) (hv:X.ρ v=none):Ext X (X.allocO ob v L):=
 ⟨rfl, (Stays.refl _ _).alloc hlow _, fun _ _ h => h, fun b o h => cell_alloc (hin b o h), fun u M hu => by
  grind[Cx.allocO],fun _ _ h=>.inl h⟩
theorem allocO_mem {m:List (Tr Ent)} {t:Tr Unit} {ob:Obj} {v:Nat} {L:Loc} (h:MemOK X m t) (hv:X.ρ v=none):MemOK (X.allocO ob v L) m t:=
 h.move (allocO_ext h.inF h.low hv) (fun k u M hk hu hc=>by
   obtain⟨M',hM',h2⟩:=h.holds_ρ hk
   rw[hu] at hM';cases hM'
   exact heap_alloc_old _ _ _ (h2 hc).1) (fun _ _ _ _ _ _ _ h=>h) (fun b o hb=>by
   have:=h.inF b o hb
   show b<(X.w.alloc _).heap.size
   rw[World.size_alloc];omega)
theorem allocO_dom {ob:Obj} {v:Nat} {L:Loc} {n:Nat} : DomOK X (X.allocO ob v L) v n n:=
 ⟨Nat.le_refl _, fun u M h => by
  grind[Cx.allocO]⟩
theorem s2b_ok (hs:Sim X nt s a) (hfr:X.ρ nvi=none) {src ds e:TypeId} {x:Operand} {x':Opd} {b:ByteArray} {rd:List (Nat×Nat×Nat)} (ho:o.op=.convert src ds x) (h1:P.underlying src=some .string) (h2:P.underlying ds=some (.slice e)) (h3:P.underlying e=some (.int .u8))
  (hx:opd x=some x') (he:x'.ev s.slots=.d (.sc (.string b))):After P X s a o dst nvi (.eff { val:=.d (.sl (b.data.toList.map fun c=>[.sc (.int .u8 c.toNat)])),upd:=[],tip:=[],rd }):=by
 have hv:=opd_ok hs hx;rw[he] at hv;have hv:=hv.sc
 have hrun:=run_bytes_of_string (P:=P) X.w src ds e b h1 h2 h3
 have hcap:b.size≤grownCap X.w b.size 0 e:=grownCap_ge _ _ _ _
 generalize grownCap X.w b.size 0 e=cap at hrun hcap
 let ob:Obj:=.cells (bytesRow b cap) e ((bytesRow b cap).size,(bytesRow b cap).size+1)
 let X2:=X.drew.allocO ob nvi ⟨0,0,0,0⟩
 let X3:=X2.more fun b' q=>b'=X.w.heap.size∧q<b.size
 have m1:MemOK X.drew s.mem s.tips:=drew_mem hs.mem
 have e2:Ext X.drew X2:=allocO_ext m1.inF m1.low hfr
 have m2:MemOK X2 s.mem s.tips:=allocO_mem m1 hfr
 have hsz:X2.w.heap.size=X.w.heap.size+1:=World.size_alloc _ _
 have e3:Ext X2 X3:=Ext.more fun b' q hq=>by rw[hq.1];exact hs.mem.fresh
 have m3:MemOK X3 s.mem s.tips:=m2.more (fun b' q hq=>by rw[hq.1];exact⟨hs.mem.fresh,by omega⟩) fun k u M q hk hu hc hq=>by
  obtain⟨M',hM',g⟩:=m1.holds_ρ hk
  have:X2.ρ u=some M':=e2.loc _ _ hM'
  rw[hu] at this;injection this with this;subst this
  have h4:=(g hc).1
  have h5:X.drew.w.heap.size=X.w.heap.size:=rfl
  have h6:=hq.1
  omega
 have hheap:X3.w.heap[X.w.heap.size]?=some ob:=heap_alloc_new X.drew.w ob
 have hx3:Ext X X3:=(drew_ext.trans e2).trans e3
 refine .value (Y:=X3) (v:=.slice (some ⟨X.w.heap.size,0,none⟩) b.size cap) ?_ hx3 ?_ m3 ⟨Nat.le_refl _,fun u M hu=>?_⟩
 ·simp [execOp, ho, hv, hrun]
  rfl
 ·refine DR.of_lies (b := X.w.heap.size) (o := 0) (sz := 1) ⟨fun f hf => ?_, fun i f j y hi hj => ?_⟩ (by simp) hcap fun _ => rfl
  ·grind
  ·rw [List.getElem?_map] at hi
   obtain⟨c,hc,rfl⟩:=Option.map_eq_some_iff.1 hi
   have hil:i<b.data.toList.length:=(List.getElem?_eq_some_iff.1 hc).1
   match j,hj with
   |0,hj=>
    simp at hj;subst hj
    refine⟨.inr ⟨rfl,by simpa using hil⟩,.int .u8 c.toNat,?_,.sc _ rfl⟩
    simp[World.cell?,hheap,ob,Nat.zero_add,Nat.mul_one,Nat.add_zero,Option.isSome_none,Bool.false_eq_true,if_false]
    unfold bytesRow<;>grind
 ·rcases (allocO_dom (X:=X.drew) (ob:=ob) (v:=nvi) (L:=⟨0,0,0,0⟩) (n:=s.nv)).2 u M hu with q|q|q<;>grind[Cx.drew,VR,Opd.ev,opd,St.app]
theorem mkSet_ok {lq:Nat} (hs:Sim X nt s a) (hfr:X.ρ nvi=none) {t:TypeId} {d:Nat} (ho:o.op=.makeMap t none) :
  After P X s a o dst nvi (.eff { val:=.mp lq d nvi,upd:=[(lq,d,some (.mp nvi []))],tip:=[],rd:=[] }):=by
 have hρ : (X.allocO (.map #[] 0) nvi ⟨X.w.heap.size,0,0,1⟩).ρ nvi=some ⟨X.w.heap.size,0,0,1⟩:=if_pos rfl
 refine .value (Y:=X.allocO (.map #[] 0) nvi ⟨X.w.heap.size,0,0,1⟩) (v:=.map (some X.w.heap.size)) ?_ (allocO_ext hs.mem.inF hs.mem.low hfr) ⟨_,hρ,rfl⟩ ?_ allocO_dom
 ·simp[execOp,ho,Instr.makeMap,Cx.allocO]
 ·refine (allocO_mem hs.mem hfr).add (e := .mp nvi []) (L := ⟨X.w.heap.size, 0, 0, 1⟩) hρ ⟨rfl, hs.mem.fresh, fun o ho => Nat.lt_irrefl _ (hs.mem.inF _ _ ho), #[], 0, heap_alloc_new _ _, rfl⟩ fun k u M hk _ hu hc _ => ?_
  obtain⟨M',hM',h2⟩:=hs.mem.holds_ρ hk<;>grind[keyE,St.app,Holds,Cx.allocO]
theorem set_lies {m:List (Tr Ent)} {t:Tr Unit} (h:MemOK X m t) {lv sl ver:Nat} {ks:List (List UInt8)} (hr:setAt m lv sl ver=some ks) :
  ∃ L,X.ρ ver=some L∧EntOK X (.mp ver ks) L∧memGet m lv sl=some (.mp ver ks):=by
 unfold setAt at hr
 split at hr
 ·rename_i v ks' hg
  split at hr
  ·rename_i hv
   cases hr
   have hv:=beq_true.1 hv
   subst hv
   obtain⟨L,hL,hE⟩:=h.ents _ _ _ hg
   exact⟨L,hL,hE,hg⟩
  grind
 grind
theorem str_eq (b:ByteArray) (l:List UInt8):(b==strOfB l)=decide (b.data.toList=l):=by
 have hb:∀ x y:ByteArray,(x==y)=(x.data==y.data):=fun x y=>by cases x;cases y;rfl
 grind[strOfB]
theorem find_set {b:ByteArray} : ∀ {es:List MapEntry} {ks:List (List UInt8)} (i:Nat),es.map (fun e=>(e.key,e.val))=ks.map (fun l=>(Value.string (strOfB l),Value.bool true))→
  (hasB ks b.data.toList=false∧Instr.findNow .string (.string b) es i=some none)∨
  (hasB ks b.data.toList=true∧∃ j e,es[j]?=some e∧e.key=.string b∧e.val=.bool true∧Instr.findNow .string (.string b) es i=some (some (i+j,.bool true)))
 |[],[],i,_=>.inl ⟨rfl,rfl⟩
 |[],_ :: _,i,h=>by simp at h
 |_ :: _,[],i,h=>by simp at h
 | e :: es, l :: ks, i, h => by
  simp at h
  obtain⟨⟨hk,hv⟩,h⟩:=h
  have hsame:Instr.sameNow .string (.string b) e.key=some (decide (b.data.toList=l)):=by
   rw[hk]
   simp[Instr.sameNow]
   rw[str_eq]
  by_cases hq:b.data.toList=l
  ·refine .inr ⟨by simp [hasB, hq], 0, e, rfl, ?_, hv, ?_⟩
   ·rw[hk,←hq];simp[strOfB]
   ·simp[Instr.findNow,hsame,hq,hv]
  ·rcases find_set (b := b) (i + 1) h with ⟨h1, h2⟩ | ⟨h1, j, e', h2, h3, h4, h5⟩
   ·exact .inl ⟨by simpa[hasB,hq] using h1,by simp[Instr.findNow,hsame,hq,h2]⟩
   ·refine .inr ⟨by simpa [hasB, hq] using h1, j + 1, e', by simpa using h2, h3, h4, ?_⟩
    simp only[Instr.findNow,hsame,hq,decide_false,h5]<;>grind
theorem key_ok {w:World} {c:Bool} {k:TypeId} {b:ByteArray} (hk:P.underlying k=some .string):(Instr.checkKey c 10000 k (.string b)).run P w=.ok () w:=by
 rw[Instr.checkKey]
 simp[run_underlying hk]
theorem same_str {n:Nat} {b:ByteArray} : Instr.sameBits n (.string b) (.string b)=true:=by
 have h:(b==b)=true:=by
  have:=str_eq b b.data.toList
  simp_all[strOfB]
 cases n<;>exact h
theorem hasK_ok (hs:Sim X nt s a) {t k e:TypeId} {m x:Operand} {m' x':Opd} {lv sl ver:Nat} {b:ByteArray} {ks:List (List UInt8)} (ho:o.op=.lookup t m x false) (ht:P.underlying t=some (.map k e)) (hk:P.underlying k=some .string) (hz:(P.info? e).bind (·.zero)=some (.bool false))
  (hm:opd m=some m') (hx:opd x=some x') (h1:m'.ev s.slots=.mp lv sl ver) (h2:x'.ev s.slots=.d (.sc (.string b))) (h3:setAt s.mem lv sl ver=some ks):Quiet P X o a (scA (.bool (hasB ks b.data.toList))):=by
 have g1:=opd_ok hs hm;rw[h1] at g1
 have g2:=opd_ok hs hx;rw[h2] at g2;have g2:=g2.sc
 obtain⟨L,hL,g1⟩:=g1
 obtain⟨L',hL',hE,_⟩:=set_lies hs.mem h3
 simp_all
 obtain⟨_,_,_,es,clock,hb,hf⟩:=hE
 refine⟨.bool (hasB ks b.data.toList),?_,.scA rfl⟩
 obtain⟨i,hi,hiz⟩:=Option.bind_eq_some_iff.1 hz
 have hc:=key_ok (P:=P) (w:=X.w) (c:=es.isEmpty) (b:=b) hk
 rcases find_set (b:=b) 0 hf with⟨q1,q2⟩|⟨q1,j,e',q2,q3,q4,q5⟩
 ·simp[execOp,ho,g1,g2,Instr.lookup,run_underlying ht,MapKept.run_getObj_map hb,hc,Instr.findKey,run_underlying hk,q2,zeroValue,typeInfo,hi,hiz,q1]
 ·simp[execOp,ho,g1,g2,Instr.lookup,run_underlying ht,MapKept.run_getObj_map hb,hc,Instr.findKey,run_underlying hk,q5,q1]
def Cx.putO (X:Cx) (g:Nat) (ob:Obj):Cx:={ X with w:={ X.w with heap:=X.w.heap.setIfInBounds g ob } }
theorem putO_heap {g:Nat} {ob ob':Obj} (hg:X.w.heap[g]?=some ob'):(X.putO g ob).w.heap[g]?=some ob:=by
 grind[Cx.putO]
theorem putO_other {g b:Nat} {ob:Obj} (h:b≠g):(X.putO g ob).w.heap[b]?=X.w.heap[b]?:=by
 simp[Cx.putO,Ne.symm h]
theorem putO_ext {g:Nat} {ob:Obj} (hb:¬X.old g) (hF:∀ o,¬X.F g o):Ext X (X.putO g ob):=by
 refine⟨rfl,⟨rfl,rfl,rfl,by simp[Cx.putO],fun k hk=>putO_other fun e=>hb (e ▸ hk)⟩,fun _ _ h=>h,fun b o h=>?_,fun _ _ h=>h,fun _ _ h=>.inl h⟩
 have hne:b≠g:=by grind
 simp[World.cell?,putO_other hne]
theorem addK_ok (hs:Sim X nt s a) {t k e:TypeId} {m x:Operand} {m' x':Opd} {lv sl ver:Nat} {b:ByteArray} {ks:List (List UInt8)} {rd:List (Nat×Nat×Nat)} (ho:o.op=.mapUpdate t m x (.const (.bool true))) (ht:P.underlying t=some (.map k e)) (hk:P.underlying k=some .string)
  (hm:opd m=some m') (hx:opd x=some x') (h1:m'.ev s.slots=.mp lv sl ver) (h2:x'.ev s.slots=.d (.sc (.string b))) (h3:setAt s.mem lv sl ver=some ks) :
  After P X s a o dst nvi (.eff { val:=undefA,upd:=[(lv,sl,some (.mp ver (addB ks b.data.toList)))],tip:=[],rd }):=by
 have g1:=opd_ok hs hm;rw[h1] at g1
 have g2:=opd_ok hs hx;rw[h2] at g2;have g2:=g2.sc
 obtain⟨L,hL,g1⟩:=g1
 obtain⟨L',hL',hE,hg⟩:=set_lies hs.mem h3
 rw[hL] at hL';cases hL'
 obtain⟨c1,c2,c3,es,clock,hb,hf⟩:=hE
 have hc:=key_ok (P:=P) (w:=X.w) (c:=false) (b:=b) hk
 have gt:a.eval (.const (.bool true))=.bool true:=rfl
 have fin : ∀ es' clock', (Instr.mapUpdate t (.map (some L.b)) (.string b) (.bool true)).run P X.w = .ok () (X.putO L.b (.map es' clock')).w → SetFit es' (addB ks b.data.toList) →
   After P X s a o dst nvi (.eff { val:=undefA,upd:=[(lv,sl,some (.mp ver (addB ks b.data.toList)))],tip:=[],rd }):=by
  intro es' clock' hrun hfit
  refine .skip (Y:=X.putO L.b (.map es' clock')) ?_ (putO_ext c2 c3) undef_ok ?_ (DomOK.of_ρ rfl)
  ·simp[execOp,ho,g1,g2,gt,hrun]
  ·have hap : ∀ k w M, Holds (memSet s.mem lv sl none) s.tips k w → X.ρ w = some M → 0 < M.cap → M.b ≠ L.b := by
    intro k' w M hk' hw hMc
    have hold:Holds s.mem s.tips k' w∧k'≠keyE lv sl:=by
     rcases hk' with⟨lv',sl',e',rfl,he',hv'⟩|⟨rfl,he'⟩
     ·rw [memGet_set] at he'
      split at he'
      ·cases he'
      ·rename_i hcc
       refine⟨.inl ⟨lv',sl',e',rfl,he',hv'⟩,fun hq=>?_⟩
       obtain⟨rfl,rfl⟩:=keyE_inj hq
       apply hcc
       unfold memGet at he'<;>grind
     ·exact⟨.inr ⟨rfl,he'⟩,fun hq=>keyE_ne_keyT hq.symm⟩
    exact hs.mem.apart _ _ _ _ _ _ hold.1 (.inl ⟨lv,sl,_,rfl,hg,rfl,rfl⟩) hold.2 hw hL hMc (by omega)
   have hm1:MemOK (X.putO L.b (.map es' clock')) (memSet s.mem lv sl none) s.tips:=
    (hs.mem.erase lv sl).move (putO_ext c2 c3) (fun k' w M hk' hw hMc => putO_other (hap k' w M hk' hw hMc)) (fun _ _ _ _ _ _ _ h => h) fun b' o' hb' => by
     have:=hs.mem.inF b' o' hb'
     simpa[Cx.putO] using this
   exact hm1.reset (e:=.mp ver (addB ks b.data.toList)) (L:=L) hL ⟨c1,c2,c3,es',clock',putO_heap hb,hfit⟩ fun k' w M hk' hw hMc _=>hap k' w M hk' hw hMc
 rcases find_set (b:=b) 0 hf with⟨q1,q2⟩|⟨q1,j,e',q2,q3,q4,q5⟩
 ·refine fin (es.push { key := .string b, val := .bool true, born := clock }) (clock + 1) ?_ ?_
  ·simp[Instr.mapUpdate,run_underlying ht,MapKept.run_getObj_map hb,hc,Instr.findKey,run_underlying hk,q2,MapKept.run_setObj_map _ hb,Cx.putO]
  ·unfold SetFit addB at *
   rw[q1]
   simp[hf,strOfB]
 ·refine fin (es.modify j fun e => { e with key := .string b, val := .bool true }) clock ?_ ?_
  ·simp [Instr.mapUpdate, run_underlying ht, MapKept.run_getObj_map hb, hc, Instr.findKey, run_underlying hk, q5, MapKept.run_setObj_map _ hb, Cx.putO, Instr.keyThatStays]
   have hj:es[j]?=some e':=by grind
   intro hno
   rw[hj] at hno
   simp only[Option.map_some,Option.getD_some,q3,same_str] at hno<;>grind
  ·unfold SetFit addB at *
   apply List.ext_getElem?
   grind
end
end Go.Eng
