/- A part of the proof: EngM, EngMB. -/
import Derived.Test.YtleacocdepjflaaGreatEngL
namespace Go.Eng
open Go Go.RowKit
section
variable {P:Program} {X:Cx} {nt:NT} {s:St} {a:Act} {o:Oper} {dst:Option Nat} {nvi:Nat}
theorem grown_tip (h:MemOK X s.mem s.tips) (hfr:X.ρ nvi=none) {C:Array Value} {e:TypeId} {els:List (List D)} {sz G n:Nat} {vs:List Value} {tips:Tr Unit} (hl:∀ e∈els,e.length=sz) (hC:G*sz≤C.size) (hle:els.length≤G)
  (hvs:∀ (j:Nat) (u:Value),vs[j]?=some u→C[j]?=some u) (hd:All2 (DR X.w X.F) els.flatten vs) (htips:∀ v,tips.get? v=some ()→s.tips.get? v=some ()) :
  ∃ Y,Y.w=X.w.drew.alloc (.cells C e)∧Ext X Y∧VR Y (.own els (.tip nvi sz)) (.slice (some ⟨X.w.heap.size,0,none⟩) els.length G)∧MemOK Y s.mem (tips.set nvi (some ()))∧DomOK X Y nvi n n:=by
 have h':MemOK X.drew s.mem tips:=drew_mem (h.less (fun _ _ _ h=>h) htips)
 have nt:=new_tip (X:=X.drew) h' (C:=C) (e:=e) (v:=nvi) (els:=els) (sz:=sz) (cap:=G) (vs:=vs) hfr hl hC hle hvs (hd.mono fun _ _=>DR.ext drew_ext)
 obtain⟨g1,g2,g3,g4⟩:=nt
 refine⟨_,rfl,drew_ext.trans g1,⟨some ⟨X.w.heap.size,0,none⟩,X.w.heap.size,0,sz,G,rfl,hle,fun _=>rfl,g3,new_ρ X.drew C e nvi _,rfl⟩,g2,⟨Nat.le_refl _,fun v L hv=>?_⟩⟩
 rcases g4.2 v L hv with h|h|h
 ·exact .inl h
 ·exact .inr (.inl h)
 ·omega
theorem grown_row (h:MemOK X s.mem s.tips) (hfr:X.ρ nvi=none) {m:List (Tr Ent)} {C:Array Value} {e:TypeId} {els:List (List D)} {sz G n lv sl:Nat} {vs:List Value} (hl:∀ e∈els,e.length=sz) (hC:G*sz≤C.size) (hle:els.length≤G)
  (hvs:∀ (j:Nat) (u:Value),vs[j]?=some u→C[j]?=some u) (hd:All2 (DR X.w X.F) els.flatten vs) (hm:MemOK X m s.tips) :
  ∃ Y,Y.w=X.w.drew.alloc (.cells C e)∧Ext X Y∧VR Y (.ref lv sl nvi 0 els.length sz) (.slice (some ⟨X.w.heap.size,0,none⟩) els.length G)∧MemOK Y (memSet m lv sl (some (.row nvi els))) s.tips∧DomOK X Y nvi n n:=by
 have nr:=new_row (X:=X.drew) (drew_mem hm) (C:=C) (e:=e) (v:=nvi) (els:=els) (sz:=sz) (cap:=G) (vs:=vs) lv sl hfr hl hC hle hvs (hd.mono fun _ _=>DR.ext drew_ext)
 refine⟨X.drew.alloc C e nvi ⟨X.w.heap.size,0,sz,G⟩,rfl,drew_ext.trans (Ext.alloc (X:=X.drew) h.inF h.low hfr),⟨⟨X.w.heap.size,0,sz,G⟩,some ⟨X.w.heap.size,0,none⟩,G,new_ρ X.drew C e nvi _,rfl,rfl,hle,fun _=>⟨by simp,by simp⟩⟩,nr,?_⟩
 have:=alloc_dom (X:=X.drew) (C:=C) (e:=e) (v:=nvi) (L:=⟨X.w.heap.size,0,sz,G⟩) (n:=n)
 exact this
theorem reset_eq {X:Cx} {m:List (Tr Ent)} {t:Tr Unit} {lv sl:Nat} {e:Ent} (h:MemOK X (memSet (memSet m lv sl none) lv sl (some e)) t):MemOK X (memSet m lv sl (some e)) t:=
 h.congr (fun lv' sl'=>by
  rw[memGet_set,memGet_set,memGet_set]
  have hlen:(memSet m lv sl none).length=m.length:=by simp[memSet]
  rw[hlen]
  split<;>rfl) fun _=>rfl
theorem append_ref (h:MemOK X s.mem s.tips) (hfr:X.ρ nvi=none) {t u ty e:TypeId} {i:TypeInfo} {z:Value} {xv yv:Value} {lv sl ver off len n:Nat} {els news:List (List D)} {new:List Value} {rd:List (Nat×Nat×Nat)} (ht:P.underlying t=some (.slice e)) (hs:Src P u i X.w yv news.length new) (hi:P.info? e=some i) (hz:i.zero=some z) (hzs:z.cells.size=i.size)
  (hx:VR X (.ref lv sl ver off len i.size) xv) (hrow:rowAt s.mem lv sl ver=some els) (hc1:off+len≤els.length) (hc2:len+news.length≤maxLenA) (hc3:(len+news.length)*i.bytes≤roomA) (hnl:∀ e∈news,e.length=i.size) (hd2:All2 (DR X.w X.F) news.flatten new) :
  Appended P X s t u ty xv yv nvi n { val:=.ref lv sl nvi 0 (len+news.length) i.size,upd:=[(lv,sl,some (.row nvi ((els.drop off).take len++news)))],tip:=[],rd }:=by
 obtain⟨L,hL,hE,hg⟩:=row_lies h hrow
 obtain⟨L1,ad,cap,hL1,h1,rfl,h3,h4⟩:=hx
 rw[hL] at hL1;injection hL1 with hL1;subst hL1
 have hnewlen:new.length=news.length*i.size:=by rw[←hd2.length,flatten_length hnl]
 have hbl:((els.drop off).take len).length=len:=by simp;omega
 have hbs:∀ e∈(els.drop off).take len,e.length=i.size:=fun f hf=>by rw[hE.2.1 f (List.mem_of_mem_drop (List.mem_of_mem_take hf)),h1]
 have hll:((els.drop off).take len++news).length=len+news.length:=by rw[List.length_append,hbl]
 have hls:∀ e∈(els.drop off).take len++news,e.length=i.size:=fun f hf=>(List.mem_append.1 hf).elim (hbs f) (hnl f)
 by_cases hroom:len+news.length≤cap
 ·
  by_cases hcap:0<cap
  ·obtain ⟨rfl, h5⟩ := h4 hcap
   have hc0:0<L.cap:=by omega
   obtain⟨C,ce,hb2,hb1,hb3,hb4,hb5,hb6,hap,hcont⟩:=row_block h hg hL hc0
   have hfit:L.o+off*L.sz+len*L.sz+new.length≤C.size:=by
    rw[hnewlen,←h1,Nat.add_assoc (L.o+off*L.sz),←Nat.add_mul,Nat.add_assoc,←Nat.add_mul]
    have:=Nat.mul_le_mul_right L.sz (show off+(len+news.length)≤L.cap by omega)
    omega
   have hst:=run_storeCells_at P L.b (L.o+off*L.sz+len*L.sz) ce new 0 C X.w hb2 (by omega) (All2.oneD hd2)
   simp only[Nat.add_zero] at hst
   let C':=(C.toList.take (L.o+off*L.sz+len*L.sz)++new++C.toList.drop (L.o+off*L.sz+len*L.sz+new.length)).toArray
   have hget:∀ j,C'[j]?=if L.o+off*L.sz+len*L.sz≤j∧j<L.o+off*L.sz+len*L.sz+new.length then new[j-(L.o+off*L.sz+len*L.sz)]? else C[j]?:=getElem?_put hfit
   have hsize:C'.size=C.size:=by
    show (C.toList.take (L.o+off*L.sz+len*L.sz)++new++C.toList.drop (L.o+off*L.sz+len*L.sz+new.length)).toArray.size=C.size
    simp
    omega
   have hFk:∀ q,X.F L.b q→C'[q]?=C[q]?:=fun q hq=>absurd hq (hb4 q)
   have hx1:Ext X (X.set L.b C'):=set_ext hb2 hb1 hFk
   have hm1:MemOK (X.set L.b C') (memSet s.mem lv sl none) s.tips:=set_mem (h.erase lv sl) hb2 hb1 hFk hap
   let L':Loc:=⟨L.b,L.o+off*L.sz,i.size,cap⟩
   have hx2:Ext (X.set L.b C') ((X.set L.b C').name nvi L'):=name_ext hfr
   have hx:Ext X ((X.set L.b C').name nvi L'):=hx1.trans hx2
   refine⟨(X.set L.b C').name nvi L',.slice (some ⟨L.b,L.o+off*i.size,none⟩) (len+news.length) cap,?_,hx,?_,?_,?_⟩
   ·rw [append_room (i := i) (new := new) ht hs hi hroom]
    rw[←h1]
    simp only[Addr.add_lit,hst,Result.andThen_ok]
    rfl
   ·exact⟨L',_,cap,name_ρ,rfl,rfl,hroom,fun _=>⟨by simp[L',h1],by simp[L']⟩⟩
   ·show MemOK _ (memSet s.mem lv sl _) s.tips
    refine (name_mem hm1 hfr).reset (e:=.row nvi ((els.drop off).take len++news)) (L:=L') name_ρ ⟨by rw[hll];exact hroom,hls,fun _=>⟨⟨hb1,C',ce,set_heap hb2,?_⟩,hb4⟩,fun q f j x hq hj=>?_⟩ fun k w M hk hw hMc _=>?_
    ·show L.o + off * L.sz + cap * i.size ≤ C'.size
     rw[hsize,←h1,Nat.add_assoc,←Nat.add_mul]
     have:=Nat.mul_le_mul_right L.sz h5
     omega
    ·show ∃ v, (X.set L.b C').w.cell? ⟨L.b, L.o + off * L.sz + q * i.size + j, none⟩ = some v ∧ _
     rw[cell_of_row _ _ _ _ _ _ (set_heap hb2),hget]
     have hjs:j<i.size:=by rw[←hls f (List.mem_of_getElem? hq)];exact (List.getElem?_eq_some_iff.1 hj).1
     by_cases hql:q<len
     ·rw [List.getElem?_append_left (by omega)] at hq
      have hqe:=(getElem?_drop_take hq).1
      obtain⟨v,hv,hdr⟩:=hcont _ f j x hqe hj
      have e1:L.o+off*L.sz+q*i.size+j=L.o+(off+q)*L.sz+j:=by rw[h1,Nat.add_mul];omega
      have hlt:q*i.size+j<len*L.sz:=by
       have:=Nat.mul_le_mul_right i.size (show q+1≤len from hql)
       rw[Nat.add_mul,Nat.one_mul] at this
       rw[h1]
       omega
      rw[if_neg (by omega),e1]
      exact⟨v,hv,hdr.ext hx⟩
     ·rw [List.getElem?_append_right (by omega), hbl] at hq
      have hg2:=flatten_get hnl _ j f hq hjs
      rw[hj] at hg2
      obtain⟨v,hv,hdr⟩:=hd2.get _ _ hg2
      have hlt:=(List.getElem?_eq_some_iff.1 hv).1
      have e1:q*i.size+j=len*L.sz+((q-len)*i.size+j):=by
       have:q=len+(q-len):=by omega
       conv=>lhs;rw[this,Nat.add_mul]
       rw[h1]
       omega
      rw[if_pos (by omega)]
      rw[show L.o+off*L.sz+q*i.size+j-(L.o+off*L.sz+len*L.sz)=(q-len)*i.size+j by omega]
      exact⟨v,hv,hdr.ext hx⟩
    ·obtain ⟨M', hM', _⟩ := (h.erase lv sl).holds_ρ hk
     have:((X.set L.b C').name nvi L').ρ w=some M':=hx.loc _ _ hM'
     rw[hw] at this;injection this with this;subst this
     exact hap k w M hk hM' hMc
   ·exact⟨Nat.le_refl _,fun w M hw=>by
     rcases (name_dom (X:=X.set L.b C') (v:=nvi) (n:=0) (L:=L')).2 w M hw with hq|hq|hq
     ·exact .inl hq
     ·exact .inr (.inl hq)
     ·omega⟩
  ·
   have hm0:news.length=0:=by omega
   have hl0:len=0:=by omega
   subst hl0
   have hnil:news=[]:=List.eq_nil_of_length_eq_zero hm0
   subst hnil
   have hnew:new=[]:=List.eq_nil_of_length_eq_zero (by simpa using hnewlen)
   subst hnew
   have hrun:(Builtin.append_ #[t,u] ty #[.slice ad 0 cap,yv]).run P X.w=.ok (.slice ad 0 cap) X.w:=by
    rw[append_room (i:=i) (m:=0) (new:=[]) ht hs hi (by omega)]
    cases ad with
    |none=>rfl
    |some ad=>simp[storeCells]
   refine⟨X.name nvi ⟨0,0,i.size,0⟩,_,hrun,name_ext hfr,⟨⟨0,0,i.size,0⟩,ad,cap,name_ρ,rfl,rfl,by simp,fun hq=>absurd hq hcap⟩,?_,name_dom⟩
   exact (name_mem h hfr).add (e:=.row nvi ((els.drop off).take 0++[])) (L:=⟨0,0,i.size,0⟩) name_ρ ⟨by simp,by simp,fun hq=>absurd hq (by simp),by simp⟩ fun _ _ _ _ _ _ _ hq=>absurd hq (by simp)
 ·have hli : Lies X.w X.F (fun _ _ => True) ((els.drop off).take len) L.b (L.o + off * L.sz) L.sz := (hE.lies (R := fun _ _ => True) fun _ _ => trivial).sub off len
  obtain⟨old,ho,hd1⟩:=firstCells_own (P:=P) (n:=len) (cap:=cap) (ad:=ad) (X:=X) (w:=X.w.drew) (sz:=i.size) (fun _ _=>rfl) hli hbs hbl (fun hq=>by rw[(h4 (by omega)).1,h1])
  have key:=append_new (P:=P) (X:=X) (ty:=ty) (els:=(els.drop off).take len) (ad:=ad) (cap:=cap) ht hs hi hz hzs (by rw[hbl];exact ho) (by omega) (by omega) (by rw[hbl];exact hc3) hd1 hd2 hbs hnl
  obtain⟨C,G,g1,hrun,g2,g3,g4,g5⟩:=key
  obtain⟨Y,hw,k1,k2,k3,k4⟩:=grown_row (e:=e) (lv:=lv) (sl:=sl) (m:=memSet s.mem lv sl none) h hfr g5 g2 (by rw[hll];omega) g3 g4 (n:=n) (h.erase lv sl)
  rw[hll] at k2
  rw[hbl] at hrun
  exact⟨Y,_,by rw[hrun,hw],k1,k2,reset_eq k3,k4⟩
theorem cut_ref (h:MemOK X s.mem s.tips) (hfr:X.ρ nvi=none) {lv sl ver off len l h' n sz cap:Nat} {els:List (List D)} {ad:Option Addr} (hx:VR X (.ref lv sl ver off len sz) (.slice ad len cap)) (hrow:rowAt s.mem lv sl ver=some els)
  (c1:l≤h') (c2:h'≤len) (c3:off+len≤els.length) :
  ∃ Y,Y.w=X.w∧Ext X Y∧VR Y (.ref lv sl nvi 0 (h'-l) sz) (.slice (if cap=l then ad else ad.map (·.add (l*sz))) (h'-l) (cap-l))∧MemOK Y (memSet s.mem lv sl (some (.row nvi ((els.drop (off+l)).take (h'-l))))) s.tips∧DomOK X Y nvi n n:=by
 obtain⟨L,hL,hE,hg⟩:=row_lies h hrow
 obtain⟨L1,ad',cap',hL1,h1,he,h3,h4⟩:=hx
 injection he with e1 e2 e3
 subst e1 e3
 rw[hL] at hL1;injection hL1 with hL1;subst hL1
 have hbl:((els.drop (off+l)).take (h'-l)).length=h'-l:=by rw[List.length_take,List.length_drop];omega
 have hbs:∀ e∈(els.drop (off+l)).take (h'-l),e.length=sz:=fun f hf=>by rw[hE.2.1 f (List.mem_of_mem_drop (List.mem_of_mem_take hf)),h1]
 by_cases hcap:0<cap-l
 ·obtain ⟨rfl, h5⟩ := h4 (by omega)
  have hc0:0<L.cap:=by omega
  obtain⟨C,ce,hb2,hb1,hb3,hb4,hb5,hb6,hap,hcont⟩:=row_block h hg hL hc0
  let L':Loc:=⟨L.b,L.o+(off+l)*L.sz,sz,cap-l⟩
  refine⟨X.name nvi L',rfl,name_ext hfr,⟨L',_,_,name_ρ,rfl,rfl,by omega,fun _=>⟨?_,by simp[L']⟩⟩,?_,name_dom⟩
  ·rw [if_neg (by omega)]
   simp only[Option.map_some,Addr.add_lit,L',h1]
   congr 2
   rw[Nat.add_mul]
   omega
  ·refine (name_mem (h.erase lv sl) hfr).reset (e := .row nvi ((els.drop (off + l)).take (h' - l))) (L := L') name_ρ ⟨by rw [hbl]; show h' - l ≤ cap - l; omega, hbs, fun _ => ⟨⟨hb1, C, ce, hb2, ?_⟩, hb4⟩, fun q f j x hq hj => ?_⟩ fun k w M hk hw hMc _ => ?_
   ·show L.o + (off + l) * L.sz + (cap - l) * sz ≤ C.size
    rw[←h1,Nat.add_assoc,←Nat.add_mul]
    have:=Nat.mul_le_mul_right L.sz (show off+l+(cap-l)≤L.cap by omega)
    omega
   ·have hqe := (getElem?_drop_take hq).1
    obtain⟨v,hv,hdr⟩:=hE.2.2.2 _ f j x hqe hj
    refine⟨v,?_,hdr⟩
    show X.w.cell? ⟨L.b,L.o+(off+l)*L.sz+q*sz+j,none⟩=some v
    rw[←hv]
    congr 2
    rw[←h1,Nat.add_mul (off+l)]
    omega
   ·obtain ⟨M', hM', _⟩ := (h.erase lv sl).holds_ρ hk
    have:(X.name nvi L').ρ w=some M':=(name_ext hfr).loc _ _ hM'
    rw[hw] at this;injection this with this;subst this
    exact hap k w M hk hM' hMc
 ·have h0 : h' - l = 0 := by omega
  refine⟨X.name nvi ⟨0,0,sz,0⟩,rfl,name_ext hfr,⟨⟨0,0,sz,0⟩,_,_,name_ρ,rfl,rfl,by omega,fun hq=>absurd hq hcap⟩,?_,name_dom⟩
  exact (name_mem h hfr).add (e:=.row nvi ((els.drop (off+l)).take (h'-l))) (L:=⟨0,0,sz,0⟩) name_ρ ⟨by rw[hbl,h0];exact Nat.le_refl _,hbs,fun hq=>absurd hq (by simp),fun q f j x hq _=>by rw[h0] at hq;simp at hq⟩ fun _ _ _ _ _ _ _ hq=>absurd hq (by simp)
theorem move_ref (h:MemOK X s.mem s.tips) (hfr:X.ρ nvi=none) {lv sl ver off len n sz lv2 sl2:Nat} {els:List (List D)} {v:Value} (hx:VR X (.ref lv sl ver off len sz) v) (hrow:rowAt s.mem lv sl ver=some els) (c3:off+len≤els.length) :
  ∃ Y,Y.w=X.w∧Ext X Y∧VR Y (.ref lv2 sl2 nvi 0 len sz) v∧MemOK Y (memSet (memSet s.mem lv sl none) lv2 sl2 (some (.row nvi ((els.drop off).take len)))) s.tips∧DomOK X Y nvi n n:=by
 obtain⟨L,hL,hE,hg⟩:=row_lies h hrow
 obtain⟨L1,ad,cap,hL1,h1,rfl,h3,h4⟩:=hx
 rw[hL] at hL1;injection hL1 with hL1;subst hL1
 have hbl:((els.drop off).take len).length=len:=by rw[List.length_take,List.length_drop];omega
 have hbs:∀ e∈(els.drop off).take len,e.length=sz:=fun f hf=>by rw[hE.2.1 f (List.mem_of_mem_drop (List.mem_of_mem_take hf)),h1]
 by_cases hcap:0<cap
 ·obtain ⟨rfl, h5⟩ := h4 hcap
  have hc0:0<L.cap:=by omega
  obtain⟨C,ce,hb2,hb1,hb3,hb4,hb5,hb6,hap,hcont⟩:=row_block h hg hL hc0
  let L':Loc:=⟨L.b,L.o+off*L.sz,sz,cap⟩
  refine⟨X.name nvi L',rfl,name_ext hfr,⟨L',_,_,name_ρ,rfl,rfl,h3,fun _=>⟨?_,by simp[L']⟩⟩,?_,name_dom⟩
  ·simp[L',h1]
  ·refine (name_mem (h.erase lv sl) hfr).add (e := .row nvi ((els.drop off).take len)) (L := L') name_ρ ⟨by rw [hbl]; exact h3, hbs, fun _ => ⟨⟨hb1, C, ce, hb2, ?_⟩, hb4⟩, fun q f j x hq hj => ?_⟩ fun k w M hk _ hw hMc _ => ?_
   ·show L.o + off * L.sz + cap * sz ≤ C.size
    rw[←h1,Nat.add_assoc,←Nat.add_mul]
    have:=Nat.mul_le_mul_right L.sz (show off+cap≤L.cap by omega)
    omega
   ·have hqe := (getElem?_drop_take hq).1
    obtain⟨v,hv,hdr⟩:=hE.2.2.2 _ f j x hqe hj
    refine⟨v,?_,hdr⟩
    show X.w.cell? ⟨L.b,L.o+off*L.sz+q*sz+j,none⟩=some v
    rw[←hv]
    congr 2
    rw[←h1,Nat.add_mul off]
    omega
   ·obtain ⟨M', hM', _⟩ := (h.erase lv sl).holds_ρ hk
    have:(X.name nvi L').ρ w=some M':=(name_ext hfr).loc _ _ hM'
    rw[hw] at this;injection this with this;subst this
    exact hap k w M hk hM' hMc
 ·have h0 : len = 0 := by omega
  subst h0
  refine⟨X.name nvi ⟨0,0,sz,0⟩,rfl,name_ext hfr,⟨⟨0,0,sz,0⟩,_,_,name_ρ,rfl,rfl,h3,fun hq=>absurd hq hcap⟩,?_,name_dom⟩
  exact (name_mem (h.erase lv sl) hfr).add (e:=.row nvi ((els.drop off).take 0)) (L:=⟨0,0,sz,0⟩) name_ρ ⟨by simp,by simp,fun hq=>absurd hq (by simp),fun q f j x hq _=>by simp at hq⟩ fun _ _ _ _ _ _ _ hq=>absurd hq (by simp)
theorem append_coreS (h : MemOK X s.mem s.tips) (hfr : X.ρ nvi = none) {t u ty e : TypeId} {i : TypeInfo} {z : Value} {xv yv : Value} {x y : AV} {row : Bool} {lv sl n : Nat} {E : Eff} (ht : P.underlying t = some (.slice e)) (hi : P.info? e = some i) (hz : i.zero = some z) (hzs : z.cells.size = i.size) (_h0 : 0 < i.size)
  (hx:VR X x xv) (hy:∀ news,newsOf s.mem y=some news→(∀ e∈news,e.length=i.size)→∃ new:List Value,All2 (DR X.w X.F) news.flatten new∧Src P u i X.w yv news.length new) (hr:appendA s row lv sl nvi i.size i.bytes x y=some E):Appended P X s t u ty xv yv nvi n E:=by
 unfold appendA at hr
 cases hn:newsOf s.mem y with
 |none=>rw[hn] at hr;cases hr
 | some news =>
  rw[hn] at hr
  simp only at hr
  split at hr
  ·rename_i hal
   have hnl:=all_len hal
   obtain⟨new,hd2,hs⟩:=hy news hn hnl
   have hnewlen:new.length=news.length*i.size:=by rw[←hd2.length,flatten_length hnl]
   split at hr
   ·rename_i els
    split at hr
    ·rename_i hc
     obtain⟨hc1,hc2,hc3⟩:=hc
     have hel:=all_len hc1
     obtain⟨ad,b,off,sz',rfl,had,hli⟩:=hx
     by_cases hm0:news.length=0
     ·have hnil : news = [] := List.eq_nil_of_length_eq_zero hm0
      subst hnil
      have hnew:new=[]:=List.eq_nil_of_length_eq_zero (by simpa using hnewlen)
      subst hnew
      have hrun:(Builtin.append_ #[t,u] ty #[.slice ad els.length els.length,yv]).run P X.w=.ok (.slice ad els.length els.length) X.w:=by
       rw[append_room (i:=i) (m:=0) (new:=[]) ht hs hi (by omega)]
       cases ad with
       |none=>rfl
       |some ad=>simp[storeCells]
      cases hrow:row with
      | false =>
       simp only[hrow] at hr
       injection hr with hr;subst hr
       refine⟨X.name nvi ⟨b,off+els.length*i.size,i.size,els.length-els.length⟩,_,hrun,name_ext hfr,?_,?_,name_dom⟩
       ·rw [List.append_nil]
        refine⟨ad,b,off,i.size,els.length,rfl,Nat.le_refl _,had,?_,name_ρ,rfl⟩
        cases els with
        |nil=>exact Lies.nil
        |cons f els=>
         have:sz'=i.size:=by rw[←hli.1 f (by simp),hel f (by simp)]
         subst this
         exact hli.ext (name_ext hfr)
       ·exact tip_fresh (name_mem h hfr) name_ρ (by simp)
      | true =>
       simp only[hrow] at hr
       split at hr
       ·cases hr
       ·rename_i hne
        injection hr with hr;subst hr
        have hels:els=[]:=by
         cases els with
         |nil=>rfl
         |cons e els=>exact absurd ⟨rfl,rfl⟩ hne
        subst hels
        refine⟨X.name nvi ⟨0,0,i.size,0⟩,_,hrun,name_ext hfr,⟨⟨0,0,i.size,0⟩,ad,0,name_ρ,rfl,rfl,Nat.le_refl _,fun hq=>absurd hq (by omega)⟩,?_,name_dom⟩
        exact (name_mem h hfr).add (e:=.row nvi ([]++[])) (L:=⟨0,0,i.size,0⟩) name_ρ ⟨by simp,by simp,fun hq=>absurd hq (by simp),by simp⟩ fun _ _ _ _ _ _ _ hq=>absurd hq (by simp)
     ·obtain ⟨old, ho, hd1⟩ := firstCells_own (P := P) (n := els.length) (cap := els.length) (X := X) (w := X.w.drew) (fun _ _ => rfl) hli hel rfl had
      obtain⟨C,G,g1,hrun,g2,g3,g4,g5⟩:=append_new (P:=P) (X:=X) (ty:=ty) ht hs hi hz hzs ho (by omega) hc2 hc3 hd1 hd2 hel hnl
      have hll:(els++news).length=els.length+news.length:=List.length_append
      cases hrow:row with
      |false=>
       simp only[hrow] at hr
       injection hr with hr;subst hr
       obtain⟨Y,hw,k1,k2,k3,k4⟩:=grown_tip (e:=e) h hfr g5 g2 (by omega) g3 g4 (tips:=s.tips) (n:=n) fun _ h=>h
       rw[hll] at k2
       exact⟨Y,_,by rw[hrun,hw],k1,k2,k3,k4⟩
      | true =>
       simp only[hrow] at hr
       split at hr
       ·cases hr
       ·injection hr with hr; subst hr
        obtain⟨Y,hw,k1,k2,k3,k4⟩:=grown_row (e:=e) (lv:=lv) (sl:=sl) h hfr g5 g2 (by omega) g3 g4 (n:=n) h
        rw[hll] at k2
        exact⟨Y,_,by rw[hrun,hw],k1,k2,k3,k4⟩
    ·cases hr
   ·rename_i els v tz
    split at hr
    ·rename_i hc
     obtain⟨hc0,hc2,hc3,hc4⟩:=hc
     injection hr with hr;subst hr
     have hlive:s.tips.get? v=some ():=by
      cases hg:s.tips.get? v with
      |none=>rw[hg] at hc4;cases hc4
      |some u=>rfl
     obtain⟨ad,b,off,sz',cap,rfl,hcap,had,hli,hL,htz⟩:=hx
     have hel:∀ e∈els,e.length=i.size:=fun e he=>by rw[hli.1 e he,htz,hc0]
     obtain⟨L',hL',hT⟩:=h.tips v hlive
     rw[hL] at hL';injection hL' with hL';subst hL'
     have hne:v≠nvi:=by rintro rfl;rw[hL] at hfr;cases hfr
     by_cases hm0:news.length=0
     ·have hnil : news = [] := List.eq_nil_of_length_eq_zero hm0
      subst hnil
      have hnew:new=[]:=List.eq_nil_of_length_eq_zero (by simpa using hnewlen)
      subst hnew
      have hrun:(Builtin.append_ #[t,u] ty #[.slice ad els.length cap,yv]).run P X.w=.ok (.slice ad els.length cap) X.w:=by
       rw[append_room (i:=i) (m:=0) (new:=[]) ht hs hi (by omega)]
       cases ad with
       |none=>rfl
       |some ad=>simp[storeCells]
      refine⟨X.name nvi ⟨b,off+els.length*sz',sz',cap-els.length⟩,_,hrun,name_ext hfr,?_,?_,name_dom⟩
      ·rw [List.append_nil]
       exact⟨ad,b,off,sz',cap,rfl,hcap,had,hli.ext (name_ext hfr),name_ρ,htz.trans hc0⟩
      ·refine (name_mem (h.eraseT v) hfr).addT name_ρ hT fun k u M hk _ hu hMc hc => ?_
       have hold:Holds s.mem s.tips k u∧k≠keyT v:=by
        rcases hk with⟨lv',sl',e',rfl,he',hv'⟩|⟨rfl,he'⟩
        ·exact⟨.inl ⟨lv',sl',e',rfl,he',hv'⟩,keyE_ne_keyT⟩
        ·rw [Tr.get_set] at he'
         split at he'
         ·cases he'
         ·rename_i hvu
          exact⟨.inr ⟨rfl,he'⟩,fun hq=>hvu (by simpa[keyT] using hq.symm)⟩
       obtain⟨M',hM',_⟩:=h.holds_ρ hold.1
       have:(X.name nvi ⟨b,off+els.length*sz',sz',cap-els.length⟩).ρ u=some M':=(name_ext hfr).loc _ _ hM'
       rw[hu] at this;injection this with this;subst this
       exact h.apart _ _ _ _ _ _ hold.1 (.inr ⟨rfl,hlive⟩) hold.2 hM' hL hMc hc
     ·by_cases hroom : els.length + news.length ≤ cap
      ·have hcap0 : 0 < cap - els.length := by omega
       obtain⟨⟨hb1,C,ce,hb2,hb3⟩,hb4⟩:=hT hcap0
       simp only at hb1 hb2 hb3 hb4
       have hadd:=had (by omega)
       subst hadd
       have hsz:sz'=i.size:=htz.trans hc0
       ·subst hsz
        have hfit:off+els.length*i.size+new.length≤C.size:=by
         rw[hnewlen]
         have:=Nat.mul_le_mul_right i.size (show news.length≤cap-els.length by omega)
         omega
        have hst:=run_storeCells_at P b (off+els.length*i.size) ce new 0 C X.w hb2 (by omega) (All2.oneD hd2)
        simp only[Nat.add_zero] at hst
        let C':=(C.toList.take (off+els.length*i.size)++new++C.toList.drop (off+els.length*i.size+new.length)).toArray
        have hget:∀ j,C'[j]?=if off+els.length*i.size≤j∧j<off+els.length*i.size+new.length then new[j-(off+els.length*i.size)]? else C[j]?:=getElem?_put hfit
        have hsize:C'.size=C.size:=by
         show (C.toList.take (off+els.length*i.size)++new++C.toList.drop (off+els.length*i.size+new.length)).toArray.size=C.size
         simp
         omega
        have hFk:∀ q,X.F b q→C'[q]?=C[q]?:=fun q hq=>by
         rw[hget,if_neg]
         intro hq'
         exact hb4 q hq'.1 hq
        have hap:∀ k w M,Holds s.mem (s.tips.set v none) k w→X.ρ w=some M→0<M.cap→M.b≠b:=by
         intro k w M hk hw hMc
         have hold:Holds s.mem s.tips k w∧k≠keyT v:=by
          rcases hk with⟨lv',sl',e',rfl,he',hv'⟩|⟨rfl,he'⟩
          ·exact⟨.inl ⟨lv',sl',e',rfl,he',hv'⟩,keyE_ne_keyT⟩
          ·rw [Tr.get_set] at he'
           split at he'
           ·cases he'
           ·rename_i hvu
            exact⟨.inr ⟨rfl,he'⟩,fun hq=>hvu (by simpa[keyT] using hq.symm)⟩
         exact h.apart _ _ _ _ _ _ hold.1 (.inr ⟨rfl,hlive⟩) hold.2 hw hL hMc hcap0
        let X1:=X.set b C'
        have hx1:Ext X X1:=set_ext hb2 hb1 hFk
        have hm1:MemOK X1 s.mem (s.tips.set v none):=set_mem (h.eraseT v) hb2 hb1 hFk hap
        let X2:=X1.more fun b' q=>b'=b∧q<off+els.length*i.size+new.length∧off+els.length*i.size≤q
        have hx2:Ext X1 X2:=Ext.more fun b' q hq=>by rw[hq.1];exact hb1
        have hbs:b<X1.w.heap.size:=by
         have hh:=set_heap (X:=X) (C':=C') hb2
         rcases Nat.lt_or_ge b X1.w.heap.size with hl|hl
         ·exact hl
         ·rw[Array.getElem?_eq_none hl] at hh;cases hh
        have hm2:MemOK X2 s.mem (s.tips.set v none):=hm1.more (fun b' q hq=>by rw[hq.1];exact⟨hb1,hbs⟩) fun k w M q hk hw hMc hq=>hap k w M hk hw hMc hq.1
        let L:Loc:=⟨b,off+(els++news).length*i.size,i.size,cap-(els++news).length⟩
        have hx3:Ext X2 (X2.name nvi L):=name_ext hfr
        have hx:Ext X (X2.name nvi L):=(hx1.trans hx2).trans hx3
        have hll:(els++news).length=els.length+news.length:=List.length_append
        have hoff:off+(els++news).length*i.size=off+els.length*i.size+new.length:=by rw[hll,Nat.add_mul,hnewlen];omega
        refine⟨X2.name nvi L,.slice (some ⟨b,off,none⟩) (els.length+news.length) cap,?_,hx,?_,?_,?_⟩
        ·rw [append_room (i := i) (new := new) ht hs hi hroom]
         simp only[Addr.add_lit,hst,Result.andThen_ok]
         rfl
        ·refine ⟨some ⟨b, off, none⟩, b, off, i.size, cap, by rw [hll], by omega, fun _ => rfl, ?_, name_ρ, rfl⟩
         refine⟨fun f hf=>?_,fun q f j w hq hj=>?_⟩
         ·rcases List.mem_append.1 hf with hf | hf
          ·exact hel f hf
          ·exact hnl f hf
         ·have hjs : j < i.size := by
           have hff:f.length=i.size:=by
            rcases List.mem_append.1 (List.mem_of_getElem? hq) with hf|hf
            ·exact hel f hf
            ·exact hnl f hf
           rw[←hff];exact (List.getElem?_eq_some_iff.1 hj).1
          by_cases hql:q<els.length
          ·rw [List.getElem?_append_left hql] at hq
           obtain⟨hF,w',hw',hdr⟩:=hli.2 q f j w hq hj
           exact⟨hx.reg _ _ hF,w',(hx.keep _ _ hF).trans hw',hdr.ext hx⟩
          ·rw [List.getElem?_append_right (by omega)] at hq
           have hg:=flatten_get hnl _ j f hq hjs
           rw[hj] at hg
           obtain⟨w',hw',hdr⟩:=hd2.get _ _ hg
           have hlt:=(List.getElem?_eq_some_iff.1 hw').1
           have e1:off+q*i.size+j=off+els.length*i.size+((q-els.length)*i.size+j):=by
            have:q=els.length+(q-els.length):=by omega
            conv=>lhs;rw[this,Nat.add_mul]
            omega
           refine⟨.inr ⟨rfl,by omega,by omega⟩,w',?_,hdr.ext hx⟩
           show (X.set b C').w.cell? _=_
           rw[cell_of_row _ _ _ _ _ _ (set_heap hb2),e1,hget,if_pos (by omega)]
           rw[show off+els.length*i.size+((q-els.length)*i.size+j)-(off+els.length*i.size)=(q-els.length)*i.size+j by omega]
           exact hw'
        ·show MemOK _ s.mem ((s.tips.set v none).set nvi (some ()))
         refine (name_mem hm2 hfr).addT (L:=L) name_ρ (fun hc=>⟨⟨hb1,C',ce,set_heap hb2,?_⟩,fun q hq hF=>?_⟩) fun k w M hk _ hw hMc _=>?_
         ·show off + (els ++ news).length * i.size + (cap - (els ++ news).length) * i.size ≤ C'.size
          rw[Nat.add_assoc,←Nat.add_mul,show (els++news).length+(cap-(els++news).length)=cap by omega,hsize]
          have:off+els.length*i.size+(cap-els.length)*i.size=off+cap*i.size:=by rw[Nat.add_assoc,←Nat.add_mul,show els.length+(cap-els.length)=cap by omega]
          omega
         ·have hq : off + (els ++ news).length * i.size ≤ q := hq
          rcases hF with hF|hF
          ·exact hb4 q (by omega) hF
          ·have := hF.2.1
           omega
         ·have hold : ∃ M', X.ρ w = some M' := by
           obtain⟨M',hM',_⟩:=(h.eraseT v).holds_ρ hk
           exact⟨M',hM'⟩
          obtain⟨M',hM'⟩:=hold
          have:(X2.name nvi L).ρ w=some M':=hx.loc _ _ hM'
          rw[hw] at this;injection this with this;subst this
          exact hap k w M hk hM' hMc
        ·exact⟨Nat.le_refl _,fun w M hw=>by
          rcases (name_dom (X:=X2) (v:=nvi) (n:=0) (L:=L)).2 w M hw with hq|hq|hq
          ·exact .inl hq
          ·exact .inr (.inl hq)
          ·omega⟩
      ·obtain ⟨old, ho, hd1⟩ := firstCells_own (P := P) (n := els.length) (cap := cap) (X := X) (w := X.w.drew) (fun _ _ => rfl) hli hel rfl (fun hq => had (by omega))
       obtain⟨C,G,g1,hrun,g2,g3,g4,g5⟩:=append_new (P:=P) (X:=X) (ty:=ty) ht hs hi hz hzs ho (by omega) hc2 hc3 hd1 hd2 hel hnl
       have hll:(els++news).length=els.length+news.length:=List.length_append
       obtain⟨Y,hw,k1,k2,k3,k4⟩:=grown_tip (e:=e) h hfr g5 g2 (by omega) g3 g4 (tips:=s.tips.set v none) (n:=n) fun w hw=>by rw[Tr.get_set] at hw;split at hw<;>first|exact hw|cases hw
       rw[hll] at k2
       exact⟨Y,_,by rw[hrun,hw],k1,k2,k3,k4⟩
    ·cases hr
   ·rename_i lv' sl' ver off len sz'
    split at hr
    ·rename_i els hrow
     split at hr
     ·rename_i hc
      obtain⟨hc0,hc1,hc2,hc3⟩:=hc
      injection hr with hr;subst hr;subst hc0
      exact append_ref h hfr ht hs hi hz hzs hx hrow hc1 hc2 hc3 hnl hd2
     ·cases hr
    ·cases hr
   ·cases hr
  ·cases hr
theorem append_core (h:MemOK X s.mem s.tips) (hfr:X.ρ nvi=none) {t u ty e:TypeId} {i:TypeInfo} {z:Value} {xv yv:Value} {x y:AV} {row:Bool} {lv sl n:Nat} {E:Eff} (ht:P.underlying t=some (.slice e)) (hu:notInt P u) (hi:P.info? e=some i) (hz:i.zero=some z) (hzs:z.cells.size=i.size) (h0:0<i.size)
  (hx:VR X x xv) (hy:VR X y yv) (hr:appendA s row lv sl nvi i.size i.bytes x y=some E):Appended P X s t u ty xv yv nvi n E:=
 append_coreS h hfr ht hi hz hzs h0 hx (fun news hn hnl=>by
  obtain⟨new,hd2,hlen,hfc⟩:=news_ok (P:=P) h hn hy hnl h0
  have hnewlen:new.length=news.length*i.size:=by rw[←hd2.length,flatten_length hnl]
  have hfc':∀ w:World,(∀ b o,w.cell? ⟨b,o,none⟩=X.w.cell? ⟨b,o,none⟩)→(Builtin.firstCells i.size news.length yv).run P w=.ok new.toArray w:=by
   intro w hw
   have:=hfc w hw news.length (Nat.le_refl _)
   rwa[←hnewlen,List.take_length] at this
  exact⟨new,hd2,.val hu (hlen X.w) (hfc' X.w fun _ _=>rfl) (hfc' X.w.drew fun _ _=>rfl)⟩) hr
end
end Go.Eng
namespace Go.Eng
open Go Go.RowKit
section
variable {P:Program} {X:Cx} {nt:NT} {s:St} {a:Act} {o:Oper} {dst:Option Nat} {nvi:Nat}
theorem boxAt_mem {m:List (Tr Ent)} {lv sl ver:Nat} {cs:List AV} (h:boxAt m lv sl ver=some cs):memGet m lv sl=some (.box ver cs):=by
 unfold boxAt at h
 split at h
 ·rename_i v cs' hm
  split at h
  ·rename_i hv
   injection h with h;subst h
   rw[hm,Nat.eq_of_beq_eq_true hv]
  ·cases h
 ·cases h
theorem cellsL_ok {m:List (Tr Ent)} {t:Tr Unit} (h:MemOK X m t) {y:AV} {new:List AV} {v:Value} {sz:Nat} (hc:cellsL m sz y=some new) (hv:VR X y v) (h0:0<sz) :
  ∃ (k:Nat) (vs:List Value),new.length=k*sz∧All2 (VC X) new vs∧(∀ w:World,(Builtin.lenOf v).run P w=.ok k w)∧
   (∀ w:World,(∀ b o,w.cell? ⟨b,o,none⟩=X.w.cell? ⟨b,o,none⟩)→(Builtin.firstCells sz k v).run P w=.ok vs.toArray w):=by
 have data:∀ els,elsOf m y=some els→(∀ e∈els,e.length=sz)→new=els.flatten.map .d→∃ (k:Nat) (vs:List Value),new.length=k*sz∧All2 (VC X) new vs∧(∀ w:World,(Builtin.lenOf v).run P w=.ok k w)∧
   (∀ w:World,(∀ b o,w.cell? ⟨b,o,none⟩=X.w.cell? ⟨b,o,none⟩)→(Builtin.firstCells sz k v).run P w=.ok vs.toArray w):=by
  rintro els he hl rfl
  obtain⟨ad,cap,sz',b,o,rfl,h2,h3,h4⟩:=elsOf_ok h he hv
  obtain⟨vs,h5,h6⟩:=flat_of_lies h4
  have hlen:vs.length=els.length*sz:=by rw[←h6.length,flatten_length hl]
  refine⟨els.length,vs,by rw[List.length_map,flatten_length hl],h6.mapD,fun w=>rfl,fun w hw=>?_⟩
  by_cases hz:els.length=0
  ·have : vs = [] := List.eq_nil_of_length_eq_zero (by rw [hlen, hz, Nat.zero_mul])
   subst this
   rw[hz]
   cases ad with
   |none=>simp[Builtin.firstCells]
   |some ad=>simp[Builtin.firstCells,loadCells,loadCellsFrom]
  ·have := h3 (by omega)
   subst this
   have:=run_loadCells_list (P:=P) w ⟨b,o,none⟩ vs fun j u hj=>by
    rw[Addr.add_lit,hw]
    exact h5 j u hj
   rw[hlen] at this
   simpa[Builtin.firstCells] using this
 unfold cellsL at hc
 split at hc
 ·rename_i lv sl ver off n sz'
  split at hc
  ·rename_i cs hb
   split at hc
   ·rename_i hq
    obtain⟨rfl,hoff⟩:=hq
    injection hc with hc;subst hc
    obtain⟨L,C,e,hL,h1,h2,h3,h4,h5,h6,h7⟩:=box_block h (boxAt_mem hb)
    obtain⟨L',cap,hL',rfl,hcap,hn,_⟩:=hv
    rw[hL] at hL';injection hL' with hL';subst hL'
    have hlen:((C.toList.drop (L.o+off)).take (n*sz')).length=n*sz':=by
     rw[List.length_take,List.length_drop,Array.length_toList];omega
    have hget:∀ (j:Nat) (u:Value),((C.toList.drop (L.o+off)).take (n*sz'))[j]?=some u→C[L.o+off+j]?=some u:=by
     intro j u hj
     rw[List.getElem?_take] at hj
     split at hj
     ·rw [List.getElem?_drop] at hj
      simpa using hj
     ·cases hj
    refine⟨n,(C.toList.drop (L.o+off)).take (n*sz'),by rw[List.length_take,List.length_drop];omega,.of_get (by rw[hlen,List.length_take,List.length_drop];omega) fun j x u hj hu=>?_,fun w=>rfl,fun w hw=>?_⟩
    ·rw [List.getElem?_take] at hj
     split at hj
     ·rw [List.getElem?_drop] at hj
      obtain⟨u',hu',hr⟩:=h7 _ _ hj
      have:=hget j u hu
      rw[Nat.add_assoc,hu'] at this
      injection this with this
      exact this ▸ hr
     ·cases hj
    ·have := run_loadCells_list (P := P) w ⟨L.b, L.o + off, none⟩ ((C.toList.drop (L.o + off)).take (n * sz')) fun j u hj => by
      rw[Addr.add_lit,hw,cell_of_row _ _ _ _ _ _ h2]
      exact hget j u hj
     rw[hlen] at this
     simpa[Builtin.firstCells] using this
   ·cases hc
  ·cases hc
 ·split at hc
  ·rename_i els he
   split at hc
   ·rename_i hal
    injection hc with hc
    exact data els he (fun e h=>by have:=List.all_eq_true.1 hal e h;simpa using this) hc.symm
   ·cases hc
  ·cases hc
theorem cellsL_some {m:List (Tr Ent)} {t:Tr Unit} (h:MemOK X m t) {y:AV} {new:List AV} {v:Value} {sz:Nat} (hc:cellsL m sz y=some new) (hv:VR X y v) (h0:0<new.length):∃ p m c,v=.slice (some p) m c:=by
 unfold cellsL at hc
 split at hc
 ·obtain ⟨L', cap, hL', rfl, _⟩ := hv
  exact⟨_,_,_,rfl⟩
 ·split at hc
  ·rename_i els he
   split at hc
   ·injection hc with hc; subst hc
    obtain⟨ad,cap,sz',b,o,rfl,h2,h3,h4⟩:=elsOf_ok h he hv
    cases els with
    |nil=>simp at h0
    |cons e els=>
     have:=h3 (by simp)
     subst this
     exact⟨_,_,_,rfl⟩
   ·cases hc
  ·cases hc
theorem appendB_len {s:St} {lv sl nvi sz bytes:Nat} {x y:AV} {E:Eff} (h:appendB s lv sl nvi sz bytes x y=some E):∃ new,cellsL s.mem sz y=some new∧0<new.length:=by
 unfold appendB at h
 split at h
 ·cases h
 ·rename_i new hc
  refine⟨new,hc,?_⟩
  cases new with
  |nil=>simp at h
  |cons x l=>simp
theorem new_boxG {m:List (Tr Ent)} {t:Tr Unit} (h:MemOK X m t) {C:Array Value} {e:TypeId} {v:Nat} {cs:List AV} (lv sl:Nat) (hv:X.ρ v=none) (hle:cs.length≤C.size) (hc:∀ (j:Nat) (x:AV),cs[j]?=some x→∃ u:Value,C[j]?=some u∧VC X x u) :
  MemOK (X.alloc C e v ⟨X.w.heap.size,0,C.size,1⟩) (memSet m lv sl (some (.box v cs))) t:=by
 have hx:Ext X (X.alloc C e v ⟨X.w.heap.size,0,C.size,1⟩):=Ext.alloc h.inF h.low hv
 refine (h.alloc hv).add (L:=⟨X.w.heap.size,0,C.size,1⟩) (new_ρ _ _ _ _ _) ⟨rfl,⟨h.fresh,C,e,new_heap _ _ _ _ _,by simp;omega⟩,fun o ho=>?_,fun j x hj=>?_⟩ fun k u M hk _ hu hc _=>new_apart h hv hk hu hc
 ·exact Nat.lt_irrefl _ (h.inF _ _ ho)
 ·obtain ⟨u, hu, hr⟩ := hc _ _ hj
  refine⟨u,?_,hr.ext hx⟩
  rw[cell_of_row _ _ _ _ _ _ (new_heap X C e v _),Nat.zero_add]
  exact hu
theorem VC.drew {X:Cx} {x:AV} {v:Value} (h:VC X x v):VC X.drew x v:=h.ext drew_ext
theorem grown_box (h:MemOK X s.mem s.tips) (hfr:X.ρ nvi=none) {m:List (Tr Ent)} {C:Array Value} {e:TypeId} {cs:List AV} {sz k G n lv sl:Nat} {vs:List Value} (hl:cs.length=k*sz) (hC:G*sz≤C.size) (hle:k≤G) (h0:0<k)
  (hvs:∀ (j:Nat) (u:Value),vs[j]?=some u→C[j]?=some u) (hd:All2 (VC X) cs vs) (hm:MemOK X m s.tips) :
  ∃ Y,Y.w=X.w.drew.alloc (.cells C e)∧Ext X Y∧VR Y (.bref lv sl nvi 0 k sz) (.slice (some ⟨X.w.heap.size,0,none⟩) k G)∧MemOK Y (memSet m lv sl (some (.box nvi cs))) s.tips∧DomOK X Y nvi n n:=by
 have hk:=Nat.mul_le_mul_right sz hle
 have nr:=new_boxG (X:=X.drew) (drew_mem hm) (C:=C) (e:=e) (v:=nvi) (cs:=cs) lv sl hfr (by omega) (fun j x hj=>by
  obtain⟨u,hu,hr⟩:=hd.get _ _ hj
  exact⟨u,hvs _ _ hu,hr.drew⟩)
 refine⟨X.drew.alloc C e nvi ⟨X.w.heap.size,0,C.size,1⟩,rfl,drew_ext.trans (Ext.alloc (X:=X.drew) h.inF h.low hfr),⟨⟨X.w.heap.size,0,C.size,1⟩,G,new_ρ X.drew C e nvi _,by simp,hle,h0,fun _=>by show 0+G*sz≤C.size;omega⟩,nr,?_⟩
 exact alloc_dom (X:=X.drew) (C:=C) (e:=e) (v:=nvi) (L:=⟨X.w.heap.size,0,C.size,1⟩) (n:=n)
theorem append_box (h:MemOK X s.mem s.tips) (hfr:X.ρ nvi=none) {t u ty e:TypeId} {i:TypeInfo} {z:Value} {xv yv:Value} {lv sl ver off len k n:Nat} {cs new:List AV} {vs:List Value} {rd:List (Nat×Nat×Nat)} (ht:P.underlying t=some (.slice e)) (hs:Src P u i X.w yv k vs) (hi:P.info? e=some i) (hz:i.zero=some z) (hzs:z.cells.size=i.size) (h0:0<i.size)
  (hx:VR X (.bref lv sl ver off len i.size) xv) (hb:boxAt s.mem lv sl ver=some cs) (hc1:off+len*i.size≤cs.length) (hc2:len+k≤maxLenA) (hc3:(len+k)*i.bytes≤roomA) (hk:0<k) (hl:new.length=k*i.size) (hd:All2 (VC X) new vs) :
  Appended P X s t u ty xv yv nvi n { val:=.bref lv sl nvi 0 (len+k) i.size,upd:=[(lv,sl,some (.box nvi ((cs.drop off).take (len*i.size)++new)))],tip:=[],rd }:=by
 have hg:=boxAt_mem hb
 obtain⟨L,C,ce,hL,h1,hb2,hb1,hb3,hb4,hap,hcont⟩:=box_block h hg
 have hx0:=hx
 obtain⟨L1,cap,hL1,rfl,h3,h4,h5⟩:=hx
 rw[hL] at hL1;injection hL1 with hL1;subst hL1
 have hvl:vs.length=k*i.size:=by rw[←hd.length,hl]
 have hbl:((cs.drop off).take (len*i.size)).length=len*i.size:=by rw[List.length_take,List.length_drop];omega
 have hll:((cs.drop off).take (len*i.size)++new).length=(len+k)*i.size:=by rw[List.length_append,hbl,hl,Nat.add_mul]
 by_cases hroom:len+k≤cap
 ·have h6 := h5 (by omega)
  have hm:=Nat.mul_le_mul_right i.size hroom
  rw[Nat.add_mul] at hm
  have hfit:L.o+off+len*i.size+vs.length≤C.size:=by omega
  have hst:=run_storeCells_at P L.b (L.o+off+len*i.size) ce vs 0 C X.w hb2 (by omega) (All2.one hd)
  simp only[Nat.add_zero] at hst
  let C':=(C.toList.take (L.o+off+len*i.size)++vs++C.toList.drop (L.o+off+len*i.size+vs.length)).toArray
  have hget:∀ j,C'[j]?=if L.o+off+len*i.size≤j∧j<L.o+off+len*i.size+vs.length then vs[j-(L.o+off+len*i.size)]? else C[j]?:=getElem?_put hfit
  have hsize:C'.size=C.size:=by
   show (C.toList.take (L.o+off+len*i.size)++vs++C.toList.drop (L.o+off+len*i.size+vs.length)).toArray.size=C.size
   simp
   omega
  have hFk:∀ q,X.F L.b q→C'[q]?=C[q]?:=fun q hq=>absurd hq (hb4 q)
  have hx1:Ext X (X.set L.b C'):=set_ext hb2 hb1 hFk
  have hm1:MemOK (X.set L.b C') (memSet s.mem lv sl none) s.tips:=set_mem (h.erase lv sl) hb2 hb1 hFk hap
  let L':Loc:=⟨L.b,L.o+off,cap*i.size,1⟩
  have hx2:Ext (X.set L.b C') ((X.set L.b C').name nvi L'):=name_ext hfr
  have hx:Ext X ((X.set L.b C').name nvi L'):=hx1.trans hx2
  refine⟨(X.set L.b C').name nvi L',.slice (some ⟨L.b,L.o+off,none⟩) (len+k) cap,?_,hx,?_,?_,?_⟩
  ·rw [append_room (i := i) (new := vs) ht hs hi hroom]
   simp only[Addr.add_lit,hst,Result.andThen_ok]
   rfl
  ·exact⟨L',cap,name_ρ,rfl,hroom,by omega,fun _=>by show 0+cap*i.size≤cap*i.size;omega⟩
  ·show MemOK _ (memSet s.mem lv sl _) s.tips
   refine (name_mem hm1 hfr).reset (e:=.box nvi ((cs.drop off).take (len*i.size)++new)) (L:=L') name_ρ ⟨rfl,⟨hb1,C',ce,set_heap hb2,?_⟩,hb4,fun j x hj=>?_⟩ fun k' w M hk' hw hMc _=>?_
   ·show L.o + off + max ((cs.drop off).take (len * i.size) ++ new).length (cap * i.size) ≤ C'.size
    rw[hsize,hll,Nat.add_mul]
    omega
   ·show ∃ v, (X.set L.b C').w.cell? ⟨L.b, L.o + off + j, none⟩ = some v ∧ _
    rw[cell_of_row _ _ _ _ _ _ (set_heap hb2),hget]
    by_cases hq:j<len*i.size
    ·rw [List.getElem?_append_left (by omega), List.getElem?_take, if_pos hq, List.getElem?_drop] at hj
     obtain⟨v,hv,hr⟩:=hcont _ _ hj
     rw[if_neg (by omega),Nat.add_assoc]
     exact⟨v,hv,hr.ext hx⟩
    ·rw [List.getElem?_append_right (by omega), hbl] at hj
     obtain⟨v,hv,hr⟩:=hd.get _ _ hj
     have hlt:=(List.getElem?_eq_some_iff.1 hv).1
     rw[if_pos (by omega),show L.o+off+j-(L.o+off+len*i.size)=j-len*i.size by omega]
     exact⟨v,hv,hr.ext hx⟩
   ·obtain ⟨M', hM', _⟩ := (h.erase lv sl).holds_ρ hk'
    have:((X.set L.b C').name nvi L').ρ w=some M':=hx.loc _ _ hM'
    rw[hw] at this;injection this with this;subst this
    exact hap k' w M hk' hM' hMc
  ·exact⟨Nat.le_refl _,fun w M hw=>by
    rcases (name_dom (X:=X.set L.b C') (v:=nvi) (n:=0) (L:=L')).2 w M hw with hq|hq|hq
    ·exact .inl hq
    ·exact .inr (.inl hq)
    ·omega⟩
 ·have hcl : cellsL s.mem i.size (.bref lv sl ver off len i.size) = some ((cs.drop off).take (len * i.size)) := by
   simp only[cellsL,hb,hc1,and_self,if_true]
  obtain⟨k',old,q1,q2,q3,q4⟩:=cellsL_ok (P:=P) h hcl hx0 h0
  have hkk:k'=len:=by
   rw[hbl] at q1
   exact (Nat.eq_of_mul_eq_mul_right h0 q1).symm
  subst hkk
  have hol:old.length=k'*i.size:=by rw[←q2.length,hbl]
  have hrun:=append_grow (P:=P) (t:=t) (u:=u) (ty:=ty) (w:=X.w) (cap:=cap) ht hs hi hz (q4 X.w.drew fun _ _=>rfl) (by omega) hc2 hc3
  have hG:=grownCap_ge X.w (k'+k) cap e
  obtain⟨Y,hw,k1,k2,k3,k4⟩:=grown_box (e:=e) (lv:=lv) (sl:=sl) (m:=memSet s.mem lv sl none) h hfr hll (grown_size hol hvl hzs hG) hG (by omega) (fun j u hj=>grown_cells j u hj) (q2.append hd) (n:=n) (h.erase lv sl)
  exact⟨Y,_,by rw[hrun,hw],k1,k2,reset_eq k3,k4⟩
theorem appendB_core (h:MemOK X s.mem s.tips) (hfr:X.ρ nvi=none) {t u ty e:TypeId} {i:TypeInfo} {z:Value} {xv yv:Value} {x y:AV} {lv sl n:Nat} {E:Eff} (ht:P.underlying t=some (.slice e)) (hu:notInt P u) (hi:P.info? e=some i) (hz:i.zero=some z) (hzs:z.cells.size=i.size) (h0:0<i.size)
  (hx:VR X x xv) (hy:VR X y yv) (hr:appendB s lv sl nvi i.size i.bytes x y=some E):Appended P X s t u ty xv yv nvi n E:=by
 unfold appendB at hr
 split at hr
 ·cases hr
 ·rename_i new hc
  obtain⟨k,vs,q1,q2,q3,q4⟩:=cellsL_ok (P:=P) h hc hy h0
  have hdiv:new.length / i.size=k:=by rw[q1];exact Nat.mul_div_cancel _ h0
  have hsrc:Src P u i X.w yv k vs:=.val hu (q3 X.w) (q4 X.w fun _ _=>rfl) (q4 X.w.drew fun _ _=>rfl)
  simp only[hdiv] at hr
  split at hr
  ·cases hr
  ·rename_i hk
   have hk:0<k:=by
    rcases Nat.eq_zero_or_pos k with hq|hq
    ·subst hq;simp at hk
    ·exact hq
   split at hr
   ·split at hr
    ·rename_i hc2
     injection hr with hr;subst hr
     obtain⟨ad,b,off,sz',rfl,_,_⟩:=hx
     have hrun:=append_grow (P:=P) (t:=t) (u:=u) (ty:=ty) (w:=X.w) (ad:=ad) (n:=0) (cap:=0) (old:=[]) ht hsrc hi hz (by
      cases ad with
      |none=>simp[Builtin.firstCells]
      |some ad=>simp[Builtin.firstCells,loadCells,loadCellsFrom]) (by omega) (by omega) (by rw[Nat.zero_add];exact hc2.2)
     have hG:=grownCap_ge X.w (0+k) 0 e
     have hvl:vs.length=k*i.size:=by rw[←q2.length,q1]
     obtain⟨Y,hw,k1,k2,k3,k4⟩:=grown_box (e:=e) (lv:=lv) (sl:=sl) (m:=s.mem) h hfr (k:=0+k) (by rw[q1,Nat.zero_add]) (grown_size (old:=[]) (n:=0) (by simp) hvl hzs hG) hG (by omega) (fun j u hj=>grown_cells j u (by simpa using hj)) q2 (n:=n) h
     rw[Nat.zero_add] at k2
     exact⟨Y,_,by show _=_;rw[hw];rw[Nat.zero_add] at hrun ⊢;exact hrun,k1,k2,k3,k4⟩
    ·cases hr
   ·split at hr
    ·rename_i cs hb
     split at hr
     ·rename_i hc2
      obtain⟨rfl,hc2,hc3,hc4⟩:=hc2
      injection hr with hr;subst hr
      exact append_box h hfr ht hsrc hi hz hzs h0 hx hb hc2 hc3 hc4 hk q1 q2
     ·cases hr
    ·cases hr
   ·cases hr
end
end Go.Eng
