/- append, case by case; copy; clear. -/
import Derived.Test.YthphehfgekjooaaGreatDoorEngL
set_option linter.unusedVariables false
set_option linter.unusedSimpArgs false
namespace Go.bq
open Go Go.RowKit
section
variable {P:Program} {X:Cx} {nt:Nat} {s:St} {a:Act} {o:Oper} {dst:Option Nat} {aH:Nat}
theorem CQ (h:aA X s.mem s.aB) (hfr:X.ρ aH=none) {C:Array Value} {e:TypeId} {els:List (List D)} {sz G n:Nat} {vs:List Value} {aB:Tr Unit} (hl:∀ e∈els,e.length=sz) (hC:G*sz≤C.size) (hle:els.length≤G)
  (hvs:∀ (j:Nat) (u:Value),vs[j]?=some u→C[j]?=some u) (hd:aq (DR X.w X.F) els.flatten vs) (acS:∀ v,aB.get? v=some ()→s.aB.get? v=some ()) :
  ∃ Y,Y.w=X.w.drew.alloc (.cells C e)∧Ext X Y∧VR Y (.own els (.bR aH sz)) (.slice (some ⟨X.w.heap.size,0,none⟩) els.length G)∧aA Y s.mem (aB.set aH (some ()))∧ew X Y aH n n:=by
 have h':aA X.drew s.mem aB:=zM (h.less (fun _ _ _ h=>h) acS)
 have nt:=L5 (X:=X.drew) h' (C:=C) (e:=e) (v:=aH) (els:=els) (sz:=sz) (cap:=G) (vs:=vs) hfr hl hC hle hvs (hd.mono fun _ _=>DR.ext og)
 obtain⟨g1,g2,g3,g4⟩:=nt
 refine⟨_,rfl,og.trans g1,⟨some ⟨X.w.heap.size,0,none⟩,X.w.heap.size,0,sz,G,rfl,hle,fun _=>rfl,g3,uE X.drew C e aH _,rfl⟩,g2,⟨Nat.le_refl _,fun v L hv=>?_⟩⟩
 rcases g4.2 v L hv with h|h|h
 ·exact .inl h
 ·grind
 ·omega
theorem CR (h:aA X s.mem s.aB) (hfr:X.ρ aH=none) {m:List (Tr aZ)} {C:Array Value} {e:TypeId} {els:List (List D)} {sz G n lv sl:Nat} {vs:List Value} (hl:∀ e∈els,e.length=sz) (hC:G*sz≤C.size) (hle:els.length≤G)
  (hvs:∀ (j:Nat) (u:Value),vs[j]?=some u→C[j]?=some u) (hd:aq (DR X.w X.F) els.flatten vs) (hm:aA X m s.aB) :
  ∃ Y,Y.w=X.w.drew.alloc (.cells C e)∧Ext X Y∧VR Y (.ref lv sl aH 0 els.length sz) (.slice (some ⟨X.w.heap.size,0,none⟩) els.length G)∧aA Y (bF m lv sl (some (.row aH els))) s.aB∧ew X Y aH n n:=by
 have nr:=Ey (X:=X.drew) (zM hm) (C:=C) (e:=e) (v:=aH) (els:=els) (sz:=sz) (cap:=G) (vs:=vs) lv sl hfr hl hC hle hvs (hd.mono fun _ _=>DR.ext og)
 refine⟨X.drew.alloc C e aH ⟨X.w.heap.size,0,sz,G⟩,rfl,og.trans (Ext.alloc (X:=X.drew) h.ni h.low hfr),⟨⟨X.w.heap.size,0,sz,G⟩,some ⟨X.w.heap.size,0,none⟩,G,uE X.drew C e aH _,rfl,rfl,hle,fun _=>⟨by simp,by simp⟩⟩,nr,?_⟩
 have:=mF (X:=X.drew) (C:=C) (e:=e) (v:=aH) (L:=⟨X.w.heap.size,0,sz,G⟩) (n:=n)
 exact this
theorem P8 {X:Cx} {m:List (Tr aZ)} {t:Tr Unit} {lv sl:Nat} {e:aZ} (h:aA X (bF (bF m lv sl none) lv sl (some e)) t):aA X (bF m lv sl (some e)) t:=
 h.congr (fun bV cS=>by
  rw[bM,bM,bM]<;>grind[bF,aC]) fun _=>rfl
theorem JO (h:aA X s.mem s.aB) (hfr:X.ρ aH=none) {t u ty e:TypeId} {i:TypeInfo} {z:Value} {xv yv:Value} {lv sl aa off len n:Nat} {els news:List (List D)} {new:List Value} {rd:List (Nat×Nat×Nat)} (ht:P.underlying t=some (.slice e)) (hs:Src P u i X.w yv news.length new) (hi:P.info? e=some i) (hz:i.zero=some z) (hzs:z.cells.size=i.size)
  (hx:VR X (.ref lv sl aa off len i.size) xv) (hrow:rowAt s.mem lv sl aa=some els) (hc1:off+len≤els.length) (mP:len+news.length≤dU) (JP:(len+news.length)*i.bytes≤jl) (hnl:∀ e∈news,e.length=i.size) (Cc:aq (DR X.w X.F) news.flatten new) :
  zN P X s t u ty xv yv aH n { val:=.ref lv sl aH 0 (len+news.length) i.size,cv:=[(lv,sl,some (.row aH ((els.drop off).take len++news)))],bR:=[],rd }:=by
 obtain⟨L,hL,hE,hg⟩:=lD h hrow
 obtain⟨L1,ad,cap,L6,h1,rfl,h3,h4⟩:=hx
 rw[hL] at L6;cases L6
 have sw:new.length=news.length*i.size:=by rw[←Cc.length,aP hnl]
 have Jx:((els.drop off).take len).length=len:=by grind
 have L7:∀ e∈(els.drop off).take len,e.length=i.size:=fun f hf=>by rw[hE.2.1 f (List.mem_of_mem_drop (List.mem_of_mem_take hf)),h1]
 have W7:((els.drop off).take len++news).length=len+news.length:=by grind
 have hls:∀ e∈(els.drop off).take len++news,e.length=i.size:=fun f hf=>(List.mem_append.1 hf).elim (L7 f) (hnl f)
 by_cases hroom:len+news.length≤cap
 ·
  by_cases hcap:0<cap
  ·obtain ⟨rfl, h5⟩ := h4 hcap
   have hc0:0<L.cap:=by omega
   obtain⟨C,ce,vZ,qJ,W8,hb4,hb5,hb6,hap,zO⟩:=mG h hg hL hc0
   have hfit:L.o+off*L.sz+len*L.sz+new.length≤C.size:=by
    rw[sw,←h1,Nat.add_assoc (L.o+off*L.sz),←Nat.add_mul,Nat.add_assoc,←Nat.add_mul]
    have:=Nat.mul_le_mul_right L.sz (show off+(len+news.length)≤L.cap by omega)
    omega
   have hst:=run_storeCells_at P L.b (L.o+off*L.sz+len*L.sz) ce new 0 C X.w vZ (by omega) (aq.Ud Cc)
   let C':=(C.toList.take (L.o+off*L.sz+len*L.sz)++new++C.toList.drop (L.o+off*L.sz+len*L.sz+new.length)).toArray
   have od:∀ j,C'[j]?=if L.o+off*L.sz+len*L.sz≤j∧j<L.o+off*L.sz+len*L.sz+new.length then new[j-(L.o+off*L.sz+len*L.sz)]? else C[j]?:=mz hfit
   have hsize:C'.size=C.size:=by
    show (C.toList.take (L.o+off*L.sz+len*L.sz)++new++C.toList.drop (L.o+off*L.sz+len*L.sz+new.length)).toArray.size=C.size
    simp
    omega
   have hFk:∀ q,X.F L.b q→C'[q]?=C[q]?:=fun q hq=>absurd hq (hb4 q)
   have hx1:Ext X (X.set L.b C'):=uF vZ qJ hFk
   have CP:aA (X.set L.b C') (bF s.mem lv sl none) s.aB:=yX (h.erase lv sl) vZ qJ hFk hap
   let L':Loc:=⟨L.b,L.o+off*L.sz,i.size,cap⟩
   have hx2:Ext (X.set L.b C') ((X.set L.b C').name aH L'):=dn hfr
   have hx:Ext X ((X.set L.b C').name aH L'):=hx1.trans hx2
   refine⟨(X.set L.b C').name aH L',.slice (some ⟨L.b,L.o+off*i.size,none⟩) (len+news.length) cap,?_,hx,?_,?_,?_⟩
   ·rw [jq (i := i) (new := new) ht hs hi hroom]
    rw[←h1]
    simp only[Addr.add_lit,hst,Result.andThen_ok]
    rfl
   ·exact⟨L',_,cap,dL,rfl,rfl,hroom,fun _=>⟨by simp[L',h1],by simp[L']⟩⟩
   ·refine (fG CP hfr).reset (e := .row aH ((els.drop off).take len ++ news)) (L := L') dL ⟨by rw [W7]; exact hroom, hls, fun _ => ⟨⟨qJ, C', ce, iR vZ, ?_⟩, hb4⟩, fun q f j x hq hj => ?_⟩ fun k w M hk hw vT _ => ?_
    ·show L.o + off * L.sz + cap * i.size ≤ C'.size
     rw[←h1,Nat.add_assoc,←Nat.add_mul]
     have:=Nat.mul_le_mul_right L.sz h5
     omega
    ·show ∃ v, (X.set L.b C').w.cell? ⟨L.b, L.o + off * L.sz + q * i.size + j, none⟩ = some v ∧ _
     rw[cell_of_row _ _ _ _ _ _ (iR vZ),od]
     have Es:j<i.size:=by rw[←hls f (List.mem_of_getElem? hq)];exact (List.getElem?_eq_some_iff.1 hj).1
     by_cases hql:q<len
     ·rw [List.getElem?_append_left (by omega)] at hq
      have hqe:=(dB hq).1
      obtain⟨v,hv,Jw⟩:=zO _ f j x hqe hj
      have e1:L.o+off*L.sz+q*i.size+j=L.o+(off+q)*L.sz+j:=by rw[h1,Nat.add_mul];omega
      have hlt:q*i.size+j<len*L.sz:=by
       have:=Nat.mul_le_mul_right i.size (show q+1≤len from hql)
       rw[Nat.add_mul] at this
       rw[h1]
       omega
      rw[if_neg (by omega),e1]
      exact⟨v,hv,Jw.ext hx⟩
     ·rw [List.getElem?_append_right (by omega), Jx] at hq
      have hg2:=e8 hnl _ j f hq Es
      rw[hj] at hg2
      obtain⟨v,hv,Jw⟩:=Cc.get _ _ hg2
      have hlt:=(List.getElem?_eq_some_iff.1 hv).1
      have e1:q*i.size+j=len*L.sz+((q-len)*i.size+j):=by
       have:q=len+(q-len):=by omega
       conv=>lhs;rw[this,Nat.add_mul]
       rw[h1]
       omega
      rw[if_pos (by omega)]
      rw[show L.o+off*L.sz+q*i.size+j-(L.o+off*L.sz+len*L.sz)=(q-len)*i.size+j by omega]
      exact⟨v,hv,Jw.ext hx⟩
    ·obtain ⟨M', jx, _⟩ := (h.erase lv sl).cz hk
     have:((X.set L.b C').name aH L').ρ w=some M':=hx.loc _ _ jx
     rw[hw] at this;cases this
     exact hap k w M hk jx vT
   ·exact⟨Nat.le_refl _,fun w M hw=>by
     rcases (gx (X:=X.set L.b C') (v:=aH) (n:=0) (L:=L')).2 w M hw with hq|hq|hq
     ·exact .inl hq
     ·exact .inr (.inl hq)
     ·omega⟩
  ·
   have hm0:news.length=0:=by omega
   have hl0:len=0:=by omega
   subst hl0
   have ED:news=[]:=List.eq_nil_of_length_eq_zero hm0
   subst ED
   have hnew:new=[]:=List.eq_nil_of_length_eq_zero (by simpa using sw)
   subst hnew
   have hrun:(Builtin.append_ #[t,u] ty #[.slice ad 0 cap,yv]).run P X.w=.ok (.slice ad 0 cap) X.w:=by
    rw[jq (i:=i) (m:=0) (new:=[]) ht hs hi (by omega)]
    cases ad with
    |none=>rfl
    |some ad=>simp[storeCells]
   refine⟨X.name aH ⟨0,0,i.size,0⟩,_,hrun,dn hfr,⟨⟨0,0,i.size,0⟩,ad,cap,dL,rfl,rfl,by simp,fun hq=>absurd hq hcap⟩,?_,gx⟩
   exact (fG h hfr).add (e:=.row aH ((els.drop off).take 0++[])) (L:=⟨0,0,i.size,0⟩) dL ⟨by simp,by simp,fun hq=>absurd hq (by simp),by simp⟩ fun _ _ _ _ _ _ _ hq=>absurd hq (by simp)
 ·have P9 : dH X.w X.F (fun _ _ => True) ((els.drop off).take len) L.b (L.o + off * L.sz) L.sz := (hE.TY (R := fun _ _ => True) fun _ _ => trivial).sub off len
  obtain⟨old,ho,hd1⟩:=mQ (P:=P) (n:=len) (cap:=cap) (ad:=ad) (X:=X) (w:=X.w.drew) (sz:=i.size) (fun _ _=>rfl) P9 L7 Jx (fun hq=>by rw[(h4 (by omega)).1,h1])
  have key:=tB (P:=P) (X:=X) (ty:=ty) (els:=(els.drop off).take len) (ad:=ad) (cap:=cap) ht hs hi hz hzs (by rw[Jx];exact ho) (by omega) (by omega) (by rw[Jx];exact JP) hd1 Cc L7 hnl
  obtain⟨C,G,g1,hrun,g2,g3,g4,g5⟩:=key
  obtain⟨Y,hw,k1,k2,k3,k4⟩:=CR (e:=e) (lv:=lv) (sl:=sl) (m:=bF s.mem lv sl none) h hfr g5 g2 (by rw[W7];omega) g3 g4 (n:=n) (h.erase lv sl)
  rw[W7] at k2
  rw[Jx] at hrun
  exact⟨Y,_,by rw[hrun,hw],k1,k2,P8 k3,k4⟩
theorem L8 (h:aA X s.mem s.aB) (hfr:X.ρ aH=none) {lv sl aa off len l h' n sz cap:Nat} {els:List (List D)} {ad:Option Addr} (hx:VR X (.ref lv sl aa off len sz) (.slice ad len cap)) (hrow:rowAt s.mem lv sl aa=some els)
  (c1:l≤h') (c2:h'≤len) (c3:off+len≤els.length) :
  ∃ Y,Y.w=X.w∧Ext X Y∧VR Y (.ref lv sl aH 0 (h'-l) sz) (.slice (if cap=l then ad else ad.map (·.add (l*sz))) (h'-l) (cap-l))∧aA Y (bF s.mem lv sl (some (.row aH ((els.drop (off+l)).take (h'-l))))) s.aB∧ew X Y aH n n:=by
 obtain⟨L,hL,hE,hg⟩:=lD h hrow
 obtain⟨L1,ad',cap',L6,h1,he,h3,h4⟩:=hx
 cases he
 rw[hL] at L6;cases L6
 have Jx:((els.drop (off+l)).take (h'-l)).length=h'-l:=by grind
 have L7:∀ e∈(els.drop (off+l)).take (h'-l),e.length=sz:=fun f hf=>by rw[hE.2.1 f (List.mem_of_mem_drop (List.mem_of_mem_take hf)),h1]
 by_cases hcap:0<cap-l
 ·obtain ⟨rfl, h5⟩ := h4 (by omega)
  have hc0:0<L.cap:=by omega
  obtain⟨C,ce,vZ,qJ,W8,hb4,hb5,hb6,hap,zO⟩:=mG h hg hL hc0
  let L':Loc:=⟨L.b,L.o+(off+l)*L.sz,sz,cap-l⟩
  refine⟨X.name aH L',rfl,dn hfr,⟨L',_,_,dL,rfl,rfl,by omega,fun _=>⟨?_,by simp[L']⟩⟩,?_,gx⟩
  ·simp only[Option.map_some,Addr.add_lit,L',h1]<;>grind
  ·refine (fG (h.erase lv sl) hfr).reset (e := .row aH ((els.drop (off + l)).take (h' - l))) (L := L') dL ⟨by rw [Jx]; show h' - l ≤ cap - l; omega, L7, fun _ => ⟨⟨qJ, C, ce, vZ, ?_⟩, hb4⟩, fun q f j x hq hj => ?_⟩ fun k w M hk hw vT _ => ?_
   ·show L.o + (off + l) * L.sz + (cap - l) * sz ≤ C.size
    rw[←h1,Nat.add_assoc,←Nat.add_mul]
    have:=Nat.mul_le_mul_right L.sz (show off+l+(cap-l)≤L.cap by omega)
    omega
   ·have hqe := (dB hq).1
    obtain⟨v,hv,Jw⟩:=hE.2.2.2 _ f j x hqe hj
    refine⟨v,?_,Jw⟩
    show X.w.cell? ⟨L.b,L.o+(off+l)*L.sz+q*sz+j,none⟩=some v
    rw[←hv]
    congr 2
    rw[←h1,Nat.add_mul (off+l)]
    omega
   ·obtain ⟨M', jx, _⟩ := (h.erase lv sl).cz hk
    have:(X.name aH L').ρ w=some M':=(dn hfr).loc _ _ jx
    rw[hw] at this;cases this
    exact hap k w M hk jx vT
 ·have h0 : h' - l = 0 := by omega
  refine⟨X.name aH ⟨0,0,sz,0⟩,rfl,dn hfr,⟨⟨0,0,sz,0⟩,_,_,dL,rfl,rfl,by omega,fun hq=>absurd hq hcap⟩,?_,gx⟩
  exact (fG h hfr).add (e:=.row aH ((els.drop (off+l)).take (h'-l))) (L:=⟨0,0,sz,0⟩) dL ⟨by rw[Jx,h0];exact Nat.le_refl _,L7,fun hq=>absurd hq (by simp),fun q f j x hq _=>by rw[h0] at hq;simp at hq⟩ fun _ _ _ _ _ _ _ hq=>absurd hq (by simp)
theorem Qa (h:aA X s.mem s.aB) (hfr:X.ρ aH=none) {lv sl aa off len n sz lv2 sl2:Nat} {els:List (List D)} {v:Value} (hx:VR X (.ref lv sl aa off len sz) v) (hrow:rowAt s.mem lv sl aa=some els) (c3:off+len≤els.length) :
  ∃ Y,Y.w=X.w∧Ext X Y∧VR Y (.ref lv2 sl2 aH 0 len sz) v∧aA Y (bF (bF s.mem lv sl none) lv2 sl2 (some (.row aH ((els.drop off).take len)))) s.aB∧ew X Y aH n n:=by
 obtain⟨L,hL,hE,hg⟩:=lD h hrow
 obtain⟨L1,ad,cap,L6,h1,rfl,h3,h4⟩:=hx
 rw[hL] at L6;cases L6
 have Jx:((els.drop off).take len).length=len:=by grind
 have L7:∀ e∈(els.drop off).take len,e.length=sz:=fun f hf=>by rw[hE.2.1 f (List.mem_of_mem_drop (List.mem_of_mem_take hf)),h1]
 by_cases hcap:0<cap
 ·have hc0 : 0 < L.cap := by omega
  obtain⟨C,ce,vZ,qJ,W8,hb4,hb5,hb6,hap,zO⟩:=mG h hg hL hc0
  let L':Loc:=⟨L.b,L.o+off*L.sz,sz,cap⟩
  refine⟨X.name aH L',rfl,dn hfr,⟨L',_,_,dL,rfl,rfl,h3,fun _=>⟨?_,by simp[L']⟩⟩,?_,gx⟩
  ·grind
  ·refine (fG (h.erase lv sl) hfr).add (e := .row aH ((els.drop off).take len)) (L := L') dL ⟨by rw [Jx]; exact h3, L7, fun _ => ⟨⟨qJ, C, ce, vZ, ?_⟩, hb4⟩, fun q f j x hq hj => ?_⟩ fun k w M hk _ hw vT _ => ?_
   ·show L.o + off * L.sz + cap * sz ≤ C.size
    rw[←h1,Nat.add_assoc,←Nat.add_mul]
    have:=Nat.mul_le_mul_right L.sz (show off+cap≤L.cap by omega)
    omega
   ·have hqe := (dB hq).1
    obtain⟨v,hv,Jw⟩:=hE.2.2.2 _ f j x hqe hj
    refine⟨v,?_,Jw⟩
    show X.w.cell? ⟨L.b,L.o+off*L.sz+q*sz+j,none⟩=some v
    rw[←hv]
    congr 2
    rw[←h1,Nat.add_mul off]
    omega
   ·obtain ⟨M', jx, _⟩ := (h.erase lv sl).cz hk
    have:(X.name aH L').ρ w=some M':=(dn hfr).loc _ _ jx
    rw[hw] at this;cases this
    exact hap k w M hk jx vT
 ·have h0 : len = 0 := by omega
  subst h0
  refine⟨X.name aH ⟨0,0,sz,0⟩,rfl,dn hfr,⟨⟨0,0,sz,0⟩,_,_,dL,rfl,rfl,h3,fun hq=>absurd hq hcap⟩,?_,gx⟩
  exact (fG (h.erase lv sl) hfr).add (e:=.row aH ((els.drop off).take 0)) (L:=⟨0,0,sz,0⟩) dL ⟨by simp,by simp,fun hq=>absurd hq (by simp),fun q f j x hq _=>by simp at hq⟩ fun _ _ _ _ _ _ _ hq=>absurd hq (by simp)
theorem uH (h : aA X s.mem s.aB) (hfr : X.ρ aH = none) {t u ty e : TypeId} {i : TypeInfo} {z : Value} {xv yv : Value} {x y : AV} {row : Bool} {lv sl n : Nat} {E : eU} (ht : P.underlying t = some (.slice e)) (hi : P.info? e = some i) (hz : i.zero = some z) (hzs : z.cells.size = i.size) (_h0 : 0 < i.size)
  (hx:VR X x xv) (hy:∀ news,fq s.mem y=some news→(∀ e∈news,e.length=i.size)→∃ new:List Value,aq (DR X.w X.F) news.flatten new∧Src P u i X.w yv news.length new) (hr:cP s row lv sl aH i.size i.bytes x y=some E):zN P X s t u ty xv yv aH n E:=by
 unfold cP at hr
 cases hn:fq s.mem y with
 |none=>grind
 | some news =>
  rw[hn] at hr
  simp only at hr
  split at hr
  ·rename_i hal
   have hnl:=jc hal
   obtain⟨new,Cc,hs⟩:=hy news hn hnl
   have sw:new.length=news.length*i.size:=by rw[←Cc.length,aP hnl]
   split at hr
   ·rename_i els
    split at hr
    ·rename_i hc
     obtain⟨hc1,mP,JP⟩:=hc
     have hel:=jc hc1
     obtain⟨ad,b,off,sz',rfl,had,P9⟩:=hx
     by_cases hm0:news.length=0
     ·have ED : news = [] := List.eq_nil_of_length_eq_zero hm0
      subst ED
      have hnew:new=[]:=List.eq_nil_of_length_eq_zero (by simpa using sw)
      subst hnew
      have hrun:(Builtin.append_ #[t,u] ty #[.slice ad els.length els.length,yv]).run P X.w=.ok (.slice ad els.length els.length) X.w:=by
       rw[jq (i:=i) (m:=0) (new:=[]) ht hs hi (by omega)]
       cases ad with
       |none=>rfl
       |some ad=>simp[storeCells]
      cases hrow:row with
      | false =>
       simp only[hrow] at hr
       cases hr
       refine⟨X.name aH ⟨b,off+els.length*i.size,i.size,els.length-els.length⟩,_,hrun,dn hfr,?_,?_,gx⟩
       ·rw [List.append_nil]
        refine⟨ad,b,off,i.size,els.length,rfl,Nat.le_refl _,had,?_,dL,rfl⟩
        grind[jl,dU,aq,fq,Cx.name,dH]
       ·exact Nq (fG h hfr) dL (by simp)
      | true =>
       simp only[hrow] at hr
       split at hr
       ·cases hr
       ·cases hr
        have zL:els=[]:=by
         grind
        subst zL
        refine⟨X.name aH ⟨0,0,i.size,0⟩,_,hrun,dn hfr,⟨⟨0,0,i.size,0⟩,ad,0,dL,rfl,rfl,Nat.le_refl _,fun hq=>absurd hq (by omega)⟩,?_,gx⟩
        exact (fG h hfr).add (e:=.row aH ([]++[])) (L:=⟨0,0,i.size,0⟩) dL ⟨by simp,by simp,fun hq=>absurd hq (by simp),by simp⟩ fun _ _ _ _ _ _ _ hq=>absurd hq (by simp)
     ·obtain ⟨old, ho, hd1⟩ := mQ (P := P) (n := els.length) (cap := els.length) (X := X) (w := X.w.drew) (fun _ _ => rfl) P9 hel rfl had
      obtain⟨C,G,g1,hrun,g2,g3,g4,g5⟩:=tB (P:=P) (X:=X) (ty:=ty) ht hs hi hz hzs ho (by omega) mP JP hd1 Cc hel hnl
      have W7:(els++news).length=els.length+news.length:=List.length_append
      cases hrow:row with
      |false=>
       simp[hrow] at hr
       cases hr
       obtain⟨Y,hw,k1,k2,k3,k4⟩:=CQ (e:=e) h hfr g5 g2 (by omega) g3 g4 (aB:=s.aB) (n:=n) fun _ h=>h
       simp at k2
       exact⟨Y,_,by rw[hrun,hw],k1,k2,k3,k4⟩
      | true =>
       simp only[hrow] at hr
       split at hr
       ·cases hr
       ·cases hr
        obtain⟨Y,hw,k1,k2,k3,k4⟩:=CR (e:=e) (lv:=lv) (sl:=sl) h hfr g5 g2 (by omega) g3 g4 (n:=n) h
        simp at k2
        exact⟨Y,_,by rw[hrun,hw],k1,k2,k3,k4⟩
    grind
   ·rename_i els v tz
    split at hr
    ·rename_i hc
     obtain⟨hc0,mP,JP,hc4⟩:=hc
     cases hr
     have Qb:s.aB.get? v=some ():=by
      cases hg:s.aB.get? v with
      |none=>grind
      |some u=>rfl
     obtain⟨ad,b,off,sz',cap,rfl,hcap,had,P9,hL,htz⟩:=hx
     have hel:∀ e∈els,e.length=i.size:=fun e he=>by rw[P9.1 e he,htz,hc0]
     obtain⟨L',hL',hT⟩:=h.aB v Qb
     rw[hL] at hL';cases hL'
     by_cases hm0:news.length=0
     ·have ED : news = [] := List.eq_nil_of_length_eq_zero hm0
      subst ED
      have hnew:new=[]:=List.eq_nil_of_length_eq_zero (by simpa using sw)
      subst hnew
      have hrun:(Builtin.append_ #[t,u] ty #[.slice ad els.length cap,yv]).run P X.w=.ok (.slice ad els.length cap) X.w:=by
       rw[jq (i:=i) (m:=0) (new:=[]) ht hs hi (by omega)]
       cases ad with
       |none=>rfl
       |some ad=>simp[storeCells]
      refine⟨X.name aH ⟨b,off+els.length*sz',sz',cap-els.length⟩,_,hrun,dn hfr,?_,?_,gx⟩
      ·rw [List.append_nil]
       exact⟨ad,b,off,sz',cap,rfl,hcap,had,P9.ext (dn hfr),dL,htz.trans hc0⟩
      ·refine (fG (h.JH v) hfr).T0 dL hT fun k u M hk _ hu vT hc => ?_
       have hold:Holds s.mem s.aB k u∧k≠jw v:=by
        rcases hk with⟨bV,cS,e',rfl,he',lU⟩|⟨rfl,he'⟩
        ·exact⟨.inl ⟨bV,cS,e',rfl,he',lU⟩,dI⟩
        ·rw [Tr.bQ] at he'
         split at he'
         ·cases he'
         ·rename_i hvu
          exact⟨.inr ⟨rfl,he'⟩,fun hq=>hvu (by simpa[jw] using hq.symm)⟩
       obtain⟨M',jx,_⟩:=h.cz hold.1
       have:(X.name aH ⟨b,off+els.length*sz',sz',cap-els.length⟩).ρ u=some M':=(dn hfr).loc _ _ jx
       simp_all
       exact h.apart _ _ _ _ _ _ hold.1 (.inr ⟨rfl,Qb⟩) hold.2 jx hL vT hc
     ·by_cases hroom : els.length + news.length ≤ cap
      ·have W9 : 0 < cap - els.length := by omega
       obtain⟨⟨qJ,C,ce,vZ,W8⟩,hb4⟩:=hT W9
       simp at qJ vZ W8 hb4
       have ag2:=had (by omega)
       subst ag2
       have hsz:sz'=i.size:=htz.trans hc0
       ·subst hsz
        have hfit:off+els.length*i.size+new.length≤C.size:=by
         have:=Nat.mul_le_mul_right i.size (show news.length≤cap-els.length by omega)
         omega
        have hst:=run_storeCells_at P b (off+els.length*i.size) ce new 0 C X.w vZ (by omega) (aq.Ud Cc)
        let C':=(C.toList.take (off+els.length*i.size)++new++C.toList.drop (off+els.length*i.size+new.length)).toArray
        have od:∀ j,C'[j]?=if off+els.length*i.size≤j∧j<off+els.length*i.size+new.length then new[j-(off+els.length*i.size)]? else C[j]?:=mz hfit
        have hsize:C'.size=C.size:=by
         show (C.toList.take (off+els.length*i.size)++new++C.toList.drop (off+els.length*i.size+new.length)).toArray.size=C.size
         simp
         omega
        have hFk:∀ q,X.F b q→C'[q]?=C[q]?:=fun q hq=>by
         rw[od,if_neg]
         intro hq'
         exact hb4 q hq'.1 hq
        have hap:∀ k w M,Holds s.mem (s.aB.set v none) k w→X.ρ w=some M→0<M.cap→M.b≠b:=by
         intro k w M hk hw vT
         have hold:Holds s.mem s.aB k w∧k≠jw v:=by
          rcases hk with⟨bV,cS,e',rfl,he',lU⟩|⟨rfl,he'⟩
          ·exact⟨.inl ⟨bV,cS,e',rfl,he',lU⟩,dI⟩
          ·rw [Tr.bQ] at he'
           split at he'
           ·cases he'
           ·rename_i hvu
            exact⟨.inr ⟨rfl,he'⟩,fun hq=>hvu (by simpa[jw] using hq.symm)⟩
         exact h.apart _ _ _ _ _ _ hold.1 (.inr ⟨rfl,Qb⟩) hold.2 hw hL vT W9
        let X1:=X.set b C'
        have hx1:Ext X X1:=uF vZ qJ hFk
        have CP:aA X1 s.mem (s.aB.set v none):=yX (h.JH v) vZ qJ hFk hap
        let X2:=X1.more fun b' q=>b'=b∧q<off+els.length*i.size+new.length∧off+els.length*i.size≤q
        have hx2:Ext X1 X2:=Ext.more fun b' q hq=>by rw[hq.1];exact qJ
        have L7:b<X1.w.heap.size:=by
         have hh:=iR (X:=X) (C':=C') vZ
         rcases Nat.lt_or_ge b X1.w.heap.size with hl|hl
         ·exact hl
         ·rw[Array.getElem?_eq_none hl] at hh;cases hh
        have hm2:aA X2 s.mem (s.aB.set v none):=CP.more (fun b' q hq=>by rw[hq.1];exact⟨qJ,L7⟩) fun k w M q hk hw vT hq=>hap k w M hk hw vT hq.1
        let L:Loc:=⟨b,off+(els++news).length*i.size,i.size,cap-(els++news).length⟩
        have hx3:Ext X2 (X2.name aH L):=dn hfr
        have hx:Ext X (X2.name aH L):=(hx1.trans hx2).trans hx3
        have W7:(els++news).length=els.length+news.length:=List.length_append
        have hoff:off+(els++news).length*i.size=off+els.length*i.size+new.length:=by rw[W7,Nat.add_mul];omega
        refine⟨X2.name aH L,.slice (some ⟨b,off,none⟩) (els.length+news.length) cap,?_,hx,?_,?_,?_⟩
        ·rw [jq (i := i) (new := new) ht hs hi hroom]
         simp only[Addr.add_lit,hst,Result.andThen_ok]
         rfl
        ·refine ⟨some ⟨b, off, none⟩, b, off, i.size, cap, by rw [W7], by omega, fun _ => rfl, ?_, dL, rfl⟩
         refine⟨fun f hf=>?_,fun q f j w hq hj=>?_⟩
         ·rcases List.mem_append.1 hf with hf | hf
          ·exact hel f hf
          ·exact hnl f hf
         ·have Es : j < i.size := by
           have hff:f.length=i.size:=by
            rcases List.mem_append.1 (List.mem_of_getElem? hq) with hf|hf
            ·exact hel f hf
            ·exact hnl f hf
           rw[←hff];exact (List.getElem?_eq_some_iff.1 hj).1
          by_cases hql:q<els.length
          ·rw [List.getElem?_append_left hql] at hq
           obtain⟨hF,w',hw',Jw⟩:=P9.2 q f j w hq hj
           exact⟨hx.TZ _ _ hF,w',(hx.keep _ _ hF).trans hw',Jw.ext hx⟩
          ·rw [List.getElem?_append_right (by omega)] at hq
           have hg:=e8 hnl _ j f hq Es
           rw[hj] at hg
           obtain⟨w',hw',Jw⟩:=Cc.get _ _ hg
           have hlt:=(List.getElem?_eq_some_iff.1 hw').1
           have e1:off+q*i.size+j=off+els.length*i.size+((q-els.length)*i.size+j):=by
            have:q=els.length+(q-els.length):=by omega
            conv=>lhs;rw[this,Nat.add_mul]
            omega
           refine⟨.inr ⟨rfl,by omega,by omega⟩,w',?_,Jw.ext hx⟩
           show (X.set b C').w.cell? _=_
           rw[cell_of_row _ _ _ _ _ _ (iR vZ),e1,od,if_pos (by omega)]
           rw[show off+els.length*i.size+((q-els.length)*i.size+j)-(off+els.length*i.size)=(q-els.length)*i.size+j by omega]
           exact hw'
        ·refine (fG hm2 hfr).T0 (L := L) dL (fun hc => ⟨⟨qJ, C', ce, iR vZ, ?_⟩, fun q hq hF => ?_⟩) fun k w M hk _ hw vT _ => ?_
         ·rw [Nat.add_assoc, ← Nat.add_mul, show (els ++ news).length + (cap - (els ++ news).length) = cap by omega]
          have:off+els.length*i.size+(cap-els.length)*i.size=off+cap*i.size:=by rw[Nat.add_assoc,←Nat.add_mul,show els.length+(cap-els.length)=cap by omega]
          omega
         ·have hq : off + (els ++ news).length * i.size ≤ q := hq
          rcases hF with hF|hF
          ·exact hb4 q (by omega) hF
          ·omega
         ·have hold : ∃ M', X.ρ w = some M' := by
           obtain⟨M',jx,_⟩:=(h.JH v).cz hk
           exact⟨M',jx⟩
          obtain⟨M',jx⟩:=hold
          have:(X2.name aH L).ρ w=some M':=hx.loc _ _ jx
          rw[hw] at this;injection this with this;subst this
          exact hap k w M hk jx vT
        ·exact⟨Nat.le_refl _,fun w M hw=>by
          rcases (gx (X:=X2) (v:=aH) (n:=0) (L:=L)).2 w M hw with hq|hq|hq
          ·exact .inl hq
          ·exact .inr (.inl hq)
          ·omega⟩
      ·obtain ⟨old, ho, hd1⟩ := mQ (P := P) (n := els.length) (cap := cap) (X := X) (w := X.w.drew) (fun _ _ => rfl) P9 hel rfl (fun hq => had (by omega))
       obtain⟨C,G,g1,hrun,g2,g3,g4,g5⟩:=tB (P:=P) (X:=X) (ty:=ty) ht hs hi hz hzs ho (by omega) mP JP hd1 Cc hel hnl
       have W7:(els++news).length=els.length+news.length:=List.length_append
       obtain⟨Y,hw,k1,k2,k3,k4⟩:=CQ (e:=e) h hfr g5 g2 (by omega) g3 g4 (aB:=s.aB.set v none) (n:=n) fun w hw=>by rw[Tr.bQ] at hw;split at hw<;>first|exact hw|cases hw
       simp at k2
       exact⟨Y,_,by rw[hrun,hw],k1,k2,k3,k4⟩
    ·cases hr
   ·split at hr
    ·rename_i els hrow
     split at hr
     ·rename_i hc
      obtain⟨hc0,hc1,mP,JP⟩:=hc
      cases hr;subst hc0
      exact JO h hfr ht hs hi hz hzs hx hrow hc1 mP JP hnl Cc
     ·cases hr
    grind
   grind
  grind
theorem qQ (h:aA X s.mem s.aB) (hfr:X.ρ aH=none) {t u ty e:TypeId} {i:TypeInfo} {z:Value} {xv yv:Value} {x y:AV} {row:Bool} {lv sl n:Nat} {E:eU} (ht:P.underlying t=some (.slice e)) (hu:EC P u) (hi:P.info? e=some i) (hz:i.zero=some z) (hzs:z.cells.size=i.size) (h0:0<i.size)
  (hx:VR X x xv) (hy:VR X y yv) (hr:cP s row lv sl aH i.size i.bytes x y=some E):zN P X s t u ty xv yv aH n E:=
 uH h hfr ht hi hz hzs h0 hx (fun news hn hnl=>by
  obtain⟨new,Cc,hlen,hfc⟩:=yY (P:=P) h hn hy hnl h0
  have sw:new.length=news.length*i.size:=by rw[←Cc.length,aP hnl]
  have acV:∀ w:World,(∀ b o,w.cell? ⟨b,o,none⟩=X.w.cell? ⟨b,o,none⟩)→(Builtin.firstCells i.size news.length yv).run P w=.ok new.toArray w:=by
   grind
  exact⟨new,Cc,.val hu (hlen X.w) (acV X.w fun _ _=>rfl) (acV X.w.drew fun _ _=>rfl)⟩) hr
end
end Go.bq
