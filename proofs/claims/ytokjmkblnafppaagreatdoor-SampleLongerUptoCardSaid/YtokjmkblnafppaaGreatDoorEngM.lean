/- append, case by case; copy; clear. -/
import Derived.Test.YtokjmkblnafppaaGreatDoorEngL
set_option linter.unusedVariables false
set_option linter.unusedSimpArgs false
namespace Go.bI
open Go Go.RowKit
section
variable {P:Program} {X:Cx} {nt:Nat} {s:St} {a:Act} {o:Oper} {dst:Option Nat} {aR:Nat}
theorem B3 (h:aB X s.mem s.aE) (hfr:X.ρ aR=none) {C:Array Value} {e:TypeId} {els:List (List D)} {sz G n:Nat} {vs:List Value} {aE:Tr Unit} (hl:∀ e∈els,e.length=sz) (hC:G*sz≤C.size) (hle:els.length≤G)
  (hvs:∀ (j:Nat) (u:Value),vs[j]?=some u→C[j]?=some u) (hd:az (DR X.w X.F) els.flatten vs) (ZD:∀ v,aE.get? v=some ()→s.aE.get? v=some ()) :
  ∃ Y,Y.w=X.w.drew.alloc (.cells C e)∧Ext X Y∧VR Y (.own els (.cx aR sz)) (.slice (some ⟨X.w.heap.size,0,none⟩) els.length G)∧aB Y s.mem (aE.set aR (some ()))∧eC X Y aR n n:=by
 have h':aB X.drew s.mem aE:=zi (h.less (fun _ _ _ h=>h) ZD)
 have nt:=JO (X:=X.drew) h' (C:=C) (e:=e) (v:=aR) (els:=els) (sz:=sz) (cap:=G) (vs:=vs) hfr hl hC hle hvs (hd.mono fun _ _=>DR.ext nC)
 obtain⟨g1,g2,g3,g4⟩:=nt
 refine⟨_,rfl,nC.trans g1,⟨some ⟨X.w.heap.size,0,none⟩,X.w.heap.size,0,sz,G,rfl,hle,fun _=>rfl,g3,tP X.drew C e aR _,rfl⟩,g2,⟨Nat.le_refl _,fun v L hv=>?_⟩⟩
 rcases g4.2 v L hv with h|h|h
 ·exact .inl h
 ·exact .inr (.inl h)
 ·omega
theorem B4 (h:aB X s.mem s.aE) (hfr:X.ρ aR=none) {m:List (Tr bH)} {C:Array Value} {e:TypeId} {els:List (List D)} {sz G n lv sl:Nat} {vs:List Value} (hl:∀ e∈els,e.length=sz) (hC:G*sz≤C.size) (hle:els.length≤G)
  (hvs:∀ (j:Nat) (u:Value),vs[j]?=some u→C[j]?=some u) (hd:az (DR X.w X.F) els.flatten vs) (hm:aB X m s.aE) :
  ∃ Y,Y.w=X.w.drew.alloc (.cells C e)∧Ext X Y∧VR Y (.ref lv sl aR 0 els.length sz) (.slice (some ⟨X.w.heap.size,0,none⟩) els.length G)∧aB Y (bN m lv sl (some (.row aR els))) s.aE∧eC X Y aR n n:=by
 have nr:=Dq (X:=X.drew) (zi hm) (C:=C) (e:=e) (v:=aR) (els:=els) (sz:=sz) (cap:=G) (vs:=vs) lv sl hfr hl hC hle hvs (hd.mono fun _ _=>DR.ext nC)
 refine⟨X.drew.alloc C e aR ⟨X.w.heap.size,0,sz,G⟩,rfl,nC.trans (Ext.alloc (X:=X.drew) h.mI h.low hfr),⟨⟨X.w.heap.size,0,sz,G⟩,some ⟨X.w.heap.size,0,none⟩,G,tP X.drew C e aR _,rfl,rfl,hle,fun _=>⟨by simp,by simp⟩⟩,nr,?_⟩
 have:=lV (X:=X.drew) (C:=C) (e:=e) (v:=aR) (L:=⟨X.w.heap.size,0,sz,G⟩) (n:=n)
 exact this
theorem Nj {X:Cx} {m:List (Tr bH)} {t:Tr Unit} {lv sl:Nat} {e:bH} (h:aB X (bN (bN m lv sl none) lv sl (some e)) t):aB X (bN m lv sl (some e)) t:=
 h.congr (fun cl cX=>by
  rw[bX,bX,bX]
  have hlen:(bN m lv sl none).length=m.length:=by simp[bN]
  rw[hlen]
  split<;>rfl) fun _=>rfl
theorem HO (h:aB X s.mem s.aE) (hfr:X.ρ aR=none) {t u ty e:TypeId} {i:TypeInfo} {z:Value} {xv yv:Value} {lv sl af off len n:Nat} {els news:List (List D)} {new:List Value} {rd:List (Nat×Nat×Nat)} (ht:P.underlying t=some (.slice e)) (hs:Src P u i X.w yv news.length new) (hi:P.info? e=some i) (hz:i.zero=some z) (hzs:z.cells.size=i.size)
  (hx:VR X (.ref lv sl af off len i.size) xv) (hrow:rowAt s.mem lv sl af=some els) (hc1:off+len≤els.length) (pz:len+news.length≤eU) (K4:(len+news.length)*i.bytes≤j0) (hnl:∀ e∈news,e.length=i.size) (Br:az (DR X.w X.F) news.flatten new) :
  zj P X s t u ty xv yv aR n { val:=.ref lv sl aR 0 (len+news.length) i.size,cK:=[(lv,sl,some (.row aR ((els.drop off).take len++news)))],cx:=[],rd }:=by
 obtain⟨L,hL,hE,hg⟩:=kP h hrow
 obtain⟨L1,ad,cap,yj,h1,rfl,h3,h4⟩:=hx
 rw[hL] at yj;injection yj with yj;subst yj
 have lR:new.length=news.length*i.size:=by rw[←Br.length,bf hnl]
 have EW:((els.drop off).take len).length=len:=by simp;omega
 have HM:∀ e∈(els.drop off).take len,e.length=i.size:=fun f hf=>by rw[hE.2.1 f (List.mem_of_mem_drop (List.mem_of_mem_take hf)),h1]
 have Nk:((els.drop off).take len++news).length=len+news.length:=by rw[List.length_append,EW]
 have hls:∀ e∈(els.drop off).take len++news,e.length=i.size:=fun f hf=>(List.mem_append.1 hf).elim (HM f) (hnl f)
 by_cases hroom:len+news.length≤cap
 ·
  by_cases hcap:0<cap
  ·obtain ⟨rfl, h5⟩ := h4 hcap
   have hc0:0<L.cap:=by omega
   obtain⟨C,ce,xQ,sD,T8,hb4,hb5,hb6,hap,zk⟩:=lW h hg hL hc0
   have hfit:L.o+off*L.sz+len*L.sz+new.length≤C.size:=by
    rw[lR,←h1,Nat.add_assoc (L.o+off*L.sz),←Nat.add_mul,Nat.add_assoc,←Nat.add_mul]
    have:=Nat.mul_le_mul_right L.sz (show off+(len+news.length)≤L.cap by omega)
    omega
   have hst:=run_storeCells_at P L.b (L.o+off*L.sz+len*L.sz) ce new 0 C X.w xQ (by omega) (az.Rc Br)
   simp only[Nat.add_zero] at hst
   let C':=(C.toList.take (L.o+off*L.sz+len*L.sz)++new++C.toList.drop (L.o+off*L.sz+len*L.sz+new.length)).toArray
   have tR:∀ j,C'[j]?=if L.o+off*L.sz+len*L.sz≤j∧j<L.o+off*L.sz+len*L.sz+new.length then new[j-(L.o+off*L.sz+len*L.sz)]? else C[j]?:=lQ hfit
   have hsize:C'.size=C.size:=by
    show (C.toList.take (L.o+off*L.sz+len*L.sz)++new++C.toList.drop (L.o+off*L.sz+len*L.sz+new.length)).toArray.size=C.size
    simp
    omega
   have ZE:∀ q,X.F L.b q→C'[q]?=C[q]?:=fun q hq=>absurd hq (hb4 q)
   have hx1:Ext X (X.set L.b C'):=tQ xQ sD ZE
   have wu:aB (X.set L.b C') (bN s.mem lv sl none) s.aE:=yg (h.erase lv sl) xQ sD ZE hap
   let L':Loc:=⟨L.b,L.o+off*L.sz,i.size,cap⟩
   have hx2:Ext (X.set L.b C') ((X.set L.b C').name aR L'):=cZ hfr
   have hx:Ext X ((X.set L.b C').name aR L'):=hx1.trans hx2
   refine⟨(X.set L.b C').name aR L',.slice (some ⟨L.b,L.o+off*i.size,none⟩) (len+news.length) cap,?_,hx,?_,?_,?_⟩
   ·rw [jw (i := i) (new := new) ht hs hi hroom]
    rw[←h1]
    simp only[Addr.add_lit,hst,Result.andThen_ok]
    rfl
   ·exact⟨L',_,cap,dP,rfl,rfl,hroom,fun _=>⟨by simp[L',h1],by simp[L']⟩⟩
   ·show aB _ (bN s.mem lv sl _) s.aE
    refine (fR wu hfr).reset (e:=.row aR ((els.drop off).take len++news)) (L:=L') dP ⟨by rw[Nk];exact hroom,hls,fun _=>⟨⟨sD,C',ce,je xQ,?_⟩,hb4⟩,fun q f j x hq hj=>?_⟩ fun k w M hk hw tO _=>?_
    ·show L.o + off * L.sz + cap * i.size ≤ C'.size
     rw[hsize,←h1,Nat.add_assoc,←Nat.add_mul]
     have:=Nat.mul_le_mul_right L.sz h5
     omega
    ·show ∃ v, (X.set L.b C').w.cell? ⟨L.b, L.o + off * L.sz + q * i.size + j, none⟩ = some v ∧ _
     rw[cell_of_row _ _ _ _ _ _ (je xQ),tR]
     have Dl:j<i.size:=by rw[←hls f (List.mem_of_getElem? hq)];exact (List.getElem?_eq_some_iff.1 hj).1
     by_cases hql:q<len
     ·rw [List.getElem?_append_left (by omega)] at hq
      have ZF:=(cI hq).1
      obtain⟨v,hv,Hx⟩:=zk _ f j x ZF hj
      have e1:L.o+off*L.sz+q*i.size+j=L.o+(off+q)*L.sz+j:=by rw[h1,Nat.add_mul];omega
      have hlt:q*i.size+j<len*L.sz:=by
       have:=Nat.mul_le_mul_right i.size (show q+1≤len from hql)
       rw[Nat.add_mul,Nat.one_mul] at this
       rw[h1]
       omega
      rw[if_neg (by omega),e1]
      exact⟨v,hv,Hx.ext hx⟩
     ·rw [List.getElem?_append_right (by omega), EW] at hq
      have hg2:=fu hnl _ j f hq Dl
      rw[hj] at hg2
      obtain⟨v,hv,Hx⟩:=Br.get _ _ hg2
      have hlt:=(List.getElem?_eq_some_iff.1 hv).1
      have e1:q*i.size+j=len*L.sz+((q-len)*i.size+j):=by
       have:q=len+(q-len):=by omega
       conv=>lhs;rw[this,Nat.add_mul]
       rw[h1]
       omega
      rw[if_pos (by omega)]
      rw[show L.o+off*L.sz+q*i.size+j-(L.o+off*L.sz+len*L.sz)=(q-len)*i.size+j by omega]
      exact⟨v,hv,Hx.ext hx⟩
    ·obtain ⟨M', gG, _⟩ := (h.erase lv sl).cR hk
     have:((X.set L.b C').name aR L').ρ w=some M':=hx.loc _ _ gG
     rw[hw] at this;injection this with this;subst this
     exact hap k w M hk gG tO
   ·exact⟨Nat.le_refl _,fun w M hw=>by
     rcases (fS (X:=X.set L.b C') (v:=aR) (n:=0) (L:=L')).2 w M hw with hq|hq|hq
     ·exact .inl hq
     ·exact .inr (.inl hq)
     ·omega⟩
  ·
   have hm0:news.length=0:=by omega
   have hl0:len=0:=by omega
   subst hl0
   have Du:news=[]:=List.eq_nil_of_length_eq_zero hm0
   subst Du
   have hnew:new=[]:=List.eq_nil_of_length_eq_zero (by simpa using lR)
   subst hnew
   have hrun:(Builtin.append_ #[t,u] ty #[.slice ad 0 cap,yv]).run P X.w=.ok (.slice ad 0 cap) X.w:=by
    rw[jw (i:=i) (m:=0) (new:=[]) ht hs hi (by omega)]
    cases ad with
    |none=>rfl
    |some ad=>simp[storeCells]
   refine⟨X.name aR ⟨0,0,i.size,0⟩,_,hrun,cZ hfr,⟨⟨0,0,i.size,0⟩,ad,cap,dP,rfl,rfl,by simp,fun hq=>absurd hq hcap⟩,?_,fS⟩
   exact (fR h hfr).add (e:=.row aR ((els.drop off).take 0++[])) (L:=⟨0,0,i.size,0⟩) dP ⟨by simp,by simp,fun hq=>absurd hq (by simp),by simp⟩ fun _ _ _ _ _ _ _ hq=>absurd hq (by simp)
 ·have K5 : eW X.w X.F (fun _ _ => True) ((els.drop off).take len) L.b (L.o + off * L.sz) L.sz := (hE.QY (R := fun _ _ => True) fun _ _ => trivial).sub off len
  obtain⟨old,ho,T7⟩:=mc (P:=P) (n:=len) (cap:=cap) (ad:=ad) (X:=X) (w:=X.w.drew) (sz:=i.size) (fun _ _=>rfl) K5 HM EW (fun hq=>by rw[(h4 (by omega)).1,h1])
  have key:=sF (P:=P) (X:=X) (ty:=ty) (els:=(els.drop off).take len) (ad:=ad) (cap:=cap) ht hs hi hz hzs (by rw[EW];exact ho) (by omega) (by omega) (by rw[EW];exact K4) T7 Br HM hnl
  obtain⟨C,G,g1,hrun,g2,g3,g4,g5⟩:=key
  obtain⟨Y,hw,k1,k2,k3,k4⟩:=B4 (e:=e) (lv:=lv) (sl:=sl) (m:=bN s.mem lv sl none) h hfr g5 g2 (by rw[Nk];omega) g3 g4 (n:=n) (h.erase lv sl)
  rw[Nk] at k2
  rw[EW] at hrun
  exact⟨Y,_,by rw[hrun,hw],k1,k2,Nj k3,k4⟩
theorem JP (h:aB X s.mem s.aE) (hfr:X.ρ aR=none) {lv sl af off len l h' n sz cap:Nat} {els:List (List D)} {ad:Option Addr} (hx:VR X (.ref lv sl af off len sz) (.slice ad len cap)) (hrow:rowAt s.mem lv sl af=some els)
  (c1:l≤h') (c2:h'≤len) (c3:off+len≤els.length) :
  ∃ Y,Y.w=X.w∧Ext X Y∧VR Y (.ref lv sl aR 0 (h'-l) sz) (.slice (if cap=l then ad else ad.map (·.add (l*sz))) (h'-l) (cap-l))∧aB Y (bN s.mem lv sl (some (.row aR ((els.drop (off+l)).take (h'-l))))) s.aE∧eC X Y aR n n:=by
 obtain⟨L,hL,hE,hg⟩:=kP h hrow
 obtain⟨L1,ad',cap',yj,h1,he,h3,h4⟩:=hx
 injection he with e1 e2 e3
 subst e1 e3
 rw[hL] at yj;injection yj with yj;subst yj
 have EW:((els.drop (off+l)).take (h'-l)).length=h'-l:=by rw[List.length_take,List.length_drop];omega
 have HM:∀ e∈(els.drop (off+l)).take (h'-l),e.length=sz:=fun f hf=>by rw[hE.2.1 f (List.mem_of_mem_drop (List.mem_of_mem_take hf)),h1]
 by_cases hcap:0<cap-l
 ·obtain ⟨rfl, h5⟩ := h4 (by omega)
  have hc0:0<L.cap:=by omega
  obtain⟨C,ce,xQ,sD,T8,hb4,hb5,hb6,hap,zk⟩:=lW h hg hL hc0
  let L':Loc:=⟨L.b,L.o+(off+l)*L.sz,sz,cap-l⟩
  refine⟨X.name aR L',rfl,cZ hfr,⟨L',_,_,dP,rfl,rfl,by omega,fun _=>⟨?_,by simp[L']⟩⟩,?_,fS⟩
  ·rw [if_neg (by omega)]
   simp only[Option.map_some,Addr.add_lit,L',h1]
   congr 2
   rw[Nat.add_mul]
   omega
  ·refine (fR (h.erase lv sl) hfr).reset (e := .row aR ((els.drop (off + l)).take (h' - l))) (L := L') dP ⟨by rw [EW]; show h' - l ≤ cap - l; omega, HM, fun _ => ⟨⟨sD, C, ce, xQ, ?_⟩, hb4⟩, fun q f j x hq hj => ?_⟩ fun k w M hk hw tO _ => ?_
   ·show L.o + (off + l) * L.sz + (cap - l) * sz ≤ C.size
    rw[←h1,Nat.add_assoc,←Nat.add_mul]
    have:=Nat.mul_le_mul_right L.sz (show off+l+(cap-l)≤L.cap by omega)
    omega
   ·have ZF := (cI hq).1
    obtain⟨v,hv,Hx⟩:=hE.2.2.2 _ f j x ZF hj
    refine⟨v,?_,Hx⟩
    show X.w.cell? ⟨L.b,L.o+(off+l)*L.sz+q*sz+j,none⟩=some v
    rw[←hv]
    congr 2
    rw[←h1,Nat.add_mul (off+l)]
    omega
   ·obtain ⟨M', gG, _⟩ := (h.erase lv sl).cR hk
    have:(X.name aR L').ρ w=some M':=(cZ hfr).loc _ _ gG
    rw[hw] at this;injection this with this;subst this
    exact hap k w M hk gG tO
 ·have h0 : h' - l = 0 := by omega
  refine⟨X.name aR ⟨0,0,sz,0⟩,rfl,cZ hfr,⟨⟨0,0,sz,0⟩,_,_,dP,rfl,rfl,by omega,fun hq=>absurd hq hcap⟩,?_,fS⟩
  exact (fR h hfr).add (e:=.row aR ((els.drop (off+l)).take (h'-l))) (L:=⟨0,0,sz,0⟩) dP ⟨by rw[EW,h0];exact Nat.le_refl _,HM,fun hq=>absurd hq (by simp),fun q f j x hq _=>by rw[h0] at hq;simp at hq⟩ fun _ _ _ _ _ _ _ hq=>absurd hq (by simp)
theorem Nl (h:aB X s.mem s.aE) (hfr:X.ρ aR=none) {lv sl af off len n sz YO YP:Nat} {els:List (List D)} {v:Value} (hx:VR X (.ref lv sl af off len sz) v) (hrow:rowAt s.mem lv sl af=some els) (c3:off+len≤els.length) :
  ∃ Y,Y.w=X.w∧Ext X Y∧VR Y (.ref YO YP aR 0 len sz) v∧aB Y (bN (bN s.mem lv sl none) YO YP (some (.row aR ((els.drop off).take len)))) s.aE∧eC X Y aR n n:=by
 obtain⟨L,hL,hE,hg⟩:=kP h hrow
 obtain⟨L1,ad,cap,yj,h1,rfl,h3,h4⟩:=hx
 rw[hL] at yj;injection yj with yj;subst yj
 have EW:((els.drop off).take len).length=len:=by rw[List.length_take,List.length_drop];omega
 have HM:∀ e∈(els.drop off).take len,e.length=sz:=fun f hf=>by rw[hE.2.1 f (List.mem_of_mem_drop (List.mem_of_mem_take hf)),h1]
 by_cases hcap:0<cap
 ·obtain ⟨rfl, h5⟩ := h4 hcap
  have hc0:0<L.cap:=by omega
  obtain⟨C,ce,xQ,sD,T8,hb4,hb5,hb6,hap,zk⟩:=lW h hg hL hc0
  let L':Loc:=⟨L.b,L.o+off*L.sz,sz,cap⟩
  refine⟨X.name aR L',rfl,cZ hfr,⟨L',_,_,dP,rfl,rfl,h3,fun _=>⟨?_,by simp[L']⟩⟩,?_,fS⟩
  ·simp[L',h1]
  ·refine (fR (h.erase lv sl) hfr).add (e := .row aR ((els.drop off).take len)) (L := L') dP ⟨by rw [EW]; exact h3, HM, fun _ => ⟨⟨sD, C, ce, xQ, ?_⟩, hb4⟩, fun q f j x hq hj => ?_⟩ fun k w M hk _ hw tO _ => ?_
   ·show L.o + off * L.sz + cap * sz ≤ C.size
    rw[←h1,Nat.add_assoc,←Nat.add_mul]
    have:=Nat.mul_le_mul_right L.sz (show off+cap≤L.cap by omega)
    omega
   ·have ZF := (cI hq).1
    obtain⟨v,hv,Hx⟩:=hE.2.2.2 _ f j x ZF hj
    refine⟨v,?_,Hx⟩
    show X.w.cell? ⟨L.b,L.o+off*L.sz+q*sz+j,none⟩=some v
    rw[←hv]
    congr 2
    rw[←h1,Nat.add_mul off]
    omega
   ·obtain ⟨M', gG, _⟩ := (h.erase lv sl).cR hk
    have:(X.name aR L').ρ w=some M':=(cZ hfr).loc _ _ gG
    rw[hw] at this;injection this with this;subst this
    exact hap k w M hk gG tO
 ·have h0 : len = 0 := by omega
  subst h0
  refine⟨X.name aR ⟨0,0,sz,0⟩,rfl,cZ hfr,⟨⟨0,0,sz,0⟩,_,_,dP,rfl,rfl,h3,fun hq=>absurd hq hcap⟩,?_,fS⟩
  exact (fR (h.erase lv sl) hfr).add (e:=.row aR ((els.drop off).take 0)) (L:=⟨0,0,sz,0⟩) dP ⟨by simp,by simp,fun hq=>absurd hq (by simp),fun q f j x hq _=>by simp at hq⟩ fun _ _ _ _ _ _ _ hq=>absurd hq (by simp)
theorem tT (h : aB X s.mem s.aE) (hfr : X.ρ aR = none) {t u ty e : TypeId} {i : TypeInfo} {z : Value} {xv yv : Value} {x y : AV} {row : Bool} {lv sl n : Nat} {E : eX} (ht : P.underlying t = some (.slice e)) (hi : P.info? e = some i) (hz : i.zero = some z) (hzs : z.cells.size = i.size) (_h0 : 0 < i.size)
  (hx:VR X x xv) (hy:∀ news,gQ s.mem y=some news→(∀ e∈news,e.length=i.size)→∃ new:List Value,az (DR X.w X.F) news.flatten new∧Src P u i X.w yv news.length new) (hr:di s row lv sl aR i.size i.bytes x y=some E):zj P X s t u ty xv yv aR n E:=by
 unfold di at hr
 cases hn:gQ s.mem y with
 |none=>rw[hn] at hr;cases hr
 | some news =>
  rw[hn] at hr
  simp only at hr
  split at hr
  ·rename_i hal
   have hnl:=jm hal
   obtain⟨new,Br,hs⟩:=hy news hn hnl
   have lR:new.length=news.length*i.size:=by rw[←Br.length,bf hnl]
   split at hr
   ·rename_i els
    split at hr
    ·rename_i hc
     obtain⟨hc1,pz,K4⟩:=hc
     have hel:=jm hc1
     obtain⟨ad,b,off,sz',rfl,had,K5⟩:=hx
     by_cases hm0:news.length=0
     ·have Du : news = [] := List.eq_nil_of_length_eq_zero hm0
      subst Du
      have hnew:new=[]:=List.eq_nil_of_length_eq_zero (by simpa using lR)
      subst hnew
      have hrun:(Builtin.append_ #[t,u] ty #[.slice ad els.length els.length,yv]).run P X.w=.ok (.slice ad els.length els.length) X.w:=by
       rw[jw (i:=i) (m:=0) (new:=[]) ht hs hi (by omega)]
       cases ad with
       |none=>rfl
       |some ad=>simp[storeCells]
      cases hrow:row with
      | false =>
       simp only[hrow] at hr
       injection hr with hr;subst hr
       refine⟨X.name aR ⟨b,off+els.length*i.size,i.size,els.length-els.length⟩,_,hrun,cZ hfr,?_,?_,fS⟩
       ·rw [List.append_nil]
        refine⟨ad,b,off,i.size,els.length,rfl,Nat.le_refl _,had,?_,dP,rfl⟩
        cases els with
        |nil=>exact eW.nil
        |cons f els=>
         have:sz'=i.size:=by rw[←K5.1 f (by simp),hel f (by simp)]
         subst this
         exact K5.ext (cZ hfr)
       ·exact K3 (fR h hfr) dP (by simp)
      | true =>
       simp only[hrow] at hr
       split at hr
       ·cases hr
       ·rename_i hne
        injection hr with hr;subst hr
        have zh:els=[]:=by
         cases els with
         |nil=>rfl
         |cons e els=>exact absurd ⟨rfl,rfl⟩ hne
        subst zh
        refine⟨X.name aR ⟨0,0,i.size,0⟩,_,hrun,cZ hfr,⟨⟨0,0,i.size,0⟩,ad,0,dP,rfl,rfl,Nat.le_refl _,fun hq=>absurd hq (by omega)⟩,?_,fS⟩
        exact (fR h hfr).add (e:=.row aR ([]++[])) (L:=⟨0,0,i.size,0⟩) dP ⟨by simp,by simp,fun hq=>absurd hq (by simp),by simp⟩ fun _ _ _ _ _ _ _ hq=>absurd hq (by simp)
     ·obtain ⟨old, ho, T7⟩ := mc (P := P) (n := els.length) (cap := els.length) (X := X) (w := X.w.drew) (fun _ _ => rfl) K5 hel rfl had
      obtain⟨C,G,g1,hrun,g2,g3,g4,g5⟩:=sF (P:=P) (X:=X) (ty:=ty) ht hs hi hz hzs ho (by omega) pz K4 T7 Br hel hnl
      have Nk:(els++news).length=els.length+news.length:=List.length_append
      cases hrow:row with
      |false=>
       simp only[hrow] at hr
       injection hr with hr;subst hr
       obtain⟨Y,hw,k1,k2,k3,k4⟩:=B3 (e:=e) h hfr g5 g2 (by omega) g3 g4 (aE:=s.aE) (n:=n) fun _ h=>h
       rw[Nk] at k2
       exact⟨Y,_,by rw[hrun,hw],k1,k2,k3,k4⟩
      | true =>
       simp only[hrow] at hr
       split at hr
       ·cases hr
       ·injection hr with hr; subst hr
        obtain⟨Y,hw,k1,k2,k3,k4⟩:=B4 (e:=e) (lv:=lv) (sl:=sl) h hfr g5 g2 (by omega) g3 g4 (n:=n) h
        rw[Nk] at k2
        exact⟨Y,_,by rw[hrun,hw],k1,k2,k3,k4⟩
    ·cases hr
   ·rename_i els v tz
    split at hr
    ·rename_i hc
     obtain⟨hc0,pz,K4,hc4⟩:=hc
     injection hr with hr;subst hr
     have Nn:s.aE.get? v=some ():=by
      cases hg:s.aE.get? v with
      |none=>rw[hg] at hc4;cases hc4
      |some u=>rfl
     obtain⟨ad,b,off,sz',cap,rfl,hcap,had,K5,hL,htz⟩:=hx
     have hel:∀ e∈els,e.length=i.size:=fun e he=>by rw[K5.1 e he,htz,hc0]
     obtain⟨L',hL',hT⟩:=h.aE v Nn
     rw[hL] at hL';injection hL' with hL';subst hL'
     have hne:v≠aR:=by rintro rfl;rw[hL] at hfr;cases hfr
     by_cases hm0:news.length=0
     ·have Du : news = [] := List.eq_nil_of_length_eq_zero hm0
      subst Du
      have hnew:new=[]:=List.eq_nil_of_length_eq_zero (by simpa using lR)
      subst hnew
      have hrun:(Builtin.append_ #[t,u] ty #[.slice ad els.length cap,yv]).run P X.w=.ok (.slice ad els.length cap) X.w:=by
       rw[jw (i:=i) (m:=0) (new:=[]) ht hs hi (by omega)]
       cases ad with
       |none=>rfl
       |some ad=>simp[storeCells]
      refine⟨X.name aR ⟨b,off+els.length*sz',sz',cap-els.length⟩,_,hrun,cZ hfr,?_,?_,fS⟩
      ·rw [List.append_nil]
       exact⟨ad,b,off,sz',cap,rfl,hcap,had,K5.ext (cZ hfr),dP,htz.trans hc0⟩
      ·refine (fR (h.HH v) hfr).Q0 dP hT fun k u M hk _ hu tO hc => ?_
       have hold:Holds s.mem s.aE k u∧k≠jF v:=by
        rcases hk with⟨cl,cX,e',rfl,he',jd⟩|⟨rfl,he'⟩
        ·exact⟨.inl ⟨cl,cX,e',rfl,he',jd⟩,dI⟩
        ·rw [Tr.cr] at he'
         split at he'
         ·cases he'
         ·rename_i hvu
          exact⟨.inr ⟨rfl,he'⟩,fun hq=>hvu (by simpa[jF] using hq.symm)⟩
       obtain⟨M',gG,_⟩:=h.cR hold.1
       have:(X.name aR ⟨b,off+els.length*sz',sz',cap-els.length⟩).ρ u=some M':=(cZ hfr).loc _ _ gG
       rw[hu] at this;injection this with this;subst this
       exact h.apart _ _ _ _ _ _ hold.1 (.inr ⟨rfl,Nn⟩) hold.2 gG hL tO hc
     ·by_cases hroom : els.length + news.length ≤ cap
      ·have T9 : 0 < cap - els.length := by omega
       obtain⟨⟨sD,C,ce,xQ,T8⟩,hb4⟩:=hT T9
       simp only at sD xQ T8 hb4
       have ad4:=had (by omega)
       subst ad4
       have hsz:sz'=i.size:=htz.trans hc0
       ·subst hsz
        have hfit:off+els.length*i.size+new.length≤C.size:=by
         rw[lR]
         have:=Nat.mul_le_mul_right i.size (show news.length≤cap-els.length by omega)
         omega
        have hst:=run_storeCells_at P b (off+els.length*i.size) ce new 0 C X.w xQ (by omega) (az.Rc Br)
        simp only[Nat.add_zero] at hst
        let C':=(C.toList.take (off+els.length*i.size)++new++C.toList.drop (off+els.length*i.size+new.length)).toArray
        have tR:∀ j,C'[j]?=if off+els.length*i.size≤j∧j<off+els.length*i.size+new.length then new[j-(off+els.length*i.size)]? else C[j]?:=lQ hfit
        have hsize:C'.size=C.size:=by
         show (C.toList.take (off+els.length*i.size)++new++C.toList.drop (off+els.length*i.size+new.length)).toArray.size=C.size
         simp
         omega
        have ZE:∀ q,X.F b q→C'[q]?=C[q]?:=fun q hq=>by
         rw[tR,if_neg]
         intro ZG
         exact hb4 q ZG.1 hq
        have hap:∀ k w M,Holds s.mem (s.aE.set v none) k w→X.ρ w=some M→0<M.cap→M.b≠b:=by
         intro k w M hk hw tO
         have hold:Holds s.mem s.aE k w∧k≠jF v:=by
          rcases hk with⟨cl,cX,e',rfl,he',jd⟩|⟨rfl,he'⟩
          ·exact⟨.inl ⟨cl,cX,e',rfl,he',jd⟩,dI⟩
          ·rw [Tr.cr] at he'
           split at he'
           ·cases he'
           ·rename_i hvu
            exact⟨.inr ⟨rfl,he'⟩,fun hq=>hvu (by simpa[jF] using hq.symm)⟩
         exact h.apart _ _ _ _ _ _ hold.1 (.inr ⟨rfl,Nn⟩) hold.2 hw hL tO T9
        let X1:=X.set b C'
        have hx1:Ext X X1:=tQ xQ sD ZE
        have wu:aB X1 s.mem (s.aE.set v none):=yg (h.HH v) xQ sD ZE hap
        let X2:=X1.more fun b' q=>b'=b∧q<off+els.length*i.size+new.length∧off+els.length*i.size≤q
        have hx2:Ext X1 X2:=Ext.more fun b' q hq=>by rw[hq.1];exact sD
        have HM:b<X1.w.heap.size:=by
         have hh:=je (X:=X) (C':=C') xQ
         rcases Nat.lt_or_ge b X1.w.heap.size with hl|hl
         ·exact hl
         ·rw[Array.getElem?_eq_none hl] at hh;cases hh
        have hm2:aB X2 s.mem (s.aE.set v none):=wu.more (fun b' q hq=>by rw[hq.1];exact⟨sD,HM⟩) fun k w M q hk hw tO hq=>hap k w M hk hw tO hq.1
        let L:Loc:=⟨b,off+(els++news).length*i.size,i.size,cap-(els++news).length⟩
        have hx3:Ext X2 (X2.name aR L):=cZ hfr
        have hx:Ext X (X2.name aR L):=(hx1.trans hx2).trans hx3
        have Nk:(els++news).length=els.length+news.length:=List.length_append
        have hoff:off+(els++news).length*i.size=off+els.length*i.size+new.length:=by rw[Nk,Nat.add_mul,lR];omega
        refine⟨X2.name aR L,.slice (some ⟨b,off,none⟩) (els.length+news.length) cap,?_,hx,?_,?_,?_⟩
        ·rw [jw (i := i) (new := new) ht hs hi hroom]
         simp only[Addr.add_lit,hst,Result.andThen_ok]
         rfl
        ·refine ⟨some ⟨b, off, none⟩, b, off, i.size, cap, by rw [Nk], by omega, fun _ => rfl, ?_, dP, rfl⟩
         refine⟨fun f hf=>?_,fun q f j w hq hj=>?_⟩
         ·rcases List.mem_append.1 hf with hf | hf
          ·exact hel f hf
          ·exact hnl f hf
         ·have Dl : j < i.size := by
           have hff:f.length=i.size:=by
            rcases List.mem_append.1 (List.mem_of_getElem? hq) with hf|hf
            ·exact hel f hf
            ·exact hnl f hf
           rw[←hff];exact (List.getElem?_eq_some_iff.1 hj).1
          by_cases hql:q<els.length
          ·rw [List.getElem?_append_left hql] at hq
           obtain⟨hF,w',hw',Hx⟩:=K5.2 q f j w hq hj
           exact⟨hx.QZ _ _ hF,w',(hx.keep _ _ hF).trans hw',Hx.ext hx⟩
          ·rw [List.getElem?_append_right (by omega)] at hq
           have hg:=fu hnl _ j f hq Dl
           rw[hj] at hg
           obtain⟨w',hw',Hx⟩:=Br.get _ _ hg
           have hlt:=(List.getElem?_eq_some_iff.1 hw').1
           have e1:off+q*i.size+j=off+els.length*i.size+((q-els.length)*i.size+j):=by
            have:q=els.length+(q-els.length):=by omega
            conv=>lhs;rw[this,Nat.add_mul]
            omega
           refine⟨.inr ⟨rfl,by omega,by omega⟩,w',?_,Hx.ext hx⟩
           show (X.set b C').w.cell? _=_
           rw[cell_of_row _ _ _ _ _ _ (je xQ),e1,tR,if_pos (by omega)]
           rw[show off+els.length*i.size+((q-els.length)*i.size+j)-(off+els.length*i.size)=(q-els.length)*i.size+j by omega]
           exact hw'
        ·show aB _ s.mem ((s.aE.set v none).set aR (some ()))
         refine (fR hm2 hfr).Q0 (L:=L) dP (fun hc=>⟨⟨sD,C',ce,je xQ,?_⟩,fun q hq hF=>?_⟩) fun k w M hk _ hw tO _=>?_
         ·show off + (els ++ news).length * i.size + (cap - (els ++ news).length) * i.size ≤ C'.size
          rw[Nat.add_assoc,←Nat.add_mul,show (els++news).length+(cap-(els++news).length)=cap by omega,hsize]
          have:off+els.length*i.size+(cap-els.length)*i.size=off+cap*i.size:=by rw[Nat.add_assoc,←Nat.add_mul,show els.length+(cap-els.length)=cap by omega]
          omega
         ·have hq : off + (els ++ news).length * i.size ≤ q := hq
          rcases hF with hF|hF
          ·exact hb4 q (by omega) hF
          ·have := hF.2.1
           omega
         ·have hold : ∃ M', X.ρ w = some M' := by
           obtain⟨M',gG,_⟩:=(h.HH v).cR hk
           exact⟨M',gG⟩
          obtain⟨M',gG⟩:=hold
          have:(X2.name aR L).ρ w=some M':=hx.loc _ _ gG
          rw[hw] at this;injection this with this;subst this
          exact hap k w M hk gG tO
        ·exact⟨Nat.le_refl _,fun w M hw=>by
          rcases (fS (X:=X2) (v:=aR) (n:=0) (L:=L)).2 w M hw with hq|hq|hq
          ·exact .inl hq
          ·exact .inr (.inl hq)
          ·omega⟩
      ·obtain ⟨old, ho, T7⟩ := mc (P := P) (n := els.length) (cap := cap) (X := X) (w := X.w.drew) (fun _ _ => rfl) K5 hel rfl (fun hq => had (by omega))
       obtain⟨C,G,g1,hrun,g2,g3,g4,g5⟩:=sF (P:=P) (X:=X) (ty:=ty) ht hs hi hz hzs ho (by omega) pz K4 T7 Br hel hnl
       have Nk:(els++news).length=els.length+news.length:=List.length_append
       obtain⟨Y,hw,k1,k2,k3,k4⟩:=B3 (e:=e) h hfr g5 g2 (by omega) g3 g4 (aE:=s.aE.set v none) (n:=n) fun w hw=>by rw[Tr.cr] at hw;split at hw<;>first|exact hw|cases hw
       rw[Nk] at k2
       exact⟨Y,_,by rw[hrun,hw],k1,k2,k3,k4⟩
    ·cases hr
   ·rename_i cl cX af off len sz'
    split at hr
    ·rename_i els hrow
     split at hr
     ·rename_i hc
      obtain⟨hc0,hc1,pz,K4⟩:=hc
      injection hr with hr;subst hr;subst hc0
      exact HO h hfr ht hs hi hz hzs hx hrow hc1 pz K4 hnl Br
     ·cases hr
    ·cases hr
   ·cases hr
  ·cases hr
theorem qa (h:aB X s.mem s.aE) (hfr:X.ρ aR=none) {t u ty e:TypeId} {i:TypeInfo} {z:Value} {xv yv:Value} {x y:AV} {row:Bool} {lv sl n:Nat} {E:eX} (ht:P.underlying t=some (.slice e)) (hu:Dt P u) (hi:P.info? e=some i) (hz:i.zero=some z) (hzs:z.cells.size=i.size) (h0:0<i.size)
  (hx:VR X x xv) (hy:VR X y yv) (hr:di s row lv sl aR i.size i.bytes x y=some E):zj P X s t u ty xv yv aR n E:=
 tT h hfr ht hi hz hzs h0 hx (fun news hn hnl=>by
  obtain⟨new,Br,hlen,U2⟩:=yh (P:=P) h hn hy hnl h0
  have lR:new.length=news.length*i.size:=by rw[←Br.length,bf hnl]
  have ZH:∀ w:World,(∀ b o,w.cell? ⟨b,o,none⟩=X.w.cell? ⟨b,o,none⟩)→(Builtin.firstCells i.size news.length yv).run P w=.ok new.toArray w:=by
   intro w hw
   have:=U2 w hw news.length (Nat.le_refl _)
   rwa[←lR,List.take_length] at this
  exact⟨new,Br,.val hu (hlen X.w) (ZH X.w fun _ _=>rfl) (ZH X.w.drew fun _ _=>rfl)⟩) hr
end
end Go.bI
