/- append, case by case; copy; clear. -/
import Derived.Test.YtgkllgjmfpjeoaaGreatDoorEngL
set_option linter.unusedVariables false
set_option linter.unusedSimpArgs false
namespace Go.bJ
open Go Go.RowKit
section
variable{P:Program}{X:Cx}{nt:Nat}{s:St}{a:Act}{o:Oper}{dst:Option Nat}{aO:Nat}
theorem Dk(h:aH X s.mem s.aI)(hfr:X.ρ aO=none){C:Array Value}{e:TypeId}{els:List (List D)}{sz G n:Nat}{vs:List Value}{aI:Tr Unit}(hl:∀e∈els,e.length=sz)(hC:G*sz<=C.size)(hle:els.length<=G)(hvs:∀(j:Nat)(u:Value),vs[j]?=some u->C[j]?=some u)(hd:aC (DR X.w X.F) els.flatten vs)(adw:∀v,aI.get? v=some ()->s.aI.get? v=some ()):∃Y,Y.w=X.w.drew.alloc (.cells C e)/\Ext X Y/\VR Y (.own els (.cD aO sz)) (.slice (some ⟨X.w.heap.size,0,none⟩) els.length G)/\aH Y s.mem (aI.set aO (some ()))/\fy X Y aO n n:=by
 have h':aH X.drew s.mem aI:=Aj (h.less (λ_ _ _ h=>h) adw);have nt:=Mf (X:=X.drew) h' (C:=C) (e:=e) (v:=aO) (els:=els) (sz:=sz) (cap:=G) (vs:=vs) hfr hl hC hle hvs (hd.mono λ_ _=>DR.ext o7);obtain⟨g1,g2,g3,g4⟩:=nt;refine⟨_,rfl,o7.trans g1,⟨some ⟨X.w.heap.size,0,none⟩,X.w.heap.size,0,sz,G,rfl,hle,λ_=>rfl,g3,ve X.drew C e aO _,rfl⟩,g2,⟨Nat.le_refl _,λv L hv=>?_⟩⟩;rcases g4.2 v L hv with h|h|h;.exact .inl h
 .grind
 .omega
theorem Dl(h:aH X s.mem s.aI)(hfr:X.ρ aO=none){m:List (Tr bB)}{C:Array Value}{e:TypeId}{els:List (List D)}{sz G n lv sl:Nat}{vs:List Value}(hl:∀e∈els,e.length=sz)(hC:G*sz<=C.size)(hle:els.length<=G)(hvs:∀(j:Nat)(u:Value),vs[j]?=some u->C[j]?=some u)(hd:aC (DR X.w X.F) els.flatten vs)(hm:aH X m s.aI):∃Y,Y.w=X.w.drew.alloc (.cells C e)/\Ext X Y/\VR Y (.ref lv sl aO 0 els.length sz) (.slice (some ⟨X.w.heap.size,0,none⟩) els.length G)/\aH Y (ct m lv sl (some (.row aO els))) s.aI/\fy X Y aO n n:=by have nr:=Fa (X:=X.drew) (Aj hm) (C:=C) (e:=e) (v:=aO) (els:=els) (sz:=sz) (cap:=G) (vs:=vs) lv sl hfr hl hC hle hvs (hd.mono λ_ _=>DR.ext o7);refine⟨X.drew.alloc C e aO ⟨X.w.heap.size,0,sz,G⟩,rfl,o7.trans (Ext.alloc (X:=X.drew) h.oL h.low hfr),⟨⟨X.w.heap.size,0,sz,G⟩,some ⟨X.w.heap.size,0,none⟩,G,ve X.drew C e aO _,rfl,rfl,hle,λ_=>⟨by simp,by simp⟩⟩,nr,?_⟩;have:=mW (X:=X.drew) (C:=C) (e:=e) (v:=aO) (L:=⟨X.w.heap.size,0,sz,G⟩) (n:=n);exact this
theorem Qy{X:Cx}{m:List (Tr bB)}{t:Tr Unit}{lv sl:Nat}{e:bB}(h:aH X (ct (ct m lv sl none) lv sl (some e)) t):aH X (ct m lv sl (some e)) t:=h.congr (λcL dU=>by rw[cx,cx,cx]<;>grind[ct,aK]) λ_=>rfl
theorem JY(h:aH X s.mem s.aI)(hfr:X.ρ aO=none){t u ty e:TypeId}{i:TypeInfo}{z:Value}{xv yv:Value}{lv sl ah off len n:Nat}{els news:List (List D)}{new:List Value}{rd:List (Nat×Nat×Nat)}(ht:P.underlying t=some (.slice e))(hs:Src P u i X.w yv news.length new)(hi:P.info? e=some i)(hz:i.zero=some z)(hzs:z.cells.size=i.size)(hx:VR X (.ref lv sl ah off len i.size) xv)(hrow:rowAt s.mem lv sl ah=some els)(hc1:off+len<=els.length)(qO:len+news.length<=eV)(NI:(len+news.length)*i.bytes<=jP)(hnl:∀e∈news,e.length=i.size)(CD:aC (DR X.w X.F) news.flatten new):Ak P X s t u ty xv yv aO n {val:=.ref lv sl aO 0 (len+news.length) i.size,cV:=[(lv,sl,some (.row aO ((els.drop off).take len++news)))],cD:=[],rd}:=by
 obtain⟨L,hL,hE,hg⟩:=lX h hrow;obtain⟨L1,ad,cap,Mg,h1,rfl,h3,h4⟩:=hx;rw[hL]at Mg;cases Mg;have sX:new.length=news.length*i.size:=by rw[<-CD.length,aX hnl]
 have Ff:((els.drop off).take len).length=len:=by grind
 have P3:∀e∈(els.drop off).take len,e.length=i.size:=λf hf=>by rw[hE.2.1 f (List.mem_of_mem_drop (List.mem_of_mem_take hf)),h1]
 have XB:((els.drop off).take len++news).length=len+news.length:=by grind
 have hls:∀e∈(els.drop off).take len++news,e.length=i.size:=λf hf=>(List.mem_append.1 hf).elim (P3 f) (hnl f);by_cases hroom:len+news.length<=cap
 .by_cases hcap:0<cap
  .obtain⟨rfl,h5⟩:=h4 hcap;have hc0:0<L.cap:=by omega
   obtain⟨C,ce,zq,sV,XC,hb4,hb5,hb6,hap,Al⟩:=mX h hg hL hc0;have hfit:L.o+off*L.sz+len*L.sz+new.length<=C.size:=by rw[sX,<-h1,Nat.add_assoc (L.o+off*L.sz),<-Nat.add_mul,Nat.add_assoc,<-Nat.add_mul];have:=Nat.mul_le_mul_right L.sz (show off+(len+news.length)<=L.cap by omega);omega
   have hst:=run_storeCells_at P L.b (L.o+off*L.sz+len*L.sz) ce new 0 C X.w zq (by omega) (aC.Vk CD);let C':=(C.toList.take (L.o+off*L.sz+len*L.sz)++new++C.toList.drop (L.o+off*L.sz+len*L.sz+new.length)).toArray;have rB:∀j,C'[j]?=if L.o+off*L.sz+len*L.sz<=j/\j<L.o+off*L.sz+len*L.sz+new.length then new[j-(L.o+off*L.sz+len*L.sz)]?else C[j]?:=mS hfit;have hsize:C'.size=C.size:=by show(C.toList.take (L.o+off*L.sz+len*L.sz)++new++C.toList.drop (L.o+off*L.sz+len*L.sz+new.length)).toArray.size=C.size;simp;omega
   have hFk:∀q,X.F L.b q->C'[q]?=C[q]?:=λq hq=>absurd hq (hb4 q);have hx1:Ext X (X.set L.b C'):=vf zq sV hFk;have CL:aH (X.set L.b C') (ct s.mem lv sl none) s.aI:=zG (h.erase lv sl) zq sV hFk hap;let L':Loc:=⟨L.b,L.o+off*L.sz,i.size,cap⟩;have hx2:Ext (X.set L.b C') ((X.set L.b C').name aO L'):=dW hfr;have hx:Ext X ((X.set L.b C').name aO L'):=hx1.trans hx2;refine⟨(X.set L.b C').name aO L',.slice (some ⟨L.b,L.o+off*i.size,none⟩) (len+news.length) cap,?_,hx,?_,?_,?_⟩;.rw[jR (i:=i) (new:=new) ht hs hi hroom];rw[<-h1];simp only[Addr.add_lit,hst,Result.andThen_ok];rfl
   .exact⟨L',_,cap,ep,rfl,rfl,hroom,λ_=>⟨by simp[L',h1],by simp[L']⟩⟩
   .refine(gu CL hfr).reset (e:=.row aO ((els.drop off).take len++news)) (L:=L') ep ⟨by rw[XB];exact hroom,hls,λ_=>⟨⟨sV,C',ce,jv zq,?_⟩,hb4⟩,λq f j x hq hj=>?_⟩ λk w M hk hw wL _=>?_;.show L.o+off*L.sz+cap*i.size<=C'.size;rw[<-h1,Nat.add_assoc,<-Nat.add_mul];have:=Nat.mul_le_mul_right L.sz h5;omega
    .show∃v,(X.set L.b C').w.cell? ⟨L.b,L.o+off*L.sz+q*i.size+j,none⟩=some v/\_;rw[cell_of_row _ _ _ _ _ _ (jv zq),rB];have E6:j<i.size:=by rw[<-hls f (List.mem_of_getElem? hq)];exact(List.getElem?_eq_some_iff.1 hj).1
     by_cases hql:q<len
     .rw[List.getElem?_append_left (by omega)]at hq;have hqe:=(dX hq).1;obtain⟨v,hv,JL⟩:=Al _ f j x hqe hj;have e1:L.o+off*L.sz+q*i.size+j=L.o+(off+q)*L.sz+j:=by rw[h1,Nat.add_mul];omega
      have hlt:q*i.size+j<len*L.sz:=by have:=Nat.mul_le_mul_right i.size (show q+1<=len from hql);rw[Nat.add_mul]at this;rw[h1];omega
      rw[if_neg (by omega),e1];exact⟨v,hv,JL.ext hx⟩
     .rw[List.getElem?_append_right (by omega),Ff]at hq;have hg2:=fR hnl _ j f hq E6;rw[hj]at hg2;obtain⟨v,hv,JL⟩:=CD.get _ _ hg2;have hlt:=(List.getElem?_eq_some_iff.1 hv).1;have e1:q*i.size+j=len*L.sz+((q-len)*i.size+j):=by
       have:q=len+(q-len):=by omega
       conv=>lhs;rw[this,Nat.add_mul]
       rw[h1];omega
      rw[if_pos (by omega)];rw[show L.o+off*L.sz+q*i.size+j-(L.o+off*L.sz+len*L.sz)=(q-len)*i.size+j by omega];exact⟨v,hv,JL.ext hx⟩
    .obtain⟨M',kU,_⟩:=(h.erase lv sl).dG hk;have:((X.set L.b C').name aO L').ρ w=some M':=hx.loc _ _ kU;rw[hw]at this;cases this;exact hap k w M hk kU wL
   .exact⟨Nat.le_refl _,λw M hw=>by
     rcases(ic (X:=X.set L.b C') (v:=aO) (n:=0) (L:=L')).2 w M hw with hq|hq|hq;.exact .inl hq
     .exact .inr (.inl hq)
     .omega⟩
  .have hm0:news.length=0:=by omega
   have hl0:len=0:=by omega
   subst hl0;have Fg:news=[]:=List.eq_nil_of_length_eq_zero hm0;subst Fg;have hnew:new=[]:=List.eq_nil_of_length_eq_zero (by simpa using sX);subst hnew;have hrun:(Builtin.append_ #[t,u] ty #[.slice ad 0 cap,yv]).run P X.w=.ok (.slice ad 0 cap) X.w:=by rw[jR (i:=i) (m:=0) (new:=[]) ht hs hi (by omega)];cases ad with|none=>rfl|some ad=>simp[storeCells]
   refine⟨X.name aO ⟨0,0,i.size,0⟩,_,hrun,dW hfr,⟨⟨0,0,i.size,0⟩,ad,cap,ep,rfl,rfl,by simp,λhq=>absurd hq hcap⟩,?_,ic⟩;exact(gu h hfr).add (e:=.row aO ((els.drop off).take 0++[])) (L:=⟨0,0,i.size,0⟩) ep ⟨by simp,by simp,λhq=>absurd hq (by simp),by simp⟩ λ_ _ _ _ _ _ _ hq=>absurd hq (by simp)
 .have NJ:ei X.w X.F (λ_ _=>True) ((els.drop off).take len) L.b (L.o+off*L.sz) L.sz:=(hE.U8 (R:=λ_ _=>True) λ_ _=>trivial).sub off len;obtain⟨old,ho,hd1⟩:=nC (P:=P) (n:=len) (cap:=cap) (ad:=ad) (X:=X) (w:=X.w.drew) (sz:=i.size) (λ_ _=>rfl) NJ P3 Ff (λhq=>by rw[(h4 (by omega)).1,h1]);have key:=ua (P:=P) (X:=X) (ty:=ty) (els:=(els.drop off).take len) (ad:=ad) (cap:=cap) ht hs hi hz hzs (by rw[Ff];exact ho) (by omega) (by omega) (by rw[Ff];exact NI) hd1 CD P3 hnl;obtain⟨C,G,g1,hrun,g2,g3,g4,g5⟩:=key;obtain⟨Y,hw,k1,k2,k3,k4⟩:=Dl (e:=e) (lv:=lv) (sl:=sl) (m:=ct s.mem lv sl none) h hfr g5 g2 (by rw[XB];omega) g3 g4 (n:=n) (h.erase lv sl);rw[XB]at k2;rw[Ff]at hrun;exact⟨Y,_,by rw[hrun,hw],k1,k2,Qy k3,k4⟩
theorem Mh(h:aH X s.mem s.aI)(hfr:X.ρ aO=none){lv sl ah off len l h' n sz cap:Nat}{els:List (List D)}{ad:Option Addr}(hx:VR X (.ref lv sl ah off len sz) (.slice ad len cap))(hrow:rowAt s.mem lv sl ah=some els)(c1:l<=h')(c2:h'<=len)(c3:off+len<=els.length):∃Y,Y.w=X.w/\Ext X Y/\VR Y (.ref lv sl aO 0 (h'-l) sz) (.slice (if cap=l then ad else ad.map (·.add (l*sz))) (h'-l) (cap-l))/\aH Y (ct s.mem lv sl (some (.row aO ((els.drop (off+l)).take (h'-l))))) s.aI/\fy X Y aO n n:=by
 obtain⟨L,hL,hE,hg⟩:=lX h hrow;obtain⟨L1,ad',cap',Mg,h1,he,h3,h4⟩:=hx;cases he;rw[hL]at Mg;cases Mg;have Ff:((els.drop (off+l)).take (h'-l)).length=h'-l:=by grind
 have P3:∀e∈(els.drop (off+l)).take (h'-l),e.length=sz:=λf hf=>by rw[hE.2.1 f (List.mem_of_mem_drop (List.mem_of_mem_take hf)),h1]
 by_cases hcap:0<cap-l
 .obtain⟨rfl,h5⟩:=h4 (by omega);have hc0:0<L.cap:=by omega
  obtain⟨C,ce,zq,sV,XC,hb4,hb5,hb6,hap,Al⟩:=mX h hg hL hc0;let L':Loc:=⟨L.b,L.o+(off+l)*L.sz,sz,cap-l⟩;refine⟨X.name aO L',rfl,dW hfr,⟨L',_,_,ep,rfl,rfl,by omega,λ_=>⟨?_,by simp[L']⟩⟩,?_,ic⟩;.simp only[Option.map_some,Addr.add_lit,L',h1]<;>grind
  .refine(gu (h.erase lv sl) hfr).reset (e:=.row aO ((els.drop (off+l)).take (h'-l))) (L:=L') ep ⟨by rw[Ff];show h'-l<=cap-l;omega,P3,λ_=>⟨⟨sV,C,ce,zq,?_⟩,hb4⟩,λq f j x hq hj=>?_⟩ λk w M hk hw wL _=>?_;.show L.o+(off+l)*L.sz+(cap-l)*sz<=C.size;rw[<-h1,Nat.add_assoc,<-Nat.add_mul];have:=Nat.mul_le_mul_right L.sz (show off+l+(cap-l)<=L.cap by omega);omega
   .have hqe:=(dX hq).1;obtain⟨v,hv,JL⟩:=hE.2.2.2 _ f j x hqe hj;refine⟨v,?_,JL⟩;show X.w.cell? ⟨L.b,L.o+(off+l)*L.sz+q*sz+j,none⟩=some v;rw[<-hv];congr 2;rw[<-h1,Nat.add_mul (off+l)];omega
   .obtain⟨M',kU,_⟩:=(h.erase lv sl).dG hk;have:(X.name aO L').ρ w=some M':=(dW hfr).loc _ _ kU;rw[hw]at this;cases this;exact hap k w M hk kU wL
 .have h0:h'-l=0:=by omega
  refine⟨X.name aO ⟨0,0,sz,0⟩,rfl,dW hfr,⟨⟨0,0,sz,0⟩,_,_,ep,rfl,rfl,by omega,λhq=>absurd hq hcap⟩,?_,ic⟩;exact(gu h hfr).add (e:=.row aO ((els.drop (off+l)).take (h'-l))) (L:=⟨0,0,sz,0⟩) ep ⟨by rw[Ff,h0];exact Nat.le_refl _,P3,λhq=>absurd hq (by simp),λq f j x hq _=>by rw[h0]at hq;simp at hq⟩ λ_ _ _ _ _ _ _ hq=>absurd hq (by simp)
theorem Qz(h:aH X s.mem s.aI)(hfr:X.ρ aO=none){lv sl ah off len n sz lv2 sl2:Nat}{els:List (List D)}{v:Value}(hx:VR X (.ref lv sl ah off len sz) v)(hrow:rowAt s.mem lv sl ah=some els)(c3:off+len<=els.length):∃Y,Y.w=X.w/\Ext X Y/\VR Y (.ref lv2 sl2 aO 0 len sz) v/\aH Y (ct (ct s.mem lv sl none) lv2 sl2 (some (.row aO ((els.drop off).take len)))) s.aI/\fy X Y aO n n:=by
 obtain⟨L,hL,hE,hg⟩:=lX h hrow;obtain⟨L1,ad,cap,Mg,h1,rfl,h3,h4⟩:=hx;rw[hL]at Mg;cases Mg;have Ff:((els.drop off).take len).length=len:=by grind
 have P3:∀e∈(els.drop off).take len,e.length=sz:=λf hf=>by rw[hE.2.1 f (List.mem_of_mem_drop (List.mem_of_mem_take hf)),h1]
 by_cases hcap:0<cap
 .have hc0:0<L.cap:=by omega
  obtain⟨C,ce,zq,sV,XC,hb4,hb5,hb6,hap,Al⟩:=mX h hg hL hc0;let L':Loc:=⟨L.b,L.o+off*L.sz,sz,cap⟩;refine⟨X.name aO L',rfl,dW hfr,⟨L',_,_,ep,rfl,rfl,h3,λ_=>⟨?_,by simp[L']⟩⟩,?_,ic⟩;.grind
  .refine(gu (h.erase lv sl) hfr).add (e:=.row aO ((els.drop off).take len)) (L:=L') ep ⟨by rw[Ff];exact h3,P3,λ_=>⟨⟨sV,C,ce,zq,?_⟩,hb4⟩,λq f j x hq hj=>?_⟩ λk w M hk _ hw wL _=>?_;.show L.o+off*L.sz+cap*sz<=C.size;rw[<-h1,Nat.add_assoc,<-Nat.add_mul];have:=Nat.mul_le_mul_right L.sz (show off+cap<=L.cap by omega);omega
   .have hqe:=(dX hq).1;obtain⟨v,hv,JL⟩:=hE.2.2.2 _ f j x hqe hj;refine⟨v,?_,JL⟩;show X.w.cell? ⟨L.b,L.o+off*L.sz+q*sz+j,none⟩=some v;rw[<-hv];congr 2;rw[<-h1,Nat.add_mul off];omega
   .obtain⟨M',kU,_⟩:=(h.erase lv sl).dG hk;have:(X.name aO L').ρ w=some M':=(dW hfr).loc _ _ kU;rw[hw]at this;cases this;exact hap k w M hk kU wL
 .have h0:len=0:=by omega
  subst h0;refine⟨X.name aO ⟨0,0,sz,0⟩,rfl,dW hfr,⟨⟨0,0,sz,0⟩,_,_,ep,rfl,rfl,h3,λhq=>absurd hq hcap⟩,?_,ic⟩;exact(gu (h.erase lv sl) hfr).add (e:=.row aO ((els.drop off).take 0)) (L:=⟨0,0,sz,0⟩) ep ⟨by simp,by simp,λhq=>absurd hq (by simp),λq f j x hq _=>by simp at hq⟩ λ_ _ _ _ _ _ _ hq=>absurd hq (by simp)
theorem vh(h:aH X s.mem s.aI)(hfr:X.ρ aO=none){t u ty e:TypeId}{i:TypeInfo}{z:Value}{xv yv:Value}{x y:AV}{row:Bool}{lv sl n:Nat}{E:fH}(ht:P.underlying t=some (.slice e))(hi:P.info? e=some i)(hz:i.zero=some z)(hzs:z.cells.size=i.size)(_h0:0<i.size)(hx:VR X x xv)(hy:∀news,gi s.mem y=some news->(∀e∈news,e.length=i.size)->∃new:List Value,aC (DR X.w X.F) news.flatten new/\Src P u i X.w yv news.length new)(hr:dA s row lv sl aO i.size i.bytes x y=some E):Ak P X s t u ty xv yv aO n E:=by unfold dA at hr;cases hn:gi s.mem y with|none=>grind|some news=>
  rw[hn]at hr;simp only at hr;split at hr
  .rename_i hal;have hnl:=jC hal;obtain⟨new,CD,hs⟩:=hy news hn hnl;have sX:new.length=news.length*i.size:=by rw[<-CD.length,aX hnl]
   split at hr
   .rename_i els;split at hr
    .rename_i hc;obtain⟨hc1,qO,NI⟩:=hc;have hel:=jC hc1;obtain⟨ad,b,off,sz',rfl,had,NJ⟩:=hx;by_cases hm0:news.length=0
     .have Fg:news=[]:=List.eq_nil_of_length_eq_zero hm0;subst Fg;have hnew:new=[]:=List.eq_nil_of_length_eq_zero (by simpa using sX);subst hnew;have hrun:(Builtin.append_ #[t,u] ty #[.slice ad els.length els.length,yv]).run P X.w=.ok (.slice ad els.length els.length) X.w:=by rw[jR (i:=i) (m:=0) (new:=[]) ht hs hi (by omega)];cases ad with|none=>rfl|some ad=>simp[storeCells]
      cases hrow:row with|false=>
       simp only[hrow]at hr;cases hr;refine⟨X.name aO ⟨b,off+els.length*i.size,i.size,els.length-els.length⟩,_,hrun,dW hfr,?_,?_,ic⟩;.rw[List.append_nil];refine⟨ad,b,off,i.size,els.length,rfl,Nat.le_refl _,had,?_,ep,rfl⟩;grind[jP,eV,aC,gi,Cx.name,ei]
       .exact NH (gu h hfr) ep (by simp)|true=>
       simp only[hrow]at hr;split at hr;.cases hr
       .cases hr;have Ai:els=[]:=by grind
        subst Ai;refine⟨X.name aO ⟨0,0,i.size,0⟩,_,hrun,dW hfr,⟨⟨0,0,i.size,0⟩,ad,0,ep,rfl,rfl,Nat.le_refl _,λhq=>absurd hq (by omega)⟩,?_,ic⟩;exact(gu h hfr).add (e:=.row aO ([]++[])) (L:=⟨0,0,i.size,0⟩) ep ⟨by simp,by simp,λhq=>absurd hq (by simp),by simp⟩ λ_ _ _ _ _ _ _ hq=>absurd hq (by simp)
     .obtain⟨old,ho,hd1⟩:=nC (P:=P) (n:=els.length) (cap:=els.length) (X:=X) (w:=X.w.drew) (λ_ _=>rfl) NJ hel rfl had;obtain⟨C,G,g1,hrun,g2,g3,g4,g5⟩:=ua (P:=P) (X:=X) (ty:=ty) ht hs hi hz hzs ho (by omega) qO NI hd1 CD hel hnl;have XB:(els++news).length=els.length+news.length:=List.length_append;cases hrow:row with|false=>simp[hrow]at hr;cases hr;obtain⟨Y,hw,k1,k2,k3,k4⟩:=Dk (e:=e) h hfr g5 g2 (by omega) g3 g4 (aI:=s.aI) (n:=n) λ_ h=>h;simp at k2;exact⟨Y,_,by rw[hrun,hw],k1,k2,k3,k4⟩|true=>
       simp only[hrow]at hr;split at hr;.cases hr
       .cases hr;obtain⟨Y,hw,k1,k2,k3,k4⟩:=Dl (e:=e) (lv:=lv) (sl:=sl) h hfr g5 g2 (by omega) g3 g4 (n:=n) h;simp at k2;exact⟨Y,_,by rw[hrun,hw],k1,k2,k3,k4⟩
    grind
   .rename_i els v tz;split at hr
    .rename_i hc;obtain⟨hc0,qO,NI,hc4⟩:=hc;cases hr;have Hj:s.aI.get? v=some ():=by cases hg:s.aI.get? v with|none=>grind|some u=>rfl
     obtain⟨ad,b,off,sz',cap,rfl,hcap,had,NJ,hL,htz⟩:=hx;have hel:∀e∈els,e.length=i.size:=λe he=>by rw[NJ.1 e he,htz,hc0]
     obtain⟨L',hL',hT⟩:=h.aI v Hj;rw[hL]at hL';cases hL';by_cases hm0:news.length=0
     .have Fg:news=[]:=List.eq_nil_of_length_eq_zero hm0;subst Fg;have hnew:new=[]:=List.eq_nil_of_length_eq_zero (by simpa using sX);subst hnew;have hrun:(Builtin.append_ #[t,u] ty #[.slice ad els.length cap,yv]).run P X.w=.ok (.slice ad els.length cap) X.w:=by rw[jR (i:=i) (m:=0) (new:=[]) ht hs hi (by omega)];cases ad with|none=>rfl|some ad=>simp[storeCells]
      refine⟨X.name aO ⟨b,off+els.length*sz',sz',cap-els.length⟩,_,hrun,dW hfr,?_,?_,ic⟩;.rw[List.append_nil];exact⟨ad,b,off,sz',cap,rfl,hcap,had,NJ.ext (dW hfr),ep,htz.trans hc0⟩
      .refine(gu (h.JS v) hfr).U9 ep hT λk u M hk _ hu wL hc=>?_;have hold:Holds s.mem s.aI k u/\k≠jW v:=by
        rcases hk with⟨cL,dU,e',rfl,he',kO⟩|⟨rfl,he'⟩;.exact⟨.inl ⟨cL,dU,e',rfl,he',kO⟩,eX⟩
        .rw[Tr.cz]at he';split at he';.cases he'
         .rename_i hvu;exact⟨.inr ⟨rfl,he'⟩,λhq=>hvu (by simpa[jW]using hq.symm)⟩
       obtain⟨M',kU,_⟩:=h.dG hold.1;have:(X.name aO ⟨b,off+els.length*sz',sz',cap-els.length⟩).ρ u=some M':=(dW hfr).loc _ _ kU;simp_all;exact h.apart _ _ _ _ _ _ hold.1 (.inr ⟨rfl,Hj⟩) hold.2 kU hL wL hc
     .by_cases hroom:els.length+news.length<=cap
      .have XD:0<cap-els.length:=by omega
       obtain⟨⟨sV,C,ce,zq,XC⟩,hb4⟩:=hT XD;simp at sV zq XC hb4;have aiL:=had (by omega);subst aiL;have hsz:sz'=i.size:=htz.trans hc0
       .subst hsz;have hfit:off+els.length*i.size+new.length<=C.size:=by have:=Nat.mul_le_mul_right i.size (show news.length<=cap-els.length by omega);omega
        have hst:=run_storeCells_at P b (off+els.length*i.size) ce new 0 C X.w zq (by omega) (aC.Vk CD);let C':=(C.toList.take (off+els.length*i.size)++new++C.toList.drop (off+els.length*i.size+new.length)).toArray;have rB:∀j,C'[j]?=if off+els.length*i.size<=j/\j<off+els.length*i.size+new.length then new[j-(off+els.length*i.size)]?else C[j]?:=mS hfit;have hsize:C'.size=C.size:=by show(C.toList.take (off+els.length*i.size)++new++C.toList.drop (off+els.length*i.size+new.length)).toArray.size=C.size;simp;omega
        have hFk:∀q,X.F b q->C'[q]?=C[q]?:=λq hq=>by rw[rB,if_neg];intro hq';exact hb4 q hq'.1 hq
        have hap:∀k w M,Holds s.mem (s.aI.set v none) k w->X.ρ w=some M->0<M.cap->M.b≠b:=by
         intro k w M hk hw wL;have hold:Holds s.mem s.aI k w/\k≠jW v:=by
          rcases hk with⟨cL,dU,e',rfl,he',kO⟩|⟨rfl,he'⟩;.exact⟨.inl ⟨cL,dU,e',rfl,he',kO⟩,eX⟩
          .rw[Tr.cz]at he';split at he';.cases he'
           .rename_i hvu;exact⟨.inr ⟨rfl,he'⟩,λhq=>hvu (by simpa[jW]using hq.symm)⟩
         exact h.apart _ _ _ _ _ _ hold.1 (.inr ⟨rfl,Hj⟩) hold.2 hw hL wL XD
        let X1:=X.set b C';have hx1:Ext X X1:=vf zq sV hFk;have CL:aH X1 s.mem (s.aI.set v none):=zG (h.JS v) zq sV hFk hap;let X2:=X1.more λb' q=>b'=b/\q<off+els.length*i.size+new.length/\off+els.length*i.size<=q;have hx2:Ext X1 X2:=Ext.more λb' q hq=>by rw[hq.1];exact sV
        have P3:b<X1.w.heap.size:=by
         have hh:=jv (X:=X) (C':=C') zq;rcases Nat.lt_or_ge b X1.w.heap.size with hl|hl;.exact hl
         .rw[Array.getElem?_eq_none hl]at hh;cases hh
        have hm2:aH X2 s.mem (s.aI.set v none):=CL.more (λb' q hq=>by rw[hq.1];exact⟨sV,P3⟩) λk w M q hk hw wL hq=>hap k w M hk hw wL hq.1;let L:Loc:=⟨b,off+(els++news).length*i.size,i.size,cap-(els++news).length⟩;have hx3:Ext X2 (X2.name aO L):=dW hfr;have hx:Ext X (X2.name aO L):=(hx1.trans hx2).trans hx3;have XB:(els++news).length=els.length+news.length:=List.length_append;have hoff:off+(els++news).length*i.size=off+els.length*i.size+new.length:=by rw[XB,Nat.add_mul];omega
        refine⟨X2.name aO L,.slice (some ⟨b,off,none⟩) (els.length+news.length) cap,?_,hx,?_,?_,?_⟩;.rw[jR (i:=i) (new:=new) ht hs hi hroom];simp only[Addr.add_lit,hst,Result.andThen_ok];rfl
        .refine⟨some ⟨b,off,none⟩,b,off,i.size,cap,by rw[XB],by omega,λ_=>rfl,?_,ep,rfl⟩;refine⟨λf hf=>?_,λq f j w hq hj=>?_⟩
         .rcases List.mem_append.1 hf with hf|hf;.exact hel f hf
          .exact hnl f hf
         .have E6:j<i.size:=by
           have Vm:f.length=i.size:=by
            rcases List.mem_append.1 (List.mem_of_getElem? hq)with hf|hf;.exact hel f hf
            .exact hnl f hf
           rw[<-Vm];exact(List.getElem?_eq_some_iff.1 hj).1
          by_cases hql:q<els.length;.rw[List.getElem?_append_left hql]at hq;obtain⟨hF,w',hw',JL⟩:=NJ.2 q f j w hq hj;exact⟨hx.Xz _ _ hF,w',(hx.keep _ _ hF).trans hw',JL.ext hx⟩
          .rw[List.getElem?_append_right (by omega)]at hq;have hg:=fR hnl _ j f hq E6;rw[hj]at hg;obtain⟨w',hw',JL⟩:=CD.get _ _ hg;have hlt:=(List.getElem?_eq_some_iff.1 hw').1;have e1:off+q*i.size+j=off+els.length*i.size+((q-els.length)*i.size+j):=by
            have:q=els.length+(q-els.length):=by omega
            conv=>lhs;rw[this,Nat.add_mul]
            omega
           refine⟨.inr ⟨rfl,by omega,by omega⟩,w',?_,JL.ext hx⟩;show(X.set b C').w.cell? _=_;rw[cell_of_row _ _ _ _ _ _ (jv zq),e1,rB,if_pos (by omega)];rw[show off+els.length*i.size+((q-els.length)*i.size+j)-(off+els.length*i.size)=(q-els.length)*i.size+j by omega];exact hw'
        .refine(gu hm2 hfr).U9 (L:=L) ep (λhc=>⟨⟨sV,C',ce,jv zq,?_⟩,λq hq hF=>?_⟩) λk w M hk _ hw wL _=>?_
         .rw[Nat.add_assoc,<-Nat.add_mul,show(els++news).length+(cap-(els++news).length)=cap by omega];have:off+els.length*i.size+(cap-els.length)*i.size=off+cap*i.size:=by rw[Nat.add_assoc,<-Nat.add_mul,show els.length+(cap-els.length)=cap by omega]
          omega
         .have hq:off+(els++news).length*i.size<=q:=hq;rcases hF with hF|hF;.exact hb4 q (by omega) hF
          .omega
         .have hold:∃M',X.ρ w=some M':=by obtain⟨M',kU,_⟩:=(h.JS v).dG hk;exact⟨M',kU⟩
          obtain⟨M',kU⟩:=hold;have:(X2.name aO L).ρ w=some M':=hx.loc _ _ kU;rw[hw]at this;injection this with this;subst this;exact hap k w M hk kU wL
        .exact⟨Nat.le_refl _,λw M hw=>by
          rcases(ic (X:=X2) (v:=aO) (n:=0) (L:=L)).2 w M hw with hq|hq|hq;.exact .inl hq
          .exact .inr (.inl hq)
          .omega⟩
      .obtain⟨old,ho,hd1⟩:=nC (P:=P) (n:=els.length) (cap:=cap) (X:=X) (w:=X.w.drew) (λ_ _=>rfl) NJ hel rfl (λhq=>had (by omega));obtain⟨C,G,g1,hrun,g2,g3,g4,g5⟩:=ua (P:=P) (X:=X) (ty:=ty) ht hs hi hz hzs ho (by omega) qO NI hd1 CD hel hnl;have XB:(els++news).length=els.length+news.length:=List.length_append;obtain⟨Y,hw,k1,k2,k3,k4⟩:=Dk (e:=e) h hfr g5 g2 (by omega) g3 g4 (aI:=s.aI.set v none) (n:=n) λw hw=>by rw[Tr.cz]at hw;split at hw<;>first|exact hw|cases hw
       simp at k2;exact⟨Y,_,by rw[hrun,hw],k1,k2,k3,k4⟩
    .cases hr
   .split at hr
    .rename_i els hrow;split at hr;.rename_i hc;obtain⟨hc0,hc1,qO,NI⟩:=hc;cases hr;subst hc0;exact JY h hfr ht hs hi hz hzs hx hrow hc1 qO NI hnl CD
     .cases hr
    grind
   grind
  grind
theorem rD(h:aH X s.mem s.aI)(hfr:X.ρ aO=none){t u ty e:TypeId}{i:TypeInfo}{z:Value}{xv yv:Value}{x y:AV}{row:Bool}{lv sl n:Nat}{E:fH}(ht:P.underlying t=some (.slice e))(hu:Fe P u)(hi:P.info? e=some i)(hz:i.zero=some z)(hzs:z.cells.size=i.size)(h0:0<i.size)(hx:VR X x xv)(hy:VR X y yv)(hr:dA s row lv sl aO i.size i.bytes x y=some E):Ak P X s t u ty xv yv aO n E:=vh h hfr ht hi hz hzs h0 hx (λnews hn hnl=>by
 obtain⟨new,CD,hlen,hfc⟩:=zH (P:=P) h hn hy hnl h0;have sX:new.length=news.length*i.size:=by rw[<-CD.length,aX hnl]
 have adz:∀w:World,(∀b o,w.cell? ⟨b,o,none⟩=X.w.cell? ⟨b,o,none⟩)->(Builtin.firstCells i.size news.length yv).run P w=.ok new.toArray w:=by grind
 exact⟨new,CD,.val hu (hlen X.w) (adz X.w λ_ _=>rfl) (adz X.w.drew λ_ _=>rfl)⟩) hr
end
end Go.bJ
