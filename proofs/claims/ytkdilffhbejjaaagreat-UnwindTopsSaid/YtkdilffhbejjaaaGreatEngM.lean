/- append, case by case; copy; clear. -/
import Derived.Test.YtkdilffhbejjaaaGreatEngL
set_option linter.unusedVariables false
set_option linter.unusedSimpArgs false
namespace Go.bM
open Go Go.RowKit
section
variable{P:Program}{X:Cx}{nt:NT}{s:St}{a:Act}{o:Oper}{dst:Option Nat}{aT:Nat}
theorem En(h:aH X s.mem s.aK)(hfr:X.ρ aT=none){C:Array Value}{e:TypeId}{els:List (List D)}{sz G n:Nat}{vs:List Value}{aK:Tr Unit}(hl:∀e∈els,e.length=sz)(hC:G*sz<=C.size)(hle:els.length<=G)(hvs:∀(j:Nat)(u:Value),vs[j]?=some u->C[j]?=some u)(hd:aE (DR X.w X.F) els.flatten vs)(afL:∀v,aK.get? v=some ()->s.aK.get? v=some ()):∃Y,Y.w=X.w.drew.alloc (.cells C e)/\Ext X Y/\VR Y (.own els (.cK aT sz)) (.slice (some ⟨X.w.heap.size,0,none⟩) els.length G)/\aH Y s.mem (aK.set aT (some ()))/\fL X Y aT n n:=by
 have h':aH X.drew s.mem aK:=Bl (h.less (λ_ _ _ h=>h) afL);have nt:=M1 (X:=X.drew) h' (C:=C) (e:=e) (v:=aT) (els:=els) (sz:=sz) (cap:=G) (vs:=vs) hfr hl hC hle hvs (hd.mono λ_ _=>DR.ext qa);obtain⟨g1,g2,g3,g4⟩:=nt;refine⟨_,rfl,qa.trans g1,⟨some ⟨X.w.heap.size,0,none⟩,X.w.heap.size,0,sz,G,rfl,hle,λ_=>rfl,g3,vS X.drew C e aT _,rfl⟩,g2,⟨bc _,λv L hv=>?_⟩⟩;rcases g4.2 v L hv with h|h|h;.exact .inl h
 .grind
 .omega
theorem Eo(h:aH X s.mem s.aK)(hfr:X.ρ aT=none){m:List (Tr bH)}{C:Array Value}{e:TypeId}{els:List (List D)}{sz G n lv sl:Nat}{vs:List Value}(hl:∀e∈els,e.length=sz)(hC:G*sz<=C.size)(hle:els.length<=G)(hvs:∀(j:Nat)(u:Value),vs[j]?=some u->C[j]?=some u)(hd:aE (DR X.w X.F) els.flatten vs)(hm:aH X m s.aK):∃Y,Y.w=X.w.drew.alloc (.cells C e)/\Ext X Y/\VR Y (.ref lv sl aT 0 els.length sz) (.slice (some ⟨X.w.heap.size,0,none⟩) els.length G)/\aH Y (cC m lv sl (some (.row aT els))) s.aK/\fL X Y aT n n:=by have nr:=Gb (X:=X.drew) (Bl hm) (C:=C) (e:=e) (v:=aT) (els:=els) (sz:=sz) (cap:=G) (vs:=vs) lv sl hfr hl hC hle hvs (hd.mono λ_ _=>DR.ext qa);refine⟨X.drew.alloc C e aT ⟨X.w.heap.size,0,sz,G⟩,rfl,qa.trans (Ext.alloc (X:=X.drew) h.p7 h.low hfr),⟨⟨X.w.heap.size,0,sz,G⟩,some ⟨X.w.heap.size,0,none⟩,G,vS X.drew C e aT _,rfl,rfl,hle,λ_=>⟨by simp,by simp⟩⟩,nr,?_⟩;have:=nZ (X:=X.drew) (C:=C) (e:=e) (v:=aT) (L:=⟨X.w.heap.size,0,sz,G⟩) (n:=n);exact this
theorem Rm{X:Cx}{m:List (Tr bH)}{t:Tr Unit}{lv sl:Nat}{e:bH}(h:aH X (cC (cC m lv sl none) lv sl (some e)) t):aH X (cC m lv sl (some e)) t:=h.congr (λcM cZ=>by rw[cG,cG,cG]<;>grind[cC,aN]) λ_=>rfl
theorem KQ(h:aH X s.mem s.aK)(hfr:X.ρ aT=none){t u ty e:TypeId}{i:TypeInfo}{z:Value}{xv yv:Value}{lv sl au off len n:Nat}{els news:List (List D)}{new:List Value}{rd:List (Nat×Nat×Nat)}(ht:P.underlying t=some (.slice e))(hs:Src P u i X.w yv news.length new)(hi:P.info? e=some i)(hz:i.zero=some z)(hzs:z.cells.size=i.size)(hx:VR X (.ref lv sl au off len i.size) xv)(hrow:rowAt s.mem lv sl au=some els)(hc1:off+len<=els.length)(pY:len+news.length<=fm)(Ox:(len+news.length)*i.bytes<=ku)(hnl:∀e∈news,e.length=i.size)(Gf:aE (DR X.w X.F) news.flatten new):Bm P X s t u ty xv yv aT n {val:=.ref lv sl aT 0 (len+news.length) i.size,di:=[(lv,sl,some (.row aT ((els.drop off).take len++news)))],cK:=[],rd}:=by
 obtain⟨L,hL,hE,hg⟩:=mQ h hrow;obtain⟨L1,ad,cap,M3,h1,rfl,h3,h4⟩:=hx;rw[hL]at M3;cases M3;have tW:new.length=news.length*i.size:=by rw[<-Gf.length,bu hnl]
 have Gg:((els.drop off).take len).length=len:=by grind
 have Ij:∀e∈(els.drop off).take len,e.length=i.size:=λf hf=>by rw[hE.2.1 f (ns (kh hf)),h1]
 have ZA:((els.drop off).take len++news).length=len+news.length:=by grind
 have hls:∀e∈(els.drop off).take len++news,e.length=i.size:=λf hf=>(bj.1 hf).elim (Ij f) (hnl f);by_cases hroom:len+news.length<=cap
 .by_cases hcap:0<cap
  .obtain⟨rfl,h5⟩:=h4 hcap;have hc0:0<L.cap:=by omega
   obtain⟨C,ce,uP,pX,ZB,hb4,hb5,hb6,hap,Bn⟩:=n4 h hg hL hc0;have hfit:L.o+off*L.sz+len*L.sz+new.length<=C.size:=by rw[tW,<-h1,ed (L.o+off*L.sz),<-d6,ed,<-d6];have:=dE L.sz (show off+(len+news.length)<=L.cap by omega);omega
   have hst:=run_storeCells_at P L.b (L.o+off*L.sz+len*L.sz) ce new 0 C X.w uP (by omega) (aE.Xl Gf);let C':=(C.toList.take (L.o+off*L.sz+len*L.sz)++new++C.toList.drop (L.o+off*L.sz+len*L.sz+new.length)).toArray;have qP:∀j,C'[j]?=if L.o+off*L.sz+len*L.sz<=j/\j<L.o+off*L.sz+len*L.sz+new.length then new[j-(L.o+off*L.sz+len*L.sz)]?else C[j]?:=nS hfit;have hsize:C'.size=C.size:=by show(C.toList.take (L.o+off*L.sz+len*L.sz)++new++C.toList.drop (L.o+off*L.sz+len*L.sz+new.length)).toArray.size=C.size;simp;omega
   have hFk:∀q,X.F L.b q->C'[q]?=C[q]?:=λq hq=>absurd hq (hb4 q);have hx1:Ext X (X.set L.b C'):=vT uP pX hFk;have DQ:aH (X.set L.b C') (cC s.mem lv sl none) s.aK:=AD (h.erase lv sl) uP pX hFk hap;let L':Loc:=⟨L.b,L.o+off*L.sz,i.size,cap⟩;have hx2:Ext (X.set L.b C') ((X.set L.b C').name aT L'):=ez hfr;have hx:Ext X ((X.set L.b C').name aT L'):=hx1.trans hx2;refine⟨(X.set L.b C').name aT L',.slice (some ⟨L.b,L.o+off*i.size,none⟩) (len+news.length) cap,?_,hx,?_,?_,?_⟩;.rw[kB (i:=i) (new:=new) ht hs hi hroom];rw[<-h1];simp only[Addr.add_lit,hst,Result.andThen_ok];rfl
   .exact⟨L',_,cap,eT,rfl,rfl,hroom,λ_=>⟨by simp[L',h1],by simp[L']⟩⟩
   .refine(gI DQ hfr).reset (e:=.row aT ((els.drop off).take len++news)) (L:=L') eT ⟨by rw[ZA];exact hroom,hls,λ_=>⟨⟨pX,C',ce,jY uP,?_⟩,hb4⟩,λq f j x hq hj=>?_⟩ λk w M hk hw xB _=>?_;.show L.o+off*L.sz+cap*i.size<=C'.size;rw[<-h1,ed,<-d6];have:=dE L.sz h5;omega
    .show∃v,(X.set L.b C').w.cell? ⟨L.b,L.o+off*L.sz+q*i.size+j,none⟩=some v/\_;rw[cell_of_row _ _ _ _ _ _ (jY uP),qP];have F0:j<i.size:=by rw[<-hls f (f7 hq)];exact(cf.1 hj).1
     by_cases hql:q<len
     .rw[ol (by omega)]at hq;have hqe:=(eB hq).1;obtain⟨v,hv,KD⟩:=Bn _ f j x hqe hj;have e1:L.o+off*L.sz+q*i.size+j=L.o+(off+q)*L.sz+j:=by rw[h1,d6];omega
      have hlt:q*i.size+j<len*L.sz:=by have:=dE i.size (show q+1<=len from hql);rw[d6]at this;rw[h1];omega
      rw[be (by omega),e1];exact⟨v,hv,KD.ext hx⟩
     .rw[kx (by omega),Gg]at hq;have hg2:=gn hnl _ j f hq F0;rw[hj]at hg2;obtain⟨v,hv,KD⟩:=Gf.get _ _ hg2;have hlt:=(cf.1 hv).1;have e1:q*i.size+j=len*L.sz+((q-len)*i.size+j):=by
       have:q=len+(q-len):=by omega
       conv=>lhs;rw[this,d6]
       rw[h1];omega
      rw[bb (by omega)];rw[show L.o+off*L.sz+q*i.size+j-(L.o+off*L.sz+len*L.sz)=(q-len)*i.size+j by omega];exact⟨v,hv,KD.ext hx⟩
    .obtain⟨M',lP,_⟩:=(h.erase lv sl).dV hk;have:((X.set L.b C').name aT L').ρ w=some M':=hx.loc _ _ lP;rw[hw]at this;cases this;exact hap k w M hk lP xB
   .exact⟨bc _,λw M hw=>by
     rcases(iP (X:=X.set L.b C') (v:=aT) (n:=0) (L:=L')).2 w M hw with hq|hq|hq;.exact .inl hq
     .exact .inr (.inl hq)
     .omega⟩
  .have hm0:news.length=0:=by omega
   have hl0:len=0:=by omega
   subst hl0;have As:news=[]:=d8 hm0;subst As;have hnew:new=[]:=d8 (by simpa using tW);subst hnew;have hrun:(Builtin.append_ #[t,u] ty #[.slice ad 0 cap,yv]).run P X.w=.ok (.slice ad 0 cap) X.w:=by rw[kB (i:=i) (m:=0) (new:=[]) ht hs hi (by omega)];cases ad with|none=>rfl|some ad=>simp[storeCells]
   refine⟨X.name aT ⟨0,0,i.size,0⟩,_,hrun,ez hfr,⟨⟨0,0,i.size,0⟩,ad,cap,eT,rfl,rfl,by simp,λhq=>absurd hq hcap⟩,?_,iP⟩;exact(gI h hfr).add (e:=.row aT ((els.drop off).take 0++[])) (L:=⟨0,0,i.size,0⟩) eT ⟨by simp,by simp,λhq=>absurd hq (by simp),by simp⟩ λ_ _ _ _ _ _ _ hq=>absurd hq (by simp)
 .have Oy:eS X.w X.F (λ_ _=>True) ((els.drop off).take len) L.b (L.o+off*L.sz) L.sz:=(hE.Xa (R:=λ_ _=>True) λ_ _=>trivial).sub off len;obtain⟨old,ho,WX⟩:=oo (P:=P) (n:=len) (cap:=cap) (ad:=ad) (X:=X) (w:=X.w.drew) (sz:=i.size) (λ_ _=>rfl) Oy Ij Gg (λhq=>by rw[(h4 (by omega)).1,h1]);have key:=uS (P:=P) (X:=X) (ty:=ty) (els:=(els.drop off).take len) (ad:=ad) (cap:=cap) ht hs hi hz hzs (by rw[Gg];exact ho) (by omega) (by omega) (by rw[Gg];exact Ox) WX Gf Ij hnl;obtain⟨C,G,g1,hrun,g2,g3,g4,g5⟩:=key;obtain⟨Y,hw,k1,k2,k3,k4⟩:=Eo (e:=e) (lv:=lv) (sl:=sl) (m:=cC s.mem lv sl none) h hfr g5 g2 (by rw[ZA];omega) g3 g4 (n:=n) (h.erase lv sl);rw[ZA]at k2;rw[Gg]at hrun;exact⟨Y,_,by rw[hrun,hw],k1,k2,Rm k3,k4⟩
theorem M4(h:aH X s.mem s.aK)(hfr:X.ρ aT=none){lv sl au off len l h' n sz cap:Nat}{els:List (List D)}{ad:Option Addr}(hx:VR X (.ref lv sl au off len sz) (.slice ad len cap))(hrow:rowAt s.mem lv sl au=some els)(c1:l<=h')(c2:h'<=len)(c3:off+len<=els.length):∃Y,Y.w=X.w/\Ext X Y/\VR Y (.ref lv sl aT 0 (h'-l) sz) (.slice (if cap=l then ad else ad.map (·.add (l*sz))) (h'-l) (cap-l))/\aH Y (cC s.mem lv sl (some (.row aT ((els.drop (off+l)).take (h'-l))))) s.aK/\fL X Y aT n n:=by
 obtain⟨L,hL,hE,hg⟩:=mQ h hrow;obtain⟨L1,ad',cap',M3,h1,he,h3,h4⟩:=hx;cases he;rw[hL]at M3;cases M3;have Gg:((els.drop (off+l)).take (h'-l)).length=h'-l:=by grind
 have Ij:∀e∈(els.drop (off+l)).take (h'-l),e.length=sz:=λf hf=>by rw[hE.2.1 f (ns (kh hf)),h1]
 by_cases hcap:0<cap-l
 .obtain⟨rfl,h5⟩:=h4 (by omega);have hc0:0<L.cap:=by omega
  obtain⟨C,ce,uP,pX,ZB,hb4,hb5,hb6,hap,Bn⟩:=n4 h hg hL hc0;let L':Loc:=⟨L.b,L.o+(off+l)*L.sz,sz,cap-l⟩;refine⟨X.name aT L',rfl,ez hfr,⟨L',_,_,eT,rfl,rfl,by omega,λ_=>⟨?_,by simp[L']⟩⟩,?_,iP⟩;.simp only[ca,Addr.add_lit,L',h1]<;>grind
  .refine(gI (h.erase lv sl) hfr).reset (e:=.row aT ((els.drop (off+l)).take (h'-l))) (L:=L') eT ⟨by rw[Gg];show h'-l<=cap-l;omega,Ij,λ_=>⟨⟨pX,C,ce,uP,?_⟩,hb4⟩,λq f j x hq hj=>?_⟩ λk w M hk hw xB _=>?_;.show L.o+(off+l)*L.sz+(cap-l)*sz<=C.size;rw[<-h1,ed,<-d6];have:=dE L.sz (show off+l+(cap-l)<=L.cap by omega);omega
   .have hqe:=(eB hq).1;obtain⟨v,hv,KD⟩:=hE.2.2.2 _ f j x hqe hj;refine⟨v,?_,KD⟩;show X.w.cell? ⟨L.b,L.o+(off+l)*L.sz+q*sz+j,none⟩=some v;rw[<-hv];congr 2;rw[<-h1,d6 (off+l)];omega
   .obtain⟨M',lP,_⟩:=(h.erase lv sl).dV hk;have:(X.name aT L').ρ w=some M':=(ez hfr).loc _ _ lP;rw[hw]at this;cases this;exact hap k w M hk lP xB
 .have h0:h'-l=0:=by omega
  refine⟨X.name aT ⟨0,0,sz,0⟩,rfl,ez hfr,⟨⟨0,0,sz,0⟩,_,_,eT,rfl,rfl,by omega,λhq=>absurd hq hcap⟩,?_,iP⟩;exact(gI h hfr).add (e:=.row aT ((els.drop (off+l)).take (h'-l))) (L:=⟨0,0,sz,0⟩) eT ⟨by rw[Gg,h0];exact bc _,Ij,λhq=>absurd hq (by simp),λq f j x hq _=>by rw[h0]at hq;simp at hq⟩ λ_ _ _ _ _ _ _ hq=>absurd hq (by simp)
theorem Rn(h:aH X s.mem s.aK)(hfr:X.ρ aT=none){lv sl au off len n sz lv2 sl2:Nat}{els:List (List D)}{v:Value}(hx:VR X (.ref lv sl au off len sz) v)(hrow:rowAt s.mem lv sl au=some els)(c3:off+len<=els.length):∃Y,Y.w=X.w/\Ext X Y/\VR Y (.ref lv2 sl2 aT 0 len sz) v/\aH Y (cC (cC s.mem lv sl none) lv2 sl2 (some (.row aT ((els.drop off).take len)))) s.aK/\fL X Y aT n n:=by
 obtain⟨L,hL,hE,hg⟩:=mQ h hrow;obtain⟨L1,ad,cap,M3,h1,rfl,h3,h4⟩:=hx;rw[hL]at M3;cases M3;have Gg:((els.drop off).take len).length=len:=by grind
 have Ij:∀e∈(els.drop off).take len,e.length=sz:=λf hf=>by rw[hE.2.1 f (ns (kh hf)),h1]
 by_cases hcap:0<cap
 .have hc0:0<L.cap:=by omega
  obtain⟨C,ce,uP,pX,ZB,hb4,hb5,hb6,hap,Bn⟩:=n4 h hg hL hc0;let L':Loc:=⟨L.b,L.o+off*L.sz,sz,cap⟩;refine⟨X.name aT L',rfl,ez hfr,⟨L',_,_,eT,rfl,rfl,h3,λ_=>⟨?_,by simp[L']⟩⟩,?_,iP⟩;.grind
  .refine(gI (h.erase lv sl) hfr).add (e:=.row aT ((els.drop off).take len)) (L:=L') eT ⟨by rw[Gg];exact h3,Ij,λ_=>⟨⟨pX,C,ce,uP,?_⟩,hb4⟩,λq f j x hq hj=>?_⟩ λk w M hk _ hw xB _=>?_;.show L.o+off*L.sz+cap*sz<=C.size;rw[<-h1,ed,<-d6];have:=dE L.sz (show off+cap<=L.cap by omega);omega
   .have hqe:=(eB hq).1;obtain⟨v,hv,KD⟩:=hE.2.2.2 _ f j x hqe hj;refine⟨v,?_,KD⟩;show X.w.cell? ⟨L.b,L.o+off*L.sz+q*sz+j,none⟩=some v;rw[<-hv];congr 2;rw[<-h1,d6 off];omega
   .obtain⟨M',lP,_⟩:=(h.erase lv sl).dV hk;have:(X.name aT L').ρ w=some M':=(ez hfr).loc _ _ lP;rw[hw]at this;cases this;exact hap k w M hk lP xB
 .have h0:len=0:=by omega
  subst h0;refine⟨X.name aT ⟨0,0,sz,0⟩,rfl,ez hfr,⟨⟨0,0,sz,0⟩,_,_,eT,rfl,rfl,h3,λhq=>absurd hq hcap⟩,?_,iP⟩;exact(gI (h.erase lv sl) hfr).add (e:=.row aT ((els.drop off).take 0)) (L:=⟨0,0,sz,0⟩) eT ⟨by simp,by simp,λhq=>absurd hq (by simp),λq f j x hq _=>by simp at hq⟩ λ_ _ _ _ _ _ _ hq=>absurd hq (by simp)
theorem vV(h:aH X s.mem s.aK)(hfr:X.ρ aT=none){t u ty e:TypeId}{i:TypeInfo}{z:Value}{xv yv:Value}{x y:AV}{row:Bool}{lv sl n:Nat}{E:fT}(ht:P.underlying t=some (.slice e))(hi:P.info? e=some i)(hz:i.zero=some z)(hzs:z.cells.size=i.size)(_h0:0<i.size)(hx:VR X x xv)(hy:∀news,gB s.mem y=some news->(∀e∈news,e.length=i.size)->∃new:List Value,aE (DR X.w X.F) news.flatten new/\Src P u i X.w yv news.length new)(hr:dP s row lv sl aT i.size i.bytes x y=some E):Bm P X s t u ty xv yv aT n E:=by unfold dP at hr;cases hn:gB s.mem y with|none=>grind|some news=>
  rw[hn]at hr;simp only at hr;split at hr
  .rename_i MZ;have hnl:=j7 MZ;obtain⟨new,Gf,hs⟩:=hy news hn hnl;have tW:new.length=news.length*i.size:=by rw[<-Gf.length,bu hnl]
   split at hr
   .rename_i els;split at hr
    .rename_i hc;obtain⟨hc1,pY,Ox⟩:=hc;have hel:=j7 hc1;obtain⟨ad,b,off,sz',rfl,had,Oy⟩:=hx;by_cases hm0:news.length=0
     .have As:news=[]:=d8 hm0;subst As;have hnew:new=[]:=d8 (by simpa using tW);subst hnew;have hrun:(Builtin.append_ #[t,u] ty #[.slice ad els.length els.length,yv]).run P X.w=.ok (.slice ad els.length els.length) X.w:=by rw[kB (i:=i) (m:=0) (new:=[]) ht hs hi (by omega)];cases ad with|none=>rfl|some ad=>simp[storeCells]
      cases hrow:row with|false=>
       simp only[hrow]at hr;cases hr;refine⟨X.name aT ⟨b,off+els.length*i.size,i.size,els.length-els.length⟩,_,hrun,ez hfr,?_,?_,iP⟩;.rw[dt];refine⟨ad,b,off,i.size,els.length,rfl,bc _,had,?_,eT,rfl⟩;grind[ku,fm,aE,gB,Cx.name,eS]
       .exact Ov (gI h hfr) eT (by simp)|true=>
       simp only[hrow]at hr;split at hr;.cases hr
       .cases hr;have Bk:els=[]:=by grind
        subst Bk;refine⟨X.name aT ⟨0,0,i.size,0⟩,_,hrun,ez hfr,⟨⟨0,0,i.size,0⟩,ad,0,eT,rfl,rfl,bc _,λhq=>absurd hq (by omega)⟩,?_,iP⟩;exact(gI h hfr).add (e:=.row aT ([]++[])) (L:=⟨0,0,i.size,0⟩) eT ⟨by simp,by simp,λhq=>absurd hq (by simp),by simp⟩ λ_ _ _ _ _ _ _ hq=>absurd hq (by simp)
     .obtain⟨old,ho,WX⟩:=oo (P:=P) (n:=els.length) (cap:=els.length) (X:=X) (w:=X.w.drew) (λ_ _=>rfl) Oy hel rfl had;obtain⟨C,G,g1,hrun,g2,g3,g4,g5⟩:=uS (P:=P) (X:=X) (ty:=ty) ht hs hi hz hzs ho (by omega) pY Ox WX Gf hel hnl;have ZA:(els++news).length=els.length+news.length:=ba;cases hrow:row with|false=>simp[hrow]at hr;cases hr;obtain⟨Y,hw,k1,k2,k3,k4⟩:=En (e:=e) h hfr g5 g2 (by omega) g3 g4 (aK:=s.aK) (n:=n) λ_ h=>h;simp at k2;exact⟨Y,_,by rw[hrun,hw],k1,k2,k3,k4⟩|true=>
       simp only[hrow]at hr;split at hr;.cases hr
       .cases hr;obtain⟨Y,hw,k1,k2,k3,k4⟩:=Eo (e:=e) (lv:=lv) (sl:=sl) h hfr g5 g2 (by omega) g3 g4 (n:=n) h;simp at k2;exact⟨Y,_,by rw[hrun,hw],k1,k2,k3,k4⟩
    grind
   .rename_i els v tz;split at hr
    .rename_i hc;obtain⟨hc0,pY,Ox,hc4⟩:=hc;cases hr;have Ro:s.aK.get? v=some ():=by cases hg:s.aK.get? v with|none=>grind|some u=>rfl
     obtain⟨ad,b,off,sz',cap,rfl,hcap,had,Oy,hL,htz⟩:=hx;have hel:∀e∈els,e.length=i.size:=λe he=>by rw[Oy.1 e he,htz,hc0]
     obtain⟨L',hL',hT⟩:=h.aK v Ro;rw[hL]at hL';cases hL';by_cases hm0:news.length=0
     .have As:news=[]:=d8 hm0;subst As;have hnew:new=[]:=d8 (by simpa using tW);subst hnew;have hrun:(Builtin.append_ #[t,u] ty #[.slice ad els.length cap,yv]).run P X.w=.ok (.slice ad els.length cap) X.w:=by rw[kB (i:=i) (m:=0) (new:=[]) ht hs hi (by omega)];cases ad with|none=>rfl|some ad=>simp[storeCells]
      refine⟨X.name aT ⟨b,off+els.length*sz',sz',cap-els.length⟩,_,hrun,ez hfr,?_,?_,iP⟩;.rw[dt];exact⟨ad,b,off,sz',cap,rfl,hcap,had,Oy.ext (ez hfr),eT,htz.trans hc0⟩
      .refine(gI (h.KK v) hfr).Xb eT hT λk u M hk _ hu xB hc=>?_;have hold:Holds s.mem s.aK k u/\k≠kH v:=by
        rcases hk with⟨cM,cZ,e',rfl,he',nD⟩|⟨rfl,he'⟩;.exact⟨.inl ⟨cM,cZ,e',rfl,he',nD⟩,fq⟩
        .rw[Tr.cy]at he';split at he';.cases he'
         .rename_i hvu;exact⟨.inr ⟨rfl,he'⟩,λhq=>hvu (by simpa[kH]using hq.symm)⟩
       obtain⟨M',lP,_⟩:=h.dV hold.1;have:(X.name aT ⟨b,off+els.length*sz',sz',cap-els.length⟩).ρ u=some M':=(ez hfr).loc _ _ lP;simp_all;exact h.apart _ _ _ _ _ _ hold.1 (.inr ⟨rfl,Ro⟩) hold.2 lP hL xB hc
     .by_cases hroom:els.length+news.length<=cap
      .have ZC:0<cap-els.length:=by omega
       obtain⟨⟨pX,C,ce,uP,ZB⟩,hb4⟩:=hT ZC;simp at pX uP ZB hb4;have amq:=had (by omega);subst amq;have hsz:sz'=i.size:=htz.trans hc0
       .subst hsz;have hfit:off+els.length*i.size+new.length<=C.size:=by have:=dE i.size (show news.length<=cap-els.length by omega);omega
        have hst:=run_storeCells_at P b (off+els.length*i.size) ce new 0 C X.w uP (by omega) (aE.Xl Gf);let C':=(C.toList.take (off+els.length*i.size)++new++C.toList.drop (off+els.length*i.size+new.length)).toArray;have qP:∀j,C'[j]?=if off+els.length*i.size<=j/\j<off+els.length*i.size+new.length then new[j-(off+els.length*i.size)]?else C[j]?:=nS hfit;have hsize:C'.size=C.size:=by show(C.toList.take (off+els.length*i.size)++new++C.toList.drop (off+els.length*i.size+new.length)).toArray.size=C.size;simp;omega
        have hFk:∀q,X.F b q->C'[q]?=C[q]?:=λq hq=>by rw[qP,be];intro hq';exact hb4 q hq'.1 hq
        have hap:∀k w M,Holds s.mem (s.aK.set v none) k w->X.ρ w=some M->0<M.cap->M.b≠b:=by
         intro k w M hk hw xB;have hold:Holds s.mem s.aK k w/\k≠kH v:=by
          rcases hk with⟨cM,cZ,e',rfl,he',nD⟩|⟨rfl,he'⟩;.exact⟨.inl ⟨cM,cZ,e',rfl,he',nD⟩,fq⟩
          .rw[Tr.cy]at he';split at he';.cases he'
           .rename_i hvu;exact⟨.inr ⟨rfl,he'⟩,λhq=>hvu (by simpa[kH]using hq.symm)⟩
         exact h.apart _ _ _ _ _ _ hold.1 (.inr ⟨rfl,Ro⟩) hold.2 hw hL xB ZC
        let X1:=X.set b C';have hx1:Ext X X1:=vT uP pX hFk;have DQ:aH X1 s.mem (s.aK.set v none):=AD (h.KK v) uP pX hFk hap;let X2:=X1.more λb' q=>b'=b/\q<off+els.length*i.size+new.length/\off+els.length*i.size<=q;have hx2:Ext X1 X2:=Ext.more λb' q hq=>by rw[hq.1];exact pX
        have Ij:b<X1.w.heap.size:=by
         have hh:=jY (X:=X) (C':=C') uP;rcases f6 b X1.w.heap.size with hl|hl;.exact hl
         .rw[Array.getElem?_eq_none hl]at hh;cases hh
        have hm2:aH X2 s.mem (s.aK.set v none):=DQ.more (λb' q hq=>by rw[hq.1];exact⟨pX,Ij⟩) λk w M q hk hw xB hq=>hap k w M hk hw xB hq.1;let L:Loc:=⟨b,off+(els++news).length*i.size,i.size,cap-(els++news).length⟩;have hx3:Ext X2 (X2.name aT L):=ez hfr;have hx:Ext X (X2.name aT L):=(hx1.trans hx2).trans hx3;have ZA:(els++news).length=els.length+news.length:=ba;have hoff:off+(els++news).length*i.size=off+els.length*i.size+new.length:=by rw[ZA,d6];omega
        refine⟨X2.name aT L,.slice (some ⟨b,off,none⟩) (els.length+news.length) cap,?_,hx,?_,?_,?_⟩;.rw[kB (i:=i) (new:=new) ht hs hi hroom];simp only[Addr.add_lit,hst,Result.andThen_ok];rfl
        .refine⟨some ⟨b,off,none⟩,b,off,i.size,cap,by rw[ZA],by omega,λ_=>rfl,?_,eT,rfl⟩;refine⟨λf hf=>?_,λq f j w hq hj=>?_⟩
         .rcases bj.1 hf with hf|hf;.exact hel f hf
          .exact hnl f hf
         .have F0:j<i.size:=by
           have Xn:f.length=i.size:=by
            rcases bj.1 (f7 hq)with hf|hf;.exact hel f hf
            .exact hnl f hf
           rw[<-Xn];exact(cf.1 hj).1
          by_cases hql:q<els.length;.rw[ol hql]at hq;obtain⟨hF,w',M5,KD⟩:=Oy.2 q f j w hq hj;exact⟨hx.Zw _ _ hF,w',(hx.keep _ _ hF).trans M5,KD.ext hx⟩
          .rw[kx (by omega)]at hq;have hg:=gn hnl _ j f hq F0;rw[hj]at hg;obtain⟨w',M5,KD⟩:=Gf.get _ _ hg;have hlt:=(cf.1 M5).1;have e1:off+q*i.size+j=off+els.length*i.size+((q-els.length)*i.size+j):=by
            have:q=els.length+(q-els.length):=by omega
            conv=>lhs;rw[this,d6]
            omega
           refine⟨.inr ⟨rfl,by omega,by omega⟩,w',?_,KD.ext hx⟩;show(X.set b C').w.cell? _=_;rw[cell_of_row _ _ _ _ _ _ (jY uP),e1,qP,bb (by omega)];rw[show off+els.length*i.size+((q-els.length)*i.size+j)-(off+els.length*i.size)=(q-els.length)*i.size+j by omega];exact M5
        .refine(gI hm2 hfr).Xb (L:=L) eT (λhc=>⟨⟨pX,C',ce,jY uP,?_⟩,λq hq hF=>?_⟩) λk w M hk _ hw xB _=>?_
         .rw[ed,<-d6,show(els++news).length+(cap-(els++news).length)=cap by omega];have:off+els.length*i.size+(cap-els.length)*i.size=off+cap*i.size:=by rw[ed,<-d6,show els.length+(cap-els.length)=cap by omega]
          omega
         .have hq:off+(els++news).length*i.size<=q:=hq;rcases hF with hF|hF;.exact hb4 q (by omega) hF
          .omega
         .have hold:∃M',X.ρ w=some M':=by obtain⟨M',lP,_⟩:=(h.KK v).dV hk;exact⟨M',lP⟩
          obtain⟨M',lP⟩:=hold;have:(X2.name aT L).ρ w=some M':=hx.loc _ _ lP;rw[hw]at this;injection this with this;subst this;exact hap k w M hk lP xB
        .exact⟨bc _,λw M hw=>by
          rcases(iP (X:=X2) (v:=aT) (n:=0) (L:=L)).2 w M hw with hq|hq|hq;.exact .inl hq
          .exact .inr (.inl hq)
          .omega⟩
      .obtain⟨old,ho,WX⟩:=oo (P:=P) (n:=els.length) (cap:=cap) (X:=X) (w:=X.w.drew) (λ_ _=>rfl) Oy hel rfl (λhq=>had (by omega));obtain⟨C,G,g1,hrun,g2,g3,g4,g5⟩:=uS (P:=P) (X:=X) (ty:=ty) ht hs hi hz hzs ho (by omega) pY Ox WX Gf hel hnl;have ZA:(els++news).length=els.length+news.length:=ba;obtain⟨Y,hw,k1,k2,k3,k4⟩:=En (e:=e) h hfr g5 g2 (by omega) g3 g4 (aK:=s.aK.set v none) (n:=n) λw hw=>by rw[Tr.cy]at hw;split at hw<;>first|exact hw|cases hw
       simp at k2;exact⟨Y,_,by rw[hrun,hw],k1,k2,k3,k4⟩
    .cases hr
   .split at hr
    .rename_i els hrow;split at hr;.rename_i hc;obtain⟨hc0,hc1,pY,Ox⟩:=hc;cases hr;subst hc0;exact KQ h hfr ht hs hi hz hzs hx hrow hc1 pY Ox hnl Gf
     .cases hr
    grind
   grind
  grind
theorem sA(h:aH X s.mem s.aK)(hfr:X.ρ aT=none){t u ty e:TypeId}{i:TypeInfo}{z:Value}{xv yv:Value}{x y:AV}{row:Bool}{lv sl n:Nat}{E:fT}(ht:P.underlying t=some (.slice e))(hu:Ge P u)(hi:P.info? e=some i)(hz:i.zero=some z)(hzs:z.cells.size=i.size)(h0:0<i.size)(hx:VR X x xv)(hy:VR X y yv)(hr:dP s row lv sl aT i.size i.bytes x y=some E):Bm P X s t u ty xv yv aT n E:=vV h hfr ht hi hz hzs h0 hx (λnews hn hnl=>by
 obtain⟨new,Gf,hlen,hfc⟩:=AE (P:=P) h hn hy hnl h0;have tW:new.length=news.length*i.size:=by rw[<-Gf.length,bu hnl]
 have afO:∀w:World,(∀b o,w.cell? ⟨b,o,none⟩=X.w.cell? ⟨b,o,none⟩)->(Builtin.firstCells i.size news.length yv).run P w=.ok new.toArray w:=by grind
 exact⟨new,Gf,.val hu (hlen X.w) (afO X.w λ_ _=>rfl) (afO X.w.drew λ_ _=>rfl)⟩) hr
end
end Go.bM
