/- Memory made, frozen and written: the laws under the operations that change it. -/
import Derived.Test.YtgkllgjmfpjeoaaGreatDoorEngF
import Derived.Laws.MakeOwn
set_option linter.unusedVariables false
set_option linter.unusedSimpArgs false
namespace Go.bJ
open Go Go.RowKit
theorem fR{α:Type}{sz:Nat}:∀{els:List (List α)},(∀e∈els,e.length=sz)->∀(i j:Nat)(e:List α),els[i]?=some e->j<sz->els.flatten[i*sz+j]?=e[j]?|[],_,i,j,e,h,_=>by simp at h|f::els,hl,0,j,e,h,hj=>by grind|f::els,hl,i+1,j,e,h,hj=>by simp[List.flatten_cons];have hf:=hl f (by simp);rw[List.getElem?_append_right (by rw[hf,Nat.add_mul];omega),hf,show(i+1)*sz+j-sz=i*sz+j by rw[Nat.add_mul];omega];exact fR (λe he=>hl e (by simp[he])) i j e (by simpa using h) hj
theorem aX{α:Type}{sz:Nat}:∀{els:List (List α)},(∀e∈els,e.length=sz)->els.flatten.length=els.length*sz|[],_=>by simp|f::els,hl=>by simp only[List.flatten_cons,List.length_append,List.length_cons,Nat.add_mul];rw[aX (λe he=>hl e (by simp[he])),hl f (by simp)];omega
theorem zu{α:Type}(a b:List (List α)):(a++b).flatten=a.flatten++b.flatten:=by simp
theorem ry{α:Type}{sz:Nat}:∀{els:List (List α)},(∀e∈els,e.length=sz)->∀(i:Nat)(e:List α),i<els.length->e.length=sz->(els.set i e).flatten=splice els.flatten (i*sz) e|[],_,i,e,h,_=>by simp at h|f::els,hl,0,e,_,he=>by grind[splice]|f::els,hl,i+1,e,h,he=>by have hf:=hl f (by simp);simp[List.set_cons_succ,List.flatten_cons];rw[ry (λe he=>hl e (by simp[he])) i e (by simpa using h) he];unfold splice;rw[show(i+1)*sz=f.length+i*sz by rw[Nat.add_mul];omega];rw[List.take_append,List.take_of_length_le (l:=f) (by omega)];rw[List.drop_append,List.drop_of_length_le (l:=f) (by omega),show f.length+i*sz+e.length-f.length=i*sz+e.length by omega];simp[List.append_assoc]
theorem u9{w:World}{F R:Nat->Nat->Prop}{els:List (List D)}{b o sz:Nat}{C:Array Value}{e:TypeId}{vs:List Value}(hb:w.heap[b]?=some (.cells C e (0,0)))(hl:∀e∈els,e.length=sz)(hv:∀j v,vs[j]?=some v->C[o+j]?=some v)(h:aC (DR w F) els.flatten vs)(hR:∀k,k<els.length*sz->R b (o+k)):ei w F R els b o sz:=by
 refine⟨hl,λi e j x h1 h2=>?_⟩;have hj:j<sz:=by grind
 have hg:=fR hl i j e h1 hj;rw[h2]at hg;obtain⟨v,h3,h4⟩:=h.get _ _ hg;have hlt:i*sz+j<els.length*sz:=by have:=(List.getElem?_eq_some_iff.1 hg).1;rwa[aX hl]at this
 rw[Nat.add_assoc];exact⟨hR _ hlt,v,by rw[cell_of_row _ _ _ _ _ _ hb];exact hv _ _ h3,h4⟩
theorem vb{w:World}{F R:Nat->Nat->Prop}{els:List (List D)}{b o sz:Nat}(h:ei w F R els b o sz):∃vs:List Value,(∀j v,vs[j]?=some v->w.cell? ⟨b,o+j,none⟩=some v)/\aC (DR w F) els.flatten vs:=by
 refine Ad els.flatten λk x hk=>?_;have hlen:=aX h.1;have hk':k<els.length*sz:=by grind
 have hsz:0<sz:=Nat.pos_of_ne_zero λe=>by subst e;omega
 have hi:k/sz<els.length:=(Nat.div_lt_iff_lt_mul hsz).2 hk';have hj:k%sz<sz:=Nat.mod_lt _ hsz;have he:els[k/sz]?=some els[k/sz]:=List.getElem?_eq_getElem hi;have hg:=fR h.1 (k/sz) (k%sz) _ he hj;have hkk:k/sz*sz+k%sz=k:=by rw[Nat.mul_comm];exact Nat.div_add_mod k sz
 grind[ei]
def Cx.alloc(X:Cx)(C:Array Value)(e:TypeId)(v:Nat)(L:Loc):Cx:={X with w:=X.w.alloc (.cells C e),ρ:=λu=>if u=v then some L else X.ρ u}
theorem aH.dG{X:Cx}{m:List (Tr bB)}{t:Tr Unit}(h:aH X m t){k:Nat×Nat×Nat}{v:Nat}(hk:Holds m t k v):∃L,X.ρ v=some L/\(0<L.cap->L.b<X.w.heap.size/\¬X.old L.b):=by
 rcases hk with⟨lv,sl,e,_,he,rfl,hz⟩|⟨_,he⟩;.obtain⟨L,hL,hE⟩:=h.fN lv sl e he;refine⟨L,hL,λhc=>?_⟩;cases e with|Nw _ _=>cases hz|row _ _=>exact⟨(hE.2.2.1 hc).1.lt,(hE.2.2.1 hc).1.1⟩|box _ _=>exact⟨hE.2.1.lt,hE.2.1.1⟩|mp _ _=>grind[ny,bB.ah,bB.fz,aK,cq]
 .obtain⟨L,hL,hT⟩:=h.aI v he;exact⟨L,hL,λhc=>⟨(hT hc).1.lt,(hT hc).1.1⟩⟩
theorem tY{w:World}{b o:Nat}{ob:Obj}(h:b<w.heap.size):(w.alloc ob).cell? ⟨b,o,none⟩=w.cell? ⟨b,o,none⟩:=World.cell?_alloc_lt w ob ⟨b,o,none⟩ h
theorem Ext.alloc{X:Cx}{C:Array Value}{e:TypeId}{v:Nat}{L:Loc}(hin:∀b o,X.F b o->b<X.w.heap.size)(nT:∀b,X.old b->b<X.w.heap.size)(hv:X.ρ v=none):Ext X (X.alloc C e v L):=⟨rfl,(eo.refl _ _).alloc nT _,λ_ _ h=>h,λb o h=>tY (hin b o h),λu M hu=>by grind[Cx.alloc],λ_ _ h=>.inl h⟩
theorem aH.alloc{X:Cx}{m:List (Tr bB)}{t:Tr Unit}{C:Array Value}{e:TypeId}{v:Nat}{L:Loc}(h:aH X m t)(hv:X.ρ v=none):aH (X.alloc C e v L) m t:=h.move (Ext.alloc h.oL h.low hv) (λk u M hk hu hc=>by obtain⟨M',kU,h2⟩:=h.dG hk;rw[hu]at kU;cases kU;exact heap_alloc_old _ _ _ (h2 hc).1) (λ_ _ _ _ _ _ _ h=>h) (λb o hb=>by have:=h.oL b o hb;show b<(X.w.alloc _).heap.size;rw[World.size_alloc];omega)
def Cx.more(X:Cx)(G:Nat->Nat->Prop):Cx:={X with F:=λb o=>X.F b o\/G b o}
theorem Ext.more{X:Cx}{G:Nat->Nat->Prop}(hG:∀b o,G b o->¬X.old b):Ext X (X.more G):=⟨rfl,eo.refl _ _,λ_ _=>.inl,λ_ _ _=>rfl,λ_ _ h=>h,λb o h=>h.elim .inl λh=>.inr (hG b o h)⟩
theorem aH.more{X:Cx}{m:List (Tr bB)}{t:Tr Unit}{G:Nat->Nat->Prop}(h:aH X m t)(hG:∀b o,G b o->¬X.old b/\b<X.w.heap.size)(hk:∀k v L o,Holds m t k v->X.ρ v=some L->0<L.cap->¬G L.b o):aH (X.more G) m t:=h.move (Ext.more λb o h=>(hG b o h).1) (λ_ _ _ _ _ _=>rfl) (λk v L o a b c h=>h.elim id λh=>absurd h (hk k v L o a b c)) λb o hb=>hb.elim (h.oL b o) λhb=>(hG b o hb).2
def lM(X:Cx)(m:List (Tr bB))(k:Nat×Nat):Option Nat:=(aK m k.1 k.2).bind λe=>(X.ρ e.ah).bind λL=>if 0<L.cap/\e.fz=false then some L.b else none
def Cx.lU(X:Cx)(m:List (Tr bB))(ks:List (Nat×Nat)):Cx:=X.more λb _=>∃k∈ks,lM X m k=some b
theorem j5{X:Cx}{m:List (Tr bB)}{k:Nat×Nat}{b:Nat}(h:lM X m k=some b):∃e L,aK m k.1 k.2=some e/\X.ρ e.ah=some L/\0<L.cap/\L.b=b/\e.fz=false:=by unfold lM at h;cases he:aK m k.1 k.2with|none=>grind|some e=>rw[he]at h;cases hL:X.ρ e.ah with|none=>grind|some L=>grind
theorem tL(m0:List (Tr bB)):∀(ks:List (Nat×Nat))(m:List (Tr bB))(lv sl:Nat),m.length=m0.length->aK (bw m (dV m0 ks)) lv sl=if(lv,sl)∈ks then(aK m0 lv sl).bind bB.lU else aK m lv sl
 |[],m,lv,sl,_=>by simp[dV,bw]|k::ks,m,lv,sl,hl0=>by
  have ih:=tL m0 ks (ct m k.1 k.2 ((aK m0 k.1 k.2).bind bB.lU)) lv sl (by simpa[ct]using hl0);simp[dV,List.map_cons,bw]at ih⊢;rw[ih];by_cases h1:(lv,sl)∈ks;.simp[h1]
  .simp[h1,if_false,List.mem_cons,or_false];rw[cx];by_cases h2:(lv,sl)=k
   .subst h2;simp only[if_true,true_and];split;.rfl
    .unfold aK;rw[List.getElem?_eq_none (by omega),List.getElem?_eq_none (by omega)];rfl
   .rw[if_neg h2,if_neg];rintro⟨rfl,rfl,_⟩;exact h2 rfl
theorem qb(ks:List (Nat×Nat))(m:List (Tr bB))(lv sl:Nat):aK (bw m (dV m ks)) lv sl=if(lv,sl)∈ks then(aK m lv sl).bind bB.lU else aK m lv sl:=tL m ks m lv sl rfl
theorem ZJ{e e':bB}(h:e.lU=some e'):e'.fz=true:=by cases e<;>simp only[bB.lU]at h<;>first|(cases h;rfl)|cases h
theorem qc{X:Cx}{m:List (Tr bB)}{t:Tr Unit}(h:aH X m t)(ks:List (Nat×Nat)):Ext X (X.lU m ks):=Ext.more λb _⟨k,_,hb⟩=>by obtain⟨e,L,he,hL,hc,rfl,hz⟩:=j5 hb;obtain⟨L',hL',h2⟩:=h.dG (.inl ⟨k.1,k.2,e,rfl,he,rfl,hz⟩)<;>grind
theorem E8{X:Cx}{m:List (Tr bB)}{t:Tr Unit}(h:aH X m t)(ks:List (Nat×Nat)):aH (X.lU m ks) (bw m (dV m ks)) t:=by
 let era:List (Nat×Nat)->List (Tr bB)->List (Tr bB):=λks m=>bw m (ks.map λk=>(k.1,k.2,none));have adv:∀(ks:List (Nat×Nat))(m:List (Tr bB))(lv sl:Nat),aK (era ks m) lv sl=if(lv,sl)∈ks then none else aK m lv sl:=by intro ks;induction ks with|nil=>simp[era,bw]|cons k ks ih=>
   intro m lv sl;simp[era,List.map_cons,bw]at ih⊢;rw[ih];by_cases h1:(lv,sl)∈ks;.simp[h1]
   .rw[cx]<;>grind[bw,ct,aK]
 have Md:aH X (era ks m) t:=h.less (λlv sl e he=>by
  rw[adv]at he;split at he;.cases he
  .exact he) λ_ h=>h;have hm0:aH (X.lU m ks) (era ks m) t:=by
  refine Md.more (λb o⟨k,_,hb⟩=>?_) λk v L o hk hv hc⟨k',hk',hb⟩=>?_;.obtain⟨e,L,he,hL,hc,rfl,hz⟩:=j5 hb;obtain⟨L',hL',h2⟩:=h.dG (.inl ⟨k.1,k.2,e,rfl,he,rfl,hz⟩)<;>grind
  .obtain⟨e,M,he,hM,wL,hMb,hz⟩:=j5 hb;have hh:Holds m t k v/\k≠cq k'.1 k'.2:=by
    rcases hk with⟨lv,sl,e',rfl,he',kO⟩|⟨rfl,he'⟩;.grind[bB.fz,bB.ah,lM,aK,cq,Holds]
    .exact⟨.inr ⟨rfl,he'⟩,λhq=>eX hq.symm⟩
   exact h.apart _ _ _ _ _ _ hh.1 (.inl ⟨k'.1,k'.2,e,rfl,he,rfl,hz⟩) hh.2 hv hM hc wL hMb.symm
 have hh:∀k v,Holds (bw m (dV m ks)) t k v->Holds (era ks m) t k v:=by
  rintro k v(⟨lv,sl,e,rfl,he,hv,hz⟩|⟨rfl,he⟩)
  .rw[qb]at he;split at he;.obtain⟨e0,_,Vg⟩:=Option.bind_eq_some_iff.1 he;rw[ZJ Vg]at hz;cases hz
   grind[bB.fz,bB.ah,Cx.lU,aK,cq,Holds]
  .exact .inr ⟨rfl,he⟩
 refine⟨λlv sl e he=>?_,hm0.aI,λk k' v v' L L' a b=>hm0.apart k k' v v' L L' (hh _ _ a) (hh _ _ b),hm0.oL,hm0.tG⟩;rw[qb]at he;split at he;.rename_i hk;obtain⟨e0,he1,Vg⟩:=Option.bind_eq_some_iff.1 he;obtain⟨L,hL,hE⟩:=h.fN _ _ _ he1;cases e0 with|box v cs=>cases Vg|mp v ks=>cases Vg|Nw v els=>cases Vg;exact⟨L,hL,hE.1,hE.2.ext (qc h ks)⟩|row v els=>
   cases Vg;refine⟨L,hL,hE.1,hE.2.1,λi e j x h1 h2=>?_⟩;obtain⟨u,hu,hd⟩:=hE.2.2.2 i e j x h1 h2;have hc:0<L.cap:=by have:i<els.length:=(List.getElem?_eq_some_iff.1 h1).1;have:=hE.1<;>omega
   refine⟨.inr ⟨(lv,sl),hk,?_⟩,u,hu,hd.ext (qc h ks)⟩;have hL':X.ρ v=some L:=hL;simp[lM,he1,bB.ah,hL',bB.fz,hc]
 .rename_i hn;exact hm0.fN lv sl e (by rw[adv,if_neg hn];exact he)
theorem Ah{X:Cx}{m:List (Tr bB)}{t:Tr Unit}(h:aH X m t){lv sl ah:Nat}{els:List (List D)}(hr:qJ m lv sl ah=some els):∃L,X.ρ ah=some L/\els.length<=L.cap/\ei X.w X.F (λb o=>X.F b o\/lM X m (lv,sl)=some b) els L.b L.o L.sz:=by
 unfold qJ at hr;split at hr
 .rename_i v els' hg;split at hr
  .rename_i hv;simp_all;subst hv;obtain⟨L,hL,hE⟩:=h.fN _ _ _ hg;refine⟨L,hL,hE.1,hE.2.1,λi e j x h1 h2=>⟨.inr ?_,hE.2.2.2 i e j x h1 h2⟩⟩;have hc:0<L.cap:=by grind[ny,bB.ah,aK]
   have hL':X.ρ v=some L:=hL;simp[lM,hg,bB.ah,hL',bB.fz,hc]
  grind
 .rename_i v els' hg;split at hr;.simp_all;obtain⟨L,hL,hE⟩:=h.fN _ _ _ hg;grind[ny,bB.ah,aK,lM,ei]
  grind
 grind
theorem lX{X:Cx}{m:List (Tr bB)}{t:Tr Unit}(h:aH X m t){lv sl ah:Nat}{els:List (List D)}(hr:rowAt m lv sl ah=some els):∃L,X.ρ ah=some L/\ny X (.row ah els) L/\aK m lv sl=some (.row ah els):=by
 unfold rowAt at hr;split at hr
 .rename_i v els' hg;split at hr;.rename_i hv;cases hr;have hv:=beq_true.1 hv;subst hv;obtain⟨L,hL,hE⟩:=h.fN _ _ _ hg;exact⟨L,hL,hE,hg⟩
  grind
 grind
theorem ny.U8{X:Cx}{ah:Nat}{els:List (List D)}{L:Loc}{R:Nat->Nat->Prop}(h:ny X (.row ah els) L)(hR:0<L.cap->∀o,R L.b o):ei X.w X.F R els L.b L.o L.sz:=⟨h.2.1,λi e j x h1 h2=>⟨hR (by grind[ny]) _,h.2.2.2 i e j x h1 h2⟩⟩
theorem ei.ext'{X Y:Cx}(hx:Ext X Y){R:Nat->Nat->Prop}{els:List (List D)}{b o sz:Nat}(h:ei X.w X.F R els b o sz)(hc:∀o,Y.w.cell? ⟨b,o,none⟩=X.w.cell? ⟨b,o,none⟩):ei Y.w Y.F R els b o sz:=⟨h.1,λi e j x h1 h2=>by obtain⟨hF,v,hv,hd⟩:=h.2 i e j x h1 h2;exact⟨hF,v,(hc _).trans hv,hd.ext hx⟩⟩
theorem rz{X:Cx}{m:List (Tr bB)}{t:Tr Unit}(h:aH X m t){x:AV}{els:List (List D)}{v:Value}(he:dc m x=some els)(hv:VR X x v):∃a cap sz b o,v=.slice a els.length cap/\els.length<=cap/\(0<els.length->a=some ⟨b,o,none⟩)/\ei X.w X.F (λb o=>X.F b o\/X.old b\/∃lv sl ah off len sz,x=.ref lv sl ah off len sz/\lM X m (lv,sl)=some b) els b o sz:=by cases x with
 |d x=>cases x with|sc v=>cases he|er=>cases he|sl els'=>cases he;obtain⟨a,cap,sz,b,o,h1,h2,h3,h4⟩:=u7 (.inl rfl) hv<;>grind
 |own els' ow=>cases he;obtain⟨a,cap,sz,b,o,h1,h2,h3,h4⟩:=u7 (.inr ⟨_,rfl⟩) hv<;>grind|ref lv sl ah off len sz=>simp[dc]at he;cases hr:qJ m lv sl ah with|none=>grind|some els'=>
   rw[hr]at he;simp only[Option.bind_some]at he;split at he
   .cases he;obtain⟨L,hL,hE1,hE⟩:=Ah h hr;obtain⟨L',a,cap,hL',h1,h2,h3,h4⟩:=hv;rw[hL]at hL';have hlen:((els'.drop off).take len).length=len:=by grind
    refine⟨a,cap,L.sz,L.b,L.o+off*L.sz,by rw[hlen];exact h2,by omega,λh0=>?_,?_⟩<;>grind[qJ,lM,ei]
   grind
 |_=>cases he
theorem Qs{X:Cx}{m:List (Tr bB)}{t:Tr Unit}(h:aH X m t){ks k:List (Nat×Nat)}{x:AV}{y:D}{v:Value}(hx:zn m x=some (y,k))(hv:VC X x v)(hk:∀p∈k,p∈ks):DR X.w (X.lU m ks).F y v:=by have hex:=qc h ks;cases x with
 |d x=>cases hx;exact DR.ext hex hv|own els ow=>cases ow with|full=>cases hx;obtain⟨a,b,o,sz,rfl,h3,h4⟩:=hv;exact DR.gE (h4.ext hex) rfl (Nat.le_refl _) h3|cD ah tz=>cases hx;obtain⟨a,b,o,sz,cap,rfl,h2,h3,h4,_⟩:=hv;exact DR.gE (h4.ext hex) rfl h2 λh=>h3 (by omega)|bC=>cases hx
 |ref lv sl ah off len sz=>simp only[zn]at hx;cases he:dc m (.ref lv sl ah off len sz)with|none=>grind|some els=>rw[he]at hx;injection hx with hx;injection hx with h1 h2;subst h1;obtain⟨L',a,cap,hL',g1,g2,g3,g4⟩:=hv;simp[dc]at he;cases hr:qJ m lv sl ah with|none=>grind|some els'=>
    rw[hr]at he;simp only[Option.bind_some]at he;split at he
    .cases he;obtain⟨L,hL,hE1,hE⟩:=Ah h hr;rw[hL]at hL';cases hL';subst g2;have hlen:((els'.drop off).take len).length=len:=by grind
     have hl:=(hE.region (S:=(X.lU m ks).F) λb o hq=>hq.elim .inl λhq=>.inr ⟨(lv,sl),hk _ (by rw[<-h2];simp),hq⟩).sub off len;exact DR.gE (hl.ext' hex λ_=>rfl) hlen g3 λh0=>by rw[(g4 (by omega)).1,g1]
    grind
 |_=>cases hx
theorem E9{X:Cx}{m:List (Tr bB)}{t:Tr Unit}(h:aH X m t){ks:List (Nat×Nat)}:∀{xs:List AV}{ys:List D}{k:List (Nat×Nat)}{vs:List Value},CI m xs=some (ys,k)->aC (VC X) xs vs->(∀p∈k,p∈ks)->aC (DR X.w (X.lU m ks).F) ys vs
 |[],ys,k,[],hx,_,_=>by cases hx;trivial|x::xs,ys,k,v::vs,hx,hv,hk=>by
  simp[CI]at hx;split at hx;.rename_i y k1 ys' k2 h1 h2;cases hx;exact⟨Qs h h1 hv.1 λp hp=>hk p (by simp[hp]),E9 h h2 hv.2 λp hp=>hk p (by simp[hp])⟩
  grind|[],_,_,_::_,_,hv,_=>hv.elim|_::_,_,_,[],_,hv,_=>hv.elim
end Go.bJ
