/- Memory made, frozen and written: the laws under the operations that change it. -/
import Derived.Test.YtkdilffhbejjaaaGreatEngF
import Derived.Laws.MakeOwn
set_option linter.unusedVariables false
set_option linter.unusedSimpArgs false
namespace Go.bM
open Go Go.RowKit
theorem gn{α:Type}{sz:Nat}:∀{els:List (List α)},(∀e∈els,e.length=sz)->∀(i j:Nat)(e:List α),els[i]?=some e->j<sz->els.flatten[i*sz+j]?=e[j]?|[],_,i,j,e,h,_=>by simp at h|f::els,hl,0,j,e,h,hj=>by grind|f::els,hl,i+1,j,e,h,hj=>by simp[nf];have hf:=hl f (by simp);rw[kx (by rw[hf,d6];omega),hf,show(i+1)*sz+j-sz=i*sz+j by rw[d6];omega];exact gn (λe he=>hl e (by simp[he])) i j e (by simpa using h) hj
theorem bu{α:Type}{sz:Nat}:∀{els:List (List α)},(∀e∈els,e.length=sz)->els.flatten.length=els.length*sz|[],_=>by simp|f::els,hl=>by simp only[nf,ba,eQ,d6];rw[bu (λe he=>hl e (by simp[he])),hl f (by simp)];omega
theorem Ar{α:Type}(a b:List (List α)):(a++b).flatten=a.flatten++b.flatten:=by simp
theorem sv{α:Type}{sz:Nat}:∀{els:List (List α)},(∀e∈els,e.length=sz)->∀(i:Nat)(e:List α),i<els.length->e.length=sz->(els.set i e).flatten=splice els.flatten (i*sz) e|[],_,i,e,h,_=>by simp at h|f::els,hl,0,e,_,he=>by grind[splice]|f::els,hl,i+1,e,h,he=>by have hf:=hl f (by simp);simp[List.set_cons_succ,nf];rw[sv (λe he=>hl e (by simp[he])) i e (by simpa using h) he];unfold splice;rw[show(i+1)*sz=f.length+i*sz by rw[d6];omega];rw[List.take_append,fg (l:=f) (by omega)];rw[ut,rp (l:=f) (by omega),show f.length+i*sz+e.length-f.length=i*sz+e.length by omega];simp[bi]
theorem vP{w:World}{F R:Nat->Nat->Prop}{els:List (List D)}{b o sz:Nat}{C:Array Value}{e:TypeId}{vs:List Value}(hb:w.heap[b]?=some (.cells C e (0,0)))(hl:∀e∈els,e.length=sz)(hv:∀j v,vs[j]?=some v->C[o+j]?=some v)(h:aE (DR w F) els.flatten vs)(hR:∀k,k<els.length*sz->R b (o+k)):eS w F R els b o sz:=by
 refine⟨hl,λi e j x h1 h2=>?_⟩;have hj:j<sz:=by grind
 have hg:=gn hl i j e h1 hj;rw[h2]at hg;obtain⟨v,h3,h4⟩:=h.get _ _ hg;have hlt:i*sz+j<els.length*sz:=by have:=(cf.1 hg).1;rwa[bu hl]at this
 rw[ed];exact⟨hR _ hlt,v,by rw[cell_of_row _ _ _ _ _ _ hb];exact hv _ _ h3,h4⟩
theorem vQ{w:World}{F R:Nat->Nat->Prop}{els:List (List D)}{b o sz:Nat}(h:eS w F R els b o sz):∃vs:List Value,(∀j v,vs[j]?=some v->w.cell? ⟨b,o+j,none⟩=some v)/\aE (DR w F) els.flatten vs:=by
 refine Bc els.flatten λk x hk=>?_;have hlen:=bu h.1;have hk':k<els.length*sz:=by grind
 have hsz:0<sz:=Nat.pos_of_ne_zero λe=>by subst e;omega
 have hi:k/sz<els.length:=(Nat.div_lt_iff_lt_mul hsz).2 hk';have hj:k%sz<sz:=wi _ hsz;have he:els[k/sz]?=some els[k/sz]:=al hi;have hg:=gn h.1 (k/sz) (k%sz) _ he hj;have hkk:k/sz*sz+k%sz=k:=by rw[xc];exact Nat.div_add_mod k sz
 grind[eS]
def Cx.alloc(X:Cx)(C:Array Value)(e:TypeId)(v:Nat)(L:Loc):Cx:={X with w:=X.w.alloc (.cells C e),ρ:=λu=>if u=v then some L else X.ρ u}
theorem aH.dV{X:Cx}{m:List (Tr bH)}{t:Tr Unit}(h:aH X m t){k:Nat×Nat×Nat}{v:Nat}(hk:Holds m t k v):∃L,X.ρ v=some L/\(0<L.cap->L.b<X.w.heap.size/\¬X.old L.b):=by
 rcases hk with⟨lv,sl,e,_,he,rfl,hz⟩|⟨_,he⟩;.obtain⟨L,hL,hE⟩:=h.fZ lv sl e he;refine⟨L,hL,λhc=>?_⟩;cases e with|Of _ _=>cases hz|row _ _=>exact⟨(hE.2.2.1 hc).1.lt,(hE.2.2.1 hc).1.1⟩|box _ _=>exact⟨hE.2.1.lt,hE.2.1.1⟩|mp _ _=>grind[oU,bH.au,bH.fz,aN,cB]
 .obtain⟨L,hL,hT⟩:=h.aK v he;exact⟨L,hL,λhc=>⟨(hT hc).1.lt,(hT hc).1.1⟩⟩
theorem uQ{w:World}{b o:Nat}{ob:Obj}(h:b<w.heap.size):(w.alloc ob).cell? ⟨b,o,none⟩=w.cell? ⟨b,o,none⟩:=World.cell?_alloc_lt w ob ⟨b,o,none⟩ h
theorem Ext.alloc{X:Cx}{C:Array Value}{e:TypeId}{v:Nat}{L:Loc}(hin:∀b o,X.F b o->b<X.w.heap.size)(vR:∀b,X.old b->b<X.w.heap.size)(hv:X.ρ v=none):Ext X (X.alloc C e v L):=⟨rfl,(eY.refl _ _).alloc vR _,λ_ _ h=>h,λb o h=>uQ (hin b o h),λu M hu=>by grind[Cx.alloc],λ_ _ h=>.inl h⟩
theorem aH.alloc{X:Cx}{m:List (Tr bH)}{t:Tr Unit}{C:Array Value}{e:TypeId}{v:Nat}{L:Loc}(h:aH X m t)(hv:X.ρ v=none):aH (X.alloc C e v L) m t:=h.move (Ext.alloc h.p7 h.low hv) (λk u M hk hu hc=>by obtain⟨M',lP,h2⟩:=h.dV hk;rw[hu]at lP;cases lP;exact heap_alloc_old _ _ _ (h2 hc).1) (λ_ _ _ _ _ _ _ h=>h) (λb o hb=>by have:=h.p7 b o hb;show b<(X.w.alloc _).heap.size;rw[World.size_alloc];omega)
def Cx.more(X:Cx)(G:Nat->Nat->Prop):Cx:={X with F:=λb o=>X.F b o\/G b o}
theorem Ext.more{X:Cx}{G:Nat->Nat->Prop}(hG:∀b o,G b o->¬X.old b):Ext X (X.more G):=⟨rfl,eY.refl _ _,λ_ _=>.inl,λ_ _ _=>rfl,λ_ _ h=>h,λb o h=>h.elim .inl λh=>.inr (hG b o h)⟩
theorem aH.more{X:Cx}{m:List (Tr bH)}{t:Tr Unit}{G:Nat->Nat->Prop}(h:aH X m t)(hG:∀b o,G b o->¬X.old b/\b<X.w.heap.size)(hk:∀k v L o,Holds m t k v->X.ρ v=some L->0<L.cap->¬G L.b o):aH (X.more G) m t:=h.move (Ext.more λb o h=>(hG b o h).1) (λ_ _ _ _ _ _=>rfl) (λk v L o a b c h=>h.elim id λh=>absurd h (hk k v L o a b c)) λb o hb=>hb.elim (h.p7 b o) λhb=>(hG b o hb).2
def mH(X:Cx)(m:List (Tr bH))(k:Nat×Nat):Option Nat:=(aN m k.1 k.2).bind λe=>(X.ρ e.au).bind λL=>if 0<L.cap/\e.fz=false then some L.b else none
def Cx.mN(X:Cx)(m:List (Tr bH))(ks:List (Nat×Nat)):Cx:=X.more λb _=>∃k∈ks,mH X m k=some b
theorem kN{X:Cx}{m:List (Tr bH)}{k:Nat×Nat}{b:Nat}(h:mH X m k=some b):∃e L,aN m k.1 k.2=some e/\X.ρ e.au=some L/\0<L.cap/\L.b=b/\e.fz=false:=by unfold mH at h;cases he:aN m k.1 k.2with|none=>grind|some e=>rw[he]at h;cases hL:X.ρ e.au with|none=>grind|some L=>grind
theorem uz(m0:List (Tr bH)):∀(ks:List (Nat×Nat))(m:List (Tr bH))(lv sl:Nat),m.length=m0.length->aN (bF m (ew m0 ks)) lv sl=if(lv,sl)∈ks then(aN m0 lv sl).bind bH.mN else aN m lv sl
 |[],m,lv,sl,_=>by simp[ew,bF]|k::ks,m,lv,sl,hl0=>by
  have ih:=uz m0 ks (cC m k.1 k.2 ((aN m0 k.1 k.2).bind bH.mN)) lv sl (by simpa[cC]using hl0);simp[ew,fj,bF]at ih⊢;rw[ih];by_cases h1:(lv,sl)∈ks;.simp[h1]
  .simp[h1,m6,dk,jp];rw[cG];by_cases h2:(lv,sl)=k
   .subst h2;simp only[ii,true_and];split;.rfl
    .unfold aN;rw[dT (by omega),dT (by omega)];rfl
   .rw[be h2,be];rintro⟨rfl,rfl,_⟩;exact h2 rfl
theorem qN(ks:List (Nat×Nat))(m:List (Tr bH))(lv sl:Nat):aN (bF m (ew m ks)) lv sl=if(lv,sl)∈ks then(aN m lv sl).bind bH.mN else aN m lv sl:=uz m ks m lv sl rfl
theorem abk{e e':bH}(h:e.mN=some e'):e'.fz=true:=by cases e<;>simp only[bH.mN]at h<;>first|(cases h;rfl)|cases h
theorem qO{X:Cx}{m:List (Tr bH)}{t:Tr Unit}(h:aH X m t)(ks:List (Nat×Nat)):Ext X (X.mN m ks):=Ext.more λb _⟨k,_,hb⟩=>by obtain⟨e,L,he,hL,hc,rfl,hz⟩:=kN hb;obtain⟨L',hL',h2⟩:=h.dV (.inl ⟨k.1,k.2,e,rfl,he,rfl,hz⟩)<;>grind
theorem F2{X:Cx}{m:List (Tr bH)}{t:Tr Unit}(h:aH X m t)(ks:List (Nat×Nat)):aH (X.mN m ks) (bF m (ew m ks)) t:=by
 let era:List (Nat×Nat)->List (Tr bH)->List (Tr bH):=λks m=>bF m (ks.map λk=>(k.1,k.2,none));have afK:∀(ks:List (Nat×Nat))(m:List (Tr bH))(lv sl:Nat),aN (era ks m) lv sl=if(lv,sl)∈ks then none else aN m lv sl:=by intro ks;induction ks with|nil=>simp[era,bF]|cons k ks ih=>
   intro m lv sl;simp[era,fj,bF]at ih⊢;rw[ih];by_cases h1:(lv,sl)∈ks;.simp[h1]
   .rw[cG]<;>grind[bF,cC,aN]
 have Bg:aH X (era ks m) t:=h.less (λlv sl e he=>by
  rw[afK]at he;split at he;.cases he
  .exact he) λ_ h=>h;have hm0:aH (X.mN m ks) (era ks m) t:=by
  refine Bg.more (λb o⟨k,_,hb⟩=>?_) λk v L o hk hv hc⟨k',hk',hb⟩=>?_;.obtain⟨e,L,he,hL,hc,rfl,hz⟩:=kN hb;obtain⟨L',hL',h2⟩:=h.dV (.inl ⟨k.1,k.2,e,rfl,he,rfl,hz⟩)<;>grind
  .obtain⟨e,M,he,hM,xB,hMb,hz⟩:=kN hb;have hh:Holds m t k v/\k≠cB k'.1 k'.2:=by
    rcases hk with⟨lv,sl,e',rfl,he',nD⟩|⟨rfl,he'⟩;.grind[bH.fz,bH.au,mH,aN,cB,Holds]
    .exact⟨.inr ⟨rfl,he'⟩,λhq=>fq hq.symm⟩
   exact h.apart _ _ _ _ _ _ hh.1 (.inl ⟨k'.1,k'.2,e,rfl,he,rfl,hz⟩) hh.2 hv hM hc xB hMb.symm
 have hh:∀k v,Holds (bF m (ew m ks)) t k v->Holds (era ks m) t k v:=by
  rintro k v(⟨lv,sl,e,rfl,he,hv,hz⟩|⟨rfl,he⟩)
  .rw[qN]at he;split at he;.obtain⟨e0,_,Xh⟩:=kb.1 he;rw[abk Xh]at hz;cases hz
   grind[bH.fz,bH.au,Cx.mN,aN,cB,Holds]
  .exact .inr ⟨rfl,he⟩
 refine⟨λlv sl e he=>?_,hm0.aK,λk k' v v' L L' a b=>hm0.apart k k' v v' L L' (hh _ _ a) (hh _ _ b),hm0.p7,hm0.Aq⟩;rw[qN]at he;split at he;.rename_i hk;obtain⟨e0,Zx,Xh⟩:=kb.1 he;obtain⟨L,hL,hE⟩:=h.fZ _ _ _ Zx;cases e0 with|box v cs=>cases Xh|mp v ks=>cases Xh|Of v els=>cases Xh;exact⟨L,hL,hE.1,hE.2.ext (qO h ks)⟩|row v els=>
   cases Xh;refine⟨L,hL,hE.1,hE.2.1,λi e j x h1 h2=>?_⟩;obtain⟨u,hu,hd⟩:=hE.2.2.2 i e j x h1 h2;have hc:0<L.cap:=by have:i<els.length:=(cf.1 h1).1;have:=hE.1<;>omega
   refine⟨.inr ⟨(lv,sl),hk,?_⟩,u,hu,hd.ext (qO h ks)⟩;have hL':X.ρ v=some L:=hL;simp[mH,Zx,bH.au,hL',bH.fz,hc]
 .rename_i hn;exact hm0.fZ lv sl e (by rw[afK,be hn];exact he)
theorem Bh{X:Cx}{m:List (Tr bH)}{t:Tr Unit}(h:aH X m t){lv sl au:Nat}{els:List (List D)}(hr:rN m lv sl au=some els):∃L,X.ρ au=some L/\els.length<=L.cap/\eS X.w X.F (λb o=>X.F b o\/mH X m (lv,sl)=some b) els L.b L.o L.sz:=by
 unfold rN at hr;split at hr
 .rename_i v els' hg;split at hr
  .rename_i hv;simp_all;subst hv;obtain⟨L,hL,hE⟩:=h.fZ _ _ _ hg;refine⟨L,hL,hE.1,hE.2.1,λi e j x h1 h2=>⟨.inr ?_,hE.2.2.2 i e j x h1 h2⟩⟩;have hc:0<L.cap:=by grind[oU,bH.au,aN]
   have hL':X.ρ v=some L:=hL;simp[mH,hg,bH.au,hL',bH.fz,hc]
  grind
 .rename_i v els' hg;split at hr;.simp_all;obtain⟨L,hL,hE⟩:=h.fZ _ _ _ hg;grind[oU,bH.au,aN,mH,eS]
  grind
 grind
theorem mQ{X:Cx}{m:List (Tr bH)}{t:Tr Unit}(h:aH X m t){lv sl au:Nat}{els:List (List D)}(hr:rowAt m lv sl au=some els):∃L,X.ρ au=some L/\oU X (.row au els) L/\aN m lv sl=some (.row au els):=by
 unfold rowAt at hr;split at hr
 .rename_i v els' hg;split at hr;.rename_i hv;cases hr;have hv:=beq_true.1 hv;subst hv;obtain⟨L,hL,hE⟩:=h.fZ _ _ _ hg;exact⟨L,hL,hE,hg⟩
  grind
 grind
theorem oU.Xa{X:Cx}{au:Nat}{els:List (List D)}{L:Loc}{R:Nat->Nat->Prop}(h:oU X (.row au els) L)(hR:0<L.cap->∀o,R L.b o):eS X.w X.F R els L.b L.o L.sz:=⟨h.2.1,λi e j x h1 h2=>⟨hR (by grind[oU]) _,h.2.2.2 i e j x h1 h2⟩⟩
theorem eS.ext'{X Y:Cx}(hx:Ext X Y){R:Nat->Nat->Prop}{els:List (List D)}{b o sz:Nat}(h:eS X.w X.F R els b o sz)(hc:∀o,Y.w.cell? ⟨b,o,none⟩=X.w.cell? ⟨b,o,none⟩):eS Y.w Y.F R els b o sz:=⟨h.1,λi e j x h1 h2=>by obtain⟨hF,v,hv,hd⟩:=h.2 i e j x h1 h2;exact⟨hF,v,(hc _).trans hv,hd.ext hx⟩⟩
theorem sw{X:Cx}{m:List (Tr bH)}{t:Tr Unit}(h:aH X m t){x:AV}{els:List (List D)}{v:Value}(he:dG m x=some els)(hv:VR X x v):∃a cap sz b o,v=.slice a els.length cap/\els.length<=cap/\(0<els.length->a=some ⟨b,o,none⟩)/\eS X.w X.F (λb o=>X.F b o\/X.old b\/∃lv sl au off len sz,x=.ref lv sl au off len sz/\mH X m (lv,sl)=some b) els b o sz:=by cases x with
 |d x=>cases x with|sc v=>cases he|er=>cases he|sl els'=>cases he;obtain⟨a,cap,sz,b,o,h1,h2,h3,h4⟩:=vO (.inl rfl) hv<;>grind
 |own els' ow=>cases he;obtain⟨a,cap,sz,b,o,h1,h2,h3,h4⟩:=vO (.inr ⟨_,rfl⟩) hv<;>grind|ref lv sl au off len sz=>simp[dG]at he;cases hr:rN m lv sl au with|none=>grind|some els'=>
   rw[hr]at he;simp only[ae]at he;split at he
   .cases he;obtain⟨L,hL,hE1,hE⟩:=Bh h hr;obtain⟨L',a,cap,hL',h1,h2,h3,h4⟩:=hv;rw[hL]at hL';have hlen:((els'.drop off).take len).length=len:=by grind
    refine⟨a,cap,L.sz,L.b,L.o+off*L.sz,by rw[hlen];exact h2,by omega,λh0=>?_,?_⟩<;>grind[rN,mH,eS]
   grind
 |_=>cases he
theorem Rh{X:Cx}{m:List (Tr bH)}{t:Tr Unit}(h:aH X m t){ks k:List (Nat×Nat)}{x:AV}{y:D}{v:Value}(hx:An m x=some (y,k))(hv:VC X x v)(hk:∀p∈k,p∈ks):DR X.w (X.mN m ks).F y v:=by have hex:=qO h ks;cases x with
 |d x=>cases hx;exact DR.ext hex hv|own els ow=>cases ow with|full=>cases hx;obtain⟨a,b,o,sz,rfl,h3,h4⟩:=hv;exact DR.ja (h4.ext hex) rfl (bc _) h3|cK au tz=>cases hx;obtain⟨a,b,o,sz,cap,rfl,h2,h3,h4,_⟩:=hv;exact DR.ja (h4.ext hex) rfl h2 λh=>h3 (by omega)|bC=>cases hx
 |ref lv sl au off len sz=>simp only[An]at hx;cases he:dG m (.ref lv sl au off len sz)with|none=>grind|some els=>rw[he]at hx;injection hx with hx;injection hx with h1 h2;subst h1;obtain⟨L',a,cap,hL',g1,g2,g3,g4⟩:=hv;simp[dG]at he;cases hr:rN m lv sl au with|none=>grind|some els'=>
    rw[hr]at he;simp only[ae]at he;split at he
    .cases he;obtain⟨L,hL,hE1,hE⟩:=Bh h hr;rw[hL]at hL';cases hL';subst g2;have hlen:((els'.drop off).take len).length=len:=by grind
     have hl:=(hE.region (S:=(X.mN m ks).F) λb o hq=>hq.elim .inl λhq=>.inr ⟨(lv,sl),hk _ (by rw[<-h2];simp),hq⟩).sub off len;exact DR.ja (hl.ext' hex λ_=>rfl) hlen g3 λh0=>by rw[(g4 (by omega)).1,g1]
    grind
 |_=>cases hx
theorem Ga{X:Cx}{m:List (Tr bH)}{t:Tr Unit}(h:aH X m t){ks:List (Nat×Nat)}:∀{xs:List AV}{ys:List D}{k:List (Nat×Nat)}{vs:List Value},DO m xs=some (ys,k)->aE (VC X) xs vs->(∀p∈k,p∈ks)->aE (DR X.w (X.mN m ks).F) ys vs
 |[],ys,k,[],hx,_,_=>by cases hx;trivial|x::xs,ys,k,v::vs,hx,hv,hk=>by
  simp[DO]at hx;split at hx;.rename_i y k1 ys' k2 h1 h2;cases hx;exact⟨Rh h h1 hv.1 λp hp=>hk p (by simp[hp]),Ga h h2 hv.2 λp hp=>hk p (by simp[hp])⟩
  grind|[],_,_,_::_,_,hv,_=>hv.elim|_::_,_,_,[],_,hv,_=>hv.elim
end Go.bM
