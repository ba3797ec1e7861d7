/- Parts of the proof. -/
import Derived.Test.YtclkonemhghbkaaGreatEngF
import Derived.Laws.MakeOwn
import Derived.Laws.Append
import Derived.Laws.AppendOwn
import Derived.Laws.CopyOwn
import Derived.Laws.BytesArg
import Derived.Laws.IdiomStrings
import Derived.MapKept
import Derived.Tactics
set_option linter.unusedVariables false
set_option linter.unusedSimpArgs false
set_option linter.defProp false
namespace Go.bK
open Go Go.RowKit
def gG{α:Type}{sz:Nat}:∀{els:List (List α)},(∀e∈els,e.length=sz)->∀(i j:Nat)(e:List α),els[i]?=some e->j<sz->els.flatten[i*sz+j]?=e[j]?|[],_,i,j,e,h,_=>by simp at h|f::els,hl,0,j,e,h,hj=>by grind|f::els,hl,i+1,j,e,h,hj=>by simp[ph];have hf:=hl f (by simp);rw[kw (by rw[hf,d9];omega),hf,show(i+1)*sz+j-sz=i*sz+j by rw[d9];omega];exact gG (λe he=>hl e (by simp[he])) i j e (by simpa using h) hj
def bg{α:Type}{sz:Nat}:∀{els:List (List α)},(∀e∈els,e.length=sz)->els.flatten.length=els.length*sz|[],_=>by simp|f::els,hl=>by simp only[ph,bb,fd,d9];rw[bg (λe he=>hl e (by simp[he])),hl f (by simp)];omega
def BR{α:Type}(a b:List (List α)):(a++b).flatten=a.flatten++b.flatten:=by simp
def tM{α:Type}{sz:Nat}:∀{els:List (List α)},(∀e∈els,e.length=sz)->∀(i:Nat)(e:List α),i<els.length->e.length=sz->(els.set i e).flatten=splice els.flatten (i*sz) e|[],_,i,e,h,_=>by simp at h|f::els,hl,0,e,_,he=>by grind[splice]|f::els,hl,i+1,e,h,he=>by have hf:=hl f (by simp);simp[List.set_cons_succ,ph];rw[tM (λe he=>hl e (by simp[he])) i e (by simpa using h) he];unfold splice;rw[show(i+1)*sz=f.length+i*sz by rw[d9];omega];rw[List.take_append,fx (l:=f) (by omega)];rw[ww,py (l:=f) (by omega),show f.length+i*sz+e.length-f.length=i*sz+e.length by omega];simp[bi]
def xz{w:World}{F R:Nat->Nat->Prop}{els:List (List D)}{b o sz:Nat}{C:Array Value}{e:TypeId}{vs:List Value}(hb:w.heap[b]?=some (.cells C e (0,0)))(hl:∀e∈els,e.length=sz)(hv:∀j v,vs[j]?=some v->C[o+j]?=some v)(h:aC (DR w F) els.flatten vs)(hR:∀k,k<els.length*sz->R b (o+k)):eX w F R els b o sz:=by
 refine⟨hl,λi e j x h1 h2=>?_⟩;have hj:j<sz:=by grind
 have hg:=gG hl i j e h1 hj;rw[h2]at hg;obtain⟨v,h3,h4⟩:=h.get _ _ hg;have hlt:i*sz+j<els.length*sz:=by have:=(cb.1 hg).1;rwa[bg hl]at this
 rw[eK];exact⟨hR _ hlt,v,by rw[cell_of_row _ _ _ _ _ _ hb];exact hv _ _ h3,h4⟩
def rR{w:World}{F R:Nat->Nat->Prop}{els:List (List D)}{b o sz:Nat}(h:eX w F R els b o sz):∃vs:List Value,(∀j v,vs[j]?=some v->w.cell? ⟨b,o+j,none⟩=some v)/\aC (DR w F) els.flatten vs:=by
 refine CB els.flatten λk x hk=>?_;have hlen:=bg h.1;have hk':k<els.length*sz:=by grind
 have hsz:0<sz:=Nat.pos_of_ne_zero λe=>by subst e;omega
 have hi:k/sz<els.length:=(Nat.div_lt_iff_lt_mul hsz).2 hk';have hj:k%sz<sz:=vx _ hsz;have he:els[k/sz]?=some els[k/sz]:=aw hi;have hg:=gG h.1 (k/sz) (k%sz) _ he hj;have hkk:k/sz*sz+k%sz=k:=by rw[y0];exact Nat.div_add_mod k sz
 grind[eX]
def Cx.alloc(X:Cx)(C:Array Value)(e:TypeId)(v:Nat)(L:Loc):Cx:={X with w:=X.w.alloc (.cells C e),ρ:=λu=>if u=v then some L else X.ρ u}
def aF.dh{X:Cx}{m:List (Tr bq)}{t:Tr Unit}(h:aF X m t){k:Nat×Nat×Nat}{v:Nat}(hk:Holds m t k v):∃L,X.ρ v=some L/\(0<L.cap->L.b<X.w.heap.size/\¬X.old L.b):=by
 rcases hk with⟨lv,sl,e,_,he,rfl,hz⟩|⟨_,he⟩;.obtain⟨L,hL,hE⟩:=h.fE lv sl e he;refine⟨L,hL,λhc=>?_⟩;cases e with|MY _ _=>cases hz|row _ _=>exact⟨(hE.2.2.1 hc).1.lt,(hE.2.2.1 hc).1.1⟩|box _ _=>exact⟨hE.2.1.lt,hE.2.1.1⟩|mp _ _=>grind[oV,bq.ak,bq.fz,aH,bU]
 .obtain⟨L,hL,hT⟩:=h.aI v he;exact⟨L,hL,λhc=>⟨(hT hc).1.lt,(hT hc).1.1⟩⟩
def rS{w:World}{b o:Nat}{ob:Obj}(h:b<w.heap.size):(w.alloc ob).cell? ⟨b,o,none⟩=w.cell? ⟨b,o,none⟩:=World.cell?_alloc_lt w ob ⟨b,o,none⟩ h
def Ext.alloc{X:Cx}{C:Array Value}{e:TypeId}{v:Nat}{L:Loc}(hin:∀b o,X.F b o->b<X.w.heap.size)(mD:∀b,X.old b->b<X.w.heap.size)(hv:X.ρ v=none):Ext X (X.alloc C e v L):=⟨rfl,(fq.refl _ _).alloc mD _,λ_ _ h=>h,λb o h=>rS (hin b o h),λu M hu=>by grind[Cx.alloc],λ_ _ h=>.inl h⟩
def aF.alloc{X:Cx}{m:List (Tr bq)}{t:Tr Unit}{C:Array Value}{e:TypeId}{v:Nat}{L:Loc}(h:aF X m t)(hv:X.ρ v=none):aF (X.alloc C e v L) m t:=h.move (Ext.alloc h.nG h.low hv) (λk u M hk hu hc=>by obtain⟨M',kR,h2⟩:=h.dh hk;rw[hu]at kR;cases kR;exact heap_alloc_old _ _ _ (h2 hc).1) (λ_ _ _ _ _ _ _ h=>h) (λb o hb=>by have:=h.nG b o hb;show b<(X.w.alloc _).heap.size;rw[World.size_alloc];omega)
def Cx.more(X:Cx)(G:Nat->Nat->Prop):Cx:={X with F:=λb o=>X.F b o\/G b o}
def Ext.more{X:Cx}{G:Nat->Nat->Prop}(hG:∀b o,G b o->¬X.old b):Ext X (X.more G):=⟨rfl,fq.refl _ _,λ_ _=>.inl,λ_ _ _=>rfl,λ_ _ h=>h,λb o h=>h.elim .inl λh=>.inr (hG b o h)⟩
def aF.more{X:Cx}{m:List (Tr bq)}{t:Tr Unit}{G:Nat->Nat->Prop}(h:aF X m t)(hG:∀b o,G b o->¬X.old b/\b<X.w.heap.size)(hk:∀k v L o,Holds m t k v->X.ρ v=some L->0<L.cap->¬G L.b o):aF (X.more G) m t:=h.move (Ext.more λb o h=>(hG b o h).1) (λ_ _ _ _ _ _=>rfl) (λk v L o a b c h=>h.elim id λh=>absurd h (hk k v L o a b c)) λb o hb=>hb.elim (h.nG b o) λhb=>(hG b o hb).2
def nj(X:Cx)(m:List (Tr bq))(k:Nat×Nat):Option Nat:=(aH m k.1 k.2).bind λe=>(X.ρ e.ak).bind λL=>if 0<L.cap/\e.fz=false then some L.b else none
def Cx.nD(X:Cx)(m:List (Tr bq))(ks:List (Nat×Nat)):Cx:=X.more λb _=>∃k∈ks,nj X m k=some b
def lM{X:Cx}{m:List (Tr bq)}{k:Nat×Nat}{b:Nat}(h:nj X m k=some b):∃e L,aH m k.1 k.2=some e/\X.ρ e.ak=some L/\0<L.cap/\L.b=b/\e.fz=false:=by unfold nj at h;cases he:aH m k.1 k.2with|none=>grind|some e=>rw[he]at h;cases hL:X.ρ e.ak with|none=>grind|some L=>grind
def vL(m0:List (Tr bq)):∀(ks:List (Nat×Nat))(m:List (Tr bq))(lv sl:Nat),m.length=m0.length->aH (aT m (eW m0 ks)) lv sl=if(lv,sl)∈ks then(aH m0 lv sl).bind bq.nD else aH m lv sl
 |[],m,lv,sl,_=>by simp[eW,aT]|k::ks,m,lv,sl,hl0=>by
  have ih:=vL m0 ks (bJ m k.1 k.2 ((aH m0 k.1 k.2).bind bq.nD)) lv sl (by simpa[bJ]using hl0);simp[eW,f1,aT]at ih⊢;rw[ih];by_cases h1:(lv,sl)∈ks;.simp[h1]
  .simp[h1,ns,dj,km];rw[cO];by_cases h2:(lv,sl)=k
   .subst h2;simp only[i5,true_and];split;.rfl
    .unfold aH;rw[d8 (by omega),d8 (by omega)];rfl
   .rw[be h2,be];rintro⟨rfl,rfl,_⟩;exact h2 rfl
def rT(ks:List (Nat×Nat))(m:List (Tr bq))(lv sl:Nat):aH (aT m (eW m ks)) lv sl=if(lv,sl)∈ks then(aH m lv sl).bind bq.nD else aH m lv sl:=vL m ks m lv sl rfl
def aet{e e':bq}(h:e.nD=some e'):e'.fz=true:=by cases e<;>simp only[bq.nD]at h<;>first|(cases h;rfl)|cases h
def rU{X:Cx}{m:List (Tr bq)}{t:Tr Unit}(h:aF X m t)(ks:List (Nat×Nat)):Ext X (X.nD m ks):=Ext.more λb _⟨k,_,hb⟩=>by obtain⟨e,L,he,hL,hc,rfl,hz⟩:=lM hb;obtain⟨L',hL',h2⟩:=h.dh (.inl ⟨k.1,k.2,e,rfl,he,rfl,hz⟩)<;>grind
def HY{X:Cx}{m:List (Tr bq)}{t:Tr Unit}(h:aF X m t)(ks:List (Nat×Nat)):aF (X.nD m ks) (aT m (eW m ks)) t:=by
 let era:List (Nat×Nat)->List (Tr bq)->List (Tr bq):=λks m=>aT m (ks.map λk=>(k.1,k.2,none));have aju:∀(ks:List (Nat×Nat))(m:List (Tr bq))(lv sl:Nat),aH (era ks m) lv sl=if(lv,sl)∈ks then none else aH m lv sl:=by intro ks;induction ks with|nil=>simp[era,aT]|cons k ks ih=>
   intro m lv sl;simp[era,f1,aT]at ih⊢;rw[ih];by_cases h1:(lv,sl)∈ks;.simp[h1]
   .rw[cO]<;>grind[aT,bJ,aH]
 have CF:aF X (era ks m) t:=h.less (λlv sl e he=>by
  rw[aju]at he;split at he;.cases he
  .exact he) λ_ h=>h;have hm0:aF (X.nD m ks) (era ks m) t:=by
  refine CF.more (λb o⟨k,_,hb⟩=>?_) λk v L o hk hv hc⟨k',hk',hb⟩=>?_;.obtain⟨e,L,he,hL,hc,rfl,hz⟩:=lM hb;obtain⟨L',hL',h2⟩:=h.dh (.inl ⟨k.1,k.2,e,rfl,he,rfl,hz⟩)<;>grind
  .obtain⟨e,M,he,hM,xj,hMb,hz⟩:=lM hb;have hh:Holds m t k v/\k≠bU k'.1 k'.2:=by
    rcases hk with⟨lv,sl,e',rfl,he',nh⟩|⟨rfl,he'⟩;.grind[bq.fz,bq.ak,nj,aH,bU,Holds]
    .exact⟨.inr ⟨rfl,he'⟩,λhq=>dW hq.symm⟩
   exact h.apart _ _ _ _ _ _ hh.1 (.inl ⟨k'.1,k'.2,e,rfl,he,rfl,hz⟩) hh.2 hv hM hc xj hMb.symm
 have hh:∀k v,Holds (aT m (eW m ks)) t k v->Holds (era ks m) t k v:=by
  rintro k v(⟨lv,sl,e,rfl,he,hv,hz⟩|⟨rfl,he⟩)
  .rw[rT]at he;split at he;.obtain⟨e0,_,Z9⟩:=lr.1 he;rw[aet Z9]at hz;cases hz
   grind[bq.fz,bq.ak,Cx.nD,aH,bU,Holds]
  .exact .inr ⟨rfl,he⟩
 refine⟨λlv sl e he=>?_,hm0.aI,λk k' v v' L L' a b=>hm0.apart k k' v v' L L' (hh _ _ a) (hh _ _ b),hm0.nG,hm0.pX⟩;rw[rT]at he;split at he;.rename_i hk;obtain⟨e0,he1,Z9⟩:=lr.1 he;obtain⟨L,hL,hE⟩:=h.fE _ _ _ he1;cases e0 with|box v cs=>cases Z9|mp v ks=>cases Z9|MY v els=>cases Z9;exact⟨L,hL,hE.1,hE.2.ext (rU h ks)⟩|row v els=>
   cases Z9;refine⟨L,hL,hE.1,hE.2.1,λi e j x h1 h2=>?_⟩;obtain⟨u,hu,hd⟩:=hE.2.2.2 i e j x h1 h2;have hc:0<L.cap:=by have:i<els.length:=(cb.1 h1).1;have:=hE.1<;>omega
   refine⟨.inr ⟨(lv,sl),hk,?_⟩,u,hu,hd.ext (rU h ks)⟩;have hL':X.ρ v=some L:=hL;simp[nj,he1,bq.ak,hL',bq.fz,hc]
 .rename_i hn;exact hm0.fE lv sl e (by rw[aju,be hn];exact he)
def CG{X:Cx}{m:List (Tr bq)}{t:Tr Unit}(h:aF X m t){lv sl ak:Nat}{els:List (List D)}(hr:qJ m lv sl ak=some els):∃L,X.ρ ak=some L/\els.length<=L.cap/\eX X.w X.F (λb o=>X.F b o\/nj X m (lv,sl)=some b) els L.b L.o L.sz:=by
 unfold qJ at hr;split at hr
 .rename_i v els' hg;split at hr
  .rename_i hv;simp_all;subst hv;obtain⟨L,hL,hE⟩:=h.fE _ _ _ hg;refine⟨L,hL,hE.1,hE.2.1,λi e j x h1 h2=>⟨.inr ?_,hE.2.2.2 i e j x h1 h2⟩⟩;have hc:0<L.cap:=by grind[oV,bq.ak,aH]
   have hL':X.ρ v=some L:=hL;simp[nj,hg,bq.ak,hL',bq.fz,hc]
  grind
 .rename_i v els' hg;split at hr;.simp_all;obtain⟨L,hL,hE⟩:=h.fE _ _ _ hg;grind[oV,bq.ak,aH,nj,eX]
  grind
 grind
def nI{X:Cx}{m:List (Tr bq)}{t:Tr Unit}(h:aF X m t){lv sl ak:Nat}{els:List (List D)}(hr:rowAt m lv sl ak=some els):∃L,X.ρ ak=some L/\oV X (.row ak els) L/\aH m lv sl=some (.row ak els):=by
 unfold rowAt at hr;split at hr
 .rename_i v els' hg;split at hr;.rename_i hv;cases hr;have hv:=beq_true.1 hv;subst hv;obtain⟨L,hL,hE⟩:=h.fE _ _ _ hg;exact⟨L,hL,hE,hg⟩
  grind
 grind
def oV.Z2{X:Cx}{ak:Nat}{els:List (List D)}{L:Loc}{R:Nat->Nat->Prop}(h:oV X (.row ak els) L)(hR:0<L.cap->∀o,R L.b o):eX X.w X.F R els L.b L.o L.sz:=⟨h.2.1,λi e j x h1 h2=>⟨hR (by grind[oV]) _,h.2.2.2 i e j x h1 h2⟩⟩
def eX.ext'{X Y:Cx}(hx:Ext X Y){R:Nat->Nat->Prop}{els:List (List D)}{b o sz:Nat}(h:eX X.w X.F R els b o sz)(hc:∀o,Y.w.cell? ⟨b,o,none⟩=X.w.cell? ⟨b,o,none⟩):eX Y.w Y.F R els b o sz:=⟨h.1,λi e j x h1 h2=>by obtain⟨hF,v,hv,hd⟩:=h.2 i e j x h1 h2;exact⟨hF,v,(hc _).trans hv,hd.ext hx⟩⟩
def o7{X:Cx}{m:List (Tr bq)}{t:Tr Unit}(h:aF X m t){x:AV}{els:List (List D)}{v:Value}(he:dL m x=some els)(hv:VR X x v):∃a cap sz b o,v=.slice a els.length cap/\els.length<=cap/\(0<els.length->a=some ⟨b,o,none⟩)/\eX X.w X.F (λb o=>X.F b o\/X.old b\/∃lv sl ak off len sz,x=.ref lv sl ak off len sz/\nj X m (lv,sl)=some b) els b o sz:=by cases x with
 |d x=>cases x with|sc v=>cases he|er=>cases he|sl els'=>cases he;obtain⟨a,cap,sz,b,o,h1,h2,h3,h4⟩:=xx (.inl rfl) hv<;>grind
 |own els' ow=>cases he;obtain⟨a,cap,sz,b,o,h1,h2,h3,h4⟩:=xx (.inr ⟨_,rfl⟩) hv<;>grind|ref lv sl ak off len sz=>simp[dL]at he;cases hr:qJ m lv sl ak with|none=>grind|some els'=>
   rw[hr]at he;simp only[ae]at he;split at he
   .cases he;obtain⟨L,hL,hE1,hE⟩:=CG h hr;obtain⟨L',a,cap,hL',h1,h2,h3,h4⟩:=hv;rw[hL]at hL';have hlen:((els'.drop off).take len).length=len:=by grind
    refine⟨a,cap,L.sz,L.b,L.o+off*L.sz,by rw[hlen];exact h2,by omega,λh0=>?_,?_⟩<;>grind[qJ,nj,eX]
   grind
 |_=>cases he
def TP{X:Cx}{m:List (Tr bq)}{t:Tr Unit}(h:aF X m t){ks k:List (Nat×Nat)}{x:AV}{y:D}{v:Value}(hx:BO m x=some (y,k))(hv:VC X x v)(hk:∀p∈k,p∈ks):DR X.w (X.nD m ks).F y v:=by have hex:=rU h ks;cases x with
 |d x=>cases hx;exact DR.ext hex hv|own els ow=>cases ow with|full=>cases hx;obtain⟨a,b,o,sz,rfl,h3,h4⟩:=hv;exact DR.gF (h4.ext hex) rfl (bc _) h3|cR ak tz=>cases hx;obtain⟨a,b,o,sz,cap,rfl,h2,h3,h4,_⟩:=hv;exact DR.gF (h4.ext hex) rfl h2 λh=>h3 (by omega)|bG=>cases hx
 |ref lv sl ak off len sz=>simp only[BO]at hx;cases he:dL m (.ref lv sl ak off len sz)with|none=>grind|some els=>rw[he]at hx;injection hx with hx;injection hx with h1 h2;subst h1;obtain⟨L',a,cap,hL',g1,g2,g3,g4⟩:=hv;simp[dL]at he;cases hr:qJ m lv sl ak with|none=>grind|some els'=>
    rw[hr]at he;simp only[ae]at he;split at he
    .cases he;obtain⟨L,hL,hE1,hE⟩:=CG h hr;rw[hL]at hL';cases hL';subst g2;have hlen:((els'.drop off).take len).length=len:=by grind
     have hl:=(hE.region (S:=(X.nD m ks).F) λb o hq=>hq.elim .inl λhq=>.inr ⟨(lv,sl),hk _ (by rw[<-h2];simp),hq⟩).sub off len;exact DR.gF (hl.ext' hex λ_=>rfl) hlen g3 λh0=>by rw[(g4 (by omega)).1,g1]
    grind
 |_=>cases hx
def HZ{X:Cx}{m:List (Tr bq)}{t:Tr Unit}(h:aF X m t){ks:List (Nat×Nat)}:∀{xs:List AV}{ys:List D}{k:List (Nat×Nat)}{vs:List Value},Fh m xs=some (ys,k)->aC (VC X) xs vs->(∀p∈k,p∈ks)->aC (DR X.w (X.nD m ks).F) ys vs
 |[],ys,k,[],hx,_,_=>by cases hx;trivial|x::xs,ys,k,v::vs,hx,hv,hk=>by
  simp[Fh]at hx;split at hx;.rename_i y k1 ys' k2 h1 h2;cases hx;exact⟨TP h h1 hv.1 λp hp=>hk p (by simp[hp]),HZ h h2 hv.2 λp hp=>hk p (by simp[hp])⟩
  grind|[],_,_,_::_,_,hv,_=>hv.elim|_::_,_,_,[],_,hv,_=>hv.elim
def fL(X Y:Cx)(aP n n':Nat):Prop:=n<=n'/\∀v L,Y.ρ v=some L->X.ρ v=some L\/v=aP\/(n<=v/\v<n')
def lg{X:Cx}{C:Array Value}{e:TypeId}{v:Nat}{L:Loc}{n:Nat}:fL X (X.alloc C e v L) v n n:=⟨bc _,λu M h=>by grind[Cx.alloc]⟩
def fL.refl(X:Cx)(v n:Nat):fL X X v n n:=⟨bc _,λ_ _ h=>.inl h⟩
section
variable{X:Cx}{m:List (Tr bq)}{t:Tr Unit}
def nJ(X:Cx)(C:Array Value)(e:TypeId)(v:Nat)(L:Loc):(X.alloc C e v L).w.heap[X.w.heap.size]?=some (.cells C e (0,0)):=heap_alloc_new _ _
def tN(X:Cx)(C:Array Value)(e:TypeId)(v:Nat)(L:Loc):(X.alloc C e v L).ρ v=some L:=ba rfl
def oL(h:aF X m t){C:Array Value}{e:TypeId}{v:Nat}{L:Loc}(hv:X.ρ v=none){k:Nat×Nat×Nat}{u:Nat}{M:Loc}(hk:Holds m t k u)(hu:(X.alloc C e v L).ρ u=some M)(hc:0<M.cap):M.b≠X.w.heap.size:=by obtain⟨M',kR,h2⟩:=h.dh hk<;>grind[Cx.alloc,Holds]
def Pp(h:aF X m t){C:Array Value}{e:TypeId}{v:Nat}{cs:List AV}(lv sl:Nat)(hv:X.ρ v=none)(hc:aC (VC X) cs C.toList):aF (X.alloc C e v ⟨X.w.heap.size,0,C.size,1⟩) (bJ m lv sl (some (.box v cs))) t:=by
 have hx:Ext X (X.alloc C e v ⟨X.w.heap.size,0,C.size,1⟩):=Ext.alloc h.nG h.low hv;refine(h.alloc hv).add (L:=⟨X.w.heap.size,0,C.size,1⟩) (tN _ _ _ _ _) ⟨rfl,⟨h.fresh,C,e,nJ _ _ _ _ _,by have:=hc.length;simp at this⊢;omega⟩,λo ho=>?_,λj x hj=>?_⟩ λk u M hk _ hu hc _=>oL h hv hk hu hc;.exact mr _ (h.nG _ _ ho)
 .obtain⟨u,hu,hr⟩:=hc.get _ _ hj;refine⟨u,?_,hr.ext hx⟩<;>simp_all[aC,VC,Cx.alloc]
def H6(h:aF X m t){C:Array Value}{e:TypeId}{v:Nat}{els:List (List D)}{sz cap:Nat}{vs:List Value}(lv sl:Nat)(hv:X.ρ v=none)(hl:∀e∈els,e.length=sz)(hC:cap*sz<=C.size)(hle:els.length<=cap)(hvs:∀(j:Nat)(u:Value),vs[j]?=some u->C[j]?=some u)(hd:aC (DR X.w X.F) els.flatten vs):aF (X.alloc C e v ⟨X.w.heap.size,0,sz,cap⟩) (bJ m lv sl (some (.row v els))) t:=by
 have hx:Ext X (X.alloc C e v ⟨X.w.heap.size,0,sz,cap⟩):=Ext.alloc h.nG h.low hv;refine(h.alloc hv).add (L:=⟨X.w.heap.size,0,sz,cap⟩) (tN _ _ _ _ _) ⟨hle,hl,λ_=>⟨⟨h.fresh,C,e,nJ _ _ _ _ _,by simpa using hC⟩,λo ho=>?_⟩,λi f j x h1 h2=>?_⟩ λk u M hk _ hu hc _=>oL h hv hk hu hc;.exact mr _ (h.nG _ _ ho)
 .have:=xz (R:=λ_ _=>True) (o:=0) (nJ X C e v ⟨X.w.heap.size,0,sz,cap⟩) hl (λj u hj=>by rw[jn];exact hvs j u hj) (hd.mono λ_ _=>DR.ext hx) (λ_ _=>trivial);grind[eX,aC,Cx.alloc]
def Pq(h:aF X m t){C:Array Value}{e:TypeId}{v:Nat}{els:List (List D)}{sz cap:Nat}{vs:List Value}(hv:X.ρ v=none)(hl:∀e∈els,e.length=sz)(hC:cap*sz<=C.size)(hle:els.length<=cap)(hvs:∀(j:Nat)(u:Value),vs[j]?=some u->C[j]?=some u)(hd:aC (DR X.w X.F) els.flatten vs):let Y:=(X.alloc C e v ⟨X.w.heap.size,0+els.length*sz,sz,cap-els.length⟩).more λb o=>b=X.w.heap.size/\o<els.length*sz;Ext X Y/\aF Y m (t.set v (some ()))/\eX Y.w Y.F Y.F els X.w.heap.size 0 sz/\fL X Y v 0 0:=by
 intro Y;let Z:=X.alloc C e v ⟨X.w.heap.size,0+els.length*sz,sz,cap-els.length⟩;have hz:Ext X Z:=Ext.alloc h.nG h.low hv;have hm:Ext Z Y:=Ext.more λb o hb=>by rw[hb.1];exact h.fresh
 have hmem:aF Y m t:=(h.alloc hv).more (λb o hb=>⟨by rw[hb.1];exact h.fresh,by rw[hb.1];show _<(X.w.alloc _).heap.size;rw[World.size_alloc];omega⟩) λk u M o hk hu hc hb=>oL (C:=C) (e:=e) (L:=⟨X.w.heap.size,0+els.length*sz,sz,cap-els.length⟩) h hv hk hu hc hb.1;refine⟨hz.trans hm,hmem.Z3 (L:=⟨X.w.heap.size,0+els.length*sz,sz,cap-els.length⟩) (tN X C e v _) (λhc=>⟨⟨h.fresh,C,e,nJ X C e v ⟨X.w.heap.size,0+els.length*sz,sz,cap-els.length⟩,?_⟩,λo ho hF=>?_⟩) (λk u M hk _ hu hc _=>oL (C:=C) (e:=e) (L:=⟨X.w.heap.size,0+els.length*sz,sz,cap-els.length⟩) h hv hk hu hc),?_,⟨bc _,λu M hu=>?_⟩⟩;.rw[jn,<-d9,Nat.add_sub_cancel' hle]<;>omega
 .rcases hF with hF|hF;.exact mr _ (h.nG _ _ hF)
  grind
 .exact xz (o:=0) (nJ X C e v ⟨X.w.heap.size,0+els.length*sz,sz,cap-els.length⟩) hl (λj u hj=>by rw[jn];exact hvs j u hj) (hd.mono λ_ _=>DR.ext (hz.trans hm)) (λk hk=>.inr ⟨rfl,by omega⟩)
 .exact(lg (C:=C) (e:=e) (n:=0)).2 u M hu
def Cx.set(X:Cx)(g:Nat)(C:Array Value):Cx:={X with w:=X.w.setRow g C}
def ji{g:Nat}{C C':Array Value}{e:TypeId}(hg:X.w.heap[g]?=some (.cells C e (0,0))):(X.set g C').w.heap[g]?=some (.cells C' e (0,0)):=setRow_heap _ _ _ _ _ _ hg
def vh{g:Nat}{C C':Array Value}{e:TypeId}(hg:X.w.heap[g]?=some (.cells C e (0,0)))(hb:¬X.old g)(hF:∀o,X.F g o->C'[o]?=C[o]?):Ext X (X.set g C'):=by
 refine⟨rfl,(fq.refl _ _).setRow hb _,λ_ _ h=>h,λb o h=>?_,λ_ _ h=>h,λ_ _ h=>.inl h⟩;by_cases hbg:b=g;.subst hbg;rw[cell_of_row _ _ _ _ _ _ (ji hg),cell_of_row _ _ _ _ _ _ hg]<;>grind
 .have:=setRow_other X.w g b C' hbg;simp[World.cell?,Cx.set,this]
def xA(h:aF X m t){g:Nat}{C C':Array Value}{e:TypeId}(hg:X.w.heap[g]?=some (.cells C e (0,0)))(hb:¬X.old g)(hF:∀o,X.F g o->C'[o]?=C[o]?)(hk:∀k v L,Holds m t k v->X.ρ v=some L->0<L.cap->L.b≠g):aF (X.set g C') m t:=h.move (vh hg hb hF) (λk v L a b c=>setRow_other X.w g L.b C' (hk k v L a b c)) (λ_ _ _ _ _ _ _ h=>h) λb o hb=>by have:=h.nG b o hb<;>simp_all[Holds,Cx.set]
end
def hU.val:hU->AV|.bT e=>e.val|.all v _ _ _ _ _=>v
def dF(P:Program)(X:Cx)(s:St)(a:Act)(o:Oper)(dst:Option Nat)(aP:Nat)(r:hU):Prop:=∀(K:Act->World->Prop)(Q:Exit->Act->World->Prop),(∀Y v,Ext X Y->VR Y r.val v->aF Y (s.app dst r).mem (s.app dst r).aI->fL X Y aP s.nv (s.app dst r).nv->K (a.put o.dst v) Y.w)->Oper.wp P o a X.w K Q
section
variable{P:Program}{X:Cx}{nt:NT}{s:St}{a:Act}{o:Oper}{dst:Option Nat}{aP:Nat}
def dF.value{r:hU}{Y:Cx}{v:Value}(hrun:(execOp a.eval o).run P X.w=.ok (.value v) Y.w)(hx:Ext X Y)(hv:VR Y r.val v)(hm:aF Y (s.app dst r).mem (s.app dst r).aI)(hd:fL X Y aP s.nv (s.app dst r).nv):dF P X s a o dst aP r:=by intro K Q h;unfold Oper.wp;rw[hrun];exact h Y v hx hv hm hd
def dF.skip{r:hU}{Y:Cx}(hrun:(execOp a.eval o).run P X.w=.ok .skip Y.w)(hx:Ext X Y)(hv:VR Y r.val undef)(hm:aF Y (s.app dst r).mem (s.app dst r).aI)(hd:fL X Y aP s.nv (s.app dst r).nv):dF P X s a o dst aP r:=by intro K Q h;unfold Oper.wp;rw[hrun];exact h Y undef hx hv hm hd
def dF.quiet{val:AV}{rd:List (Nat×Nat×Nat)}(hs:fI X nt s a)(h:Quiet P X o a val):dF P X s a o dst aP (.bT {val,dn:=[],cR:=[],rd}):=by obtain⟨v,hrun,hv⟩:=h;exact .value hrun (Ext.refl X) hv hs.mem (fL.refl _ _ _)
def jW{t:TypeId}{z:List Value}(h:oX P t=some z):∃i v,P.info? t=some i/\i.zero=some v/\z=v.cells.toList:=by unfold oX at h;cases hi:P.info? t with|none=>grind|some i=>rw[hi]at h;cases hz:i.zero with|none=>grind|some v=>grind
def FT{lq:Nat}(hs:fI X nt s a)(hv:X.ρ aP=none){d:Nat}{C:Array Value}{e:TypeId}{cs:List AV}{rd:List (Nat×Nat×Nat)}(hrun:(execOp a.eval o).run P X.w=.ok (.value (.pointer (some ⟨X.w.heap.size,0,none⟩))) (X.w.alloc (.cells C e)))(hc:aC (VC X) cs C.toList):dF P X s a o dst aP (.bT {val:=.ptr lq d aP 0 0,dn:=[(lq,d,some (.box aP cs))],cR:=[],rd}):=.value (Y:=X.alloc C e aP ⟨X.w.heap.size,0,C.size,1⟩) hrun (Ext.alloc hs.mem.nG hs.mem.low hv) ⟨_,tN _ _ _ _ _,by simp⟩ (Pp hs.mem _ _ hv hc) lg
def CH{lq:Nat}(hs:fI X nt s a)(hv:X.ρ aP=none){t:TypeId}{z:List Value}{cs:List AV}{d:Nat}{rd:List (Nat×Nat×Nat)}(ho:o.op=.alloc t)(hz:oX P t=some z)(hc:gp z=some cs):dF P X s a o dst aP (.bT {val:=.ptr lq d aP 0 0,dn:=[(lq,d,some (.box aP cs))],cR:=[],rd}):=by obtain⟨i,v,hi,H7,rfl⟩:=jW hz;refine FT hs hv (C:=v.cells) (e:=t) ?_ (ni hc);simp[execOp,ho,Instr.alloc,zeroValue,typeInfo,hi,H7,newVar,newRow]
def TQ{lq:Nat}(hs:fI X nt s a)(hv:X.ρ aP=none){t:TypeId}{x:Operand}{x':cu}{cs:List AV}{d:Nat}{rd:List (Nat×Nat×Nat)}(ho:o.op=.box t x)(hx:dD x=some x')(hc:cellsOf (x'.ev s.slots)=some cs):dF P X s a o dst aP (.bT {val:=.ptr lq d aP 0 0,dn:=[(lq,d,some (.box aP cs))],cR:=[],rd}):=by refine FT hs hv (C:=(a.eval x).cells) (e:=t) ?_ (o6 hc (bC hs hx));simp[execOp,ho,Instr.box,newVar,newRow]
def Pr{X:Cx}:∀{cs:List AV}{ds:List D}{vs:List Value},vW cs=some ds->aC (VC X) cs vs->aC (DR X.w X.F) ds vs|[],ds,[],h,_=>by simp only[vW]at h;injection h with h;subst h;trivial|.d x::r,ds,v::vs,h,hv=>by simp only[vW]at h;obtain⟨ys,h1,rfl⟩:=fb.1 h;exact⟨hv.1,Pr h1 hv.2⟩|[],_,_::_,_,hv=>hv.elim|.d _::_,_,[],_,hv=>hv.elim|.own _ _::_,_,_,h,_=>by simp[vW]at h|.agg _::_,_,_,h,_=>by simp[vW]at h|.fk _::_,_,_,h,_=>by simp[vW]at h|.ref ..::_,_,_,h,_=>by simp[vW]at h|.ptr ..::_,_,_,h,_=>by simp[vW]at h|.dx ..::_,_,_,h,_=>by simp[vW]at h|.eZ ..::_,_,_,h,_=>by simp[vW]at h|.fG ..::_,_,_,h,_=>by simp[vW]at h|.mp ..::_,_,_,h,_=>by simp[vW]at h
def aae(hs:fI X nt s a)(hv:X.ρ aP=none){t:TypeId}{x:Operand}{x':cu}{cs:List AV}{ds:List D}(ho:o.op=.box t x)(hx:dD x=some x')(hc:cellsOf (x'.ev s.slots)=some cs)(hd:vW cs=some ds):dF P X s a o dst aP (.bT {val:=.eZ ds 0,dn:=[],cR:=[],rd:=[]}):=by
 have hcs:=Pr hd (o6 hc (bC hs hx));let C:=(a.eval x).cells;let L:Loc:=⟨X.w.heap.size,0,C.size,1⟩;let Z:=X.alloc C t aP L;have hz:Ext X Z:=Ext.alloc hs.mem.nG hs.mem.low hv;let Y:=Z.more λb _=>b=X.w.heap.size;have hm:Ext Z Y:=Ext.more λb o hb=>by rw[hb];exact hs.mem.fresh
 have hsz:X.w.heap.size<Z.w.heap.size:=by show _<(X.w.alloc _).heap.size;rw[World.size_alloc];omega
 have hmem:aF Y s.mem s.aI:=(hs.mem.alloc hv).more (λb o hb=>⟨by rw[hb];exact hs.mem.fresh,by rw[hb];exact hsz⟩) λk u M o hk hu hc hb=>oL (C:=C) (e:=t) (L:=L) hs.mem hv hk hu hc hb;refine .value (Y:=Y) (v:=.pointer (some ⟨X.w.heap.size,0,none⟩)) ?_ (hz.trans hm) ⟨X.w.heap.size,0,by simp,λj x hj=>?_⟩ hmem ⟨bc _,λu M hu=>?_⟩;.simp[execOp,ho,Instr.box,newVar,newRow];rfl
 .obtain⟨u,hu,hr⟩:=hcs.get _ _ hj;refine⟨.inl (.inr rfl),u,?_,hr.ext (hz.trans hm)⟩;show(X.alloc C t aP L).w.cell? _=_;rw[cell_of_row _ _ _ _ _ _ (nJ X C t aP L),jn];simpa using hu
 .exact(lg (X:=X) (C:=C) (e:=t) (v:=aP) (L:=L) (n:=s.nv)).2 u M hu
def aC.one{X:Cx}:∀{cs:List AV}{vs:List Value},aC (VC X) cs vs->∀v∈vs,v.oneCell'=true
 |[],[],_,v,h=>by cases h|_::_,_::_,h,v,hv=>by
  rcases dj.1 hv with rfl|hv;.exact VC.one h.1
  .exact aC.one h.2 v hv|[],_::_,h,_,_=>h.elim|_::_,[],h,_,_=>h.elim
def aC.aaf{w:World}{F:Nat->Nat->Prop}:∀{cs:List D}{vs:List Value},aC (DR w F) cs vs->∀v∈vs,v.oneCell'=true
 |[],[],_,v,h=>by cases h|_::_,_::_,h,v,hv=>by
  rcases dj.1 hv with rfl|hv;.exact DR.one h.1
  .exact aC.aaf h.2 v hv|[],_::_,h,_,_=>h.elim|_::_,[],h,_,_=>h.elim
def lN{C:Array Value}{k:Nat}{vs:List Value}(h:k+vs.length<=C.size)(j:Nat):(C.toList.take k++vs++C.toList.drop (k+vs.length)).toArray[j]?=if k<=j/\j<k+vs.length then vs[j-k]?else C[j]?:=by grind
def zd{X:Cx}{m:List (Tr bq)}{t:Tr Unit}(h:aF X m t){lv sl ak:Nat}{cells:List AV}(hg:aH m lv sl=some (.box ak cells)):∃L C e,X.ρ ak=some L/\L.cap=1/\X.w.heap[L.b]?=some (.cells C e (0,0))/\¬X.old L.b/\L.o+max cells.length L.sz<=C.size/\(∀o,¬X.F L.b o)/\(∀k v M,Holds (bJ m lv sl none) t k v->X.ρ v=some M->0<M.cap->M.b≠L.b)/\∀j x,cells[j]?=some x->∃v,C[L.o+j]?=some v/\VC X x v:=by
 obtain⟨L,hL,h1,⟨h2,C,e,h3,h4⟩,h5,h6⟩:=h.fE _ _ _ hg;refine⟨L,C,e,hL,h1,h3,h2,h4,h5,λk v M hk hv hc=>?_,λj x hj=>?_⟩
 .have hh:Holds m t k v/\k≠bU lv sl:=by
   rcases hk with⟨cy,cU,e',rfl,he',nh⟩|⟨rfl,he'⟩;.rw[cO]at he';grind[bq.fz,VC,bq.ak,aH,bU,Holds]
   .exact⟨.inr ⟨rfl,he'⟩,λhq=>dW hq.symm⟩
  exact h.apart _ _ _ _ _ _ hh.1 (.inl ⟨lv,sl,_,rfl,hg,rfl,rfl⟩) hh.2 hv hL hc (by omega)
 .obtain⟨v,hv,hr⟩:=h6 j x hj;rw[cell_of_row _ _ _ _ _ _ h3]at hv<;>grind
def oM{X:Cx}{m:List (Tr bq)}{t:Tr Unit}(h:aF X m t){lv sl ak:Nat}{els:List (List D)}(hg:aH m lv sl=some (.row ak els)){L:Loc}(hL:X.ρ ak=some L)(hc0:0<L.cap):∃C e,X.w.heap[L.b]?=some (.cells C e (0,0))/\¬X.old L.b/\L.o+L.cap*L.sz<=C.size/\(∀o,¬X.F L.b o)/\els.length<=L.cap/\(∀e∈els,e.length=L.sz)/\(∀k v M,Holds (bJ m lv sl none) t k v->X.ρ v=some M->0<M.cap->M.b≠L.b)/\∀i e j x,els[i]?=some e->e[j]?=some x->∃v,C[L.o+i*L.sz+j]?=some v/\DR X.w X.F x v:=by
 obtain⟨L',hL',h1,h2,h3,h4⟩:=h.fE _ _ _ hg;have:X.ρ ak=some L':=hL';rw[hL]at this;cases this;obtain⟨⟨h5,C,e,h6,h7⟩,h8⟩:=h3 hc0;refine⟨C,e,h6,h5,h7,h8,h1,h2,λk v M hk hv hc=>?_,λi f j x hi hj=>?_⟩
 .have hh:Holds m t k v/\k≠bU lv sl:=by
   rcases hk with⟨cy,cU,e',rfl,he',nh⟩|⟨rfl,he'⟩;.rw[cO]at he';grind[bq.fz,Block,bq.ak,aH,bU,Holds]
   .exact⟨.inr ⟨rfl,he'⟩,λhq=>dW hq.symm⟩
  exact h.apart _ _ _ _ _ _ hh.1 (.inl ⟨lv,sl,_,rfl,hg,rfl,rfl⟩) hh.2 hv hL hc hc0
 .obtain⟨v,hv,hr⟩:=h4 i f j x hi hj;rw[cell_of_row _ _ _ _ _ _ h6]at hv<;>grind
def aF.reset{X:Cx}{m:List (Tr bq)}{t:Tr Unit}{lv sl:Nat}{e:bq}{L:Loc}(h:aF X (bJ m lv sl none) t)(hL:X.ρ e.ak=some L)(hE:oV X e L)(hap:∀k v M,Holds (bJ m lv sl none) t k v->X.ρ v=some M->0<M.cap->0<L.cap->M.b≠L.b):aF X (bJ m lv sl (some e)) t:=(h.add (lv:=lv) (sl:=sl) hL hE λk v M a _ b c d=>hap k v M a b c d).congr (λcy cU=>by rw[cO,cO,cO]<;>grind[Holds,oV,bq.ak,bJ,aH]) λ_=>rfl
def FU{X:Cx}{m:List (Tr bq)}{t:Tr Unit}(h:aF X m t){lv sl ak off:Nat}{cells new:List AV}{vs:List Value}(hg:aH m lv sl=some (.box ak cells))(hoff:off+new.length<=cells.length)(hn:aC (VC X) new vs):∃L Y,X.ρ ak=some L/\Ext X Y/\Y.ρ=X.ρ/\aF Y (bJ m lv sl (some (.box ak (splice cells off new)))) t/\(storeCells ⟨L.b,L.o+off,none⟩ vs).run P X.w=.ok () Y.w:=by
 obtain⟨L,C,e,hL,h1,h2,h3,h4,h5,h6,h7⟩:=zd h hg;have hlen:=hn.length;have hst:=run_storeCells_at P L.b (L.o+off) e vs 0 C X.w h2 (by omega) (aC.one hn);let C':=(C.toList.take (L.o+off)++vs++C.toList.drop (L.o+off+vs.length)).toArray;have mE:∀j,C'[j]?=if L.o+off<=j/\j<L.o+off+vs.length then vs[j-(L.o+off)]?else C[j]?:=lN (by omega);have hx:Ext X (X.set L.b C'):=vh h2 h3 λo ho=>absurd ho (h5 o);refine⟨L,X.set L.b C',hL,hx,rfl,?_,hst⟩;refine(xA (h.erase lv sl) h2 h3 (λo ho=>absurd ho (h5 o)) h6).reset (e:=.box ak (splice cells off new)) (L:=L) hL ⟨h1,⟨h3,C',e,ji h2,?_⟩,h5,λj x hj=>?_⟩ λk v M a b c _=>h6 k v M a b c
 .rw[lK _ _ _ hoff];have hs:C'.size=C.size:=by show(C.toList.take (L.o+off)++vs++C.toList.drop (L.o+off+vs.length)).toArray.size=C.size;simp;omega
  omega
 .rw[eN _ _ _ hoff]at hj;rw[cell_of_row _ _ _ _ _ _ (ji h2),mE];by_cases hb:off<=j/\j<off+new.length;.rw[ba hb]at hj;obtain⟨v,hv,hr⟩:=hn.get _ _ hj;rw[ba (by omega),show L.o+j-(L.o+off)=j-off by omega];exact⟨v,hv,hr.ext hx⟩
  .rw[be hb]at hj;obtain⟨v,hv,hr⟩:=h7 j x hj;rw[be (by omega)];exact⟨v,hv,hr.ext hx⟩
def FV{X:Cx}{m:List (Tr bq)}{t:Tr Unit}(h:aF X m t){lv sl ak k:Nat}{els els':List (List D)}{vs:List Value}{L:Loc}(hg:aH m lv sl=some (.row ak els))(hL:X.ρ ak=some L)(hc:0<L.cap)(hk:k+vs.length<=L.cap*L.sz)(hn:aC (DR X.w X.F) ((els'.flatten.drop k).take vs.length) vs)(hl':∀e∈els',e.length=L.sz)(hle:els'.length<=L.cap)(hold:∀j x,els'.flatten[j]?=some x->(k<=j/\j<k+vs.length)\/els.flatten[j]?=some x):∃Y,Ext X Y/\Y.ρ=X.ρ/\aF Y (bJ m lv sl (some (.row ak els'))) t/\(storeCells ⟨L.b,L.o+k,none⟩ vs).run P X.w=.ok () Y.w:=by
 obtain⟨C,e,h2,h3,h4,h5,h8,h9,h6,h7⟩:=oM h hg hL hc;have hst:=run_storeCells_at P L.b (L.o+k) e vs 0 C X.w h2 (by omega) (aC.aaf hn);let C':=(C.toList.take (L.o+k)++vs++C.toList.drop (L.o+k+vs.length)).toArray;have mE:∀j,C'[j]?=if L.o+k<=j/\j<L.o+k+vs.length then vs[j-(L.o+k)]?else C[j]?:=lN (by omega);have hx:Ext X (X.set L.b C'):=vh h2 h3 λo ho=>absurd ho (h5 o);have hs:C'.size=C.size:=by show(C.toList.take (L.o+k)++vs++C.toList.drop (L.o+k+vs.length)).toArray.size=C.size;simp;omega
 refine⟨X.set L.b C',hx,rfl,?_,hst⟩;refine(xA (h.erase lv sl) h2 h3 (λo ho=>absurd ho (h5 o)) h6).reset (e:=.row ak els') (L:=L) hL ⟨hle,hl',λ_=>⟨⟨h3,C',e,ji h2,by omega⟩,h5⟩,λi f j x hi hj=>?_⟩ λk v M a b c _=>h6 k v M a b c;have HW:j<L.sz:=by rw[<-hl' f (f2 hi)];exact(cb.1 hj).1
 have hf:=gG hl' i j f hi HW;rw[hj]at hf;rw[cell_of_row _ _ _ _ _ _ (ji h2),mE];by_cases hb:k<=i*L.sz+j/\i*L.sz+j<k+vs.length
 .rw[ba (by omega)];have hq:((els'.flatten.drop k).take vs.length)[i*L.sz+j-k]?=some x:=by rw[fa,ba (by omega),mn,show k+(i*L.sz+j-k)=i*L.sz+j by omega];exact hf
  obtain⟨v,hv,hr⟩:=hn.get _ _ hq;rw[show L.o+i*L.sz+j-(L.o+k)=i*L.sz+j-k by omega];exact⟨v,hv,hr.ext hx⟩
 .rw[be (by omega)];have hq:=(hold _ _ hf).resolve_left hb;have hlt:i*L.sz+j<els.length*L.sz:=by rw[<-bg h9];exact(cb.1 hq).1
  have hi':i<els.length:=by
   rcases im i els.length with hi'|hi';.exact hi'
   .have:=d7 L.sz hi';omega
  have hg2:=gG h9 i j _ (aw hi') HW;rw[hq]at hg2;obtain⟨v,hv,hr⟩:=h7 i _ j x (aw hi') hg2.symm;exact⟨v,hv,hr.ext hx⟩
end
def kJ:∀(u v:List (Nat×Nat×Option bq))(m:List (Tr bq)),aT m (u++v)=aT (aT m u) v|[],_,_=>rfl|(lv,sl,e)::u,v,m=>by exact kJ u v _
def qO{α:Type}(cs new:List α)(off:Nat)(h:off<=cs.length):((splice cs off new).drop off).take new.length=new:=by grind[splice]
def TT{sz:Nat}{els:List (List D)}(hl:∀e∈els,e.length=sz){i off:Nat}{e ds:List D}(hi:els[i]?=some e)(ho:off+ds.length<=sz):(els.set i (splice e off ds)).flatten=splice els.flatten (i*sz+off) ds:=by
 have he:=hl e (f2 hi);have hlt:i<els.length:=(cb.1 hi).1;have hle:i*sz+sz<=els.flatten.length:=by rw[bg hl];have:=d7 sz (show i+1<=els.length from hlt);rw[d9]at this;omega
 have h1:(splice e off ds).length=sz:=by rw[lK _ _ _ (by omega),he]
 rw[tM hl i _ hlt h1];apply lL;intro j;have q1:=eN els.flatten (splice e off ds) (i*sz) (by omega) j;have q2:=eN els.flatten ds (i*sz+off) (by omega) j;have q3:=eN e ds off (by omega) (j-i*sz);rw[q1,q2,h1];by_cases hb:i*sz<=j/\j<i*sz+sz
 .rw[ba hb,q3];by_cases hc:off<=j-i*sz/\j-i*sz<off+ds.length;.rw[ba hc,ba (by omega),show j-i*sz-off=j-(i*sz+off)by omega]
  .rw[be hc,be (by omega)];have:=gG hl i (j-i*sz) e hi (by omega);rw[show i*sz+(j-i*sz)=j by omega]at this;exact this.symm
 .rw[be hb,be (by omega)]
section
variable{P:Program}{X:Cx}{nt:NT}{s:St}{a:Act}{o:Oper}{dst:Option Nat}{aP:Nat}
def fL.JU{X Y:Cx}{v n:Nat}(h:Y.ρ=X.ρ):fL X Y v n n:=⟨bc _,λu L hu=>.inl (by grind)⟩
def TU(hs:fI X nt s a){t:TypeId}{x v:Operand}{x' v':cu}{sz:Nat}{e:fD}(ho:o.op=.store t x v)(hsz:dZ P t=some sz)(hx:dD x=some x')(hv:dD v=some v')(hr:rP s.mem sz (x'.ev s.slots) (v'.ev s.slots)=some e):dF P X s a o dst aP (.bT e):=by
 obtain⟨i,hi,his⟩:=gj hsz;have hp:=bC hs hx;have hval:=bC hs hv;have run:∀(b off:Nat)(Y:Cx),a.eval x=.pointer (some ⟨b,off,none⟩)->(a.eval v).cells.size=sz->(storeCells ⟨b,off,none⟩ (a.eval v).cells.toList).run P X.w=.ok () Y.w->(execOp a.eval o).run P X.w=.ok .skip Y.w:=by intro b off Y h1 h2 h3;simp[execOp,ho,Instr.storeAt,h1,jU,storeVar,sizeOf,typeInfo,hi,his,h2,h3]
 unfold rP at hr;split at hr
 .rename_i lv sl ak j off new hq hc;rw[hq]at hp;obtain⟨L,hL,hp⟩:=hp;have CI:=o6 hc hval;split at hr
  .rename_i hlen;have hsize:(a.eval v).cells.size=sz:=by rw[<-hlen,CI.length,fw]
   split at hr
   .rename_i gA cs hg;split at hr
    .rename_i Fi hj;split at hr;.rename_i hle;cases hr;have Fi:=beq_true.1 Fi;have hj:=beq_true.1 hj;subst Fi;subst hj;obtain⟨L',Y,hL',hx',hρ,hm,hst⟩:=FU (P:=P) hs.mem hg (by rw[hlen];exact hle) CI;rw[hL]at hL';cases hL';refine .skip (Y:=Y) (run L.b (L.o+off) Y (by rw[hp];simp) hsize hst) hx' oY hm (fL.JU hρ)
     grind
    grind
   .rename_i gA els hg;split at hr
    .rename_i Fi;split at hr
     .rename_i el ds ks hel hds;split at hr
      .rename_i hle;obtain⟨hle,hks⟩:=hle;cases hr;have Fi:=beq_true.1 Fi;subst Fi;have M0:=HZ hs.mem (ks:=ks) hds CI λp hp=>hp;have y7:=HY hs.mem ks;have hx1:=rU hs.mem ks;have hg1:aH (aT s.mem (eW s.mem ks)) lv sl=some (.row gA els):=by rw[rT,be hks,hg]
       have hlt:j<els.length:=(cb.1 hel).1;obtain⟨L',hL',hE⟩:=hs.mem.fE _ _ _ hg;have:X.ρ gA=some L':=hL';rw[hL]at this;cases this;obtain⟨e1,e2,_,_⟩:=hE;have hcap:0<L.cap:=by omega
       have CJ:=e2 el (f2 hel);have hlen':ds.length=(a.eval v).cells.toList.length:=M0.length;have azq:(a.eval v).cells.toList.length=sz:=by grind
       have hfl:=TT (ds:=ds) e2 hel (off:=off) (by omega);have arD:=bg e2;have hjl:j*L.sz+L.sz<=els.length*L.sz:=by have:=d7 L.sz (show j+1<=els.length from hlt)<;>grind
       have hjc:els.length*L.sz<=L.cap*L.sz:=d7 _ e1;obtain⟨Y,hx',hρ,hm,hst⟩:=FV (P:=P) y7 (k:=j*L.sz+off) (els':=els.set j (splice el off ds)) (vs:=(a.eval v).cells.toList) hg1 hL hcap (by omega) (by rw[hfl,<-hlen',qO _ _ _ (by omega)];exact M0) (λf hf=>by
        rcases List.mem_or_eq_of_mem_set hf with hf|rfl;.exact e2 f hf
        .rw[lK _ _ _ (by omega),CJ]) (by simpa using e1) (λq y hq=>by
        rw[hfl,eN _ _ _ (by omega)]at hq;split at hq;.exact .inl (by omega)
        .exact .inr hq);refine .skip (Y:=Y) (run L.b (L.o+j*L.sz+off) Y hp hsize (by rw[eK];exact hst)) (hx1.trans hx') oY ?_ (fL.JU hρ);show aF Y (aT s.mem (eW s.mem ks++_)) s.aI;rw[kJ];exact hm
      grind
     grind
    grind
   .cases hr
   .cases hr
   grind
  grind
 grind
def Q4{w:World}{F:Nat->Nat->Prop}{v:Value}{x:D}(h:vY v=some x):DR w F x v:=by cases v with
 |slice a n c=>
  simp[vY]at h;split at h;.rename_i hv;cases hv;cases h;exact .sl [] none 0 0 0 0 0 (λ_ _=>undef) rfl (bc _) (by simp) (λh=>absurd h (by simp)) (by simp) (by simp) (by simp)
  all_goals first|(cases h;done)|simp_all
 |agg cs=>simp[vY]at h|tuple cs=>simp[vY]at h|func fn first cap=>simp[vY]at h|_=>simp only[vY]at h;injection h with h;subst h;exact DR.sc _ rfl
def mF{w:World}{F:Nat->Nat->Prop}:∀{vs:List Value}{xs:List D},jT vs=some xs->aC (DR w F) xs vs
 |[],xs,h=>by grind[jT,aC]|v::r,xs,h=>by
  simp[jT]at h;split at h;.rename_i x xs' h1 h2;cases h;exact⟨Q4 h1,mF h2⟩
  grind
def jB{w:World}{F:Nat->Nat->Prop}{z:List D}{Z:Array Value}{sz:Nat}(hz:aC (DR w F) z Z.toList)(hl:z.length=sz)(h0:0<sz)(n k:Nat)(hk:n*sz<=k):aC (DR w F) (List.replicate n z).flatten ((madeCells Z k).toList.take (n*sz)):=by
 have hu:∀e∈List.replicate n z,e.length=sz:=λe he=>by rw[(rl.1 he).2];exact hl
 refine .tH (by rw[bg hu];simp[madeCells];omega) λi x v hx hv=>?_;have hi:i<n*sz:=by grind
 have hq:i/sz<n:=(Nat.div_lt_iff_lt_mul h0).2 hi;have hg:=gG hu (i/sz) (i%sz) z (by rw[m7,ba hq]) (vx _ h0);rw[show i/sz*sz+i%sz=i by rw[y0];exact Nat.div_add_mod i sz,hx]at hg;have hZ:Z.size=sz:=by rw[<-hl,hz.length,fw]
 obtain⟨u,lF,hr⟩:=hz.get _ _ hg.symm;have:v=u:=by simp only[madeCells,Array.getElem?_toList,Array.getElem?_map]at hv<;>grind
 grind
def qy{Z:Array Value}{k:Nat}:(madeCells Z k).toList.take k=(madeCells Z k).toList:=fx (by simp[madeCells])
def JV(hs:fI X nt s a){sz:Nat}{K:List (Nat×Nat)}:∀(ps:List (Nat×Operand))(l:List (Nat×cu))(els els':List (List D))(ks:List (Nat×Nat))(C:Array Value),p6 ps=some l->(∀e∈els,e.length=sz)->aC (DR X.w (X.nD s.mem K).F) els.flatten C.toList->qM s.mem s.slots sz els l=some (els',ks)->(∀p∈ks,p∈K)->∃C',Instr.fill (λi=>some (i*sz,sz)) C (ps.map λp=>(p.1,a.eval p.2))=some C'/\aC (DR X.w (X.nD s.mem K).F) els'.flatten C'.toList/\(∀e∈els',e.length=sz)/\els'.length=els.length
 |[],l,els,els',ks,C,hp,hl,hd,hf,hk=>by cases hp;cases hf;exact⟨C,rfl,hd,hl,rfl⟩|(i,x)::ps,l,els,els',ks,C,hp,hl,hd,hf,hk=>by
  simp[p6]at hp;split at hp
  .rename_i y ys h2 h3;cases hp;simp[qM]at hf;split at hf
   .rename_i e k1 he;split at hf
    .rename_i hc;obtain⟨hc1,ou⟩:=hc;split at hf;.rename_i aeu k2 hf';injection hf with hf;injection hf with e1 e2;subst e1;subst e2;unfold FH at he;cases hcs:cellsOf (y.ev s.slots)with|none=>grind|some cs=>
      rw[hcs]at he;have hv:=HZ hs.mem (ks:=K) he (o6 hcs (bC hs h2)) λp hp=>hk p (by simp[hp]);have hsz:(a.eval x).cells.size=sz:=by rw[<-hc1,hv.length,fw]
      have hC:C.size=els.length*sz:=by rw[<-bg hl,hd.length,fw]
      have hle:i*sz+sz<=C.size:=by have:=d7 sz (show i+1<=els.length from ou)<;>grind
      obtain⟨C',h4,h5,h6,h7⟩:=JV hs ps ys (els.set i e) aeu k2 ((a.eval x).cells.zipIdx.foldl (λcs x=>match x with|(c,j)=>cs.setIfInBounds (i*sz+j) c) C) h3 (λf hf=>by
       rcases List.mem_or_eq_of_mem_set hf with hf|rfl;.exact hl f hf
       .exact hc1) (by rw[FQ _ _ C (by omega),tM hl i e ou hc1];exact hd.splice hv) hf' λp hp=>hk p (by simp[hp]);simp only[f1,Instr.fill,hsz,ne_eq,wc,ss,Bool.false_or]<;>grind
     grind
    grind
   grind
  grind
def tO{t e:TypeId}{n sz:Nat}{ps:Array (Nat×Operand)}{i:TypeInfo}{zv:Value}{C':Array Value}(ho:o.op=.buildSlice t n ps)(ht:P.underlying t=some (.slice e))(hi:P.info? e=some i)(his:i.size=sz)(hz:i.zero=some zv)(Fc:n*sz<=16777216)(hf:Instr.fill (λi=>some (i*sz,sz)) (madeCells zv.cells (n*sz)) (ps.toList.map λp=>(p.1,a.eval p.2))=some C'):(execOp a.eval o).run P X.w=.ok (.value (.slice (some ⟨X.w.heap.size,0,none⟩) n n)) (X.w.alloc (.cells C' e)):=by
 have hn:¬(16777216<n*sz):=by omega
 have key:(Instr.buildSlice t n (ps.map λ(x:Nat×Operand)=>(x.1,a.eval x.2))).run P X.w=.ok (.slice (some ⟨X.w.heap.size,0,none⟩) n n) (X.w.alloc (.cells C' e)):=by
  unfold madeCells at hf;by_cases h0:n*sz=0;.have e0:Array.range 0=#[]:=rfl;rw[h0,e0,Array.map_empty]at hf;simp[Instr.buildSlice,run_underlying ht,sizeOf,typeInfo,hi,his,h0,newRow,e0,hf]
  .simp[Instr.buildSlice,run_underlying ht,sizeOf,typeInfo,hi,his,hn,h0,zeroValue,hz,hf,newRow]
 simp[execOp,ho];simp[key]
end
section
variable{P:Program}{X:Cx}{nt:NT}{s:St}{a:Act}{o:Oper}{dst:Option Nat}{aP:Nat}
def TV{X:Cx}{m:List (Tr bq)}{t:Tr Unit}{v:Nat}(h:aF X m (t.set v (some ()))):aF X m t:=h.less (λ_ _ _ h=>h) λu hu=>by rw[Tr.cK]<;>grind
def Fj{lq:Nat}(hs:fI X nt s a)(hfr:X.ρ aP=none){t e:TypeId}{n sz d:Nat}{ps:Array (Nat×Operand)}{z:List D}{zl:List Value}{l:List (Nat×cu)}{els:List (List D)}{ks:List (Nat×Nat)}{rd:List (Nat×Nat×Nat)}(ho:o.op=.buildSlice t n ps)(ht:P.underlying t=some (.slice e))(hsz:dZ P e=some sz)(hz:oX P e=some zl)(Fk:jT zl=some z)(hl:p6 ps.toList=some l)(Fc:n*sz<=16777216)(hzl:z.length=sz)(h0:0<sz)(hf:qM s.mem s.slots sz (List.replicate n z) l=some (els,ks)):dF P X s a o dst aP (.bT {val:=.own els .full,dn:=eW s.mem ks,cR:=[],rd})/\((lq,d)∉ks->dF P X s a o dst aP (.bT {val:=.ref lq d aP 0 n sz,dn:=eW s.mem ks++[(lq,d,some (.row aP els))],cR:=[],rd})):=by
 obtain⟨i,zv,hi,H7,rfl⟩:=jW hz;obtain⟨i',hi',his⟩:=gj hsz;rw[hi]at hi';simp_all;have hZ:aC (DR X.w (X.nD s.mem ks).F) z zv.cells.toList:=mF Fk;have vZ:=jB hZ hzl h0 n (n*sz) (bc _);rw[qy]at vZ;obtain⟨C',h1,h2,h3,h4⟩:=JV hs ps.toList l _ els ks (madeCells zv.cells (n*sz)) hl (λe he=>by rw[(rl.1 he).2];exact hzl) vZ hf λp hp=>hp;have hrun:=tO (P:=P) (X:=X) ho ht hi his H7 Fc h1;have y7:=HY hs.mem ks;have hx1:=rU hs.mem ks;have hen:els.length=n:=by grind
 have hC:C'.size=n*sz:=by rw[<-hen,<-bg h3,h2.length,fw]
 refine⟨?_,λhnk=>?_⟩
 .have nt:=Pq (X:=X.nD s.mem ks) y7 (C:=C') (e:=e) (v:=aP) (els:=els) (sz:=sz) (cap:=n) (vs:=C'.toList) hfr h3 (by omega) (by omega) (λj u hj=>by simpa using hj) h2;obtain⟨g1,g2,g3,g4⟩:=nt;refine .value hrun (hx1.trans g1) ⟨some ⟨X.w.heap.size,0,none⟩,X.w.heap.size,0,sz,?_,λ_=>rfl,g3⟩ (TV g2) ⟨bc _,λv L h=>?_⟩;.rw[hen]
  .rcases g4.2 v L h with h|h|h;.exact .inl h
   .grind
   .omega
 .have nr:=H6 (X:=X.nD s.mem ks) y7 (C:=C') (e:=e) (v:=aP) (els:=els) (sz:=sz) (cap:=n) (vs:=C'.toList) lq d hfr h3 (by omega) (by omega) (λj u hj=>by simpa using hj) h2;refine .value (Y:=(X.nD s.mem ks).alloc C' e aP ⟨X.w.heap.size,0,sz,n⟩) hrun (hx1.trans (Ext.alloc y7.nG y7.low hfr)) ⟨⟨X.w.heap.size,0,sz,n⟩,some ⟨X.w.heap.size,0,none⟩,n,tN _ _ _ _ _,rfl,rfl,bc _,λ_=>⟨by simp,by simp⟩⟩ ?_ (lg (X:=X.nD s.mem ks));show aF _ (aT s.mem (eW s.mem ks++_)) s.aI;rw[kJ];exact nr
def xB{sz:Nat}:∀{ps:List (Nat×Operand)}{l:List (Nat×cu)},p6 ps=some l->tJ (λi=>some (i*sz,sz)) ps=some (l.map λp=>(p.1*sz,sz,p.2))
 |[],l,h=>by cases h;rfl|(i,x)::r,l,h=>by
  simp[p6]at h;split at h;.rename_i y ys h1 h2;cases h;simp[tJ,h1,xB h2,f1]
  grind
def aC.aag{X:Cx}:∀{ds:List D}{vs:List Value},aC (DR X.w X.F) ds vs->aC (VC X) (ds.map .d) vs|[],[],_=>trivial|_::_,_::_,h=>⟨h.1,aC.aag h.2⟩|[],_::_,h=>h.elim|_::_,[],h=>h.elim
def JW{lq:Nat}(hs:fI X nt s a)(hfr:X.ρ aP=none){t e:TypeId}{n sz d:Nat}{ps:Array (Nat×Operand)}{z:List D}{zl:List Value}{l:List (Nat×cu)}{cs:List AV}{rd:List (Nat×Nat×Nat)}(ho:o.op=.buildSlice t n ps)(ht:P.underlying t=some (.slice e))(hsz:dZ P e=some sz)(hz:oX P e=some zl)(Fk:jT zl=some z)(hl:p6 ps.toList=some l)(Fc:n*sz<=16777216)(hzl:z.length=sz)(h0:0<sz)(hn:n≠0)(hf:qL s.slots ((List.replicate n z).flatten.map .d) (l.map λp=>(p.1*sz,sz,p.2))=some cs):dF P X s a o dst aP (.bT {val:=.dx lq d aP 0 n sz,dn:=[(lq,d,some (.box aP cs))],cR:=[],rd}):=by obtain⟨i,zv,hi,H7,rfl⟩:=jW hz;obtain⟨i',hi',his⟩:=gj hsz;rw[hi]at hi';cases hi';have hZ:aC (DR X.w X.F) z zv.cells.toList:=mF Fk;have vZ:=jB hZ hzl h0 n (n*sz) (bc _);rw[qy]at vZ;obtain⟨C',h1,h2⟩:=CE hs (λi=>some (i*sz,sz)) ps.toList _ _ cs (madeCells zv.cells (n*sz)) (xB hl) vZ.aag hf;have hrun:=tO (P:=P) (X:=X) ho ht hi his H7 Fc h1;exact .value (Y:=X.alloc C' e aP ⟨X.w.heap.size,0,C'.size,1⟩) hrun (Ext.alloc hs.mem.nG hs.mem.low hfr) ⟨_,n,tN _ _ _ _ _,by simp,bc _,by omega,λhq=>absurd hq (mr _)⟩ (Pp hs.mem _ _ hfr h2) lg
def H8{lq:Nat}(hs:fI X nt s a)(hfr:X.ρ aP=none){t e:TypeId}{l c d:Nat}{i:TypeInfo}{ln cp:Operand}{ln' cp':cu}{z:List D}{zl:List Value}{rd:List (Nat×Nat×Nat)}(ho:o.op=.makeSlice t ln cp)(ht:P.underlying t=some (.slice e))(hi:P.info? e=some i)(hz:oX P e=some zl)(Fk:jT zl=some z)(hzl:z.length=i.size)(h0:0<i.size)(hln:dD ln=some ln')(hcp:dD cp=some cp')(hl:gT (ln'.ev s.slots)=some l)(hc:gT (cp'.ev s.slots)=some c)(hlc:l<=c)(hby:i.bytes*c<=jz)(h63:c<=eU):dF P X s a o dst aP (.bT {val:=.ref lq d aP 0 l i.size,dn:=[(lq,d,some (.row aP (List.replicate l z)))],cR:=[],rd}):=by
 obtain⟨i',zv,hi',H7,rfl⟩:=jW hz;rw[hi]at hi';cases hi';obtain⟨kl,hle⟩:=ld hl (bC hs hln);obtain⟨kc,hce⟩:=ld hc (bC hs hcp);have hr:=run_make (P:=P) X.w t e i zv ht hi H7 kl kc l c (by omega) (by omega) (by
  have:((i.bytes*c:Nat):Int)<=281474976710656:=by unfold jz at hby;omega
  rwa[xc]at this) (by unfold eU at h63;omega);have hZ:aC (DR X.w X.F) z zv.cells.toList:=mF Fk;have vZ:=jB hZ hzl h0 l (c*i.size) (d7 _ hlc);have nr:=H6 hs.mem (C:=madeCells zv.cells (c*i.size)) (e:=e) (v:=aP) (els:=List.replicate l z) (sz:=i.size) (cap:=c) lq d hfr (λe he=>by rw[(rl.1 he).2];exact hzl) (by simp[madeCells]) (by simpa using hlc) (vs:=(madeCells zv.cells (c*i.size)).toList.take (l*i.size)) (λj u hj=>by
   rw[fa]at hj;split at hj;.simpa using hj
   .cases hj) vZ;refine .value (Y:=X.alloc (madeCells zv.cells (c*i.size)) e aP ⟨X.w.heap.size,0,i.size,c⟩) ?_ (Ext.alloc hs.mem.nG hs.mem.low hfr) ⟨⟨X.w.heap.size,0,i.size,c⟩,some ⟨X.w.heap.size,0,none⟩,c,tN _ _ _ _ _,rfl,rfl,hlc,λ_=>⟨by simp,by simp⟩⟩ nr lg;simp[execOp,ho,hle,hce,hr];rfl
def B2{X:Cx}{m:List (Tr bq)}{t:Tr Unit}(h:aF X m t){y:AV}{news:List (List D)}{v:Value}{sz:Nat}(he:gW m y=some news)(hv:VR X y v)(hl:∀e∈news,e.length=sz)(h0:0<sz):∃vs:List Value,aC (DR X.w X.F) news.flatten vs/\(∀w:World,(Builtin.lenOf v).run P w=.ok news.length w)/\(∀w:World,(∀b o,w.cell? ⟨b,o,none⟩=X.w.cell? ⟨b,o,none⟩)->∀n,n<=news.length->(Builtin.firstCells sz n v).run P w=.ok (vs.take (n*sz)).toArray w):=by
 have data:∀els,dL m y=some els->els=news->∃vs:List Value,aC (DR X.w X.F) news.flatten vs/\(∀w:World,(Builtin.lenOf v).run P w=.ok news.length w)/\(∀w:World,(∀b o,w.cell? ⟨b,o,none⟩=X.w.cell? ⟨b,o,none⟩)->∀n,n<=news.length->(Builtin.firstCells sz n v).run P w=.ok (vs.take (n*sz)).toArray w):=by
  rintro els he' rfl;have he:=he';obtain⟨ad,cap,sz',b,o,rfl,h2,h3,h4⟩:=o7 h he hv;obtain⟨vs,h5,h6⟩:=rR h4;refine⟨vs,h6,λw=>rfl,λw hw n hn=>?_⟩;by_cases hz:els.length=0
  .have hn:n=0:=by omega
   subst hn;cases ad with|none=>simp[Builtin.firstCells]|some ad=>simp[Builtin.firstCells,loadCells,loadCellsFrom]
  .have hlt:0<els.length:=by omega
   have:=h3 hlt;subst this;have hs':sz'=sz:=by have hm:=i7 hlt;rw[<-h4.1 _ hm,hl _ hm]
   subst hs';have hlen:(vs.take (n*sz')).length=n*sz':=by
    have:vs.length=els.length*sz':=by rw[<-h6.length,bg hl]
    simp_all
   have:=run_loadCells_list (P:=P) w ⟨b,o,none⟩ (vs.take (n*sz')) λj u hj=>by
    rw[Addr.add_lit,hw];rw[fa]at hj;split at hj;.exact h5 j u hj
    .cases hj
   rw[hlen]at this;simpa[Builtin.firstCells]using this
 unfold gW at he;split at he
 .rename_i bs;simp_all;have hv:=hv.sc;subst hv;have hlen:news.length=bs.size:=by rw[<-he];simp
  refine⟨bs.data.toList.map λc=>.int .u8 c.toNat,?_,λw=>by rw[hlen];rfl,λw _ n hn=>?_⟩;.rw[<-he];generalize bs.data.toList=l;induction l with|nil=>trivial|cons c l ih=>exact⟨DR.sc _ rfl,ih⟩
  .by_cases hz:news.length=0
   .have hn:n=0:=by omega
    subst hn;simp[Builtin.firstCells]
   .have hs1:sz=1:=by
     have hlt:0<news.length:=by omega
     have h1:=hl _ (i7 hlt)<;>grind
    simp[Builtin.firstCells,Sem.run_pure,ra]<;>grind
 grind
end
section
variable{P:Program}
def we(P:Program)(u:TypeId):Prop:=(∃e,P.underlying u=some (.slice e))\/P.underlying u=some .string
inductive Src(P:Program)(u:TypeId)(i:TypeInfo)(w:World)(y:Value)(m:Nat)(new:List Value):Prop|val(hu:we P u)(hl:(Builtin.lenOf y).run P w=.ok m w)(hf:(Builtin.firstCells i.size m y).run P w=.ok new.toArray w)(hf':(Builtin.firstCells i.size m y).run P w.drew=.ok new.toArray w.drew)|zero(k k':IntKind)(z:Value)(hu:P.underlying u=some (.int k))(hz:i.zero=some z)(hzs:z.cells.size=i.size)(hy:y=.int k' m)(h63:m<=eU)(hby:m*i.bytes<=jz)(hn:new=(Builtin.zeroCells z.cells m).toList)
def JX{m:Nat}(h:m<=eU):IntKind.i64.wrap (m:Int)=m:=by unfold eU at h;rw[IntKind.wrap_i64];omega
def jC{t u ty e:TypeId}{i:TypeInfo}{w:World}{ad:Option Addr}{n cap m:Nat}{y:Value}{new:List Value}(ht:P.underlying t=some (.slice e))(hs:Src P u i w y m new)(hi:P.info? e=some i)(hroom:n+m<=cap):(Builtin.append_ #[t,u] ty #[.slice ad n cap,y]).run P w=match ad with
   |some a=>((storeCells (a.add (n*i.size)) new).run P w).andThen λ_ w'=>.ok (.slice ad (n+m) cap) w'
   |none=>.ok (.slice none (n+m) cap) w:=by cases hs with|val hu hl hf=>
  rcases hu with⟨e',hd⟩|hd;.cases ad<;>simp[Builtin.append_,run_underlying ht,run_underlying hd,sizeOf,typeInfo,hi,hl,hroom,hf]
  .cases ad<;>simp[Builtin.append_,run_underlying ht,run_underlying hd,sizeOf,typeInfo,hi,hl,hroom,hf]|zero k k' z hu hz hzs hy h63 hby hn=>
  subst hy hn;have hw:=JX h63;have h0:¬((m:Int)<0):=by omega
  have h48:¬(281474976710656<((m:Int)*i.bytes)):=by rw[<-xc];unfold jz at hby;omega
  by_cases ZL:m*i.size=0
  .have hc:Builtin.zeroCells z.cells m=#[]:=by
    have:m*z.cells.size=0:=by rw[hzs];exact ZL
    simp[Builtin.zeroCells,this]
   cases ad<;>simp[Builtin.append_,run_underlying ht,run_underlying hu,sizeOf,typeInfo,hi,asInt,asIntOf,hw,h0,h48,ZL,hroom,hc]
  .cases ad<;>simp[Builtin.append_,run_underlying ht,run_underlying hu,sizeOf,typeInfo,zeroValue,hi,hz,asInt,asIntOf,hw,h0,h48,ZL,hroom]
def tP{t u ty e:TypeId}{i:TypeInfo}{z:Value}{w:World}{ad:Option Addr}{n cap m:Nat}{y:Value}{old new:List Value}(ht:P.underlying t=some (.slice e))(hs:Src P u i w y m new)(hi:P.info? e=some i)(hz:i.zero=some z)(ho:(Builtin.firstCells i.size n (.slice ad n cap)).run P w.drew=.ok old.toArray w.drew)(hgrow:cap<n+m)(h63:n+m<=eU)(hby:(n+m)*i.bytes<=jz):(Builtin.append_ #[t,u] ty #[.slice ad n cap,y]).run P w=.ok (.slice (some ⟨w.heap.size,0,none⟩) (n+m) (grownCap w (n+m) cap e)) (w.drew.alloc (.cells (old.toArray++new.toArray++Builtin.zeroCells z.cells (grownCap w (n+m) cap e-(n+m))) e)):=by
 have hn:¬(n+m<=cap):=by omega
 have h63':¬(9223372036854775807<((n:Int)+(m:Int))):=by grind[jz,eU]
 have aah:¬(281474976710656<Builtin.nextslicecap (n+m) cap*i.bytes):=by have:=growslice_fits (need:=n+m) (old:=cap) (bytes:=i.bytes) hgrow (by unfold jz at hby;omega);omega
 cases hs with|val hu hl _ hf=>
  rcases hu with⟨e',hd⟩|hd;.simp[Builtin.append_,run_underlying ht,sizeOf,typeInfo,zeroValue,hi,hz,run_underlying hd,hl,hn,h63',aah,Question.forced,ho,hf,newRow,grownCap];congr 2;apply Array.ext';simp
  .simp[Builtin.append_,run_underlying ht,sizeOf,typeInfo,zeroValue,hi,hz,run_underlying hd,hl,hn,h63',aah,Question.forced,ho,hf,newRow,grownCap];congr 2;apply Array.ext';simp|zero k k' z' hu Nc hzs hy arF arG hnew=>
  rw[hz]at Nc;injection Nc with Nc;subst Nc;subst hy hnew;have hw:=JX arF;have h0:¬((m:Int)<0):=by omega
  have h48:¬(281474976710656<((m:Int)*i.bytes)):=by rw[<-xc];unfold jz at arG;omega
  by_cases ZL:m*i.size=0
  .have hc:Builtin.zeroCells z.cells m=#[]:=by
    have:m*z.cells.size=0:=by rw[hzs];exact ZL
    simp[Builtin.zeroCells,this]
   simp[Builtin.append_,run_underlying ht,run_underlying hu,sizeOf,typeInfo,zeroValue,hi,hz,asInt,asIntOf,hw,h0,h48,hc,hn,h63',aah,Question.forced,ho,newRow,grownCap]
  .simp[Builtin.append_,run_underlying ht,run_underlying hu,sizeOf,typeInfo,zeroValue,hi,hz,asInt,asIntOf,hw,h0,h48,ZL,hn,h63',aah,Question.forced,ho,newRow,grownCap]
variable{X:Cx}{nt:NT}{s:St}{a:Act}{o:Oper}{dst:Option Nat}{aP:Nat}
def Cx.name(X:Cx)(v:Nat)(L:Loc):Cx:={X with ρ:=λu=>if u=v then some L else X.ρ u}
def eC{X:Cx}{v:Nat}{L:Loc}(hv:X.ρ v=none):Ext X (X.name v L):=⟨rfl,fq.refl _ _,λ_ _ h=>h,λ_ _ _=>rfl,λu M hu=>by grind[Cx.name],λ_ _ h=>.inl h⟩
def gH{X:Cx}{m:List (Tr bq)}{t:Tr Unit}{v:Nat}{L:Loc}(h:aF X m t)(hv:X.ρ v=none):aF (X.name v L) m t:=h.move (eC hv) (λ_ _ _ _ _ _=>rfl) (λ_ _ _ _ _ _ _ h=>h) h.nG
def eS{X:Cx}{v:Nat}{L:Loc}:(X.name v L).ρ v=some L:=ba rfl
def ia{X:Cx}{v n:Nat}{L:Loc}:fL X (X.name v L) v n n:=⟨bc _,λu M h=>by grind[Cx.name]⟩
def Cx.drew(X:Cx):Cx:={X with w:=X.w.drew}
def nK{X:Cx}:Ext X X.drew:=⟨rfl,(fq.refl _ _).drew,λ_ _ h=>h,λ_ _ _=>rfl,λ_ _ h=>h,λ_ _ h=>.inl h⟩
def xC{X:Cx}{m:List (Tr bq)}{t:Tr Unit}(h:aF X m t):aF X.drew m t:=h.move nK (λ_ _ _ _ _ _=>rfl) (λ_ _ _ _ _ _ _ h=>h) h.nG
def tQ{x y:Operand}{t u:TypeId}{v:Value}{w:World}(ho:o.op=.call {callee:=.builtin .append,args:=#[x,y],argTypes:=#[t,u]})(hr:(Builtin.append_ #[t,u] o.type #[a.eval x,a.eval y]).run P X.w=.ok v w):(execOp a.eval o).run P X.w=.ok (.value v) w:=by simp[execOp,ho,resolve,invoke,builtin,hr]
def tR{old new:List Value}{Z:Array Value}{k:Nat}(j:Nat)(v:Value)(h:(old++new)[j]?=some v):(old.toArray++new.toArray++Builtin.zeroCells Z k)[j]?=some v:=by grind
def wg{old new:List Value}{Z:Array Value}{n m k sz:Nat}(h1:old.length=n*sz)(h2:new.length=m*sz)(hZ:Z.size=sz)(hk:n+m<=k):k*sz<=(old.toArray++new.toArray++Builtin.zeroCells Z (k-(n+m))).size:=by simp[Array.size_append,List.size_toArray,size_zeroCells,hZ,h1,h2,<-d9]<;>grind
def o8{els:List (List D)}{b off sz sz' n cap:Nat}{ad:Option Addr}{w:World}(hw:∀b o,w.cell? ⟨b,o,none⟩=X.w.cell? ⟨b,o,none⟩){R:Nat->Nat->Prop}(h:eX X.w X.F R els b off sz')(hsz:∀e∈els,e.length=sz)(hn:els.length=n)(had:0<n->ad=some ⟨b,off,none⟩):∃old:List Value,(Builtin.firstCells sz n (.slice ad n cap)).run P w=.ok old.toArray w/\aC (DR X.w X.F) els.flatten old:=by
 obtain⟨vs,h1,h2⟩:=rR h;refine⟨vs,?_,h2⟩;have hlen:vs.length=n*sz:=by rw[<-h2.length,bg hsz,hn]
 by_cases h0:n=0;.subst h0;have:vs=[]:=eI (by simpa using hlen);subst this;cases ad with|none=>simp[Builtin.firstCells]|some ad=>simp[Builtin.firstCells,loadCells,loadCellsFrom]
 .have:=had (by omega);subst this;have:=run_loadCells_list (P:=P) w ⟨b,off,none⟩ vs λj u hj=>by rw[Addr.add_lit,hw];exact h1 j u hj
  rw[hlen]at this;simpa[Builtin.firstCells]using this
def tS(P:Program)(X:Cx)(s:St)(t u ty:TypeId)(xv yv:Value)(aP n:Nat)(e:fD):Prop:=∃Y v,(Builtin.append_ #[t,u] ty #[xv,yv]).run P X.w=.ok v Y.w/\Ext X Y/\VR Y e.val v/\aF Y (aT s.mem e.dn) (eV s.aI e.cR)/\fL X Y aP n n
def Q5{X:Cx}{m:List (Tr bq)}{t:Tr Unit}(h:aF X m t){v:Nat}{L:Loc}(hL:X.ρ v=some L)(h0:L.cap=0):aF X m (t.set v (some ())):=h.Z3 hL (λhc=>by omega) λ_ _ _ _ _ _ _ hc=>by omega
def wh{t u ty e:TypeId}{i:TypeInfo}{z:Value}{ad:Option Addr}{cap:Nat}{yv:Value}{els news:List (List D)}{old new:List Value}(ht:P.underlying t=some (.slice e))(hs:Src P u i X.w yv news.length new)(hi:P.info? e=some i)(hz:i.zero=some z)(hzs:z.cells.size=i.size)(ho:(Builtin.firstCells i.size els.length (.slice ad els.length cap)).run P X.w.drew=.ok old.toArray X.w.drew)(hgrow:cap<els.length+news.length)(h63:els.length+news.length<=eU)(hby:(els.length+news.length)*i.bytes<=jz)(ZM:aC (DR X.w X.F) els.flatten old)(H9:aC (DR X.w X.F) news.flatten new)(hel:∀e∈els,e.length=i.size)(hnl:∀e∈news,e.length=i.size):∃C G,els.length+news.length<=G/\(Builtin.append_ #[t,u] ty #[.slice ad els.length cap,yv]).run P X.w=.ok (.slice (some ⟨X.w.heap.size,0,none⟩) (els.length+news.length) G) (X.w.drew.alloc (.cells C e))/\G*i.size<=C.size/\(∀(j:Nat)(u:Value),(old++new)[j]?=some u->C[j]?=some u)/\aC (DR X.w X.F) (els++news).flatten (old++new)/\(∀e∈els++news,e.length=i.size):=by
 refine⟨_,_,grownCap_ge X.w (els.length+news.length) cap e,tP ht hs hi hz ho hgrow h63 hby,?_,λj u hj=>tR j u hj,?_,?_⟩;.exact wg (by rw[<-ZM.length,bg hel]) (by rw[<-H9.length,bg hnl]) hzs (grownCap_ge _ _ _ _)
 .rw[BR];exact ZM.append H9
 grind
end
section
variable{P:Program}{X:Cx}{nt:NT}{s:St}{a:Act}{o:Oper}{dst:Option Nat}{aP:Nat}
def FX(h:aF X s.mem s.aI)(hfr:X.ρ aP=none){C:Array Value}{e:TypeId}{els:List (List D)}{sz G n:Nat}{vs:List Value}{aI:Tr Unit}(hl:∀e∈els,e.length=sz)(hC:G*sz<=C.size)(hle:els.length<=G)(hvs:∀(j:Nat)(u:Value),vs[j]?=some u->C[j]?=some u)(hd:aC (DR X.w X.F) els.flatten vs)(ajv:∀v,aI.get? v=some ()->s.aI.get? v=some ()):∃Y,Y.w=X.w.drew.alloc (.cells C e)/\Ext X Y/\VR Y (.own els (.cR aP sz)) (.slice (some ⟨X.w.heap.size,0,none⟩) els.length G)/\aF Y s.mem (aI.set aP (some ()))/\fL X Y aP n n:=by
 have h':aF X.drew s.mem aI:=xC (h.less (λ_ _ _ h=>h) ajv);have nt:=Pq (X:=X.drew) h' (C:=C) (e:=e) (v:=aP) (els:=els) (sz:=sz) (cap:=G) (vs:=vs) hfr hl hC hle hvs (hd.mono λ_ _=>DR.ext nK);obtain⟨g1,g2,g3,g4⟩:=nt;refine⟨_,rfl,nK.trans g1,⟨some ⟨X.w.heap.size,0,none⟩,X.w.heap.size,0,sz,G,rfl,hle,λ_=>rfl,g3,tN X.drew C e aP _,rfl⟩,g2,⟨bc _,λv L hv=>?_⟩⟩;rcases g4.2 v L hv with h|h|h;.exact .inl h
 .grind
 .omega
def FY(h:aF X s.mem s.aI)(hfr:X.ρ aP=none){m:List (Tr bq)}{C:Array Value}{e:TypeId}{els:List (List D)}{sz G n lv sl:Nat}{vs:List Value}(hl:∀e∈els,e.length=sz)(hC:G*sz<=C.size)(hle:els.length<=G)(hvs:∀(j:Nat)(u:Value),vs[j]?=some u->C[j]?=some u)(hd:aC (DR X.w X.F) els.flatten vs)(hm:aF X m s.aI):∃Y,Y.w=X.w.drew.alloc (.cells C e)/\Ext X Y/\VR Y (.ref lv sl aP 0 els.length sz) (.slice (some ⟨X.w.heap.size,0,none⟩) els.length G)/\aF Y (bJ m lv sl (some (.row aP els))) s.aI/\fL X Y aP n n:=by have nr:=H6 (X:=X.drew) (xC hm) (C:=C) (e:=e) (v:=aP) (els:=els) (sz:=sz) (cap:=G) (vs:=vs) lv sl hfr hl hC hle hvs (hd.mono λ_ _=>DR.ext nK);refine⟨X.drew.alloc C e aP ⟨X.w.heap.size,0,sz,G⟩,rfl,nK.trans (Ext.alloc (X:=X.drew) h.nG h.low hfr),⟨⟨X.w.heap.size,0,sz,G⟩,some ⟨X.w.heap.size,0,none⟩,G,tN X.drew C e aP _,rfl,rfl,hle,λ_=>⟨by simp,by simp⟩⟩,nr,?_⟩;have:=lg (X:=X.drew) (C:=C) (e:=e) (v:=aP) (L:=⟨X.w.heap.size,0,sz,G⟩) (n:=n);exact this
def JY{X:Cx}{m:List (Tr bq)}{t:Tr Unit}{lv sl:Nat}{e:bq}(h:aF X (bJ (bJ m lv sl none) lv sl (some e)) t):aF X (bJ m lv sl (some e)) t:=h.congr (λcy cU=>by rw[cO,cO,cO]<;>grind[bJ,aH]) λ_=>rfl
def Nd(h:aF X s.mem s.aI)(hfr:X.ρ aP=none){t u ty e:TypeId}{i:TypeInfo}{z:Value}{xv yv:Value}{lv sl ak off len n:Nat}{els news:List (List D)}{new:List Value}{rd:List (Nat×Nat×Nat)}(ht:P.underlying t=some (.slice e))(hs:Src P u i X.w yv news.length new)(hi:P.info? e=some i)(hz:i.zero=some z)(hzs:z.cells.size=i.size)(hx:VR X (.ref lv sl ak off len i.size) xv)(hrow:rowAt s.mem lv sl ak=some els)(hc1:off+len<=els.length)(ou:len+news.length<=eU)(JZ:(len+news.length)*i.bytes<=jz)(hnl:∀e∈news,e.length=i.size)(H9:aC (DR X.w X.F) news.flatten new):tS P X s t u ty xv yv aP n {val:=.ref lv sl aP 0 (len+news.length) i.size,dn:=[(lv,sl,some (.row aP ((els.drop off).take len++news)))],cR:=[],rd}:=by
 obtain⟨L,hL,hE,hg⟩:=nI h hrow;obtain⟨L1,ad,cap,Ia,h1,rfl,h3,h4⟩:=hx;rw[hL]at Ia;cases Ia;have vi:new.length=news.length*i.size:=by rw[<-H9.length,bg hnl]
 have B3:((els.drop off).take len).length=len:=by grind
 have Nf:∀e∈(els.drop off).take len,e.length=i.size:=λf hf=>by rw[hE.2.1 f (pm (ls hf)),h1]
 have TX:((els.drop off).take len++news).length=len+news.length:=by grind
 have hls:∀e∈(els.drop off).take len++news,e.length=i.size:=λf hf=>(bj.1 hf).elim (Nf f) (hnl f);by_cases hroom:len+news.length<=cap
 .by_cases hcap:0<cap
  .obtain⟨rfl,h5⟩:=h4 hcap;have hc0:0<L.cap:=by omega
   obtain⟨C,ce,tj,pV,hb3,hb4,hb5,hb6,hap,xD⟩:=oM h hg hL hc0;have hfit:L.o+off*L.sz+len*L.sz+new.length<=C.size:=by rw[vi,<-h1,eK (L.o+off*L.sz),<-d9,eK,<-d9];have:=d7 L.sz (show off+(len+news.length)<=L.cap by omega);omega
   have hst:=run_storeCells_at P L.b (L.o+off*L.sz+len*L.sz) ce new 0 C X.w tj (by omega) (aC.aaf H9);let C':=(C.toList.take (L.o+off*L.sz+len*L.sz)++new++C.toList.drop (L.o+off*L.sz+len*L.sz+new.length)).toArray;have mE:∀j,C'[j]?=if L.o+off*L.sz+len*L.sz<=j/\j<L.o+off*L.sz+len*L.sz+new.length then new[j-(L.o+off*L.sz+len*L.sz)]?else C[j]?:=lN hfit;have hsize:C'.size=C.size:=by show(C.toList.take (L.o+off*L.sz+len*L.sz)++new++C.toList.drop (L.o+off*L.sz+len*L.sz+new.length)).toArray.size=C.size;simp;omega
   have hFk:∀q,X.F L.b q->C'[q]?=C[q]?:=λq hq=>absurd hq (hb4 q);have hx1:Ext X (X.set L.b C'):=vh tj pV hFk;have y7:aF (X.set L.b C') (bJ s.mem lv sl none) s.aI:=xA (h.erase lv sl) tj pV hFk hap;let L':Loc:=⟨L.b,L.o+off*L.sz,i.size,cap⟩;have hx2:Ext (X.set L.b C') ((X.set L.b C').name aP L'):=eC hfr;have hx:Ext X ((X.set L.b C').name aP L'):=hx1.trans hx2;refine⟨(X.set L.b C').name aP L',.slice (some ⟨L.b,L.o+off*i.size,none⟩) (len+news.length) cap,?_,hx,?_,?_,?_⟩;.rw[jC (i:=i) (new:=new) ht hs hi hroom];rw[<-h1];simp only[Addr.add_lit,hst,Result.andThen_ok];rfl
   .exact⟨L',_,cap,eS,rfl,rfl,hroom,λ_=>⟨by simp[L',h1],by simp[L']⟩⟩
   .refine(gH y7 hfr).reset (e:=.row aP ((els.drop off).take len++news)) (L:=L') eS ⟨by rw[TX];exact hroom,hls,λ_=>⟨⟨pV,C',ce,ji tj,?_⟩,hb4⟩,λq f j x hq hj=>?_⟩ λk w M hk hw xj _=>?_;.show L.o+off*L.sz+cap*i.size<=C'.size;rw[<-h1,eK,<-d9];have:=d7 L.sz h5;omega
    .show∃v,(X.set L.b C').w.cell? ⟨L.b,L.o+off*L.sz+q*i.size+j,none⟩=some v/\_;rw[cell_of_row _ _ _ _ _ _ (ji tj),mE];have HW:j<i.size:=by rw[<-hls f (f2 hq)];exact(cb.1 hj).1
     by_cases hql:q<len
     .rw[nz (by omega)]at hq;have hqe:=(e8 hq).1;obtain⟨v,hv,M0⟩:=xD _ f j x hqe hj;have e1:L.o+off*L.sz+q*i.size+j=L.o+(off+q)*L.sz+j:=by rw[h1,d9];omega
      have hlt:q*i.size+j<len*L.sz:=by have:=d7 i.size (show q+1<=len from hql);rw[d9]at this;rw[h1];omega
      rw[be (by omega),e1];exact⟨v,hv,M0.ext hx⟩
     .rw[kw (by omega),B3]at hq;have hg2:=gG hnl _ j f hq HW;rw[hj]at hg2;obtain⟨v,hv,M0⟩:=H9.get _ _ hg2;have hlt:=(cb.1 hv).1;have e1:q*i.size+j=len*L.sz+((q-len)*i.size+j):=by
       have:q=len+(q-len):=by omega
       conv=>lhs;rw[this,d9]
       rw[h1];omega
      rw[ba (by omega)];rw[show L.o+off*L.sz+q*i.size+j-(L.o+off*L.sz+len*L.sz)=(q-len)*i.size+j by omega];exact⟨v,hv,M0.ext hx⟩
    .obtain⟨M',kR,_⟩:=(h.erase lv sl).dh hk;have:((X.set L.b C').name aP L').ρ w=some M':=hx.loc _ _ kR;rw[hw]at this;cases this;exact hap k w M hk kR xj
   .exact⟨bc _,λw M hw=>by
     rcases(ia (X:=X.set L.b C') (v:=aP) (n:=0) (L:=L')).2 w M hw with hq|hq|hq;.exact .inl hq
     .exact .inr (.inl hq)
     .omega⟩
  .have hm0:news.length=0:=by omega
   have hl0:len=0:=by omega
   subst hl0;have BS:news=[]:=eI hm0;subst BS;have hnew:new=[]:=eI (by simpa using vi);subst hnew;have hrun:(Builtin.append_ #[t,u] ty #[.slice ad 0 cap,yv]).run P X.w=.ok (.slice ad 0 cap) X.w:=by rw[jC (i:=i) (m:=0) (new:=[]) ht hs hi (by omega)];cases ad with|none=>rfl|some ad=>simp[storeCells]
   refine⟨X.name aP ⟨0,0,i.size,0⟩,_,hrun,eC hfr,⟨⟨0,0,i.size,0⟩,ad,cap,eS,rfl,rfl,by simp,λhq=>absurd hq hcap⟩,?_,ia⟩;exact(gH h hfr).add (e:=.row aP ((els.drop off).take 0++[])) (L:=⟨0,0,i.size,0⟩) eS ⟨by simp,by simp,λhq=>absurd hq (by simp),by simp⟩ λ_ _ _ _ _ _ _ hq=>absurd hq (by simp)
 .have Ng:eX X.w X.F (λ_ _=>True) ((els.drop off).take len) L.b (L.o+off*L.sz) L.sz:=(hE.Z2 (R:=λ_ _=>True) λ_ _=>trivial).sub off len;obtain⟨old,ho,ZM⟩:=o8 (P:=P) (n:=len) (cap:=cap) (ad:=ad) (X:=X) (w:=X.w.drew) (sz:=i.size) (λ_ _=>rfl) Ng Nf B3 (λhq=>by rw[(h4 (by omega)).1,h1]);have key:=wh (P:=P) (X:=X) (ty:=ty) (els:=(els.drop off).take len) (ad:=ad) (cap:=cap) ht hs hi hz hzs (by rw[B3];exact ho) (by omega) (by omega) (by rw[B3];exact JZ) ZM H9 Nf hnl;obtain⟨C,G,g1,hrun,g2,g3,g4,g5⟩:=key;obtain⟨Y,hw,k1,k2,k3,k4⟩:=FY (e:=e) (lv:=lv) (sl:=sl) (m:=bJ s.mem lv sl none) h hfr g5 g2 (by rw[TX];omega) g3 g4 (n:=n) (h.erase lv sl);rw[TX]at k2;rw[B3]at hrun;exact⟨Y,_,by rw[hrun,hw],k1,k2,JY k3,k4⟩
def Pt(h:aF X s.mem s.aI)(hfr:X.ρ aP=none){lv sl ak off len l h' n sz cap:Nat}{els:List (List D)}{ad:Option Addr}(hx:VR X (.ref lv sl ak off len sz) (.slice ad len cap))(hrow:rowAt s.mem lv sl ak=some els)(c1:l<=h')(c2:h'<=len)(c3:off+len<=els.length):∃Y,Y.w=X.w/\Ext X Y/\VR Y (.ref lv sl aP 0 (h'-l) sz) (.slice (if cap=l then ad else ad.map (·.add (l*sz))) (h'-l) (cap-l))/\aF Y (bJ s.mem lv sl (some (.row aP ((els.drop (off+l)).take (h'-l))))) s.aI/\fL X Y aP n n:=by
 obtain⟨L,hL,hE,hg⟩:=nI h hrow;obtain⟨L1,ad',cap',Ia,h1,he,h3,h4⟩:=hx;cases he;rw[hL]at Ia;cases Ia;have B3:((els.drop (off+l)).take (h'-l)).length=h'-l:=by grind
 have Nf:∀e∈(els.drop (off+l)).take (h'-l),e.length=sz:=λf hf=>by rw[hE.2.1 f (pm (ls hf)),h1]
 by_cases hcap:0<cap-l
 .obtain⟨rfl,h5⟩:=h4 (by omega);have hc0:0<L.cap:=by omega
  obtain⟨C,ce,tj,pV,hb3,hb4,hb5,hb6,hap,xD⟩:=oM h hg hL hc0;let L':Loc:=⟨L.b,L.o+(off+l)*L.sz,sz,cap-l⟩;refine⟨X.name aP L',rfl,eC hfr,⟨L',_,_,eS,rfl,rfl,by omega,λ_=>⟨?_,by simp[L']⟩⟩,?_,ia⟩;.simp only[cf,Addr.add_lit,L',h1]<;>grind
  .refine(gH (h.erase lv sl) hfr).reset (e:=.row aP ((els.drop (off+l)).take (h'-l))) (L:=L') eS ⟨by rw[B3];show h'-l<=cap-l;omega,Nf,λ_=>⟨⟨pV,C,ce,tj,?_⟩,hb4⟩,λq f j x hq hj=>?_⟩ λk w M hk hw xj _=>?_;.show L.o+(off+l)*L.sz+(cap-l)*sz<=C.size;rw[<-h1,eK,<-d9];have:=d7 L.sz (show off+l+(cap-l)<=L.cap by omega);omega
   .have hqe:=(e8 hq).1;obtain⟨v,hv,M0⟩:=hE.2.2.2 _ f j x hqe hj;refine⟨v,?_,M0⟩;show X.w.cell? ⟨L.b,L.o+(off+l)*L.sz+q*sz+j,none⟩=some v;rw[<-hv];congr 2;rw[<-h1,d9 (off+l)];omega
   .obtain⟨M',kR,_⟩:=(h.erase lv sl).dh hk;have:(X.name aP L').ρ w=some M':=(eC hfr).loc _ _ kR;rw[hw]at this;cases this;exact hap k w M hk kR xj
 .have h0:h'-l=0:=by omega
  refine⟨X.name aP ⟨0,0,sz,0⟩,rfl,eC hfr,⟨⟨0,0,sz,0⟩,_,_,eS,rfl,rfl,by omega,λhq=>absurd hq hcap⟩,?_,ia⟩;exact(gH h hfr).add (e:=.row aP ((els.drop (off+l)).take (h'-l))) (L:=⟨0,0,sz,0⟩) eS ⟨by rw[B3,h0];exact bc _,Nf,λhq=>absurd hq (by simp),λq f j x hq _=>by rw[h0]at hq;simp at hq⟩ λ_ _ _ _ _ _ _ hq=>absurd hq (by simp)
def TY(h:aF X s.mem s.aI)(hfr:X.ρ aP=none){lv sl ak off len n sz lv2 sl2:Nat}{els:List (List D)}{v:Value}(hx:VR X (.ref lv sl ak off len sz) v)(hrow:rowAt s.mem lv sl ak=some els)(c3:off+len<=els.length):∃Y,Y.w=X.w/\Ext X Y/\VR Y (.ref lv2 sl2 aP 0 len sz) v/\aF Y (bJ (bJ s.mem lv sl none) lv2 sl2 (some (.row aP ((els.drop off).take len)))) s.aI/\fL X Y aP n n:=by
 obtain⟨L,hL,hE,hg⟩:=nI h hrow;obtain⟨L1,ad,cap,Ia,h1,rfl,h3,h4⟩:=hx;rw[hL]at Ia;cases Ia;have B3:((els.drop off).take len).length=len:=by grind
 have Nf:∀e∈(els.drop off).take len,e.length=sz:=λf hf=>by rw[hE.2.1 f (pm (ls hf)),h1]
 by_cases hcap:0<cap
 .have hc0:0<L.cap:=by omega
  obtain⟨C,ce,tj,pV,hb3,hb4,hb5,hb6,hap,xD⟩:=oM h hg hL hc0;let L':Loc:=⟨L.b,L.o+off*L.sz,sz,cap⟩;refine⟨X.name aP L',rfl,eC hfr,⟨L',_,_,eS,rfl,rfl,h3,λ_=>⟨?_,by simp[L']⟩⟩,?_,ia⟩;.grind
  .refine(gH (h.erase lv sl) hfr).add (e:=.row aP ((els.drop off).take len)) (L:=L') eS ⟨by rw[B3];exact h3,Nf,λ_=>⟨⟨pV,C,ce,tj,?_⟩,hb4⟩,λq f j x hq hj=>?_⟩ λk w M hk _ hw xj _=>?_;.show L.o+off*L.sz+cap*sz<=C.size;rw[<-h1,eK,<-d9];have:=d7 L.sz (show off+cap<=L.cap by omega);omega
   .have hqe:=(e8 hq).1;obtain⟨v,hv,M0⟩:=hE.2.2.2 _ f j x hqe hj;refine⟨v,?_,M0⟩;show X.w.cell? ⟨L.b,L.o+off*L.sz+q*sz+j,none⟩=some v;rw[<-hv];congr 2;rw[<-h1,d9 off];omega
   .obtain⟨M',kR,_⟩:=(h.erase lv sl).dh hk;have:(X.name aP L').ρ w=some M':=(eC hfr).loc _ _ kR;rw[hw]at this;cases this;exact hap k w M hk kR xj
 .have h0:len=0:=by omega
  subst h0;refine⟨X.name aP ⟨0,0,sz,0⟩,rfl,eC hfr,⟨⟨0,0,sz,0⟩,_,_,eS,rfl,rfl,h3,λhq=>absurd hq hcap⟩,?_,ia⟩;exact(gH (h.erase lv sl) hfr).add (e:=.row aP ((els.drop off).take 0)) (L:=⟨0,0,sz,0⟩) eS ⟨by simp,by simp,λhq=>absurd hq (by simp),λq f j x hq _=>by simp at hq⟩ λ_ _ _ _ _ _ _ hq=>absurd hq (by simp)
def xE(h:aF X s.mem s.aI)(hfr:X.ρ aP=none){t u ty e:TypeId}{i:TypeInfo}{z:Value}{xv yv:Value}{x y:AV}{row:Bool}{lv sl n:Nat}{E:fD}(ht:P.underlying t=some (.slice e))(hi:P.info? e=some i)(hz:i.zero=some z)(hzs:z.cells.size=i.size)(_h0:0<i.size)(hx:VR X x xv)(hy:∀news,gW s.mem y=some news->(∀e∈news,e.length=i.size)->∃new:List Value,aC (DR X.w X.F) news.flatten new/\Src P u i X.w yv news.length new)(hr:ew s row lv sl aP i.size i.bytes x y=some E):tS P X s t u ty xv yv aP n E:=by unfold ew at hr;cases hn:gW s.mem y with|none=>grind|some news=>
  rw[hn]at hr;simp only at hr;split at hr
  .rename_i MZ;have hnl:=kI MZ;obtain⟨new,H9,hs⟩:=hy news hn hnl;have vi:new.length=news.length*i.size:=by rw[<-H9.length,bg hnl]
   split at hr
   .rename_i els;split at hr
    .rename_i hc;obtain⟨hc1,ou,JZ⟩:=hc;have hel:=kI hc1;obtain⟨ad,b,off,sz',rfl,had,Ng⟩:=hx;by_cases hm0:news.length=0
     .have BS:news=[]:=eI hm0;subst BS;have hnew:new=[]:=eI (by simpa using vi);subst hnew;have hrun:(Builtin.append_ #[t,u] ty #[.slice ad els.length els.length,yv]).run P X.w=.ok (.slice ad els.length els.length) X.w:=by rw[jC (i:=i) (m:=0) (new:=[]) ht hs hi (by omega)];cases ad with|none=>rfl|some ad=>simp[storeCells]
      cases hrow:row with|false=>
       simp only[hrow]at hr;cases hr;refine⟨X.name aP ⟨b,off+els.length*i.size,i.size,els.length-els.length⟩,_,hrun,eC hfr,?_,?_,ia⟩;.rw[dq];refine⟨ad,b,off,i.size,els.length,rfl,bc _,had,?_,eS,rfl⟩;grind[jz,eU,aC,gW,Cx.name,eX]
       .exact Q5 (gH h hfr) eS (by simp)|true=>
       simp only[hrow]at hr;split at hr;.cases hr
       .cases hr;have CJ:els=[]:=by grind
        subst CJ;refine⟨X.name aP ⟨0,0,i.size,0⟩,_,hrun,eC hfr,⟨⟨0,0,i.size,0⟩,ad,0,eS,rfl,rfl,bc _,λhq=>absurd hq (by omega)⟩,?_,ia⟩;exact(gH h hfr).add (e:=.row aP ([]++[])) (L:=⟨0,0,i.size,0⟩) eS ⟨by simp,by simp,λhq=>absurd hq (by simp),by simp⟩ λ_ _ _ _ _ _ _ hq=>absurd hq (by simp)
     .obtain⟨old,ho,ZM⟩:=o8 (P:=P) (n:=els.length) (cap:=els.length) (X:=X) (w:=X.w.drew) (λ_ _=>rfl) Ng hel rfl had;obtain⟨C,G,g1,hrun,g2,g3,g4,g5⟩:=wh (P:=P) (X:=X) (ty:=ty) ht hs hi hz hzs ho (by omega) ou JZ ZM H9 hel hnl;have TX:(els++news).length=els.length+news.length:=bb;cases hrow:row with|false=>simp[hrow]at hr;cases hr;obtain⟨Y,hw,k1,k2,k3,k4⟩:=FX (e:=e) h hfr g5 g2 (by omega) g3 g4 (aI:=s.aI) (n:=n) λ_ h=>h;simp at k2;exact⟨Y,_,by rw[hrun,hw],k1,k2,k3,k4⟩|true=>
       simp only[hrow]at hr;split at hr;.cases hr
       .cases hr;obtain⟨Y,hw,k1,k2,k3,k4⟩:=FY (e:=e) (lv:=lv) (sl:=sl) h hfr g5 g2 (by omega) g3 g4 (n:=n) h;simp at k2;exact⟨Y,_,by rw[hrun,hw],k1,k2,k3,k4⟩
    grind
   .rename_i els v tz;split at hr
    .rename_i hc;obtain⟨hc0,ou,JZ,hc4⟩:=hc;cases hr;have TZ:s.aI.get? v=some ():=by cases hg:s.aI.get? v with|none=>grind|some u=>rfl
     obtain⟨ad,b,off,sz',cap,rfl,hcap,had,Ng,hL,htz⟩:=hx;have hel:∀e∈els,e.length=i.size:=λe he=>by rw[Ng.1 e he,htz,hc0]
     obtain⟨L',hL',hT⟩:=h.aI v TZ;rw[hL]at hL';cases hL';by_cases hm0:news.length=0
     .have BS:news=[]:=eI hm0;subst BS;have hnew:new=[]:=eI (by simpa using vi);subst hnew;have hrun:(Builtin.append_ #[t,u] ty #[.slice ad els.length cap,yv]).run P X.w=.ok (.slice ad els.length cap) X.w:=by rw[jC (i:=i) (m:=0) (new:=[]) ht hs hi (by omega)];cases ad with|none=>rfl|some ad=>simp[storeCells]
      refine⟨X.name aP ⟨b,off+els.length*sz',sz',cap-els.length⟩,_,hrun,eC hfr,?_,?_,ia⟩;.rw[dq];exact⟨ad,b,off,sz',cap,rfl,hcap,had,Ng.ext (eC hfr),eS,htz.trans hc0⟩
      .refine(gH (h.M7 v) hfr).Z3 eS hT λk u M hk _ hu xj hc=>?_;have hold:Holds s.mem s.aI k u/\k≠ku v:=by
        rcases hk with⟨cy,cU,e',rfl,he',nh⟩|⟨rfl,he'⟩;.exact⟨.inl ⟨cy,cU,e',rfl,he',nh⟩,dW⟩
        .rw[Tr.cK]at he';split at he';.cases he'
         .rename_i hvu;exact⟨.inr ⟨rfl,he'⟩,λhq=>hvu (by simpa[ku]using hq.symm)⟩
       obtain⟨M',kR,_⟩:=h.dh hold.1;have:(X.name aP ⟨b,off+els.length*sz',sz',cap-els.length⟩).ρ u=some M':=(eC hfr).loc _ _ kR;simp_all;exact h.apart _ _ _ _ _ _ hold.1 (.inr ⟨rfl,TZ⟩) hold.2 kR hL xj hc
     .by_cases hroom:els.length+news.length<=cap
      .have acT:0<cap-els.length:=by omega
       obtain⟨⟨pV,C,ce,tj,hb3⟩,hb4⟩:=hT acT;simp at pV tj hb3 hb4;have arK:=had (by omega);subst arK;have hsz:sz'=i.size:=htz.trans hc0
       .subst hsz;have hfit:off+els.length*i.size+new.length<=C.size:=by have:=d7 i.size (show news.length<=cap-els.length by omega);omega
        have hst:=run_storeCells_at P b (off+els.length*i.size) ce new 0 C X.w tj (by omega) (aC.aaf H9);let C':=(C.toList.take (off+els.length*i.size)++new++C.toList.drop (off+els.length*i.size+new.length)).toArray;have mE:∀j,C'[j]?=if off+els.length*i.size<=j/\j<off+els.length*i.size+new.length then new[j-(off+els.length*i.size)]?else C[j]?:=lN hfit;have hsize:C'.size=C.size:=by show(C.toList.take (off+els.length*i.size)++new++C.toList.drop (off+els.length*i.size+new.length)).toArray.size=C.size;simp;omega
        have hFk:∀q,X.F b q->C'[q]?=C[q]?:=λq hq=>by rw[mE,be];intro hq';exact hb4 q hq'.1 hq
        have hap:∀k w M,Holds s.mem (s.aI.set v none) k w->X.ρ w=some M->0<M.cap->M.b≠b:=by
         intro k w M hk hw xj;have hold:Holds s.mem s.aI k w/\k≠ku v:=by
          rcases hk with⟨cy,cU,e',rfl,he',nh⟩|⟨rfl,he'⟩;.exact⟨.inl ⟨cy,cU,e',rfl,he',nh⟩,dW⟩
          .rw[Tr.cK]at he';split at he';.cases he'
           .rename_i hvu;exact⟨.inr ⟨rfl,he'⟩,λhq=>hvu (by simpa[ku]using hq.symm)⟩
         exact h.apart _ _ _ _ _ _ hold.1 (.inr ⟨rfl,TZ⟩) hold.2 hw hL xj acT
        let X1:=X.set b C';have hx1:Ext X X1:=vh tj pV hFk;have y7:aF X1 s.mem (s.aI.set v none):=xA (h.M7 v) tj pV hFk hap;let X2:=X1.more λb' q=>b'=b/\q<off+els.length*i.size+new.length/\off+els.length*i.size<=q;have hx2:Ext X1 X2:=Ext.more λb' q hq=>by rw[hq.1];exact pV
        have Nf:b<X1.w.heap.size:=by
         have hh:=ji (X:=X) (C':=C') tj;rcases im b X1.w.heap.size with hl|hl;.exact hl
         .rw[Array.getElem?_eq_none hl]at hh;cases hh
        have hm2:aF X2 s.mem (s.aI.set v none):=y7.more (λb' q hq=>by rw[hq.1];exact⟨pV,Nf⟩) λk w M q hk hw xj hq=>hap k w M hk hw xj hq.1;let L:Loc:=⟨b,off+(els++news).length*i.size,i.size,cap-(els++news).length⟩;have hx3:Ext X2 (X2.name aP L):=eC hfr;have hx:Ext X (X2.name aP L):=(hx1.trans hx2).trans hx3;have TX:(els++news).length=els.length+news.length:=bb;have hoff:off+(els++news).length*i.size=off+els.length*i.size+new.length:=by rw[TX,d9];omega
        refine⟨X2.name aP L,.slice (some ⟨b,off,none⟩) (els.length+news.length) cap,?_,hx,?_,?_,?_⟩;.rw[jC (i:=i) (new:=new) ht hs hi hroom];simp only[Addr.add_lit,hst,Result.andThen_ok];rfl
        .refine⟨some ⟨b,off,none⟩,b,off,i.size,cap,by rw[TX],by omega,λ_=>rfl,?_,eS,rfl⟩;refine⟨λf hf=>?_,λq f j w hq hj=>?_⟩
         .rcases bj.1 hf with hf|hf;.exact hel f hf
          .exact hnl f hf
         .have HW:j<i.size:=by
           have hff:f.length=i.size:=by
            rcases bj.1 (f2 hq)with hf|hf;.exact hel f hf
            .exact hnl f hf
           rw[<-hff];exact(cb.1 hj).1
          by_cases hql:q<els.length;.rw[nz hql]at hq;obtain⟨hF,w',Pu,M0⟩:=Ng.2 q f j w hq hj;exact⟨hx.TE _ _ hF,w',(hx.keep _ _ hF).trans Pu,M0.ext hx⟩
          .rw[kw (by omega)]at hq;have hg:=gG hnl _ j f hq HW;rw[hj]at hg;obtain⟨w',Pu,M0⟩:=H9.get _ _ hg;have hlt:=(cb.1 Pu).1;have e1:off+q*i.size+j=off+els.length*i.size+((q-els.length)*i.size+j):=by
            have:q=els.length+(q-els.length):=by omega
            conv=>lhs;rw[this,d9]
            omega
           refine⟨.inr ⟨rfl,by omega,by omega⟩,w',?_,M0.ext hx⟩;show(X.set b C').w.cell? _=_;rw[cell_of_row _ _ _ _ _ _ (ji tj),e1,mE,ba (by omega)];rw[show off+els.length*i.size+((q-els.length)*i.size+j)-(off+els.length*i.size)=(q-els.length)*i.size+j by omega];exact Pu
        .refine(gH hm2 hfr).Z3 (L:=L) eS (λhc=>⟨⟨pV,C',ce,ji tj,?_⟩,λq hq hF=>?_⟩) λk w M hk _ hw xj _=>?_
         .rw[eK,<-d9,show(els++news).length+(cap-(els++news).length)=cap by omega];have:off+els.length*i.size+(cap-els.length)*i.size=off+cap*i.size:=by rw[eK,<-d9,show els.length+(cap-els.length)=cap by omega]
          omega
         .have hq:off+(els++news).length*i.size<=q:=hq;rcases hF with hF|hF;.exact hb4 q (by omega) hF
          .omega
         .have hold:∃M',X.ρ w=some M':=by obtain⟨M',kR,_⟩:=(h.M7 v).dh hk;exact⟨M',kR⟩
          obtain⟨M',kR⟩:=hold;have:(X2.name aP L).ρ w=some M':=hx.loc _ _ kR;rw[hw]at this;injection this with this;subst this;exact hap k w M hk kR xj
        .exact⟨bc _,λw M hw=>by
          rcases(ia (X:=X2) (v:=aP) (n:=0) (L:=L)).2 w M hw with hq|hq|hq;.exact .inl hq
          .exact .inr (.inl hq)
          .omega⟩
      .obtain⟨old,ho,ZM⟩:=o8 (P:=P) (n:=els.length) (cap:=cap) (X:=X) (w:=X.w.drew) (λ_ _=>rfl) Ng hel rfl (λhq=>had (by omega));obtain⟨C,G,g1,hrun,g2,g3,g4,g5⟩:=wh (P:=P) (X:=X) (ty:=ty) ht hs hi hz hzs ho (by omega) ou JZ ZM H9 hel hnl;have TX:(els++news).length=els.length+news.length:=bb;obtain⟨Y,hw,k1,k2,k3,k4⟩:=FX (e:=e) h hfr g5 g2 (by omega) g3 g4 (aI:=s.aI.set v none) (n:=n) λw hw=>by rw[Tr.cK]at hw;split at hw<;>first|exact hw|cases hw
       simp at k2;exact⟨Y,_,by rw[hrun,hw],k1,k2,k3,k4⟩
    .cases hr
   .split at hr
    .rename_i els hrow;split at hr;.rename_i hc;obtain⟨hc0,hc1,ou,JZ⟩:=hc;cases hr;subst hc0;exact Nd h hfr ht hs hi hz hzs hx hrow hc1 ou JZ hnl H9
     .cases hr
    grind
   grind
  grind
def tT(h:aF X s.mem s.aI)(hfr:X.ρ aP=none){t u ty e:TypeId}{i:TypeInfo}{z:Value}{xv yv:Value}{x y:AV}{row:Bool}{lv sl n:Nat}{E:fD}(ht:P.underlying t=some (.slice e))(hu:we P u)(hi:P.info? e=some i)(hz:i.zero=some z)(hzs:z.cells.size=i.size)(h0:0<i.size)(hx:VR X x xv)(hy:VR X y yv)(hr:ew s row lv sl aP i.size i.bytes x y=some E):tS P X s t u ty xv yv aP n E:=xE h hfr ht hi hz hzs h0 hx (λnews hn hnl=>by
 obtain⟨new,H9,hlen,hfc⟩:=B2 (P:=P) h hn hy hnl h0;have vi:new.length=news.length*i.size:=by rw[<-H9.length,bg hnl]
 have ajx:∀w:World,(∀b o,w.cell? ⟨b,o,none⟩=X.w.cell? ⟨b,o,none⟩)->(Builtin.firstCells i.size news.length yv).run P w=.ok new.toArray w:=by grind
 exact⟨new,H9,.val hu (hlen X.w) (ajx X.w λ_ _=>rfl) (ajx X.w.drew λ_ _=>rfl)⟩) hr
end
section
variable{P:Program}{X:Cx}{nt:NT}{s:St}{a:Act}{o:Oper}{dst:Option Nat}{aP:Nat}
def qP{m:List (Tr bq)}{lv sl ak:Nat}{cs:List AV}(h:j3 m lv sl ak=some cs):aH m lv sl=some (.box ak cs):=by
 unfold j3 at h;split at h
 .rename_i v cs' hm;split at h;.rename_i hv;injection h with h;subst h;rw[hm,am hv]
  .cases h
 .cases h
def FZ{m:List (Tr bq)}{t:Tr Unit}(h:aF X m t){y:AV}{new:List AV}{v:Value}{sz:Nat}(hc:oa m sz y=some new)(hv:VR X y v)(h0:0<sz):∃(k:Nat)(vs:List Value),new.length=k*sz/\aC (VC X) new vs/\(∀w:World,(Builtin.lenOf v).run P w=.ok k w)/\(∀w:World,(∀b o,w.cell? ⟨b,o,none⟩=X.w.cell? ⟨b,o,none⟩)->(Builtin.firstCells sz k v).run P w=.ok vs.toArray w):=by
 have data:∀els,dL m y=some els->(∀e∈els,e.length=sz)->new=els.flatten.map .d->∃(k:Nat)(vs:List Value),new.length=k*sz/\aC (VC X) new vs/\(∀w:World,(Builtin.lenOf v).run P w=.ok k w)/\(∀w:World,(∀b o,w.cell? ⟨b,o,none⟩=X.w.cell? ⟨b,o,none⟩)->(Builtin.firstCells sz k v).run P w=.ok vs.toArray w):=by
  rintro els he hl rfl;obtain⟨ad,cap,sz',b,o,rfl,h2,h3,h4⟩:=o7 h he hv;obtain⟨vs,h5,h6⟩:=rR h4;have hlen:vs.length=els.length*sz:=by rw[<-h6.length,bg hl]
  refine⟨els.length,vs,by rw[lh,bg hl],h6.aag,λw=>rfl,λw hw=>?_⟩;by_cases hz:els.length=0;.have:vs=[]:=eI (by rw[hlen,hz,yi]);subst this;rw[hz];cases ad with|none=>simp[Builtin.firstCells]|some ad=>simp[Builtin.firstCells,loadCells,loadCellsFrom]
  .have:=h3 (by omega);subst this;have:=run_loadCells_list (P:=P) w ⟨b,o,none⟩ vs λj u hj=>by rw[Addr.add_lit,hw];exact h5 j u hj
   rw[hlen]at this;simpa[Builtin.firstCells]using this
 unfold oa at hc;split at hc
 .rename_i lv sl ak off n sz';split at hc
  .rename_i cs hb;split at hc
   .rename_i hq;obtain⟨rfl,hoff⟩:=hq;injection hc with hc;subst hc;obtain⟨L,C,e,hL,h1,h2,h3,h4,h5,h6,h7⟩:=zd h (qP hb);obtain⟨L',cap,hL',rfl,hcap,hn,_⟩:=hv;rw[hL]at hL';injection hL' with hL';subst hL';have hlen:((C.toList.drop (L.o+off)).take (n*sz')).length=n*sz':=by rw[ft,lw,fw];omega
    have mE:∀(j:Nat)(u:Value),((C.toList.drop (L.o+off)).take (n*sz'))[j]?=some u->C[L.o+off+j]?=some u:=by
     intro j u hj;rw[fa]at hj;split at hj;.rw[mn]at hj;simpa using hj
     .cases hj
    refine⟨n,(C.toList.drop (L.o+off)).take (n*sz'),by rw[ft,lw];omega,.tH (by rw[hlen,ft,lw];omega) λj x u hj hu=>?_,λw=>rfl,λw hw=>?_⟩
    .rw[fa]at hj;split at hj;.rw[mn]at hj;obtain⟨u',lF,hr⟩:=h7 _ _ hj;have:=mE j u hu;rw[eK,lF]at this;injection this with this;exact this▸hr
     .cases hj
    .have:=run_loadCells_list (P:=P) w ⟨L.b,L.o+off,none⟩ ((C.toList.drop (L.o+off)).take (n*sz')) λj u hj=>by rw[Addr.add_lit,hw,cell_of_row _ _ _ _ _ _ h2];exact mE j u hj
     rw[hlen]at this;simpa[Builtin.firstCells]using this
   .cases hc
  .cases hc
 .split at hc
  .rename_i els he;split at hc;.rename_i MZ;injection hc with hc;exact data els he (λe h=>by have:=eQ.1 MZ e h;simpa using this) hc.symm
   .cases hc
  .cases hc
def J0{m:List (Tr bq)}{t:Tr Unit}(h:aF X m t){y:AV}{new:List AV}{v:Value}{sz:Nat}(hc:oa m sz y=some new)(hv:VR X y v)(h0:0<new.length):∃p m c,v=.slice (some p) m c:=by
 unfold oa at hc;split at hc;.obtain⟨L',cap,hL',rfl,_⟩:=hv;exact⟨_,_,_,rfl⟩
 .split at hc
  .rename_i els he;split at hc;.injection hc with hc;subst hc;obtain⟨ad,cap,sz',b,o,rfl,h2,h3,h4⟩:=o7 h he hv;cases els with|nil=>simp at h0|cons e els=>have:=h3 (by simp);subst this;exact⟨_,_,_,rfl⟩
   .cases hc
  .cases hc
def J1{s:St}{lv sl aP sz bytes:Nat}{x y:AV}{E:fD}(h:kH s lv sl aP sz bytes x y=some E):∃new,oa s.mem sz y=some new/\0<new.length:=by
 unfold kH at h;split at h;.cases h
 .rename_i new hc;refine⟨new,hc,?_⟩;cases new with|nil=>simp at h|cons x l=>simp
def T0{m:List (Tr bq)}{t:Tr Unit}(h:aF X m t){C:Array Value}{e:TypeId}{v:Nat}{cs:List AV}(lv sl:Nat)(hv:X.ρ v=none)(hle:cs.length<=C.size)(hc:∀(j:Nat)(x:AV),cs[j]?=some x->∃u:Value,C[j]?=some u/\VC X x u):aF (X.alloc C e v ⟨X.w.heap.size,0,C.size,1⟩) (bJ m lv sl (some (.box v cs))) t:=by
 have hx:Ext X (X.alloc C e v ⟨X.w.heap.size,0,C.size,1⟩):=Ext.alloc h.nG h.low hv;refine(h.alloc hv).add (L:=⟨X.w.heap.size,0,C.size,1⟩) (tN _ _ _ _ _) ⟨rfl,⟨h.fresh,C,e,nJ _ _ _ _ _,by simp;omega⟩,λo ho=>?_,λj x hj=>?_⟩ λk u M hk _ hu hc _=>oL h hv hk hu hc;.exact mr _ (h.nG _ _ ho)
 .obtain⟨u,hu,hr⟩:=hc _ _ hj;refine⟨u,?_,hr.ext hx⟩;rw[cell_of_row _ _ _ _ _ _ (nJ X C e v _),jn];exact hu
def VC.drew{X:Cx}{x:AV}{v:Value}(h:VC X x v):VC X.drew x v:=h.ext nK
def F0(h:aF X s.mem s.aI)(hfr:X.ρ aP=none){m:List (Tr bq)}{C:Array Value}{e:TypeId}{cs:List AV}{sz k G n lv sl:Nat}{vs:List Value}(hl:cs.length=k*sz)(hC:G*sz<=C.size)(hle:k<=G)(h0:0<k)(hvs:∀(j:Nat)(u:Value),vs[j]?=some u->C[j]?=some u)(hd:aC (VC X) cs vs)(hm:aF X m s.aI):∃Y,Y.w=X.w.drew.alloc (.cells C e)/\Ext X Y/\VR Y (.dx lv sl aP 0 k sz) (.slice (some ⟨X.w.heap.size,0,none⟩) k G)/\aF Y (bJ m lv sl (some (.box aP cs))) s.aI/\fL X Y aP n n:=by have hk:=d7 sz hle;have nr:=T0 (X:=X.drew) (xC hm) (C:=C) (e:=e) (v:=aP) (cs:=cs) lv sl hfr (by omega) (λj x hj=>by obtain⟨u,hu,hr⟩:=hd.get _ _ hj;exact⟨u,hvs _ _ hu,hr.drew⟩);refine⟨X.drew.alloc C e aP ⟨X.w.heap.size,0,C.size,1⟩,rfl,nK.trans (Ext.alloc (X:=X.drew) h.nG h.low hfr),⟨⟨X.w.heap.size,0,C.size,1⟩,G,tN X.drew C e aP _,by simp,hle,h0,λ_=>by show 0+G*sz<=C.size;omega⟩,nr,?_⟩;exact lg (X:=X.drew) (C:=C) (e:=e) (v:=aP) (L:=⟨X.w.heap.size,0,C.size,1⟩) (n:=n)
def Nh(h:aF X s.mem s.aI)(hfr:X.ρ aP=none){t u ty e:TypeId}{i:TypeInfo}{z:Value}{xv yv:Value}{lv sl ak off len k n:Nat}{cs new:List AV}{vs:List Value}{rd:List (Nat×Nat×Nat)}(ht:P.underlying t=some (.slice e))(hs:Src P u i X.w yv k vs)(hi:P.info? e=some i)(hz:i.zero=some z)(hzs:z.cells.size=i.size)(h0:0<i.size)(hx:VR X (.dx lv sl ak off len i.size) xv)(hb:j3 s.mem lv sl ak=some cs)(hc1:off+len*i.size<=cs.length)(ou:len+k<=eU)(JZ:(len+k)*i.bytes<=jz)(hk:0<k)(hl:new.length=k*i.size)(hd:aC (VC X) new vs):tS P X s t u ty xv yv aP n {val:=.dx lv sl aP 0 (len+k) i.size,dn:=[(lv,sl,some (.box aP ((cs.drop off).take (len*i.size)++new)))],cR:=[],rd}:=by
 have hg:=qP hb;obtain⟨L,C,ce,hL,h1,tj,pV,hb3,hb4,hap,xD⟩:=zd h hg;have hx0:=hx;obtain⟨L1,cap,Ia,rfl,h3,h4,h5⟩:=hx;rw[hL]at Ia;injection Ia with Ia;subst Ia;have hvl:vs.length=k*i.size:=by rw[<-hd.length,hl]
 have B3:((cs.drop off).take (len*i.size)).length=len*i.size:=by rw[ft,lw];omega
 have TX:((cs.drop off).take (len*i.size)++new).length=(len+k)*i.size:=by rw[bb,B3,hl,d9]
 by_cases hroom:len+k<=cap
 .have h6:=h5 (by omega);have hm:=d7 i.size hroom;rw[d9]at hm;have hfit:L.o+off+len*i.size+vs.length<=C.size:=by omega
  have hst:=run_storeCells_at P L.b (L.o+off+len*i.size) ce vs 0 C X.w tj (by omega) (aC.one hd);simp only[fg]at hst;let C':=(C.toList.take (L.o+off+len*i.size)++vs++C.toList.drop (L.o+off+len*i.size+vs.length)).toArray;have mE:∀j,C'[j]?=if L.o+off+len*i.size<=j/\j<L.o+off+len*i.size+vs.length then vs[j-(L.o+off+len*i.size)]?else C[j]?:=lN hfit;have hsize:C'.size=C.size:=by show(C.toList.take (L.o+off+len*i.size)++vs++C.toList.drop (L.o+off+len*i.size+vs.length)).toArray.size=C.size;simp;omega
  have hFk:∀q,X.F L.b q->C'[q]?=C[q]?:=λq hq=>absurd hq (hb4 q);have hx1:Ext X (X.set L.b C'):=vh tj pV hFk;have y7:aF (X.set L.b C') (bJ s.mem lv sl none) s.aI:=xA (h.erase lv sl) tj pV hFk hap;let L':Loc:=⟨L.b,L.o+off,cap*i.size,1⟩;have hx2:Ext (X.set L.b C') ((X.set L.b C').name aP L'):=eC hfr;have hx:Ext X ((X.set L.b C').name aP L'):=hx1.trans hx2;refine⟨(X.set L.b C').name aP L',.slice (some ⟨L.b,L.o+off,none⟩) (len+k) cap,?_,hx,?_,?_,?_⟩;.rw[jC (i:=i) (new:=vs) ht hs hi hroom];simp only[Addr.add_lit,hst,Result.andThen_ok];rfl
  .exact⟨L',cap,eS,rfl,hroom,by omega,λ_=>by show 0+cap*i.size<=cap*i.size;omega⟩
  .show aF _ (bJ s.mem lv sl _) s.aI;refine(gH y7 hfr).reset (e:=.box aP ((cs.drop off).take (len*i.size)++new)) (L:=L') eS ⟨rfl,⟨pV,C',ce,ji tj,?_⟩,hb4,λj x hj=>?_⟩ λk' w M hk' hw xj _=>?_;.show L.o+off+max ((cs.drop off).take (len*i.size)++new).length (cap*i.size)<=C'.size;rw[hsize,TX,d9];omega
   .show∃v,(X.set L.b C').w.cell? ⟨L.b,L.o+off+j,none⟩=some v/\_;rw[cell_of_row _ _ _ _ _ _ (ji tj),mE];by_cases hq:j<len*i.size;.rw[nz (by omega),fa,ba hq,mn]at hj;obtain⟨v,hv,hr⟩:=xD _ _ hj;rw[be (by omega),eK];exact⟨v,hv,hr.ext hx⟩
    .rw[kw (by omega),B3]at hj;obtain⟨v,hv,hr⟩:=hd.get _ _ hj;have hlt:=(cb.1 hv).1;rw[ba (by omega),show L.o+off+j-(L.o+off+len*i.size)=j-len*i.size by omega];exact⟨v,hv,hr.ext hx⟩
   .obtain⟨M',kR,_⟩:=(h.erase lv sl).dh hk';have:((X.set L.b C').name aP L').ρ w=some M':=hx.loc _ _ kR;rw[hw]at this;injection this with this;subst this;exact hap k' w M hk' kR xj
  .exact⟨bc _,λw M hw=>by
    rcases(ia (X:=X.set L.b C') (v:=aP) (n:=0) (L:=L')).2 w M hw with hq|hq|hq;.exact .inl hq
    .exact .inr (.inl hq)
    .omega⟩
 .have lu:oa s.mem i.size (.dx lv sl ak off len i.size)=some ((cs.drop off).take (len*i.size)):=by simp only[oa,hb,hc1,and_self,i5]
  obtain⟨k',old,q1,q2,q3,q4⟩:=FZ (P:=P) h lu hx0 h0;have hkk:k'=len:=by rw[B3]at q1;exact(Nat.eq_of_mul_eq_mul_right h0 q1).symm
  subst hkk;have Ib:old.length=k'*i.size:=by rw[<-q2.length,B3]
  have hrun:=tP (P:=P) (t:=t) (u:=u) (ty:=ty) (w:=X.w) (cap:=cap) ht hs hi hz (q4 X.w.drew λ_ _=>rfl) (by omega) ou JZ;have hG:=grownCap_ge X.w (k'+k) cap e;obtain⟨Y,hw,k1,k2,k3,k4⟩:=F0 (e:=e) (lv:=lv) (sl:=sl) (m:=bJ s.mem lv sl none) h hfr TX (wg Ib hvl hzs hG) hG (by omega) (λj u hj=>tR j u hj) (q2.append hd) (n:=n) (h.erase lv sl);exact⟨Y,_,by rw[hrun,hw],k1,k2,JY k3,k4⟩
def xF(h:aF X s.mem s.aI)(hfr:X.ρ aP=none){t u ty e:TypeId}{i:TypeInfo}{z:Value}{xv yv:Value}{x y:AV}{lv sl n:Nat}{E:fD}(ht:P.underlying t=some (.slice e))(hu:we P u)(hi:P.info? e=some i)(hz:i.zero=some z)(hzs:z.cells.size=i.size)(h0:0<i.size)(hx:VR X x xv)(hy:VR X y yv)(hr:kH s lv sl aP i.size i.bytes x y=some E):tS P X s t u ty xv yv aP n E:=by
 unfold kH at hr;split at hr;.cases hr
 .rename_i new hc;obtain⟨k,vs,q1,q2,q3,q4⟩:=FZ (P:=P) h hc hy h0;have hdiv:new.length/i.size=k:=by rw[q1];exact Nat.mul_div_cancel _ h0
  have hsrc:Src P u i X.w yv k vs:=.val hu (q3 X.w) (q4 X.w λ_ _=>rfl) (q4 X.w.drew λ_ _=>rfl);simp only[hdiv]at hr;split at hr;.cases hr
  .rename_i hk;have hk:0<k:=by
    rcases Nat.eq_zero_or_pos k with hq|hq;.subst hq;simp at hk
    .exact hq
   split at hr
   .split at hr
    .rename_i ou;injection hr with hr;subst hr;obtain⟨ad,b,off,sz',rfl,_,_⟩:=hx;have hrun:=tP (P:=P) (t:=t) (u:=u) (ty:=ty) (w:=X.w) (ad:=ad) (n:=0) (cap:=0) (old:=[]) ht hsrc hi hz (by cases ad with|none=>simp[Builtin.firstCells]|some ad=>simp[Builtin.firstCells,loadCells,loadCellsFrom]) (by omega) (by omega) (by rw[jn];exact ou.2);have hG:=grownCap_ge X.w (0+k) 0 e;have hvl:vs.length=k*i.size:=by rw[<-q2.length,q1]
     obtain⟨Y,hw,k1,k2,k3,k4⟩:=F0 (e:=e) (lv:=lv) (sl:=sl) (m:=s.mem) h hfr (k:=0+k) (by rw[q1,jn]) (wg (old:=[]) (n:=0) (by simp) hvl hzs hG) hG (by omega) (λj u hj=>tR j u (by simpa using hj)) q2 (n:=n) h;rw[jn]at k2;exact⟨Y,_,by show _=_;rw[hw];rw[jn]at hrun⊢;exact hrun,k1,k2,k3,k4⟩
    .cases hr
   .split at hr
    .rename_i cs hb;split at hr;.rename_i ou;obtain⟨rfl,ou,JZ,hc4⟩:=ou;injection hr with hr;subst hr;exact Nh h hfr ht hsrc hi hz hzs h0 hx hb ou JZ hc4 hk q1 q2
     .cases hr
    .cases hr
   .cases hr
end
def gI{α:Type}{sz:Nat}:∀{els:List (List α)},(∀e∈els,e.length=sz)->∀k,k<=els.length->(els.take k).flatten=els.flatten.take (k*sz)/\(els.drop k).flatten=els.flatten.drop (k*sz)
 |els,hl,0,_=>by simp|[],hl,k+1,h=>by simp at h|f::els,hl,k+1,h=>by
  have ih:=gI (els:=els) (λe he=>hl e (by simp[he])) k (by simpa using h);have hf:=hl f (by simp);simp[List.take_succ_cons,ph,List.drop_succ_cons,ih.1,ih.2];rw[show(k+1)*sz=f.length+k*sz by rw[d9,hf];omega];refine⟨?_,?_⟩;.grind
  .rw[ww,py (l:=f) (by omega),show f.length+k*sz-f.length=k*sz by omega,ii]
def CK{α:Type}{sz:Nat}{els new:List (List α)}(hl:∀e∈els,e.length=sz)(hn:∀e∈new,e.length=sz){off:Nat}(h:off+new.length<=els.length):(splice els off new).flatten=splice els.flatten (off*sz) new.flatten:=by unfold splice;rw[List.flatten_append,List.flatten_append,(gI hl off (by omega)).1,(gI hl (off+new.length) h).2,bg hn,d9]
def CL{α:Type}(els:List α)(off:Nat):splice els off []=els:=by simp[splice]
section
variable{P:Program}{X:Cx}{nt:NT}{s:St}{a:Act}{o:Oper}{dst:Option Nat}{aP:Nat}
def aF.same{m:List (Tr bq)}{t:Tr Unit}(h:aF X m t){lv sl:Nat}{e:bq}(hg:aH m lv sl=some e):aF X (bJ m lv sl (some e)) t:=h.congr (λcy cU=>by rw[cO]<;>grind) λ_=>rfl
def CM{m:List (Tr bq)}{t:Tr Unit}(h:aF X m t){lv sl ak off:Nat}{els new:List (List D)}{vs:List Value}{L:Loc}(hg:aH m lv sl=some (.row ak els))(hL:X.ρ ak=some L)(hoff:off+new.length<=els.length)(hn:∀e∈new,e.length=L.sz)(hd:aC (DR X.w X.F) new.flatten vs)(h0:0<new.length):∃Y,Ext X Y/\Y.ρ=X.ρ/\aF Y (bJ m lv sl (some (.row ak (splice els off new)))) t/\(storeCells ⟨L.b,L.o+off*L.sz,none⟩ vs).run P X.w=.ok () Y.w:=by
 obtain⟨L',hL',e1,e2,_,_⟩:=h.fE _ _ _ hg;have:X.ρ ak=some L':=hL';rw[hL]at this;cases this;have hvl:vs.length=new.length*L.sz:=by rw[<-hd.length,bg hn]
 have hfl:=CK e2 hn hoff;have arD:=bg e2;have hle:off*L.sz+new.length*L.sz<=els.length*L.sz:=by rw[<-d9];exact d7 _ hoff
 have lu:els.length*L.sz<=L.cap*L.sz:=d7 _ e1;refine FV (P:=P) h hg hL (by omega) (by omega) ?_ (λf hf=>?_) (by rw[lK _ _ _ hoff];exact e1) λj x hj=>?_;.rw[hfl,hvl,<-bg hn,qO _ _ _ (by omega)]<;>omega
 .grind[splice,Block,bq.ak,aC,aH]
 .rw[hfl,eN _ _ _ (by rw[bg hn];omega)]at hj;rw[bg hn]at hj<;>grind
def J2{t u:TypeId}{e:TypeId}{i:TypeInfo}{x y:Operand}{ad:Option Addr}{len cap m:Nat}{cells:List Value}(ho:o.op=.call {callee:=.builtin .copy,args:=#[x,y],argTypes:=#[t,u]})(ht:P.underlying t=some (.slice e))(hi:P.info? e=some i)(hx:a.eval x=.slice ad len cap)(hl:(Builtin.lenOf (a.eval y)).run P X.w=.ok m X.w)(hf:(Builtin.firstCells i.size (Nat.min m len) (a.eval y)).run P X.w=.ok cells.toArray X.w):(execOp a.eval o).run P X.w=match ad with|some ad=>((storeCells ad cells).run P X.w).andThen λ_ w'=>.ok (.value (goInt (Nat.min m len))) w'|none=>.ok (.value (goInt (Nat.min m len))) X.w:=by cases ad with|none=>simp[execOp,ho,resolve,invoke,builtin,Builtin.copy_,run_underlying ht,hx,hl,sizeOf,typeInfo,hi,hf]|some ad=>simp[execOp,ho,resolve,invoke,builtin,Builtin.copy_,run_underlying ht,hx,hl,sizeOf,typeInfo,hi,hf];cases Sem.run P (storeCells ad cells) X.w<;>rfl
def Ni(hs:fI X nt s a){t u e:TypeId}{i:TypeInfo}{x y:Operand}{x' y':cu}{lv sl ak off ln:Nat}{els news:List (List D)}{rd:List (Nat×Nat×Nat)}(ho:o.op=.call {callee:=.builtin .copy,args:=#[x,y],argTypes:=#[t,u]})(ht:P.underlying t=some (.slice e))(hi:P.info? e=some i)(h0:0<i.size)(hx:dD x=some x')(hy:dD y=some y')(hq:x'.ev s.slots=.ref lv sl ak off ln i.size)(hn:gW s.mem (y'.ev s.slots)=some news)(hr:rowAt s.mem lv sl ak=some els)(hle:off+ln<=els.length)(MZ:∀e∈news,e.length=i.size):dF P X s a o dst aP (.bT {val:=qK (min news.length ln),dn:=[(lv,sl,some (.row ak (splice els off (news.take (min news.length ln)))))],cR:=[],rd}):=by
 obtain⟨vs,hd,hlen,hfc⟩:=B2 (P:=P) hs.mem hn (bC hs hy) MZ h0;have hv:=bC hs hx;rw[hq]at hv;obtain⟨L,ad,cap,hL,h1,h2,h3,h4⟩:=hv;obtain⟨L',hL',hE,hg⟩:=nI hs.mem hr;have hmin:Nat.min news.length ln=min news.length ln:=rfl;have hrun:=J2 (P:=P) (X:=X) ho ht hi h2 (hlen X.w) (hfc X.w (λ_ _=>rfl) _ (te _ _));rw[hmin]at hrun;have htl:(news.take (min news.length ln)).length=min news.length ln:=by grind
 by_cases hz:min news.length ln=0
 .have BS:news.take (min news.length ln)=[]:=by grind
  refine .value (Y:=X) (v:=goInt ((min news.length ln:Nat):Int)) ?_ (Ext.refl X) (.CA rfl) ?_ (fL.refl _ _ _);.rw[hrun];cases ad with|none=>rfl|some ad=>rw[hz];simp[storeCells]
  .rw[BS,CL];exact hs.mem.same hg
 .obtain⟨rfl,h5⟩:=h4 (by omega);have hnt:∀e∈news.take (min news.length ln),e.length=L.sz:=λf hf=>by rw[h1];exact MZ f (ls hf)
  obtain⟨Y,hx',hρ,hm,hst⟩:=CM (P:=P) hs.mem (off:=off) (new:=news.take (min news.length ln)) (vs:=vs.take (min news.length ln*i.size)) hg hL (by omega) hnt (by rw[(gI MZ _ (te _ _)).1];exact hd.take _) (by omega);refine .value (Y:=Y) (v:=goInt ((min news.length ln:Nat):Int)) ?_ hx' (.CA rfl) hm (fL.JU hρ)<;>simp_all
def Nj(hs:fI X nt s a){t u e:TypeId}{i:TypeInfo}{x y:Operand}{x' y':cu}{lv sl ak off n:Nat}{cs:List AV}{news:List (List D)}{rd:List (Nat×Nat×Nat)}(ho:o.op=.call {callee:=.builtin .copy,args:=#[x,y],argTypes:=#[t,u]})(ht:P.underlying t=some (.slice e))(hi:P.info? e=some i)(h0:0<i.size)(hx:dD x=some x')(hy:dD y=some y')(hq:x'.ev s.slots=.dx lv sl ak off n i.size)(hn:gW s.mem (y'.ev s.slots)=some news)(hb:j3 s.mem lv sl ak=some cs)(hle:off+n*i.size<=cs.length)(MZ:∀e∈news,e.length=i.size):dF P X s a o dst aP (.bT {val:=qK (min news.length n),dn:=[(lv,sl,some (.box ak (splice cs off ((news.take (min news.length n)).flatten.map .d))))],cR:=[],rd}):=by
 obtain⟨vs,hd,hlen,hfc⟩:=B2 (P:=P) hs.mem hn (bC hs hy) MZ h0;have hv:=bC hs hx;rw[hq]at hv;obtain⟨L,aab,hL,h2,_⟩:=hv;have hg:aH s.mem lv sl=some (.box ak cs):=by
  unfold j3 at hb;split at hb;.split at hb<;>simp_all
  grind
 have hrun:=J2 (P:=P) (X:=X) ho ht hi h2 (hlen X.w) (hfc X.w (λ_ _=>rfl) _ (te _ _));have hd':aC (DR X.w X.F) (news.take (min news.length n)).flatten (vs.take (min news.length n*i.size)):=by rw[(gI MZ _ (te _ _)).1];exact hd.take _
 have hdc:aC (VC X) ((news.take (min news.length n)).flatten.map .d) (vs.take (min news.length n*i.size)):=by refine .tH (by rw[lh];exact hd'.length) λj x v hj hv=>?_;rw[fi]at hj;cases hq':(news.take (min news.length n)).flatten[j]?with|none=>grind|some y=>rw[hq']at hj;cases hj;obtain⟨v',nh,M0⟩:=hd'.get _ _ hq';simp_all;exact M0
 have hfl:((news.take (min news.length n)).flatten.map AV.d).length<=n*i.size:=by rw[lh,bg (λf hf=>MZ f (ls hf)),ft];exact d7 _ (by omega)
 obtain⟨L',Y,hL',hx',hρ,hm,hst⟩:=FU (P:=P) hs.mem hg (off:=off) (by omega) hdc;rw[hL]at hL';refine .value (Y:=Y) (v:=goInt ((min news.length n:Nat):Int)) ?_ hx' (.CA rfl) hm (fL.JU hρ)<;>simp_all
def xG(hs:fI X nt s a){t e:TypeId}{sz:Nat}{x:Operand}{x':cu}{lv sl ak off ln:Nat}{els:List (List D)}{z:List D}{zl:List Value}{rd:List (Nat×Nat×Nat)}(ho:o.op=.call {callee:=.builtin .clear,args:=#[x],argTypes:=#[t]})(ht:P.underlying t=some (.slice e))(hz:oX P e=some zl)(Fk:jT zl=some z)(hzl:z.length=sz)(h0:0<sz)(hx:dD x=some x')(hq:x'.ev s.slots=.ref lv sl ak off ln sz)(hr:rowAt s.mem lv sl ak=some els)(hle:off+ln<=els.length):dF P X s a o dst aP (.bT {val:=kP,dn:=[(lv,sl,some (.row ak (splice els off (List.replicate ln z))))],cR:=[],rd}):=by
 have hv:=bC hs hx;rw[hq]at hv;obtain⟨L,ad,cap,hL,h1,h2,h3,h4⟩:=hv;obtain⟨L',hL',hE,hg⟩:=nI hs.mem hr;obtain⟨i,zv,hi,H7,rfl⟩:=jW hz;by_cases hn:ln=0
 .subst hn;refine .value (Y:=X) (v:=undef) ?_ (Ext.refl X) oY ?_ (fL.refl _ _ _);.cases ad<;>simp[execOp,ho,resolve,invoke,builtin,Builtin.clear_,run_underlying ht,h2,undef]
  .rw[show List.replicate 0 z=[]from rfl,CL];exact hs.mem.same hg
 .obtain⟨rfl,h5⟩:=h4 (by omega);have hZ:aC (DR X.w X.F) z zv.cells.toList:=mF Fk;have hzs:zv.cells.size=sz:=by rw[<-hzl,hZ.length,fw]
  have vZ:=jB hZ hzl h0 ln (ln*sz) (bc _);rw[qy]at vZ;obtain⟨Y,hx',hρ,hm,hst⟩:=CM (P:=P) hs.mem (off:=off) (new:=List.replicate ln z) hg hL (by simpa using hle) (λf hf=>by rw[(rl.1 hf).2,h1];exact hzl) vZ (by simp;omega);refine .value (Y:=Y) (v:=undef) ?_ hx' oY hm (fL.JU hρ);have hzc:(Builtin.zeroCells zv.cells ln).toList=(madeCells zv.cells (ln*sz)).toList:=by simp[Builtin.zeroCells,madeCells,hzs]
  rw[h1]at hst;simp[execOp,ho,resolve,invoke,builtin,Builtin.clear_,run_underlying ht,h2,zeroValue,typeInfo,hi,H7,hzc,hst,undef]
def aev(hs:fI X nt s a){ts:Array TypeId}{x y:Operand}{x' y':cu}{k:IntKind}{p q:Int}(ho:o.op=.call {callee:=.builtin .min,args:=#[x,y],argTypes:=ts})(hx:dD x=some x')(hy:dD y=some y')(h1:x'.ev s.slots=.d (.sc (.int k p)))(h2:y'.ev s.slots=.d (.sc (.int k q))):Quiet P X o a (nC (.int k (min p q))):=by
 have g1:=bC hs hx;rw[h1]at g1;have g1:=g1.sc;have g2:=bC hs hy;rw[h2]at g2;have g2:=g2.sc;refine⟨_,?_,.nC rfl⟩;have e:(if q<p then q else p)=min p q:=by grind
 simp[execOp,ho,resolve,invoke,builtin,Builtin.min_,g1,g2,Builtin.min2,e]
def aew(hs:fI X nt s a){ts:Array TypeId}{x y:Operand}{x' y':cu}{k:IntKind}{p q:Int}(ho:o.op=.call {callee:=.builtin .max,args:=#[x,y],argTypes:=ts})(hx:dD x=some x')(hy:dD y=some y')(h1:x'.ev s.slots=.d (.sc (.int k p)))(h2:y'.ev s.slots=.d (.sc (.int k q))):Quiet P X o a (nC (.int k (max p q))):=by
 have g1:=bC hs hx;rw[h1]at g1;have g1:=g1.sc;have g2:=bC hs hy;rw[h2]at g2;have g2:=g2.sc;refine⟨_,?_,.nC rfl⟩;have e:(if p<q then q else p)=max p q:=by grind
 simp[execOp,ho,resolve,invoke,builtin,Builtin.max_,g1,g2,Builtin.max2,e]
end
def Ic:∀{els:List (List D)}{l:List UInt8},bytesOf els=some l->∃xs:List Int,els=xs.map (λn=>[.sc (.int .u8 n)])/\l=xs.map λn=>UInt8.ofNat n.toNat:=by intro els;induction els with|nil=>simp_all[bytesOf]|cons e r ih=>
 intro l h;unfold bytesOf at h;split at h;.grind
 .rename_i n r' hq;cases hq;obtain⟨l',hl',rfl⟩:=fb.1 h;obtain⟨xs,rfl,rfl⟩:=ih hl';exact⟨n::xs,rfl,rfl⟩
 grind
section
variable{P:Program}{X:Cx}{nt:NT}{s:St}{a:Act}{o:Oper}{dst:Option Nat}{aP:Nat}
def aex(hs:fI X nt s a){src ds e:TypeId}{x:Operand}{x':cu}{els:List (List D)}{l:List UInt8}(ho:o.op=.convert src ds x)(h1:P.underlying src=some (.slice e))(h2:P.underlying e=some (.int .u8))(h3:P.underlying ds=some .string)(hx:dD x=some x')(he:dL s.mem (x'.ev s.slots)=some els)(hl:bytesOf els=some l):Quiet P X o a (nC (.string (od l))):=by
 obtain⟨xs,rfl,rfl⟩:=Ic hl;obtain⟨ad,cap,sz,b,off,hv,_,had,Ng⟩:=o7 hs.mem he (bC hs hx);refine⟨.string (od (xs.map λn=>UInt8.ofNat n.toNat)),?_,.nC rfl⟩;have key:(convert src ds (a.eval x)).run P X.w=.ok (.string (od (xs.map λn=>UInt8.ofNat n.toNat))) X.w:=by
  rw[hv];by_cases h0:xs.length=0;.have BS:xs=[]:=eI h0;subst BS;rw[run_convert_bytes_string X.w src ds e ad _ cap h1 h2 h3];cases ad with|none=>rfl|some ad=>rfl
  .have hlt:0<(xs.map (λn=>([.sc (.int .u8 n)]:List D))).length:=by grind
   have:=had hlt;subst this;have hsz:sz=1:=by have:=Ng.1 _ (i7 hlt)<;>grind
   subst hsz;exact run_convert_bytes_arg X.w src e h1 h2 b off _ cap xs (by simp) (λi hi=>by simp at hi;obtain⟨_,v,hv,hd⟩:=Ng.2 i [.sc (.int .u8 xs[i])] 0 (.sc (.int .u8 xs[i])) (by simp[aw hi]) rfl;cases hd;simp only[ra,fg]at hv;rw[hv];simp[List.getD,aw hi]) ds h3
 simp[execOp,ho,key]
def Cx.qz(X:Cx)(ob:Obj)(v:Nat)(L:Loc):Cx:={X with w:=X.w.alloc ob,ρ:=λu=>if u=v then some L else X.ρ u}
def wj{ob:Obj}{v:Nat}{L:Loc}(hin:∀b o,X.F b o->b<X.w.heap.size)(mD:∀b,X.old b->b<X.w.heap.size)(hv:X.ρ v=none):Ext X (X.qz ob v L):=⟨rfl,(fq.refl _ _).alloc mD _,λ_ _ h=>h,λb o h=>rS (hin b o h),λu M hu=>by grind[Cx.qz],λ_ _ h=>.inl h⟩
def CN{m:List (Tr bq)}{t:Tr Unit}{ob:Obj}{v:Nat}{L:Loc}(h:aF X m t)(hv:X.ρ v=none):aF (X.qz ob v L) m t:=h.move (wj h.nG h.low hv) (λk u M hk hu hc=>by obtain⟨M',kR,h2⟩:=h.dh hk;rw[hu]at kR;cases kR;exact heap_alloc_old _ _ _ (h2 hc).1) (λ_ _ _ _ _ _ _ h=>h) (λb o hb=>by have:=h.nG b o hb;show b<(X.w.alloc _).heap.size;rw[World.size_alloc];omega)
def CO{ob:Obj}{v:Nat}{L:Loc}{n:Nat}:fL X (X.qz ob v L) v n n:=⟨bc _,λu M h=>by grind[Cx.qz]⟩
def aey(hs:fI X nt s a)(hfr:X.ρ aP=none){src ds e:TypeId}{x:Operand}{x':cu}{b:ByteArray}{rd:List (Nat×Nat×Nat)}(ho:o.op=.convert src ds x)(h1:P.underlying src=some .string)(h2:P.underlying ds=some (.slice e))(h3:P.underlying e=some (.int .u8))(hx:dD x=some x')(he:x'.ev s.slots=.d (.sc (.string b))):dF P X s a o dst aP (.bT {val:=.d (.sl (b.data.toList.map λc=>[.sc (.int .u8 c.toNat)])),dn:=[],cR:=[],rd}):=by
 have hv:=bC hs hx;rw[he]at hv;have hv:=hv.sc;have hrun:=run_bytes_of_string (P:=P) X.w src ds e b h1 h2 h3;have hcap:b.size<=grownCap X.w b.size 0 e:=grownCap_ge _ _ _ _;generalize grownCap X.w b.size 0 e=cap at hrun hcap;let ob:Obj:=.cells (bytesRow b cap) e ((bytesRow b cap).size,(bytesRow b cap).size+1);let X2:=X.drew.qz ob aP ⟨0,0,0,0⟩;let X3:=X2.more λb' q=>b'=X.w.heap.size/\q<b.size;have m1:aF X.drew s.mem s.aI:=xC hs.mem;have e2:Ext X.drew X2:=wj m1.nG m1.low hfr;have m2:aF X2 s.mem s.aI:=CN m1 hfr;have hsz:X2.w.heap.size=X.w.heap.size+1:=World.size_alloc _ _;have e3:Ext X2 X3:=Ext.more λb' q hq=>by rw[hq.1];exact hs.mem.fresh
 have m3:aF X3 s.mem s.aI:=m2.more (λb' q hq=>by rw[hq.1];exact⟨hs.mem.fresh,by omega⟩) λk u M q hk hu hc hq=>by obtain⟨M',kR,g⟩:=m1.dh hk;have:X2.ρ u=some M':=e2.loc _ _ kR;rw[hu]at this;injection this with this;subst this;have h4:=(g hc).1;have h5:X.drew.w.heap.size=X.w.heap.size:=rfl;have h6:=hq.1;omega
 have hheap:X3.w.heap[X.w.heap.size]?=some ob:=heap_alloc_new X.drew.w ob;have hx3:Ext X X3:=(nK.trans e2).trans e3;refine .value (Y:=X3) (v:=.slice (some ⟨X.w.heap.size,0,none⟩) b.size cap) ?_ hx3 ?_ m3 ⟨bc _,λu M hu=>?_⟩;.simp[execOp,ho,hv,hrun];rfl
 .refine DR.gF (b:=X.w.heap.size) (o:=0) (sz:=1) ⟨λf hf=>?_,λi f j y hi hj=>?_⟩ (by simp) hcap λ_=>rfl;.grind
  .rw[fi]at hi;obtain⟨c,hc,rfl⟩:=fb.1 hi;have Ay:i<b.data.toList.length:=(cb.1 hc).1;match j,hj with|0,hj=>simp at hj;subst hj;refine⟨.inr ⟨rfl,by simpa using Ay⟩,.int .u8 c.toNat,?_,.sc _ rfl⟩;simp[World.cell?,hheap,ob,jn,ra,fg,o0,jp,ns];unfold bytesRow<;>grind
 .rcases(CO (X:=X.drew) (ob:=ob) (v:=aP) (L:=⟨0,0,0,0⟩) (n:=s.nv)).2 u M hu with q|q|q<;>grind[Cx.drew,VR,cu.ev,dD,St.app]
def T1{lq:Nat}(hs:fI X nt s a)(hfr:X.ρ aP=none){t:TypeId}{d:Nat}(ho:o.op=.makeMap t none):dF P X s a o dst aP (.bT {val:=.mp lq d aP,dn:=[(lq,d,some (.mp aP []))],cR:=[],rd:=[]}):=by
 have hρ:(X.qz (.map #[] 0) aP ⟨X.w.heap.size,0,0,1⟩).ρ aP=some ⟨X.w.heap.size,0,0,1⟩:=ba rfl;refine .value (Y:=X.qz (.map #[] 0) aP ⟨X.w.heap.size,0,0,1⟩) (v:=.map (some X.w.heap.size)) ?_ (wj hs.mem.nG hs.mem.low hfr) ⟨_,hρ,rfl⟩ ?_ CO;.simp[execOp,ho,Instr.makeMap,Cx.qz]
 .refine(CN hs.mem hfr).add (e:=.mp aP []) (L:=⟨X.w.heap.size,0,0,1⟩) hρ ⟨rfl,hs.mem.fresh,λo ho=>mr _ (hs.mem.nG _ _ ho),#[],0,heap_alloc_new _ _,rfl⟩ λk u M hk _ hu hc _=>?_;obtain⟨M',kR,h2⟩:=hs.mem.dh hk<;>grind[bU,St.app,Holds,Cx.qz]
def J3{m:List (Tr bq)}{t:Tr Unit}(h:aF X m t){lv sl ak:Nat}{ks:List (List UInt8)}(hr:setAt m lv sl ak=some ks):∃L,X.ρ ak=some L/\oV X (.mp ak ks) L/\aH m lv sl=some (.mp ak ks):=by
 unfold setAt at hr;split at hr
 .rename_i v ks' hg;split at hr;.rename_i hv;cases hr;have hv:=beq_true.1 hv;subst hv;obtain⟨L,hL,hE⟩:=h.fE _ _ _ hg;exact⟨L,hL,hE,hg⟩
  grind
 grind
def T3(b:ByteArray)(l:List UInt8):(b==od l)=decide (b.data.toList=l):=by
 have hb:∀x y:ByteArray,(x==y)=(x.data==y.data):=λx y=>by cases x;cases y;rfl
 grind[od]
def CP{b:ByteArray}:∀{es:List MapEntry}{ks:List (List UInt8)}(i:Nat),es.map (λe=>(e.key,e.val))=ks.map (λl=>(Value.string (od l),Value.bool true))->(hasB ks b.data.toList=false/\Instr.findNow .string (.string b) es i=some none)\/(hasB ks b.data.toList=true/\∃j e,es[j]?=some e/\e.key=.string b/\e.val=.bool true/\Instr.findNow .string (.string b) es i=some (some (i+j,.bool true)))
 |[],[],i,_=>.inl ⟨rfl,rfl⟩|[],_::_,i,h=>by simp at h|_::_,[],i,h=>by simp at h|e::es,l::ks,i,h=>by
  simp at h;obtain⟨⟨hk,hv⟩,h⟩:=h;have hsame:Instr.sameNow .string (.string b) e.key=some (decide (b.data.toList=l)):=by rw[hk];simp[Instr.sameNow];rw[T3]
  by_cases hq:b.data.toList=l
  .refine .inr ⟨by simp[hasB,hq],0,e,rfl,?_,hv,?_⟩;.rw[hk,<-hq];simp[od]
   .simp[Instr.findNow,hsame,hq,hv]
  .rcases CP (b:=b) (i+1) h with⟨h1,h2⟩|⟨h1,j,e',h2,h3,h4,h5⟩;.exact .inl ⟨by simpa[hasB,hq]using h1,by simp[Instr.findNow,hsame,hq,h2]⟩
   .refine .inr ⟨by simpa[hasB,hq]using h1,j+1,e',by simpa using h2,h3,h4,?_⟩;simp only[Instr.findNow,hsame,hq,ss,h5]<;>grind
def T4{w:World}{c:Bool}{k:TypeId}{b:ByteArray}(hk:P.underlying k=some .string):(Instr.checkKey c 10000 k (.string b)).run P w=.ok () w:=by rw[Instr.checkKey];simp[run_underlying hk]
def T5{n:Nat}{b:ByteArray}:Instr.sameBits n (.string b) (.string b)=true:=by
 have h:(b==b)=true:=by have:=T3 b b.data.toList;simp_all[od]
 cases n<;>exact h
def aal(hs:fI X nt s a){t k e:TypeId}{m x:Operand}{m' x':cu}{lv sl ak:Nat}{b:ByteArray}{ks:List (List UInt8)}(ho:o.op=.lookup t m x false)(ht:P.underlying t=some (.map k e))(hk:P.underlying k=some .string)(hz:(P.info? e).bind (·.zero)=some (.bool false))(hm:dD m=some m')(hx:dD x=some x')(h1:m'.ev s.slots=.mp lv sl ak)(h2:x'.ev s.slots=.d (.sc (.string b)))(h3:setAt s.mem lv sl ak=some ks):Quiet P X o a (nC (.bool (hasB ks b.data.toList))):=by
 have g1:=bC hs hm;rw[h1]at g1;have g2:=bC hs hx;rw[h2]at g2;have g2:=g2.sc;obtain⟨L,hL,g1⟩:=g1;obtain⟨L',hL',hE,_⟩:=J3 hs.mem h3;simp_all;obtain⟨_,_,_,es,clock,hb,hf⟩:=hE;refine⟨.bool (hasB ks b.data.toList),?_,.nC rfl⟩;obtain⟨i,hi,H7⟩:=lr.1 hz;have hc:=T4 (P:=P) (w:=X.w) (c:=es.isEmpty) (b:=b) hk;rcases CP (b:=b) 0 hf with⟨q1,q2⟩|⟨q1,j,e',q2,q3,q4,q5⟩;.simp[execOp,ho,g1,g2,Instr.lookup,run_underlying ht,MapKept.run_getObj_map hb,hc,Instr.findKey,run_underlying hk,q2,zeroValue,typeInfo,hi,H7,q1]
 .simp[execOp,ho,g1,g2,Instr.lookup,run_underlying ht,MapKept.run_getObj_map hb,hc,Instr.findKey,run_underlying hk,q5,q1]
def Cx.BT(X:Cx)(g:Nat)(ob:Obj):Cx:={X with w:={X.w with heap:=X.w.heap.setIfInBounds g ob}}
def Q6{g:Nat}{ob ob':Obj}(hg:X.w.heap[g]?=some ob'):(X.BT g ob).w.heap[g]?=some ob:=by grind[Cx.BT]
def wm{g b:Nat}{ob:Obj}(h:b≠g):(X.BT g ob).w.heap[b]?=X.w.heap[b]?:=by simp[Cx.BT,pv h]
def J4{g:Nat}{ob:Obj}(hb:¬X.old g)(hF:∀o,¬X.F g o):Ext X (X.BT g ob):=by
 refine⟨rfl,⟨rfl,rfl,rfl,by simp[Cx.BT],λk hk=>wm λe=>hb (e▸hk)⟩,λ_ _ h=>h,λb o h=>?_,λ_ _ h=>h,λ_ _ h=>.inl h⟩;have hne:b≠g:=by grind
 simp[World.cell?,wm hne]
def aam(hs:fI X nt s a){t k e:TypeId}{m x:Operand}{m' x':cu}{lv sl ak:Nat}{b:ByteArray}{ks:List (List UInt8)}{rd:List (Nat×Nat×Nat)}(ho:o.op=.mapUpdate t m x (.const (.bool true)))(ht:P.underlying t=some (.map k e))(hk:P.underlying k=some .string)(hm:dD m=some m')(hx:dD x=some x')(h1:m'.ev s.slots=.mp lv sl ak)(h2:x'.ev s.slots=.d (.sc (.string b)))(h3:setAt s.mem lv sl ak=some ks):dF P X s a o dst aP (.bT {val:=kP,dn:=[(lv,sl,some (.mp ak (tD ks b.data.toList)))],cR:=[],rd}):=by
 have g1:=bC hs hm;rw[h1]at g1;have g2:=bC hs hx;rw[h2]at g2;have g2:=g2.sc;obtain⟨L,hL,g1⟩:=g1;obtain⟨L',hL',hE,hg⟩:=J3 hs.mem h3;rw[hL]at hL';cases hL';obtain⟨c1,c2,c3,es,clock,hb,hf⟩:=hE;have hc:=T4 (P:=P) (w:=X.w) (c:=false) (b:=b) hk;have gt:a.eval (.const (.bool true))=.bool true:=rfl;have fin:∀es' clock',(Instr.mapUpdate t (.map (some L.b)) (.string b) (.bool true)).run P X.w=.ok () (X.BT L.b (.map es' clock')).w->HQ es' (tD ks b.data.toList)->dF P X s a o dst aP (.bT {val:=kP,dn:=[(lv,sl,some (.mp ak (tD ks b.data.toList)))],cR:=[],rd}):=by
  intro es' clock' hrun hfit;refine .skip (Y:=X.BT L.b (.map es' clock')) ?_ (J4 c2 c3) oY ?_ (fL.JU rfl);.simp[execOp,ho,g1,g2,gt,hrun]
  .have hap:∀k w M,Holds (bJ s.mem lv sl none) s.aI k w->X.ρ w=some M->0<M.cap->M.b≠L.b:=by
    intro k' w M hk' hw xj;have hold:Holds s.mem s.aI k' w/\k'≠bU lv sl:=by
     rcases hk' with⟨cy,cU,e',rfl,he',nh⟩|⟨rfl,he'⟩
     .rw[cO]at he';split at he';.cases he'
      .rename_i hcc;refine⟨.inl ⟨cy,cU,e',rfl,he',nh⟩,λhq=>?_⟩;obtain⟨rfl,rfl⟩:=tI hq;apply hcc;unfold aH at he'<;>grind
     .exact⟨.inr ⟨rfl,he'⟩,λhq=>dW hq.symm⟩
    exact hs.mem.apart _ _ _ _ _ _ hold.1 (.inl ⟨lv,sl,_,rfl,hg,rfl,rfl⟩) hold.2 hw hL xj (by omega)
   have y7:aF (X.BT L.b (.map es' clock')) (bJ s.mem lv sl none) s.aI:=(hs.mem.erase lv sl).move (J4 c2 c3) (λk' w M hk' hw xj=>wm (hap k' w M hk' hw xj)) (λ_ _ _ _ _ _ _ h=>h) λb' o' hb'=>by have:=hs.mem.nG b' o' hb';simpa[Cx.BT]using this
   exact y7.reset (e:=.mp ak (tD ks b.data.toList)) (L:=L) hL ⟨c1,c2,c3,es',clock',Q6 hb,hfit⟩ λk' w M hk' hw xj _=>hap k' w M hk' hw xj
 rcases CP (b:=b) 0 hf with⟨q1,q2⟩|⟨q1,j,e',q2,q3,q4,q5⟩
 .refine fin (es.push {key:=.string b,val:=.bool true,born:=clock}) (clock+1) ?_ ?_;.simp[Instr.mapUpdate,run_underlying ht,MapKept.run_getObj_map hb,hc,Instr.findKey,run_underlying hk,q2,MapKept.run_setObj_map _ hb,Cx.BT]
  .unfold HQ tD at*;rw[q1];simp[hf,od]
 .refine fin (es.modify j λe=>{e with key:=.string b,val:=.bool true}) clock ?_ ?_
  .simp[Instr.mapUpdate,run_underlying ht,MapKept.run_getObj_map hb,hc,Instr.findKey,run_underlying hk,q5,MapKept.run_setObj_map _ hb,Cx.BT,Instr.keyThatStays];have hj:es[j]?=some e':=by grind
   intro hno;rw[hj]at hno;simp only[cf,sd,q3,T5]at hno<;>grind
  .unfold HQ tD at*;apply lL;grind
end
def ze(T:TypeId):Code:=((Go.Code.region 0 #[{dst:=some 2,op:=Go.Op.assign (Go.Operand.const (Go.Value.slice none 0 0)),type:=T,pos:= "slices.go:355",after:=#[],guard:=none}] false).seq (((Go.Code.region 1 #[{dst:=some 3,op:=Go.Op.move (Go.Operand.tmp 0),type:=T,pos:= "slices.go:357",after:=#[],guard:=none},{dst:=some 4,op:=Go.Op.binOp Go.BinOp.eql T (Go.Operand.tmp 3) (Go.Operand.const (Go.Value.slice none 0 0)) T,type:=4,pos:= "slices.go:357",after:=#[{on:=0,ground:=Go.Ground.data}],guard:=none}] false).seq (Go.Code.cond (Go.Operand.tmp 4) ((Go.Code.region 2 #[{dst:=some 2,op:=Go.Op.assign (Go.Operand.const (Go.Value.slice none 0 0)),type:=T,pos:= "slices.go:358",after:=#[],guard:=none}] false).seq Go.Code.ret) Go.Code.skip)).seq ((Go.Code.region 3 #[{dst:=some 5,op:=Go.Op.buildSlice T 0 #[],type:=T,pos:= "slices.go:362",after:=#[],guard:=none},{dst:=some 6,op:=Go.Op.move (Go.Operand.tmp 0),type:=T,pos:= "slices.go:362",after:=#[],guard:=none},{dst:=some 7,op:=Go.Op.call {callee:=Go.Callee.builtin Go.Builtin.append,args:=#[Go.Operand.tmp 5,Go.Operand.tmp 6],argTypes:=#[T,T]},type:=T,pos:= "slices.go:362",after:=#[{on:=0,ground:=Go.Ground.data},{on:=1,ground:=Go.Ground.data}],guard:=none},{dst:=some 2,op:=Go.Op.assign (Go.Operand.tmp 7),type:=T,pos:= "slices.go:362",after:=#[{on:=2,ground:=Go.Ground.data},{on:=2,ground:=Go.Ground.chain},{on:=0,ground:=Go.Ground.phase},{on:=1,ground:=Go.Ground.phase},{on:=2,ground:=Go.Ground.phase}],guard:=none}] false).seq Go.Code.ret)))
structure xH(P:Program)(f T:Nat):Prop where fn:∃fn,P.funcs[f]?=some fn/\fn.body=some (ze T)/\fn.ntmps=8/\fn.results=#[.tmp 2]/\(fn.name== "runtime.NumGoroutine")=false
section
variable{P:Program}
def o9{f:Nat}{fn:Func}{args:Array Value}{w:World}(hf:P.funcs[f]?=some fn)(hb:fn.body.isSome=true)(hn:(fn.name== "runtime.NumGoroutine")=false):(callFunc f args).run P w=.ok (.enter f args) w:=by
 have hb':fn.body.isNone=false:=by simp_all
 simp only[callFunc,Sem.run_bind,run_program,Result.andThen_ok,hf,hn,jp,ns,hb'];rfl
def ef{ops:Array Oper}{Q:Exit->Act->World->Prop}{i:Nat}{rest:List Nat}{o:Oper}{a:Act}{w:World}(ho:ops[i]?=some o)(hg:o.guard=none)(h:o.wp P a w (wpOps P ops Q rest) Q):wpOps P ops Q (i::rest) a w:=by
 simp[wpOps,ho];have:Region.wanted o (yielded ops a.tmps)=true:=by simp[Region.wanted,hg]
 grind
def kg{o:Oper}{a:Act}{w w':World}{v:Value}{K:Act->World->Prop}{Q:Exit->Act->World->Prop}(hr:(execOp a.eval o).run P w=.ok (.value v) w')(h:K (a.put o.dst v) w'):o.wp P a w K Q:=by unfold Oper.wp;rw[hr];exact h
def Pv{T e:TypeId}{ad:Option Addr}{n c:Nat}{w:World}(hT:P.underlying T=some (.slice e)):(binOp .eql T (.slice ad n c) (.slice none 0 0)).run P w=.ok (.bool ad.isNone) w:=by
 have h:∀d,(Op.equalIn (d+1) T (.slice ad n c) (.slice none 0 0)).run P w=.ok ad.isNone w:=λd=>by cases ad<;>simp[Op.equalIn,run_underlying hT]
 have h9:(Op.equal T (.slice ad n c) (.slice none 0 0)).run P w=.ok ad.isNone w:=h 9999;simp[binOp,h9]
variable{X:Cx}{aP:Nat}
def T6{next:Act->World->Prop}{Q:Exit->Act->World->Prop}{a:Act}{w:World}(h:Q .ret a w):Exit.then next Q .ret a w:=h
def J5{f T e:TypeId}{i:TypeInfo}{z:Value}{s:St}{x:AV}{xv:Value}{row:Bool}{lv sl n:Nat}{E:fD}(hc:xH P f T)(h:aF X s.mem s.aI)(hfr:X.ρ aP=none)(hT:P.underlying T=some (.slice e))(hi:P.info? e=some i)(hz:i.zero=some z)(hzs:z.cells.size=i.size)(h0:0<i.size)(hx:VR X x xv)(cv:∃ad m c,xv=.slice ad m c)(hr:ew s row lv sl aP i.size i.bytes (.own [] .full) x=some E):Calls P f #[xv] X.w λen w'=>∃Y v,en=.returned v/\Y.w=w'/\Ext X Y/\VR Y E.val v/\aF Y (aT s.mem E.dn) (eV s.aI E.cR)/\fL X Y aP n n:=by
 obtain⟨fn,hf,hb,hnt,hres,_⟩:=hc;obtain⟨ad,m,c,rfl⟩:=cv;have hnI:we P T:=.inl ⟨e,hT⟩;refine calls_of_wp hf hb ?_;rw[hnt];have e0:(#[Value.slice ad m c]++Array.replicate (8-(#[Value.slice ad m c]:Array Value).size) undef)=#[.slice ad m c,undef,undef,undef,undef,undef,undef,undef]:=rfl;rw[e0];unfold ze;refine wp_seq (wp_region ?_);refine ef rfl rfl (kg (v:=.slice none 0 0) (w':=X.w) rfl ?_);show Code.wp P _ _ _ _;refine wp_seq (wp_seq (wp_region ?_));refine ef rfl rfl (kg (v:=.slice ad m c) (w':=X.w) rfl ?_);refine ef rfl rfl (kg (v:=.bool ad.isNone) (w':=X.w) ?_ ?_);.have hg:(eqGuard .eql T (.tmp 3) (.const (.slice none 0 0)) (.slice ad m c) (.slice none 0 0)).run P X.w=.ok () X.w:=kA (by simp) (by simp);have he:=Pv (P:=P) (n:=m) (c:=c) (ad:=ad) (w:=X.w) hT;simp[execOp,Act.eval,Act.put,hg,he]
 show Code.wp P _ _ _ _;cases ad with|none=>
  refine wp_cond_true rfl ?_;refine wp_seq (wp_region ?_);refine ef rfl rfl (kg (v:=.slice none 0 0) (w':=X.w) rfl ?_);show Code.wp P _ _ _ _;refine wp_ret ?_;refine T6 ?_;refine bodyPost_ret (results_tmp hres _ _ _) rfl ?_;have hrun:∃Y v,(Builtin.append_ #[T,T] T #[.slice none 0 0,.slice none m c]).run P X.w=.ok v Y.w/\Ext X Y/\VR Y E.val v/\aF Y (aT s.mem E.dn) (eV s.aI E.cR)/\fL X Y aP n n:=tT (x:=.own [] .full) h hfr hT hnI hi hz hzs h0 ⟨none,0,0,0,rfl,λh=>absurd h (by simp),eX.nil⟩ hx hr;obtain⟨Y,v,h1,h2,h3,h4,h5⟩:=hrun;have hm0:m=0:=by unfold ew at hr;cases hn:gW s.mem x with|none=>rw[hn]at hr;cases hr|some news=>
   have:=(B2 (P:=P) (sz:=i.size) h hn hx (by
    rw[hn]at hr;simp only at hr;split at hr;.rename_i MZ;exact kI MZ
    .cases hr) h0);obtain⟨vs,hd,hl,hfc⟩:=this;have hl':=hl X.w;simp only[Builtin.lenOf,Sem.run_pure]at hl';injection hl' with hl';have hnl:∀e∈news,e.length=i.size:=by
    rw[hn]at hr;simp only at hr;split at hr;.rename_i MZ;exact kI MZ
    .cases hr
   have:=hfc X.w (λ_ _=>rfl) news.length (bc _);simp only[Builtin.firstCells,Sem.run_pure]at this;injection this with this;have hvl:vs.length=news.length*i.size:=by rw[<-hd.length,bg hnl]
   rw[<-hvl,f4]at this;have h00:vs.length=0:=by have:=kv Array.size this;simpa using this.symm
   rw[h00]at hvl;rcases Nat.mul_eq_zero.1 hvl.symm with h|h;.omega
   .omega
  subst hm0;have hr0:(Builtin.append_ #[T,T] T #[.slice none 0 0,.slice none 0 c]).run P X.w=.ok (.slice none 0 0) X.w:=by have:=jC (P:=P) (t:=T) (u:=T) (ty:=T) (w:=X.w) (ad:=none) (n:=0) (cap:=0) (m:=0) (y:=.slice none 0 c) (new:=[]) hT (.val hnI rfl (by simp[Builtin.firstCells]) (by simp[Builtin.firstCells])) hi (by omega);exact this
  rw[hr0]at h1;injection h1 with h1 h1';subst h1;exact⟨Y,_,by simp[Act.put],h1'.symm,h2,h3,h4,h5⟩|some ad=>
  refine wp_cond_false rfl ?_;refine wp_skip ?_;show Code.wp P _ _ _ _;refine wp_seq (wp_region ?_);let X1:=X.alloc #[] e aP ⟨0,0,i.size,0⟩;let Q7:Cx:={X with w:=X.w.alloc (.cells #[] e)};have hx1:Ext X Q7:=⟨rfl,(fq.refl _ _).alloc h.low _,λ_ _ h=>h,λb o hb=>rS (h.nG b o hb),λ_ _ h=>h,λ_ _ h=>.inl h⟩;have y7:aF Q7 s.mem s.aI:=h.move hx1 (λk u M hk hu hc=>by obtain⟨M',kR,h2⟩:=h.dh hk;rw[hu]at kR;injection kR with kR;subst kR;exact heap_alloc_old _ _ _ (h2 hc).1) (λ_ _ _ _ _ _ _ h=>h) λb o hb=>by have:=h.nG b o hb;show b<(X.w.alloc _).heap.size;rw[World.size_alloc];omega
  refine ef rfl rfl (kg (v:=.slice (some ⟨X.w.heap.size,0,none⟩) 0 0) (w':=Q7.w) ?_ ?_);.have e0:Array.range 0=#[]:=rfl;simp[execOp,Instr.buildSlice,run_underlying hT,sizeOf,typeInfo,hi,newRow,e0,Instr.fill,Q7]
  refine ef rfl rfl (kg (v:=.slice (some ad) m c) (w':=Q7.w) rfl ?_);obtain⟨Y,v,h1,h2,h3,h4,h5⟩:=tT (P:=P) (X:=Q7) (t:=T) (u:=T) (ty:=T) (n:=n) (xv:=.slice (some ⟨X.w.heap.size,0,none⟩) 0 0) (x:=.own [] .full) y7 hfr hT hnI hi hz hzs h0 ⟨some ⟨X.w.heap.size,0,none⟩,0,0,0,rfl,λh=>absurd h (by simp),eX.nil⟩ (hx.ext hx1) hr;refine ef rfl rfl (kg (v:=v) (w':=Y.w) ?_ ?_);.simp[execOp,Act.eval,Act.put,resolve,invoke,builtin,h1]
  refine ef rfl rfl (kg (v:=v) (w':=Y.w) rfl ?_);show Code.wp P _ _ _ _;refine wp_ret ?_;refine bodyPost_ret (results_tmp hres _ _ _) rfl ?_;exact⟨Y,v,by simp[Act.put],rfl,hx1.trans h2,h3,h4,h5.1,λu M hu=>h5.2 u M hu⟩
def Ie{f T e:TypeId}{i:TypeInfo}{z:Value}{s:St}{x:AV}{xv:Value}{lv sl n:Nat}{E:fD}(hc:xH P f T)(h:aF X s.mem s.aI)(hfr:X.ρ aP=none)(hT:P.underlying T=some (.slice e))(hi:P.info? e=some i)(hz:i.zero=some z)(hzs:z.cells.size=i.size)(h0:0<i.size)(hx:VR X x xv)(cv:∃ad m c,xv=.slice (some ad) m c)(hr:kH s lv sl aP i.size i.bytes (.own [] .full) x=some E):Calls P f #[xv] X.w λen w'=>∃Y v,en=.returned v/\Y.w=w'/\Ext X Y/\VR Y E.val v/\aF Y (aT s.mem E.dn) (eV s.aI E.cR)/\fL X Y aP n n:=by
 obtain⟨fn,hf,hb,hnt,hres,_⟩:=hc;obtain⟨ad,m,c,rfl⟩:=cv;have hnI:we P T:=.inl ⟨e,hT⟩;refine calls_of_wp hf hb ?_;rw[hnt];have e0:(#[Value.slice (some ad) m c]++Array.replicate (8-(#[Value.slice (some ad) m c]:Array Value).size) undef)=#[.slice (some ad) m c,undef,undef,undef,undef,undef,undef,undef]:=rfl;rw[e0];unfold ze;refine wp_seq (wp_region ?_);refine ef rfl rfl (kg (v:=.slice none 0 0) (w':=X.w) rfl ?_);show Code.wp P _ _ _ _;refine wp_seq (wp_seq (wp_region ?_));refine ef rfl rfl (kg (v:=.slice (some ad) m c) (w':=X.w) rfl ?_);refine ef rfl rfl (kg (v:=.bool false) (w':=X.w) ?_ ?_);.have hg:(eqGuard .eql T (.tmp 3) (.const (.slice none 0 0)) (.slice (some ad) m c) (.slice none 0 0)).run P X.w=.ok () X.w:=kA (by simp) (by simp);have he:=Pv (P:=P) (n:=m) (c:=c) (ad:=some ad) (w:=X.w) hT;simp[execOp,Act.eval,Act.put,hg,he]
 show Code.wp P _ _ _ _;refine wp_cond_false rfl ?_;refine wp_skip ?_;show Code.wp P _ _ _ _;refine wp_seq (wp_region ?_);let X1:=X.alloc #[] e aP ⟨0,0,i.size,0⟩;let Q7:Cx:={X with w:=X.w.alloc (.cells #[] e)};have hx1:Ext X Q7:=⟨rfl,(fq.refl _ _).alloc h.low _,λ_ _ h=>h,λb o hb=>rS (h.nG b o hb),λ_ _ h=>h,λ_ _ h=>.inl h⟩;have y7:aF Q7 s.mem s.aI:=h.move hx1 (λk u M hk hu hc=>by obtain⟨M',kR,h2⟩:=h.dh hk;rw[hu]at kR;injection kR with kR;subst kR;exact heap_alloc_old _ _ _ (h2 hc).1) (λ_ _ _ _ _ _ _ h=>h) λb o hb=>by have:=h.nG b o hb;show b<(X.w.alloc _).heap.size;rw[World.size_alloc];omega
 refine ef rfl rfl (kg (v:=.slice (some ⟨X.w.heap.size,0,none⟩) 0 0) (w':=Q7.w) ?_ ?_);.have e0:Array.range 0=#[]:=rfl;simp[execOp,Instr.buildSlice,run_underlying hT,sizeOf,typeInfo,hi,newRow,e0,Instr.fill,Q7]
 refine ef rfl rfl (kg (v:=.slice (some ad) m c) (w':=Q7.w) rfl ?_);obtain⟨Y,v,h1,h2,h3,h4,h5⟩:=xF (P:=P) (X:=Q7) (t:=T) (u:=T) (ty:=T) (n:=n) (xv:=.slice (some ⟨X.w.heap.size,0,none⟩) 0 0) (x:=.own [] .full) y7 hfr hT hnI hi hz hzs h0 ⟨some ⟨X.w.heap.size,0,none⟩,0,0,0,rfl,λh=>absurd h (by simp),eX.nil⟩ (hx.ext hx1) hr;refine ef rfl rfl (kg (v:=v) (w':=Y.w) ?_ ?_);.simp[execOp,Act.eval,Act.put,resolve,invoke,builtin,h1]
 refine ef rfl rfl (kg (v:=v) (w':=Y.w) rfl ?_);show Code.wp P _ _ _ _;refine wp_ret ?_;refine bodyPost_ret (results_tmp hres _ _ _) rfl ?_;exact⟨Y,v,by simp[Act.put],rfl,hx1.trans h2,h3,h4,h5.1,λu M hu=>h5.2 u M hu⟩
end
end Go.bK
