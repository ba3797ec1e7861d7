/- Parts of the proof. -/
import Derived.Test.YtgdkmdochlhhlaaGreatEngF
import Derived.Laws.MakeOwn
import Derived.Laws.Append
import Derived.Laws.AppendOwn
import Derived.Laws.CopyOwn
import Derived.Tactics
set_option linter.unusedVariables false
set_option linter.unusedSimpArgs false
set_option linter.defProp false
namespace Go.bL
open Go Go.RowKit
def gJ{α:Type}{sz:Nat}:∀{els:List (List α)},(∀e∈els,e.length=sz)->∀(i j:Nat)(e:List α),els[i]?=some e->j<sz->els.flatten[i*sz+j]?=e[j]?|[],_,i,j,e,h,_=>by simp at h|f::els,hl,0,j,e,h,hj=>by grind|f::els,hl,i+1,j,e,h,hj=>by simp[pi];have hf:=hl f (by simp);rw[kw (by rw[hf,d9];omega),hf,show(i+1)*sz+j-sz=i*sz+j by rw[d9];omega];exact gJ (λe he=>hl e (by simp[he])) i j e (by simpa using h) hj
def bq{α:Type}{sz:Nat}:∀{els:List (List α)},(∀e∈els,e.length=sz)->els.flatten.length=els.length*sz|[],_=>by simp|f::els,hl=>by simp only[pi,bb,fa,d9];rw[bq (λe he=>hl e (by simp[he])),hl f (by simp)];omega
def BV{α:Type}(a b:List (List α)):(a++b).flatten=a.flatten++b.flatten:=by simp
def tQ{α:Type}{sz:Nat}:∀{els:List (List α)},(∀e∈els,e.length=sz)->∀(i:Nat)(e:List α),i<els.length->e.length=sz->(els.set i e).flatten=splice els.flatten (i*sz) e|[],_,i,e,h,_=>by simp at h|f::els,hl,0,e,_,he=>by grind[splice]|f::els,hl,i+1,e,h,he=>by have hf:=hl f (by simp);simp[List.set_cons_succ,pi];rw[tQ (λe he=>hl e (by simp[he])) i e (by simpa using h) he];unfold splice;rw[show(i+1)*sz=f.length+i*sz by rw[d9];omega];rw[List.take_append,f1 (l:=f) (by omega)];rw[wt,pA (l:=f) (by omega),show f.length+i*sz+e.length-f.length=i*sz+e.length by omega];simp[bj]
def xG{w:World}{F R:Nat->Nat->Prop}{els:List (List D)}{b o sz:Nat}{C:Array Value}{e:TypeId}{vs:List Value}(hb:w.heap[b]?=some (.cells C e (0,0)))(hl:∀e∈els,e.length=sz)(hv:∀j v,vs[j]?=some v->C[o+j]?=some v)(h:aD (DR w F) els.flatten vs)(hR:∀k,k<els.length*sz->R b (o+k)):eO w F R els b o sz:=by
 refine⟨hl,λi e j x h1 h2=>?_⟩;have hj:j<sz:=by grind
 have hg:=gJ hl i j e h1 hj;rw[h2]at hg;obtain⟨v,h3,h4⟩:=h.get _ _ hg;have hlt:i*sz+j<els.length*sz:=by have:=(ci.1 hg).1;rwa[bq hl]at this
 rw[eJ];exact⟨hR _ hlt,v,by rw[cell_of_row _ _ _ _ _ _ hb];exact hv _ _ h3,h4⟩
def rX{w:World}{F R:Nat->Nat->Prop}{els:List (List D)}{b o sz:Nat}(h:eO w F R els b o sz):∃vs:List Value,(∀j v,vs[j]?=some v->w.cell? ⟨b,o+j,none⟩=some v)/\aD (DR w F) els.flatten vs:=by
 refine CH els.flatten λk x hk=>?_;have hlen:=bq h.1;have hk':k<els.length*sz:=by grind
 have hsz:0<sz:=Nat.pos_of_ne_zero λe=>by subst e;omega
 have hi:k/sz<els.length:=(Nat.div_lt_iff_lt_mul hsz).2 hk';have hj:k%sz<sz:=ti _ hsz;have he:els[k/sz]?=some els[k/sz]:=aw hi;have hg:=gJ h.1 (k/sz) (k%sz) _ he hj;have hkk:k/sz*sz+k%sz=k:=by rw[yr];exact Nat.div_add_mod k sz
 grind[eO]
def Cx.alloc(X:Cx)(C:Array Value)(e:TypeId)(v:Nat)(L:Loc):Cx:={X with w:=X.w.alloc (.cells C e),ρ:=λu=>if u=v then some L else X.ρ u}
def aH.dn{X:Cx}{m:List (Tr bu)}{t:Tr Unit}(h:aH X m t){k:Nat×Nat×Nat}{v:Nat}(hk:Holds m t k v):∃L,X.ρ v=some L/\(0<L.cap->L.b<X.w.heap.size/\¬X.old L.b):=by
 rcases hk with⟨lv,sl,e,_,he,rfl,hz⟩|⟨_,he⟩;.obtain⟨L,hL,hE⟩:=h.fI lv sl e he;refine⟨L,hL,λhc=>?_⟩;cases e with|Ni _ _=>cases hz|row _ _=>exact⟨(hE.2.2.1 hc).1.lt,(hE.2.2.1 hc).1.1⟩|box _ _=>exact⟨hE.2.1.lt,hE.2.1.1⟩|mp _ _=>grind[ou,bu.aq,bu.fz,aG,bX]
 .obtain⟨L,hL,hT⟩:=h.aI v he;exact⟨L,hL,λhc=>⟨(hT hc).1.lt,(hT hc).1.1⟩⟩
def rY{w:World}{b o:Nat}{ob:Obj}(h:b<w.heap.size):(w.alloc ob).cell? ⟨b,o,none⟩=w.cell? ⟨b,o,none⟩:=World.cell?_alloc_lt w ob ⟨b,o,none⟩ h
def Ext.alloc{X:Cx}{C:Array Value}{e:TypeId}{v:Nat}{L:Loc}(hin:∀b o,X.F b o->b<X.w.heap.size)(nI:∀b,X.old b->b<X.w.heap.size)(hv:X.ρ v=none):Ext X (X.alloc C e v L):=⟨rfl,(fC.refl _ _).alloc nI _,λ_ _ h=>h,λb o h=>rY (hin b o h),λu M hu=>by grind[Cx.alloc],λ_ _ h=>.inl h⟩
def aH.alloc{X:Cx}{m:List (Tr bu)}{t:Tr Unit}{C:Array Value}{e:TypeId}{v:Nat}{L:Loc}(h:aH X m t)(hv:X.ρ v=none):aH (X.alloc C e v L) m t:=h.move (Ext.alloc h.nH h.low hv) (λk u M hk hu hc=>by obtain⟨M',kR,h2⟩:=h.dn hk;rw[hu]at kR;cases kR;exact heap_alloc_old _ _ _ (h2 hc).1) (λ_ _ _ _ _ _ _ h=>h) (λb o hb=>by have:=h.nH b o hb;show b<(X.w.alloc _).heap.size;rw[World.size_alloc];omega)
def Cx.more(X:Cx)(G:Nat->Nat->Prop):Cx:={X with F:=λb o=>X.F b o\/G b o}
def Ext.more{X:Cx}{G:Nat->Nat->Prop}(hG:∀b o,G b o->¬X.old b):Ext X (X.more G):=⟨rfl,fC.refl _ _,λ_ _=>.inl,λ_ _ _=>rfl,λ_ _ h=>h,λb o h=>h.elim .inl λh=>.inr (hG b o h)⟩
def aH.more{X:Cx}{m:List (Tr bu)}{t:Tr Unit}{G:Nat->Nat->Prop}(h:aH X m t)(hG:∀b o,G b o->¬X.old b/\b<X.w.heap.size)(hk:∀k v L o,Holds m t k v->X.ρ v=some L->0<L.cap->¬G L.b o):aH (X.more G) m t:=h.move (Ext.more λb o h=>(hG b o h).1) (λ_ _ _ _ _ _=>rfl) (λk v L o a b c h=>h.elim id λh=>absurd h (hk k v L o a b c)) λb o hb=>hb.elim (h.nH b o) λhb=>(hG b o hb).2
def nj(X:Cx)(m:List (Tr bu))(k:Nat×Nat):Option Nat:=(aG m k.1 k.2).bind λe=>(X.ρ e.aq).bind λL=>if 0<L.cap/\e.fz=false then some L.b else none
def Cx.nD(X:Cx)(m:List (Tr bu))(ks:List (Nat×Nat)):Cx:=X.more λb _=>∃k∈ks,nj X m k=some b
def lN{X:Cx}{m:List (Tr bu)}{k:Nat×Nat}{b:Nat}(h:nj X m k=some b):∃e L,aG m k.1 k.2=some e/\X.ρ e.aq=some L/\0<L.cap/\L.b=b/\e.fz=false:=by unfold nj at h;cases he:aG m k.1 k.2with|none=>grind|some e=>rw[he]at h;cases hL:X.ρ e.aq with|none=>grind|some L=>grind
def vN(m0:List (Tr bu)):∀(ks:List (Nat×Nat))(m:List (Tr bu))(lv sl:Nat),m.length=m0.length->aG (aU m (eY m0 ks)) lv sl=if(lv,sl)∈ks then(aG m0 lv sl).bind bu.nD else aG m lv sl
 |[],m,lv,sl,_=>by simp[eY,aU]|k::ks,m,lv,sl,hl0=>by
  have ih:=vN m0 ks (bJ m k.1 k.2 ((aG m0 k.1 k.2).bind bu.nD)) lv sl (by simpa[bJ]using hl0);simp[eY,f2,aU]at ih⊢;rw[ih];by_cases h1:(lv,sl)∈ks;.simp[h1]
  .simp[h1,n3,dl,km];rw[cQ];by_cases h2:(lv,sl)=k
   .subst h2;simp only[jn,true_and];split;.rfl
    .unfold aG;rw[eI (by omega),eI (by omega)];rfl
   .rw[bi h2,bi];rintro⟨rfl,rfl,_⟩;exact h2 rfl
def rZ(ks:List (Nat×Nat))(m:List (Tr bu))(lv sl:Nat):aG (aU m (eY m ks)) lv sl=if(lv,sl)∈ks then(aG m lv sl).bind bu.nD else aG m lv sl:=vN m ks m lv sl rfl
def aeS{e e':bu}(h:e.nD=some e'):e'.fz=true:=by cases e<;>simp only[bu.nD]at h<;>first|(cases h;rfl)|cases h
def r6{X:Cx}{m:List (Tr bu)}{t:Tr Unit}(h:aH X m t)(ks:List (Nat×Nat)):Ext X (X.nD m ks):=Ext.more λb _⟨k,_,hb⟩=>by obtain⟨e,L,he,hL,hc,rfl,hz⟩:=lN hb;obtain⟨L',hL',h2⟩:=h.dn (.inl ⟨k.1,k.2,e,rfl,he,rfl,hz⟩)<;>grind
def Ih{X:Cx}{m:List (Tr bu)}{t:Tr Unit}(h:aH X m t)(ks:List (Nat×Nat)):aH (X.nD m ks) (aU m (eY m ks)) t:=by
 let era:List (Nat×Nat)->List (Tr bu)->List (Tr bu):=λks m=>aU m (ks.map λk=>(k.1,k.2,none));have aj7:∀(ks:List (Nat×Nat))(m:List (Tr bu))(lv sl:Nat),aG (era ks m) lv sl=if(lv,sl)∈ks then none else aG m lv sl:=by intro ks;induction ks with|nil=>simp[era,aU]|cons k ks ih=>
   intro m lv sl;simp[era,f2,aU]at ih⊢;rw[ih];by_cases h1:(lv,sl)∈ks;.simp[h1]
   .rw[cQ]<;>grind[aU,bJ,aG]
 have CL:aH X (era ks m) t:=h.less (λlv sl e he=>by
  rw[aj7]at he;split at he;.cases he
  .exact he) λ_ h=>h;have hm0:aH (X.nD m ks) (era ks m) t:=by
  refine CL.more (λb o⟨k,_,hb⟩=>?_) λk v L o hk hv hc⟨k',hk',hb⟩=>?_;.obtain⟨e,L,he,hL,hc,rfl,hz⟩:=lN hb;obtain⟨L',hL',h2⟩:=h.dn (.inl ⟨k.1,k.2,e,rfl,he,rfl,hz⟩)<;>grind
  .obtain⟨e,M,he,hM,xq,hMb,hz⟩:=lN hb;have hh:Holds m t k v/\k≠bX k'.1 k'.2:=by
    rcases hk with⟨lv,sl,e',rfl,he',nh⟩|⟨rfl,he'⟩;.grind[bu.fz,bu.aq,nj,aG,bX,Holds]
    .exact⟨.inr ⟨rfl,he'⟩,λhq=>dX hq.symm⟩
   exact h.apart _ _ _ _ _ _ hh.1 (.inl ⟨k'.1,k'.2,e,rfl,he,rfl,hz⟩) hh.2 hv hM hc xq hMb.symm
 have hh:∀k v,Holds (aU m (eY m ks)) t k v->Holds (era ks m) t k v:=by
  rintro k v(⟨lv,sl,e,rfl,he,hv,hz⟩|⟨rfl,he⟩)
  .rw[rZ]at he;split at he;.obtain⟨e0,_,he0⟩:=lr.1 he;rw[aeS he0]at hz;cases hz
   grind[bu.fz,bu.aq,Cx.nD,aG,bX,Holds]
  .exact .inr ⟨rfl,he⟩
 refine⟨λlv sl e he=>?_,hm0.aI,λk k' v v' L L' a b=>hm0.apart k k' v v' L L' (hh _ _ a) (hh _ _ b),hm0.nH,hm0.p8⟩;rw[rZ]at he;split at he;.rename_i hk;obtain⟨e0,he1,he0⟩:=lr.1 he;obtain⟨L,hL,hE⟩:=h.fI _ _ _ he1;cases e0 with|box v cs=>cases he0|mp v ks=>cases he0|Ni v els=>cases he0;exact⟨L,hL,hE.1,hE.2.ext (r6 h ks)⟩|row v els=>
   cases he0;refine⟨L,hL,hE.1,hE.2.1,λi e j x h1 h2=>?_⟩;obtain⟨u,hu,hd⟩:=hE.2.2.2 i e j x h1 h2;have hc:0<L.cap:=by have:i<els.length:=(ci.1 h1).1;have:=hE.1<;>omega
   refine⟨.inr ⟨(lv,sl),hk,?_⟩,u,hu,hd.ext (r6 h ks)⟩;have hL':X.ρ v=some L:=hL;simp[nj,he1,bu.aq,hL',bu.fz,hc]
 .rename_i hn;exact hm0.fI lv sl e (by rw[aj7,bi hn];exact he)
def CM{X:Cx}{m:List (Tr bu)}{t:Tr Unit}(h:aH X m t){lv sl aq:Nat}{els:List (List D)}(hr:qQ m lv sl aq=some els):∃L,X.ρ aq=some L/\els.length<=L.cap/\eO X.w X.F (λb o=>X.F b o\/nj X m (lv,sl)=some b) els L.b L.o L.sz:=by
 unfold qQ at hr;split at hr
 .rename_i v els' hg;split at hr
  .rename_i hv;simp_all;subst hv;obtain⟨L,hL,hE⟩:=h.fI _ _ _ hg;refine⟨L,hL,hE.1,hE.2.1,λi e j x h1 h2=>⟨.inr ?_,hE.2.2.2 i e j x h1 h2⟩⟩;have hc:0<L.cap:=by grind[ou,bu.aq,aG]
   have hL':X.ρ v=some L:=hL;simp[nj,hg,bu.aq,hL',bu.fz,hc]
  grind
 .rename_i v els' hg;split at hr;.simp_all;obtain⟨L,hL,hE⟩:=h.fI _ _ _ hg;grind[ou,bu.aq,aG,nj,eO]
  grind
 grind
def nJ{X:Cx}{m:List (Tr bu)}{t:Tr Unit}(h:aH X m t){lv sl aq:Nat}{els:List (List D)}(hr:rowAt m lv sl aq=some els):∃L,X.ρ aq=some L/\ou X (.row aq els) L/\aG m lv sl=some (.row aq els):=by
 unfold rowAt at hr;split at hr
 .rename_i v els' hg;split at hr;.rename_i hv;cases hr;have hv:=beq_true.1 hv;subst hv;obtain⟨L,hL,hE⟩:=h.fI _ _ _ hg;exact⟨L,hL,hE,hg⟩
  grind
 grind
def ou.aav{X:Cx}{aq:Nat}{els:List (List D)}{L:Loc}{R:Nat->Nat->Prop}(h:ou X (.row aq els) L)(hR:0<L.cap->∀o,R L.b o):eO X.w X.F R els L.b L.o L.sz:=⟨h.2.1,λi e j x h1 h2=>⟨hR (by grind[ou]) _,h.2.2.2 i e j x h1 h2⟩⟩
def eO.ext'{X Y:Cx}(hx:Ext X Y){R:Nat->Nat->Prop}{els:List (List D)}{b o sz:Nat}(h:eO X.w X.F R els b o sz)(hc:∀o,Y.w.cell? ⟨b,o,none⟩=X.w.cell? ⟨b,o,none⟩):eO Y.w Y.F R els b o sz:=⟨h.1,λi e j x h1 h2=>by obtain⟨hF,v,hv,hd⟩:=h.2 i e j x h1 h2;exact⟨hF,v,(hc _).trans hv,hd.ext hx⟩⟩
def o9{X:Cx}{m:List (Tr bu)}{t:Tr Unit}(h:aH X m t){x:AV}{els:List (List D)}{v:Value}(he:dJ m x=some els)(hv:VR X x v):∃a cap sz b o,v=.slice a els.length cap/\els.length<=cap/\(0<els.length->a=some ⟨b,o,none⟩)/\eO X.w X.F (λb o=>X.F b o\/X.old b\/∃lv sl aq off len sz,x=.ref lv sl aq off len sz/\nj X m (lv,sl)=some b) els b o sz:=by cases x with
 |d x=>cases x with|sc v=>cases he|er=>cases he|sl els'=>cases he;obtain⟨a,cap,sz,b,o,h1,h2,h3,h4⟩:=xF (.inl rfl) hv<;>grind
 |own els' ow=>cases he;obtain⟨a,cap,sz,b,o,h1,h2,h3,h4⟩:=xF (.inr ⟨_,rfl⟩) hv<;>grind|ref lv sl aq off len sz=>simp[dJ]at he;cases hr:qQ m lv sl aq with|none=>grind|some els'=>
   rw[hr]at he;simp only[ae]at he;split at he
   .cases he;obtain⟨L,hL,hE1,hE⟩:=CM h hr;obtain⟨L',a,cap,hL',h1,h2,h3,h4⟩:=hv;rw[hL]at hL';have hlen:((els'.drop off).take len).length=len:=by grind
    refine⟨a,cap,L.sz,L.b,L.o+off*L.sz,by rw[hlen];exact h2,by omega,λh0=>?_,?_⟩<;>grind[qQ,nj,eO]
   grind
 |_=>cases he
def Ua{X:Cx}{m:List (Tr bu)}{t:Tr Unit}(h:aH X m t){ks k:List (Nat×Nat)}{x:AV}{y:D}{v:Value}(hx:BS m x=some (y,k))(hv:VC X x v)(hk:∀p∈k,p∈ks):DR X.w (X.nD m ks).F y v:=by have hex:=r6 h ks;cases x with
 |d x=>cases hx;exact DR.ext hex hv|own els ow=>cases ow with|full=>cases hx;obtain⟨a,b,o,sz,rfl,h3,h4⟩:=hv;exact DR.gI (h4.ext hex) rfl (bc _) h3|cU aq tz=>cases hx;obtain⟨a,b,o,sz,cap,rfl,h2,h3,h4,_⟩:=hv;exact DR.gI (h4.ext hex) rfl h2 λh=>h3 (by omega)|bD=>cases hx
 |ref lv sl aq off len sz=>simp only[BS]at hx;cases he:dJ m (.ref lv sl aq off len sz)with|none=>grind|some els=>rw[he]at hx;injection hx with hx;injection hx with h1 h2;subst h1;obtain⟨L',a,cap,hL',g1,g2,g3,g4⟩:=hv;simp[dJ]at he;cases hr:qQ m lv sl aq with|none=>grind|some els'=>
    rw[hr]at he;simp only[ae]at he;split at he
    .cases he;obtain⟨L,hL,hE1,hE⟩:=CM h hr;rw[hL]at hL';cases hL';subst g2;have hlen:((els'.drop off).take len).length=len:=by grind
     have hl:=(hE.region (S:=(X.nD m ks).F) λb o hq=>hq.elim .inl λhq=>.inr ⟨(lv,sl),hk _ (by rw[<-h2];simp),hq⟩).sub off len;exact DR.gI (hl.ext' hex λ_=>rfl) hlen g3 λh0=>by rw[(g4 (by omega)).1,g1]
    grind
 |_=>cases hx
def Ii{X:Cx}{m:List (Tr bu)}{t:Tr Unit}(h:aH X m t){ks:List (Nat×Nat)}:∀{xs:List AV}{ys:List D}{k:List (Nat×Nat)}{vs:List Value},Fu m xs=some (ys,k)->aD (VC X) xs vs->(∀p∈k,p∈ks)->aD (DR X.w (X.nD m ks).F) ys vs
 |[],ys,k,[],hx,_,_=>by cases hx;trivial|x::xs,ys,k,v::vs,hx,hv,hk=>by
  simp[Fu]at hx;split at hx;.rename_i y k1 ys' k2 h1 h2;cases hx;exact⟨Ua h h1 hv.1 λp hp=>hk p (by simp[hp]),Ii h h2 hv.2 λp hp=>hk p (by simp[hp])⟩
  grind|[],_,_,_::_,_,hv,_=>hv.elim|_::_,_,_,[],_,hv,_=>hv.elim
def fP(X Y:Cx)(aR n n':Nat):Prop:=n<=n'/\∀v L,Y.ρ v=some L->X.ρ v=some L\/v=aR\/(n<=v/\v<n')
def lg{X:Cx}{C:Array Value}{e:TypeId}{v:Nat}{L:Loc}{n:Nat}:fP X (X.alloc C e v L) v n n:=⟨bc _,λu M h=>by grind[Cx.alloc]⟩
def fP.refl(X:Cx)(v n:Nat):fP X X v n n:=⟨bc _,λ_ _ h=>.inl h⟩
section
variable{X:Cx}{m:List (Tr bu)}{t:Tr Unit}
def pe(X:Cx)(C:Array Value)(e:TypeId)(v:Nat)(L:Loc):(X.alloc C e v L).w.heap[X.w.heap.size]?=some (.cells C e (0,0)):=heap_alloc_new _ _
def tR(X:Cx)(C:Array Value)(e:TypeId)(v:Nat)(L:Loc):(X.alloc C e v L).ρ v=some L:=ba rfl
def oP(h:aH X m t){C:Array Value}{e:TypeId}{v:Nat}{L:Loc}(hv:X.ρ v=none){k:Nat×Nat×Nat}{u:Nat}{M:Loc}(hk:Holds m t k u)(hu:(X.alloc C e v L).ρ u=some M)(hc:0<M.cap):M.b≠X.w.heap.size:=by obtain⟨M',kR,h2⟩:=h.dn hk<;>grind[Cx.alloc,Holds]
def PK(h:aH X m t){C:Array Value}{e:TypeId}{v:Nat}{cs:List AV}(lv sl:Nat)(hv:X.ρ v=none)(hc:aD (VC X) cs C.toList):aH (X.alloc C e v ⟨X.w.heap.size,0,C.size,1⟩) (bJ m lv sl (some (.box v cs))) t:=by
 have hx:Ext X (X.alloc C e v ⟨X.w.heap.size,0,C.size,1⟩):=Ext.alloc h.nH h.low hv;refine(h.alloc hv).add (L:=⟨X.w.heap.size,0,C.size,1⟩) (tR _ _ _ _ _) ⟨rfl,⟨h.fresh,C,e,pe _ _ _ _ _,by have:=hc.length;simp at this⊢;omega⟩,λo ho=>?_,λj x hj=>?_⟩ λk u M hk _ hu hc _=>oP h hv hk hu hc;.exact mn _ (h.nH _ _ ho)
 .obtain⟨u,hu,hr⟩:=hc.get _ _ hj;refine⟨u,?_,hr.ext hx⟩<;>simp_all[aD,VC,Cx.alloc]
def Ij(h:aH X m t){C:Array Value}{e:TypeId}{v:Nat}{els:List (List D)}{sz cap:Nat}{vs:List Value}(lv sl:Nat)(hv:X.ρ v=none)(hl:∀e∈els,e.length=sz)(hC:cap*sz<=C.size)(hle:els.length<=cap)(hvs:∀(j:Nat)(u:Value),vs[j]?=some u->C[j]?=some u)(hd:aD (DR X.w X.F) els.flatten vs):aH (X.alloc C e v ⟨X.w.heap.size,0,sz,cap⟩) (bJ m lv sl (some (.row v els))) t:=by
 have hx:Ext X (X.alloc C e v ⟨X.w.heap.size,0,sz,cap⟩):=Ext.alloc h.nH h.low hv;refine(h.alloc hv).add (L:=⟨X.w.heap.size,0,sz,cap⟩) (tR _ _ _ _ _) ⟨hle,hl,λ_=>⟨⟨h.fresh,C,e,pe _ _ _ _ _,by simpa using hC⟩,λo ho=>?_⟩,λi f j x h1 h2=>?_⟩ λk u M hk _ hu hc _=>oP h hv hk hu hc;.exact mn _ (h.nH _ _ ho)
 .have:=xG (R:=λ_ _=>True) (o:=0) (pe X C e v ⟨X.w.heap.size,0,sz,cap⟩) hl (λj u hj=>by rw[kb];exact hvs j u hj) (hd.mono λ_ _=>DR.ext hx) (λ_ _=>trivial);grind[eO,aD,Cx.alloc]
def PL(h:aH X m t){C:Array Value}{e:TypeId}{v:Nat}{els:List (List D)}{sz cap:Nat}{vs:List Value}(hv:X.ρ v=none)(hl:∀e∈els,e.length=sz)(hC:cap*sz<=C.size)(hle:els.length<=cap)(hvs:∀(j:Nat)(u:Value),vs[j]?=some u->C[j]?=some u)(hd:aD (DR X.w X.F) els.flatten vs):let Y:=(X.alloc C e v ⟨X.w.heap.size,0+els.length*sz,sz,cap-els.length⟩).more λb o=>b=X.w.heap.size/\o<els.length*sz;Ext X Y/\aH Y m (t.set v (some ()))/\eO Y.w Y.F Y.F els X.w.heap.size 0 sz/\fP X Y v 0 0:=by
 intro Y;let Z:=X.alloc C e v ⟨X.w.heap.size,0+els.length*sz,sz,cap-els.length⟩;have hz:Ext X Z:=Ext.alloc h.nH h.low hv;have hm:Ext Z Y:=Ext.more λb o hb=>by rw[hb.1];exact h.fresh
 have hmem:aH Y m t:=(h.alloc hv).more (λb o hb=>⟨by rw[hb.1];exact h.fresh,by rw[hb.1];show _<(X.w.alloc _).heap.size;rw[World.size_alloc];omega⟩) λk u M o hk hu hc hb=>oP (C:=C) (e:=e) (L:=⟨X.w.heap.size,0+els.length*sz,sz,cap-els.length⟩) h hv hk hu hc hb.1;refine⟨hz.trans hm,hmem.aaw (L:=⟨X.w.heap.size,0+els.length*sz,sz,cap-els.length⟩) (tR X C e v _) (λhc=>⟨⟨h.fresh,C,e,pe X C e v ⟨X.w.heap.size,0+els.length*sz,sz,cap-els.length⟩,?_⟩,λo ho hF=>?_⟩) (λk u M hk _ hu hc _=>oP (C:=C) (e:=e) (L:=⟨X.w.heap.size,0+els.length*sz,sz,cap-els.length⟩) h hv hk hu hc),?_,⟨bc _,λu M hu=>?_⟩⟩;.rw[kb,<-d9,Nat.add_sub_cancel' hle]<;>omega
 .rcases hF with hF|hF;.exact mn _ (h.nH _ _ hF)
  grind
 .exact xG (o:=0) (pe X C e v ⟨X.w.heap.size,0+els.length*sz,sz,cap-els.length⟩) hl (λj u hj=>by rw[kb];exact hvs j u hj) (hd.mono λ_ _=>DR.ext (hz.trans hm)) (λk hk=>.inr ⟨rfl,by omega⟩)
 .exact(lg (C:=C) (e:=e) (n:=0)).2 u M hu
def Cx.set(X:Cx)(g:Nat)(C:Array Value):Cx:={X with w:=X.w.setRow g C}
def jk{g:Nat}{C C':Array Value}{e:TypeId}(hg:X.w.heap[g]?=some (.cells C e (0,0))):(X.set g C').w.heap[g]?=some (.cells C' e (0,0)):=setRow_heap _ _ _ _ _ _ hg
def vj{g:Nat}{C C':Array Value}{e:TypeId}(hg:X.w.heap[g]?=some (.cells C e (0,0)))(hb:¬X.old g)(hF:∀o,X.F g o->C'[o]?=C[o]?):Ext X (X.set g C'):=by
 refine⟨rfl,(fC.refl _ _).setRow hb _,λ_ _ h=>h,λb o h=>?_,λ_ _ h=>h,λ_ _ h=>.inl h⟩;by_cases hbg:b=g;.subst hbg;rw[cell_of_row _ _ _ _ _ _ (jk hg),cell_of_row _ _ _ _ _ _ hg]<;>grind
 .have:=setRow_other X.w g b C' hbg;simp[World.cell?,Cx.set,this]
def xH(h:aH X m t){g:Nat}{C C':Array Value}{e:TypeId}(hg:X.w.heap[g]?=some (.cells C e (0,0)))(hb:¬X.old g)(hF:∀o,X.F g o->C'[o]?=C[o]?)(hk:∀k v L,Holds m t k v->X.ρ v=some L->0<L.cap->L.b≠g):aH (X.set g C') m t:=h.move (vj hg hb hF) (λk v L a b c=>setRow_other X.w g L.b C' (hk k v L a b c)) (λ_ _ _ _ _ _ _ h=>h) λb o hb=>by have:=h.nH b o hb<;>simp_all[Holds,Cx.set]
end
def iu.val:iu->AV|.bZ e=>e.val|.all v _ _ _ _ _=>v
def dK(P:Program)(X:Cx)(s:St)(a:Act)(o:Oper)(dst:Option Nat)(aR:Nat)(r:iu):Prop:=∀(K:Act->World->Prop)(Q:Exit->Act->World->Prop),(∀Y v,Ext X Y->VR Y r.val v->aH Y (s.app dst r).mem (s.app dst r).aI->fP X Y aR s.nv (s.app dst r).nv->K (a.put o.dst v) Y.w)->Oper.wp P o a X.w K Q
section
variable{P:Program}{X:Cx}{nt:NT}{s:St}{a:Act}{o:Oper}{dst:Option Nat}{aR:Nat}
def dK.value{r:iu}{Y:Cx}{v:Value}(hrun:(execOp a.eval o).run P X.w=.ok (.value v) Y.w)(hx:Ext X Y)(hv:VR Y r.val v)(hm:aH Y (s.app dst r).mem (s.app dst r).aI)(hd:fP X Y aR s.nv (s.app dst r).nv):dK P X s a o dst aR r:=by intro K Q h;unfold Oper.wp;rw[hrun];exact h Y v hx hv hm hd
def dK.skip{r:iu}{Y:Cx}(hrun:(execOp a.eval o).run P X.w=.ok .skip Y.w)(hx:Ext X Y)(hv:VR Y r.val undef)(hm:aH Y (s.app dst r).mem (s.app dst r).aI)(hd:fP X Y aR s.nv (s.app dst r).nv):dK P X s a o dst aR r:=by intro K Q h;unfold Oper.wp;rw[hrun];exact h Y undef hx hv hm hd
def dK.quiet{val:AV}{rd:List (Nat×Nat×Nat)}(hs:fM X nt s a)(h:Quiet P X o a val):dK P X s a o dst aR (.bZ {val,dx:=[],cU:=[],rd}):=by obtain⟨v,hrun,hv⟩:=h;exact .value hrun (Ext.refl X) hv hs.mem (fP.refl _ _ _)
def jX{t:TypeId}{z:List Value}(h:oZ P t=some z):∃i v,P.info? t=some i/\i.zero=some v/\z=v.cells.toList:=by unfold oZ at h;cases hi:P.info? t with|none=>grind|some i=>rw[hi]at h;cases hz:i.zero with|none=>grind|some v=>grind
def Ga{lq:Nat}(hs:fM X nt s a)(hv:X.ρ aR=none){d:Nat}{C:Array Value}{e:TypeId}{cs:List AV}{rd:List (Nat×Nat×Nat)}(hrun:(execOp a.eval o).run P X.w=.ok (.value (.pointer (some ⟨X.w.heap.size,0,none⟩))) (X.w.alloc (.cells C e)))(hc:aD (VC X) cs C.toList):dK P X s a o dst aR (.bZ {val:=.ptr lq d aR 0 0,dx:=[(lq,d,some (.box aR cs))],cU:=[],rd}):=.value (Y:=X.alloc C e aR ⟨X.w.heap.size,0,C.size,1⟩) hrun (Ext.alloc hs.mem.nH hs.mem.low hv) ⟨_,tR _ _ _ _ _,by simp⟩ (PK hs.mem _ _ hv hc) lg
def CN{lq:Nat}(hs:fM X nt s a)(hv:X.ρ aR=none){t:TypeId}{z:List Value}{cs:List AV}{d:Nat}{rd:List (Nat×Nat×Nat)}(ho:o.op=.alloc t)(hz:oZ P t=some z)(hc:gu z=some cs):dK P X s a o dst aR (.bZ {val:=.ptr lq d aR 0 0,dx:=[(lq,d,some (.box aR cs))],cU:=[],rd}):=by obtain⟨i,v,hi,Ik,rfl⟩:=jX hz;refine Ga hs hv (C:=v.cells) (e:=t) ?_ (ni hc);simp[execOp,ho,Instr.alloc,zeroValue,typeInfo,hi,Ik,newVar,newRow]
def Ub{lq:Nat}(hs:fM X nt s a)(hv:X.ρ aR=none){t:TypeId}{x:Operand}{x':cx}{cs:List AV}{d:Nat}{rd:List (Nat×Nat×Nat)}(ho:o.op=.box t x)(hx:dH x=some x')(hc:cellsOf (x'.ev s.slots)=some cs):dK P X s a o dst aR (.bZ {val:=.ptr lq d aR 0 0,dx:=[(lq,d,some (.box aR cs))],cU:=[],rd}):=by refine Ga hs hv (C:=(a.eval x).cells) (e:=t) ?_ (o8 hc (bE hs hx));simp[execOp,ho,Instr.box,newVar,newRow]
def PM{X:Cx}:∀{cs:List AV}{ds:List D}{vs:List Value},wg cs=some ds->aD (VC X) cs vs->aD (DR X.w X.F) ds vs|[],ds,[],h,_=>by simp only[wg]at h;injection h with h;subst h;trivial|.d x::r,ds,v::vs,h,hv=>by simp only[wg]at h;obtain⟨ys,h1,rfl⟩:=fg.1 h;exact⟨hv.1,PM h1 hv.2⟩|[],_,_::_,_,hv=>hv.elim|.d _::_,_,[],_,hv=>hv.elim|.own _ _::_,_,_,h,_=>by simp[wg]at h|.agg _::_,_,_,h,_=>by simp[wg]at h|.fu _::_,_,_,h,_=>by simp[wg]at h|.ref ..::_,_,_,h,_=>by simp[wg]at h|.ptr ..::_,_,_,h,_=>by simp[wg]at h|.dz ..::_,_,_,h,_=>by simp[wg]at h|.e9 ..::_,_,_,h,_=>by simp[wg]at h|.fK ..::_,_,_,h,_=>by simp[wg]at h|.mp ..::_,_,_,h,_=>by simp[wg]at h
def aaG(hs:fM X nt s a)(hv:X.ρ aR=none){t:TypeId}{x:Operand}{x':cx}{cs:List AV}{ds:List D}(ho:o.op=.box t x)(hx:dH x=some x')(hc:cellsOf (x'.ev s.slots)=some cs)(hd:wg cs=some ds):dK P X s a o dst aR (.bZ {val:=.e9 ds 0,dx:=[],cU:=[],rd:=[]}):=by
 have hcs:=PM hd (o8 hc (bE hs hx));let C:=(a.eval x).cells;let L:Loc:=⟨X.w.heap.size,0,C.size,1⟩;let Z:=X.alloc C t aR L;have hz:Ext X Z:=Ext.alloc hs.mem.nH hs.mem.low hv;let Y:=Z.more λb _=>b=X.w.heap.size;have hm:Ext Z Y:=Ext.more λb o hb=>by rw[hb];exact hs.mem.fresh
 have hsz:X.w.heap.size<Z.w.heap.size:=by show _<(X.w.alloc _).heap.size;rw[World.size_alloc];omega
 have hmem:aH Y s.mem s.aI:=(hs.mem.alloc hv).more (λb o hb=>⟨by rw[hb];exact hs.mem.fresh,by rw[hb];exact hsz⟩) λk u M o hk hu hc hb=>oP (C:=C) (e:=t) (L:=L) hs.mem hv hk hu hc hb;refine .value (Y:=Y) (v:=.pointer (some ⟨X.w.heap.size,0,none⟩)) ?_ (hz.trans hm) ⟨X.w.heap.size,0,by simp,λj x hj=>?_⟩ hmem ⟨bc _,λu M hu=>?_⟩;.simp[execOp,ho,Instr.box,newVar,newRow];rfl
 .obtain⟨u,hu,hr⟩:=hcs.get _ _ hj;refine⟨.inl (.inr rfl),u,?_,hr.ext (hz.trans hm)⟩;show(X.alloc C t aR L).w.cell? _=_;rw[cell_of_row _ _ _ _ _ _ (pe X C t aR L),kb];simpa using hu
 .exact(lg (X:=X) (C:=C) (e:=t) (v:=aR) (L:=L) (n:=s.nv)).2 u M hu
def aD.one{X:Cx}:∀{cs:List AV}{vs:List Value},aD (VC X) cs vs->∀v∈vs,v.oneCell'=true
 |[],[],_,v,h=>by cases h|_::_,_::_,h,v,hv=>by
  rcases dl.1 hv with rfl|hv;.exact VC.one h.1
  .exact aD.one h.2 v hv|[],_::_,h,_,_=>h.elim|_::_,[],h,_,_=>h.elim
def aD.aaH{w:World}{F:Nat->Nat->Prop}:∀{cs:List D}{vs:List Value},aD (DR w F) cs vs->∀v∈vs,v.oneCell'=true
 |[],[],_,v,h=>by cases h|_::_,_::_,h,v,hv=>by
  rcases dl.1 hv with rfl|hv;.exact DR.one h.1
  .exact aD.aaH h.2 v hv|[],_::_,h,_,_=>h.elim|_::_,[],h,_,_=>h.elim
def lP{C:Array Value}{k:Nat}{vs:List Value}(h:k+vs.length<=C.size)(j:Nat):(C.toList.take k++vs++C.toList.drop (k+vs.length)).toArray[j]?=if k<=j/\j<k+vs.length then vs[j-k]?else C[j]?:=by grind
def zk{X:Cx}{m:List (Tr bu)}{t:Tr Unit}(h:aH X m t){lv sl aq:Nat}{cells:List AV}(hg:aG m lv sl=some (.box aq cells)):∃L C e,X.ρ aq=some L/\L.cap=1/\X.w.heap[L.b]?=some (.cells C e (0,0))/\¬X.old L.b/\L.o+max cells.length L.sz<=C.size/\(∀o,¬X.F L.b o)/\(∀k v M,Holds (bJ m lv sl none) t k v->X.ρ v=some M->0<M.cap->M.b≠L.b)/\∀j x,cells[j]?=some x->∃v,C[L.o+j]?=some v/\VC X x v:=by
 obtain⟨L,hL,h1,⟨h2,C,e,h3,h4⟩,h5,h6⟩:=h.fI _ _ _ hg;refine⟨L,C,e,hL,h1,h3,h2,h4,h5,λk v M hk hv hc=>?_,λj x hj=>?_⟩
 .have hh:Holds m t k v/\k≠bX lv sl:=by
   rcases hk with⟨cC,cW,e',rfl,he',nh⟩|⟨rfl,he'⟩;.rw[cQ]at he';grind[bu.fz,VC,bu.aq,aG,bX,Holds]
   .exact⟨.inr ⟨rfl,he'⟩,λhq=>dX hq.symm⟩
  exact h.apart _ _ _ _ _ _ hh.1 (.inl ⟨lv,sl,_,rfl,hg,rfl,rfl⟩) hh.2 hv hL hc (by omega)
 .obtain⟨v,hv,hr⟩:=h6 j x hj;rw[cell_of_row _ _ _ _ _ _ h3]at hv<;>grind
def oQ{X:Cx}{m:List (Tr bu)}{t:Tr Unit}(h:aH X m t){lv sl aq:Nat}{els:List (List D)}(hg:aG m lv sl=some (.row aq els)){L:Loc}(hL:X.ρ aq=some L)(hc0:0<L.cap):∃C e,X.w.heap[L.b]?=some (.cells C e (0,0))/\¬X.old L.b/\L.o+L.cap*L.sz<=C.size/\(∀o,¬X.F L.b o)/\els.length<=L.cap/\(∀e∈els,e.length=L.sz)/\(∀k v M,Holds (bJ m lv sl none) t k v->X.ρ v=some M->0<M.cap->M.b≠L.b)/\∀i e j x,els[i]?=some e->e[j]?=some x->∃v,C[L.o+i*L.sz+j]?=some v/\DR X.w X.F x v:=by
 obtain⟨L',hL',h1,h2,h3,h4⟩:=h.fI _ _ _ hg;have:X.ρ aq=some L':=hL';rw[hL]at this;cases this;obtain⟨⟨h5,C,e,h6,h7⟩,h8⟩:=h3 hc0;refine⟨C,e,h6,h5,h7,h8,h1,h2,λk v M hk hv hc=>?_,λi f j x hi hj=>?_⟩
 .have hh:Holds m t k v/\k≠bX lv sl:=by
   rcases hk with⟨cC,cW,e',rfl,he',nh⟩|⟨rfl,he'⟩;.rw[cQ]at he';grind[bu.fz,Block,bu.aq,aG,bX,Holds]
   .exact⟨.inr ⟨rfl,he'⟩,λhq=>dX hq.symm⟩
  exact h.apart _ _ _ _ _ _ hh.1 (.inl ⟨lv,sl,_,rfl,hg,rfl,rfl⟩) hh.2 hv hL hc hc0
 .obtain⟨v,hv,hr⟩:=h4 i f j x hi hj;rw[cell_of_row _ _ _ _ _ _ h6]at hv<;>grind
def aH.reset{X:Cx}{m:List (Tr bu)}{t:Tr Unit}{lv sl:Nat}{e:bu}{L:Loc}(h:aH X (bJ m lv sl none) t)(hL:X.ρ e.aq=some L)(hE:ou X e L)(hap:∀k v M,Holds (bJ m lv sl none) t k v->X.ρ v=some M->0<M.cap->0<L.cap->M.b≠L.b):aH X (bJ m lv sl (some e)) t:=(h.add (lv:=lv) (sl:=sl) hL hE λk v M a _ b c d=>hap k v M a b c d).congr (λcC cW=>by rw[cQ,cQ,cQ]<;>grind[Holds,ou,bu.aq,bJ,aG]) λ_=>rfl
def Gb{X:Cx}{m:List (Tr bu)}{t:Tr Unit}(h:aH X m t){lv sl aq off:Nat}{cells new:List AV}{vs:List Value}(hg:aG m lv sl=some (.box aq cells))(hoff:off+new.length<=cells.length)(hn:aD (VC X) new vs):∃L Y,X.ρ aq=some L/\Ext X Y/\Y.ρ=X.ρ/\aH Y (bJ m lv sl (some (.box aq (splice cells off new)))) t/\(storeCells ⟨L.b,L.o+off,none⟩ vs).run P X.w=.ok () Y.w:=by
 obtain⟨L,C,e,hL,h1,h2,h3,h4,h5,h6,h7⟩:=zk h hg;have hlen:=hn.length;have hst:=run_storeCells_at P L.b (L.o+off) e vs 0 C X.w h2 (by omega) (aD.one hn);let C':=(C.toList.take (L.o+off)++vs++C.toList.drop (L.o+off+vs.length)).toArray;have nK:∀j,C'[j]?=if L.o+off<=j/\j<L.o+off+vs.length then vs[j-(L.o+off)]?else C[j]?:=lP (by omega);have hx:Ext X (X.set L.b C'):=vj h2 h3 λo ho=>absurd ho (h5 o);refine⟨L,X.set L.b C',hL,hx,rfl,?_,hst⟩;refine(xH (h.erase lv sl) h2 h3 (λo ho=>absurd ho (h5 o)) h6).reset (e:=.box aq (splice cells off new)) (L:=L) hL ⟨h1,⟨h3,C',e,jk h2,?_⟩,h5,λj x hj=>?_⟩ λk v M a b c _=>h6 k v M a b c
 .rw[lM _ _ _ hoff];have hs:C'.size=C.size:=by show(C.toList.take (L.o+off)++vs++C.toList.drop (L.o+off+vs.length)).toArray.size=C.size;simp;omega
  omega
 .rw[eR _ _ _ hoff]at hj;rw[cell_of_row _ _ _ _ _ _ (jk h2),nK];by_cases hb:off<=j/\j<off+new.length;.rw[ba hb]at hj;obtain⟨v,hv,hr⟩:=hn.get _ _ hj;rw[ba (by omega),show L.o+j-(L.o+off)=j-off by omega];exact⟨v,hv,hr.ext hx⟩
  .rw[bi hb]at hj;obtain⟨v,hv,hr⟩:=h7 j x hj;rw[bi (by omega)];exact⟨v,hv,hr.ext hx⟩
def Gc{X:Cx}{m:List (Tr bu)}{t:Tr Unit}(h:aH X m t){lv sl aq k:Nat}{els els':List (List D)}{vs:List Value}{L:Loc}(hg:aG m lv sl=some (.row aq els))(hL:X.ρ aq=some L)(hc:0<L.cap)(hk:k+vs.length<=L.cap*L.sz)(hn:aD (DR X.w X.F) ((els'.flatten.drop k).take vs.length) vs)(hl':∀e∈els',e.length=L.sz)(hle:els'.length<=L.cap)(hold:∀j x,els'.flatten[j]?=some x->(k<=j/\j<k+vs.length)\/els.flatten[j]?=some x):∃Y,Ext X Y/\Y.ρ=X.ρ/\aH Y (bJ m lv sl (some (.row aq els'))) t/\(storeCells ⟨L.b,L.o+k,none⟩ vs).run P X.w=.ok () Y.w:=by
 obtain⟨C,e,h2,h3,h4,h5,h8,h9,h6,h7⟩:=oQ h hg hL hc;have hst:=run_storeCells_at P L.b (L.o+k) e vs 0 C X.w h2 (by omega) (aD.aaH hn);let C':=(C.toList.take (L.o+k)++vs++C.toList.drop (L.o+k+vs.length)).toArray;have nK:∀j,C'[j]?=if L.o+k<=j/\j<L.o+k+vs.length then vs[j-(L.o+k)]?else C[j]?:=lP (by omega);have hx:Ext X (X.set L.b C'):=vj h2 h3 λo ho=>absurd ho (h5 o);have hs:C'.size=C.size:=by show(C.toList.take (L.o+k)++vs++C.toList.drop (L.o+k+vs.length)).toArray.size=C.size;simp;omega
 refine⟨X.set L.b C',hx,rfl,?_,hst⟩;refine(xH (h.erase lv sl) h2 h3 (λo ho=>absurd ho (h5 o)) h6).reset (e:=.row aq els') (L:=L) hL ⟨hle,hl',λ_=>⟨⟨h3,C',e,jk h2,by omega⟩,h5⟩,λi f j x hi hj=>?_⟩ λk v M a b c _=>h6 k v M a b c;have Ie:j<L.sz:=by rw[<-hl' f (eQ hi)];exact(ci.1 hj).1
 have hf:=gJ hl' i j f hi Ie;rw[hj]at hf;rw[cell_of_row _ _ _ _ _ _ (jk h2),nK];by_cases hb:k<=i*L.sz+j/\i*L.sz+j<k+vs.length
 .rw[ba (by omega)];have hq:((els'.flatten.drop k).take vs.length)[i*L.sz+j-k]?=some x:=by rw[fx,ba (by omega),pd,show k+(i*L.sz+j-k)=i*L.sz+j by omega];exact hf
  obtain⟨v,hv,hr⟩:=hn.get _ _ hq;rw[show L.o+i*L.sz+j-(L.o+k)=i*L.sz+j-k by omega];exact⟨v,hv,hr.ext hx⟩
 .rw[bi (by omega)];have hq:=(hold _ _ hf).resolve_left hb;have hlt:i*L.sz+j<els.length*L.sz:=by rw[<-bq h9];exact(ci.1 hq).1
  have hi':i<els.length:=by
   rcases ii i els.length with hi'|hi';.exact hi'
   .have:=d6 L.sz hi';omega
  have hg2:=gJ h9 i j _ (aw hi') Ie;rw[hq]at hg2;obtain⟨v,hv,hr⟩:=h7 i _ j x (aw hi') hg2.symm;exact⟨v,hv,hr.ext hx⟩
end
def kJ:∀(u v:List (Nat×Nat×Option bu))(m:List (Tr bu)),aU m (u++v)=aU (aU m u) v|[],_,_=>rfl|(lv,sl,e)::u,v,m=>by exact kJ u v _
def qV{α:Type}(cs new:List α)(off:Nat)(h:off<=cs.length):((splice cs off new).drop off).take new.length=new:=by grind[splice]
def Uc{sz:Nat}{els:List (List D)}(hl:∀e∈els,e.length=sz){i off:Nat}{e ds:List D}(hi:els[i]?=some e)(ho:off+ds.length<=sz):(els.set i (splice e off ds)).flatten=splice els.flatten (i*sz+off) ds:=by
 have he:=hl e (eQ hi);have hlt:i<els.length:=(ci.1 hi).1;have hle:i*sz+sz<=els.flatten.length:=by rw[bq hl];have:=d6 sz (show i+1<=els.length from hlt);rw[d9]at this;omega
 have h1:(splice e off ds).length=sz:=by rw[lM _ _ _ (by omega),he]
 rw[tQ hl i _ hlt h1];apply lA;intro j;have q1:=eR els.flatten (splice e off ds) (i*sz) (by omega) j;have q2:=eR els.flatten ds (i*sz+off) (by omega) j;have q3:=eR e ds off (by omega) (j-i*sz);rw[q1,q2,h1];by_cases hb:i*sz<=j/\j<i*sz+sz
 .rw[ba hb,q3];by_cases hc:off<=j-i*sz/\j-i*sz<off+ds.length;.rw[ba hc,ba (by omega),show j-i*sz-off=j-(i*sz+off)by omega]
  .rw[bi hc,bi (by omega)];have:=gJ hl i (j-i*sz) e hi (by omega);rw[show i*sz+(j-i*sz)=j by omega]at this;exact this.symm
 .rw[bi hb,bi (by omega)]
section
variable{P:Program}{X:Cx}{nt:NT}{s:St}{a:Act}{o:Oper}{dst:Option Nat}{aR:Nat}
def fP.J4{X Y:Cx}{v n:Nat}(h:Y.ρ=X.ρ):fP X Y v n n:=⟨bc _,λu L hu=>.inl (by grind)⟩
def Ud(hs:fM X nt s a){t:TypeId}{x v:Operand}{x' v':cx}{sz:Nat}{e:fy}(ho:o.op=.store t x v)(hsz:ec P t=some sz)(hx:dH x=some x')(hv:dH v=some v')(hr:rV s.mem sz (x'.ev s.slots) (v'.ev s.slots)=some e):dK P X s a o dst aR (.bZ e):=by
 obtain⟨i,hi,his⟩:=gp hsz;have hp:=bE hs hx;have hval:=bE hs hv;have run:∀(b off:Nat)(Y:Cx),a.eval x=.pointer (some ⟨b,off,none⟩)->(a.eval v).cells.size=sz->(storeCells ⟨b,off,none⟩ (a.eval v).cells.toList).run P X.w=.ok () Y.w->(execOp a.eval o).run P X.w=.ok .skip Y.w:=by intro b off Y h1 h2 h3;simp[execOp,ho,Instr.storeAt,h1,jV,storeVar,sizeOf,typeInfo,hi,his,h2,h3]
 unfold rV at hr;split at hr
 .rename_i lv sl aq j off new hq hc;rw[hq]at hp;obtain⟨L,hL,hp⟩:=hp;have CO:=o8 hc hval;split at hr
  .rename_i hlen;have hsize:(a.eval v).cells.size=sz:=by rw[<-hlen,CO.length,f9]
   split at hr
   .rename_i gD cs hg;split at hr
    .rename_i Fv hj;split at hr;.rename_i hle;cases hr;have Fv:=beq_true.1 Fv;have hj:=beq_true.1 hj;subst Fv;subst hj;obtain⟨L',Y,hL',hx',hρ,hm,hst⟩:=Gb (P:=P) hs.mem hg (by rw[hlen];exact hle) CO;rw[hL]at hL';cases hL';refine .skip (Y:=Y) (run L.b (L.o+off) Y (by rw[hp];simp) hsize hst) hx' o6 hm (fP.J4 hρ)
     grind
    grind
   .rename_i gD els hg;split at hr
    .rename_i Fv;split at hr
     .rename_i el ds ks hel hds;split at hr
      .rename_i hle;obtain⟨hle,hks⟩:=hle;cases hr;have Fv:=beq_true.1 Fv;subst Fv;have Nj:=Ii hs.mem (ks:=ks) hds CO λp hp=>hp;have zf:=Ih hs.mem ks;have hx1:=r6 hs.mem ks;have hg1:aG (aU s.mem (eY s.mem ks)) lv sl=some (.row gD els):=by rw[rZ,bi hks,hg]
       have hlt:j<els.length:=(ci.1 hel).1;obtain⟨L',hL',hE⟩:=hs.mem.fI _ _ _ hg;have:X.ρ gD=some L':=hL';rw[hL]at this;cases this;obtain⟨e1,e2,_,_⟩:=hE;have hcap:0<L.cap:=by omega
       have CP:=e2 el (eQ hel);have hlen':ds.length=(a.eval v).cells.toList.length:=Nj.length;have aAl:(a.eval v).cells.toList.length=sz:=by grind
       have hfl:=Uc (ds:=ds) e2 hel (off:=off) (by omega);have asn:=bq e2;have hjl:j*L.sz+L.sz<=els.length*L.sz:=by have:=d6 L.sz (show j+1<=els.length from hlt)<;>grind
       have hjc:els.length*L.sz<=L.cap*L.sz:=d6 _ e1;obtain⟨Y,hx',hρ,hm,hst⟩:=Gc (P:=P) zf (k:=j*L.sz+off) (els':=els.set j (splice el off ds)) (vs:=(a.eval v).cells.toList) hg1 hL hcap (by omega) (by rw[hfl,<-hlen',qV _ _ _ (by omega)];exact Nj) (λf hf=>by
        rcases List.mem_or_eq_of_mem_set hf with hf|rfl;.exact e2 f hf
        .rw[lM _ _ _ (by omega),CP]) (by simpa using e1) (λq y hq=>by
        rw[hfl,eR _ _ _ (by omega)]at hq;split at hq;.exact .inl (by omega)
        .exact .inr hq);refine .skip (Y:=Y) (run L.b (L.o+j*L.sz+off) Y hp hsize (by rw[eJ];exact hst)) (hx1.trans hx') o6 ?_ (fP.J4 hρ);show aH Y (aU s.mem (eY s.mem ks++_)) s.aI;rw[kJ];exact hm
      grind
     grind
    grind
   .cases hr
   .cases hr
   grind
  grind
 grind
def Ri{w:World}{F:Nat->Nat->Prop}{v:Value}{x:D}(h:wj v=some x):DR w F x v:=by cases v with
 |slice a n c=>
  simp[wj]at h;split at h;.rename_i hv;cases hv;cases h;exact .sl [] none 0 0 0 0 0 (λ_ _=>undef) rfl (bc _) (by simp) (λh=>absurd h (by simp)) (by simp) (by simp) (by simp)
  all_goals first|(cases h;done)|simp_all
 |agg cs=>simp[wj]at h|tuple cs=>simp[wj]at h|func fn first cap=>simp[wj]at h|_=>simp only[wj]at h;injection h with h;subst h;exact DR.sc _ rfl
def mF{w:World}{F:Nat->Nat->Prop}:∀{vs:List Value}{xs:List D},jU vs=some xs->aD (DR w F) xs vs
 |[],xs,h=>by grind[jU,aD]|v::r,xs,h=>by
  simp[jU]at h;split at h;.rename_i x xs' h1 h2;cases h;exact⟨Ri h1,mF h2⟩
  grind
def jC{w:World}{F:Nat->Nat->Prop}{z:List D}{Z:Array Value}{sz:Nat}(hz:aD (DR w F) z Z.toList)(hl:z.length=sz)(h0:0<sz)(n k:Nat)(hk:n*sz<=k):aD (DR w F) (List.replicate n z).flatten ((madeCells Z k).toList.take (n*sz)):=by
 have hu:∀e∈List.replicate n z,e.length=sz:=λe he=>by rw[(ro.1 he).2];exact hl
 refine .tO (by rw[bq hu];simp[madeCells];omega) λi x v hx hv=>?_;have hi:i<n*sz:=by grind
 have hq:i/sz<n:=(Nat.div_lt_iff_lt_mul h0).2 hi;have hg:=gJ hu (i/sz) (i%sz) z (by rw[ol,ba hq]) (ti _ h0);rw[show i/sz*sz+i%sz=i by rw[yr];exact Nat.div_add_mod i sz,hx]at hg;have hZ:Z.size=sz:=by rw[<-hl,hz.length,f9]
 obtain⟨u,mA,hr⟩:=hz.get _ _ hg.symm;have:v=u:=by simp only[madeCells,Array.getElem?_toList,Array.getElem?_map]at hv<;>grind
 grind
def qE{Z:Array Value}{k:Nat}:(madeCells Z k).toList.take k=(madeCells Z k).toList:=f1 (by simp[madeCells])
def J5(hs:fM X nt s a){sz:Nat}{K:List (Nat×Nat)}:∀(ps:List (Nat×Operand))(l:List (Nat×cx))(els els':List (List D))(ks:List (Nat×Nat))(C:Array Value),qc ps=some l->(∀e∈els,e.length=sz)->aD (DR X.w (X.nD s.mem K).F) els.flatten C.toList->qT s.mem s.slots sz els l=some (els',ks)->(∀p∈ks,p∈K)->∃C',Instr.fill (λi=>some (i*sz,sz)) C (ps.map λp=>(p.1,a.eval p.2))=some C'/\aD (DR X.w (X.nD s.mem K).F) els'.flatten C'.toList/\(∀e∈els',e.length=sz)/\els'.length=els.length
 |[],l,els,els',ks,C,hp,hl,hd,hf,hk=>by cases hp;cases hf;exact⟨C,rfl,hd,hl,rfl⟩|(i,x)::ps,l,els,els',ks,C,hp,hl,hd,hf,hk=>by
  simp[qc]at hp;split at hp
  .rename_i y ys h2 h3;cases hp;simp[qT]at hf;split at hf
   .rename_i e k1 he;split at hf
    .rename_i hc;obtain⟨hc1,ov⟩:=hc;split at hf;.rename_i aeT k2 hf';injection hf with hf;injection hf with e1 e2;subst e1;subst e2;unfold FQ at he;cases hcs:cellsOf (y.ev s.slots)with|none=>grind|some cs=>
      rw[hcs]at he;have hv:=Ii hs.mem (ks:=K) he (o8 hcs (bE hs h2)) λp hp=>hk p (by simp[hp]);have hsz:(a.eval x).cells.size=sz:=by rw[<-hc1,hv.length,f9]
      have hC:C.size=els.length*sz:=by rw[<-bq hl,hd.length,f9]
      have hle:i*sz+sz<=C.size:=by have:=d6 sz (show i+1<=els.length from ov)<;>grind
      obtain⟨C',h4,h5,h6,h7⟩:=J5 hs ps ys (els.set i e) aeT k2 ((a.eval x).cells.zipIdx.foldl (λcs x=>match x with|(c,j)=>cs.setIfInBounds (i*sz+j) c) C) h3 (λf hf=>by
       rcases List.mem_or_eq_of_mem_set hf with hf|rfl;.exact hl f hf
       .exact hc1) (by rw[F1 _ _ C (by omega),tQ hl i e ov hc1];exact hd.splice hv) hf' λp hp=>hk p (by simp[hp]);simp only[f2,Instr.fill,hsz,ne_eq,wc,tb,Bool.false_or]<;>grind
     grind
    grind
   grind
  grind
def tS{t e:TypeId}{n sz:Nat}{ps:Array (Nat×Operand)}{i:TypeInfo}{zv:Value}{C':Array Value}(ho:o.op=.buildSlice t n ps)(ht:P.underlying t=some (.slice e))(hi:P.info? e=some i)(his:i.size=sz)(hz:i.zero=some zv)(Fo:n*sz<=16777216)(hf:Instr.fill (λi=>some (i*sz,sz)) (madeCells zv.cells (n*sz)) (ps.toList.map λp=>(p.1,a.eval p.2))=some C'):(execOp a.eval o).run P X.w=.ok (.value (.slice (some ⟨X.w.heap.size,0,none⟩) n n)) (X.w.alloc (.cells C' e)):=by
 have hn:¬(16777216<n*sz):=by omega
 have key:(Instr.buildSlice t n (ps.map λ(x:Nat×Operand)=>(x.1,a.eval x.2))).run P X.w=.ok (.slice (some ⟨X.w.heap.size,0,none⟩) n n) (X.w.alloc (.cells C' e)):=by
  unfold madeCells at hf;by_cases h0:n*sz=0;.have e0:Array.range 0=#[]:=rfl;rw[h0,e0,Array.map_empty]at hf;simp[Instr.buildSlice,run_underlying ht,sizeOf,typeInfo,hi,his,h0,newRow,e0,hf]
  .simp[Instr.buildSlice,run_underlying ht,sizeOf,typeInfo,hi,his,hn,h0,zeroValue,hz,hf,newRow]
 simp[execOp,ho];simp[key]
end
section
variable{P:Program}{X:Cx}{nt:NT}{s:St}{a:Act}{o:Oper}{dst:Option Nat}{aR:Nat}
def Ue{X:Cx}{m:List (Tr bu)}{t:Tr Unit}{v:Nat}(h:aH X m (t.set v (some ()))):aH X m t:=h.less (λ_ _ _ h=>h) λu hu=>by rw[Tr.cL]<;>grind
def Fw{lq:Nat}(hs:fM X nt s a)(hfr:X.ρ aR=none){t e:TypeId}{n sz d:Nat}{ps:Array (Nat×Operand)}{z:List D}{zl:List Value}{l:List (Nat×cx)}{els:List (List D)}{ks:List (Nat×Nat)}{rd:List (Nat×Nat×Nat)}(ho:o.op=.buildSlice t n ps)(ht:P.underlying t=some (.slice e))(hsz:ec P e=some sz)(hz:oZ P e=some zl)(Fy:jU zl=some z)(hl:qc ps.toList=some l)(Fo:n*sz<=16777216)(hzl:z.length=sz)(h0:0<sz)(hf:qT s.mem s.slots sz (List.replicate n z) l=some (els,ks)):dK P X s a o dst aR (.bZ {val:=.own els .full,dx:=eY s.mem ks,cU:=[],rd})/\((lq,d)∉ks->dK P X s a o dst aR (.bZ {val:=.ref lq d aR 0 n sz,dx:=eY s.mem ks++[(lq,d,some (.row aR els))],cU:=[],rd})):=by
 obtain⟨i,zv,hi,Ik,rfl⟩:=jX hz;obtain⟨i',hi',his⟩:=gp hsz;rw[hi]at hi';simp_all;have hZ:aD (DR X.w (X.nD s.mem ks).F) z zv.cells.toList:=mF Fy;have wm:=jC hZ hzl h0 n (n*sz) (bc _);rw[qE]at wm;obtain⟨C',h1,h2,h3,h4⟩:=J5 hs ps.toList l _ els ks (madeCells zv.cells (n*sz)) hl (λe he=>by rw[(ro.1 he).2];exact hzl) wm hf λp hp=>hp;have hrun:=tS (P:=P) (X:=X) ho ht hi his Ik Fo h1;have zf:=Ih hs.mem ks;have hx1:=r6 hs.mem ks;have hen:els.length=n:=by grind
 have hC:C'.size=n*sz:=by rw[<-hen,<-bq h3,h2.length,f9]
 refine⟨?_,λhnk=>?_⟩
 .have nt:=PL (X:=X.nD s.mem ks) zf (C:=C') (e:=e) (v:=aR) (els:=els) (sz:=sz) (cap:=n) (vs:=C'.toList) hfr h3 (by omega) (by omega) (λj u hj=>by simpa using hj) h2;obtain⟨g1,g2,g3,g4⟩:=nt;refine .value hrun (hx1.trans g1) ⟨some ⟨X.w.heap.size,0,none⟩,X.w.heap.size,0,sz,?_,λ_=>rfl,g3⟩ (Ue g2) ⟨bc _,λv L h=>?_⟩;.rw[hen]
  .rcases g4.2 v L h with h|h|h;.exact .inl h
   .grind
   .omega
 .have nr:=Ij (X:=X.nD s.mem ks) zf (C:=C') (e:=e) (v:=aR) (els:=els) (sz:=sz) (cap:=n) (vs:=C'.toList) lq d hfr h3 (by omega) (by omega) (λj u hj=>by simpa using hj) h2;refine .value (Y:=(X.nD s.mem ks).alloc C' e aR ⟨X.w.heap.size,0,sz,n⟩) hrun (hx1.trans (Ext.alloc zf.nH zf.low hfr)) ⟨⟨X.w.heap.size,0,sz,n⟩,some ⟨X.w.heap.size,0,none⟩,n,tR _ _ _ _ _,rfl,rfl,bc _,λ_=>⟨by simp,by simp⟩⟩ ?_ (lg (X:=X.nD s.mem ks));show aH _ (aU s.mem (eY s.mem ks++_)) s.aI;rw[kJ];exact nr
def xI{sz:Nat}:∀{ps:List (Nat×Operand)}{l:List (Nat×cx)},qc ps=some l->tM (λi=>some (i*sz,sz)) ps=some (l.map λp=>(p.1*sz,sz,p.2))
 |[],l,h=>by cases h;rfl|(i,x)::r,l,h=>by
  simp[qc]at h;split at h;.rename_i y ys h1 h2;cases h;simp[tM,h1,xI h2,f2]
  grind
def aD.aaI{X:Cx}:∀{ds:List D}{vs:List Value},aD (DR X.w X.F) ds vs->aD (VC X) (ds.map .d) vs|[],[],_=>trivial|_::_,_::_,h=>⟨h.1,aD.aaI h.2⟩|[],_::_,h=>h.elim|_::_,[],h=>h.elim
def J6{lq:Nat}(hs:fM X nt s a)(hfr:X.ρ aR=none){t e:TypeId}{n sz d:Nat}{ps:Array (Nat×Operand)}{z:List D}{zl:List Value}{l:List (Nat×cx)}{cs:List AV}{rd:List (Nat×Nat×Nat)}(ho:o.op=.buildSlice t n ps)(ht:P.underlying t=some (.slice e))(hsz:ec P e=some sz)(hz:oZ P e=some zl)(Fy:jU zl=some z)(hl:qc ps.toList=some l)(Fo:n*sz<=16777216)(hzl:z.length=sz)(h0:0<sz)(hn:n≠0)(hf:qS s.slots ((List.replicate n z).flatten.map .d) (l.map λp=>(p.1*sz,sz,p.2))=some cs):dK P X s a o dst aR (.bZ {val:=.dz lq d aR 0 n sz,dx:=[(lq,d,some (.box aR cs))],cU:=[],rd}):=by obtain⟨i,zv,hi,Ik,rfl⟩:=jX hz;obtain⟨i',hi',his⟩:=gp hsz;rw[hi]at hi';cases hi';have hZ:aD (DR X.w X.F) z zv.cells.toList:=mF Fy;have wm:=jC hZ hzl h0 n (n*sz) (bc _);rw[qE]at wm;obtain⟨C',h1,h2⟩:=CK hs (λi=>some (i*sz,sz)) ps.toList _ _ cs (madeCells zv.cells (n*sz)) (xI hl) wm.aaI hf;have hrun:=tS (P:=P) (X:=X) ho ht hi his Ik Fo h1;exact .value (Y:=X.alloc C' e aR ⟨X.w.heap.size,0,C'.size,1⟩) hrun (Ext.alloc hs.mem.nH hs.mem.low hfr) ⟨_,n,tR _ _ _ _ _,by simp,bc _,by omega,λhq=>absurd hq (mn _)⟩ (PK hs.mem _ _ hfr h2) lg
def Il{lq:Nat}(hs:fM X nt s a)(hfr:X.ρ aR=none){t e:TypeId}{l c d:Nat}{i:TypeInfo}{ln cp:Operand}{ln' cp':cx}{z:List D}{zl:List Value}{rd:List (Nat×Nat×Nat)}(ho:o.op=.makeSlice t ln cp)(ht:P.underlying t=some (.slice e))(hi:P.info? e=some i)(hz:oZ P e=some zl)(Fy:jU zl=some z)(hzl:z.length=i.size)(h0:0<i.size)(hln:dH ln=some ln')(hcp:dH cp=some cp')(hl:gX (ln'.ev s.slots)=some l)(hc:gX (cp'.ev s.slots)=some c)(hlc:l<=c)(hby:i.bytes*c<=jA)(h63:c<=eW):dK P X s a o dst aR (.bZ {val:=.ref lq d aR 0 l i.size,dx:=[(lq,d,some (.row aR (List.replicate l z)))],cU:=[],rd}):=by
 obtain⟨i',zv,hi',Ik,rfl⟩:=jX hz;rw[hi]at hi';cases hi';obtain⟨kl,hle⟩:=ld hl (bE hs hln);obtain⟨kc,hce⟩:=ld hc (bE hs hcp);have hr:=run_make (P:=P) X.w t e i zv ht hi Ik kl kc l c (by omega) (by omega) (by
  have:((i.bytes*c:Nat):Int)<=281474976710656:=by unfold jA at hby;omega
  rwa[xa]at this) (by unfold eW at h63;omega);have hZ:aD (DR X.w X.F) z zv.cells.toList:=mF Fy;have wm:=jC hZ hzl h0 l (c*i.size) (d6 _ hlc);have nr:=Ij hs.mem (C:=madeCells zv.cells (c*i.size)) (e:=e) (v:=aR) (els:=List.replicate l z) (sz:=i.size) (cap:=c) lq d hfr (λe he=>by rw[(ro.1 he).2];exact hzl) (by simp[madeCells]) (by simpa using hlc) (vs:=(madeCells zv.cells (c*i.size)).toList.take (l*i.size)) (λj u hj=>by
   rw[fx]at hj;split at hj;.simpa using hj
   .cases hj) wm;refine .value (Y:=X.alloc (madeCells zv.cells (c*i.size)) e aR ⟨X.w.heap.size,0,i.size,c⟩) ?_ (Ext.alloc hs.mem.nH hs.mem.low hfr) ⟨⟨X.w.heap.size,0,i.size,c⟩,some ⟨X.w.heap.size,0,none⟩,c,tR _ _ _ _ _,rfl,rfl,hlc,λ_=>⟨by simp,by simp⟩⟩ nr lg;simp[execOp,ho,hle,hce,hr];rfl
def B8{X:Cx}{m:List (Tr bu)}{t:Tr Unit}(h:aH X m t){y:AV}{news:List (List D)}{v:Value}{sz:Nat}(he:hD m y=some news)(hv:VR X y v)(hl:∀e∈news,e.length=sz)(h0:0<sz):∃vs:List Value,aD (DR X.w X.F) news.flatten vs/\(∀w:World,(Builtin.lenOf v).run P w=.ok news.length w)/\(∀w:World,(∀b o,w.cell? ⟨b,o,none⟩=X.w.cell? ⟨b,o,none⟩)->∀n,n<=news.length->(Builtin.firstCells sz n v).run P w=.ok (vs.take (n*sz)).toArray w):=by
 have data:∀els,dJ m y=some els->els=news->∃vs:List Value,aD (DR X.w X.F) news.flatten vs/\(∀w:World,(Builtin.lenOf v).run P w=.ok news.length w)/\(∀w:World,(∀b o,w.cell? ⟨b,o,none⟩=X.w.cell? ⟨b,o,none⟩)->∀n,n<=news.length->(Builtin.firstCells sz n v).run P w=.ok (vs.take (n*sz)).toArray w):=by
  rintro els he' rfl;have he:=he';obtain⟨ad,cap,sz',b,o,rfl,h2,h3,h4⟩:=o9 h he hv;obtain⟨vs,h5,h6⟩:=rX h4;refine⟨vs,h6,λw=>rfl,λw hw n hn=>?_⟩;by_cases hz:els.length=0
  .have hn:n=0:=by omega
   subst hn;cases ad with|none=>simp[Builtin.firstCells]|some ad=>simp[Builtin.firstCells,loadCells,loadCellsFrom]
  .have hlt:0<els.length:=by omega
   have:=h3 hlt;subst this;have hs':sz'=sz:=by have hm:=i9 hlt;rw[<-h4.1 _ hm,hl _ hm]
   subst hs';have hlen:(vs.take (n*sz')).length=n*sz':=by
    have:vs.length=els.length*sz':=by rw[<-h6.length,bq hl]
    simp_all
   have:=run_loadCells_list (P:=P) w ⟨b,o,none⟩ (vs.take (n*sz')) λj u hj=>by
    rw[Addr.add_lit,hw];rw[fx]at hj;split at hj;.exact h5 j u hj
    .cases hj
   rw[hlen]at this;simpa[Builtin.firstCells]using this
 unfold hD at he;split at he
 .rename_i bs;simp_all;have hv:=hv.sc;subst hv;have hlen:news.length=bs.size:=by rw[<-he];simp
  refine⟨bs.data.toList.map λc=>.int .u8 c.toNat,?_,λw=>by rw[hlen];rfl,λw _ n hn=>?_⟩;.rw[<-he];generalize bs.data.toList=l;induction l with|nil=>trivial|cons c l ih=>exact⟨DR.sc _ rfl,ih⟩
  .by_cases hz:news.length=0
   .have hn:n=0:=by omega
    subst hn;simp[Builtin.firstCells]
   .have hs1:sz=1:=by
     have hlt:0<news.length:=by omega
     have h1:=hl _ (i9 hlt)<;>grind
    simp[Builtin.firstCells,Sem.run_pure,rc]<;>grind
 grind
end
section
variable{P:Program}
def wo(P:Program)(u:TypeId):Prop:=(∃e,P.underlying u=some (.slice e))\/P.underlying u=some .string
inductive Src(P:Program)(u:TypeId)(i:TypeInfo)(w:World)(y:Value)(m:Nat)(new:List Value):Prop|val(hu:wo P u)(hl:(Builtin.lenOf y).run P w=.ok m w)(hf:(Builtin.firstCells i.size m y).run P w=.ok new.toArray w)(hf':(Builtin.firstCells i.size m y).run P w.drew=.ok new.toArray w.drew)|zero(k k':IntKind)(z:Value)(hu:P.underlying u=some (.int k))(hz:i.zero=some z)(hzs:z.cells.size=i.size)(hy:y=.int k' m)(h63:m<=eW)(hby:m*i.bytes<=jA)(hn:new=(Builtin.zeroCells z.cells m).toList)
def J7{m:Nat}(h:m<=eW):IntKind.i64.wrap (m:Int)=m:=by unfold eW at h;rw[IntKind.wrap_i64];omega
def jD{t u ty e:TypeId}{i:TypeInfo}{w:World}{ad:Option Addr}{n cap m:Nat}{y:Value}{new:List Value}(ht:P.underlying t=some (.slice e))(hs:Src P u i w y m new)(hi:P.info? e=some i)(hroom:n+m<=cap):(Builtin.append_ #[t,u] ty #[.slice ad n cap,y]).run P w=match ad with
   |some a=>((storeCells (a.add (n*i.size)) new).run P w).andThen λ_ w'=>.ok (.slice ad (n+m) cap) w'
   |none=>.ok (.slice none (n+m) cap) w:=by cases hs with|val hu hl hf=>
  rcases hu with⟨e',hd⟩|hd;.cases ad<;>simp[Builtin.append_,run_underlying ht,run_underlying hd,sizeOf,typeInfo,hi,hl,hroom,hf]
  .cases ad<;>simp[Builtin.append_,run_underlying ht,run_underlying hd,sizeOf,typeInfo,hi,hl,hroom,hf]|zero k k' z hu hz hzs hy h63 hby hn=>
  subst hy hn;have hw:=J7 h63;have h0:¬((m:Int)<0):=by omega
  have h48:¬(281474976710656<((m:Int)*i.bytes)):=by rw[<-xa];unfold jA at hby;omega
  by_cases hms:m*i.size=0
  .have hc:Builtin.zeroCells z.cells m=#[]:=by
    have:m*z.cells.size=0:=by rw[hzs];exact hms
    simp[Builtin.zeroCells,this]
   cases ad<;>simp[Builtin.append_,run_underlying ht,run_underlying hu,sizeOf,typeInfo,hi,asInt,asIntOf,hw,h0,h48,hms,hroom,hc]
  .cases ad<;>simp[Builtin.append_,run_underlying ht,run_underlying hu,sizeOf,typeInfo,zeroValue,hi,hz,asInt,asIntOf,hw,h0,h48,hms,hroom]
def tT{t u ty e:TypeId}{i:TypeInfo}{z:Value}{w:World}{ad:Option Addr}{n cap m:Nat}{y:Value}{old new:List Value}(ht:P.underlying t=some (.slice e))(hs:Src P u i w y m new)(hi:P.info? e=some i)(hz:i.zero=some z)(ho:(Builtin.firstCells i.size n (.slice ad n cap)).run P w.drew=.ok old.toArray w.drew)(hgrow:cap<n+m)(h63:n+m<=eW)(hby:(n+m)*i.bytes<=jA):(Builtin.append_ #[t,u] ty #[.slice ad n cap,y]).run P w=.ok (.slice (some ⟨w.heap.size,0,none⟩) (n+m) (grownCap w (n+m) cap e)) (w.drew.alloc (.cells (old.toArray++new.toArray++Builtin.zeroCells z.cells (grownCap w (n+m) cap e-(n+m))) e)):=by
 have hn:¬(n+m<=cap):=by omega
 have h63':¬(9223372036854775807<((n:Int)+(m:Int))):=by grind[jA,eW]
 have aaJ:¬(281474976710656<Builtin.nextslicecap (n+m) cap*i.bytes):=by have:=growslice_fits (need:=n+m) (old:=cap) (bytes:=i.bytes) hgrow (by unfold jA at hby;omega);omega
 cases hs with|val hu hl _ hf=>
  rcases hu with⟨e',hd⟩|hd;.simp[Builtin.append_,run_underlying ht,sizeOf,typeInfo,zeroValue,hi,hz,run_underlying hd,hl,hn,h63',aaJ,Question.forced,ho,hf,newRow,grownCap];congr 2;apply Array.ext';simp
  .simp[Builtin.append_,run_underlying ht,sizeOf,typeInfo,zeroValue,hi,hz,run_underlying hd,hl,hn,h63',aaJ,Question.forced,ho,hf,newRow,grownCap];congr 2;apply Array.ext';simp|zero k k' z' hu Nw hzs hy asq asr hnew=>
  rw[hz]at Nw;injection Nw with Nw;subst Nw;subst hy hnew;have hw:=J7 asq;have h0:¬((m:Int)<0):=by omega
  have h48:¬(281474976710656<((m:Int)*i.bytes)):=by rw[<-xa];unfold jA at asr;omega
  by_cases hms:m*i.size=0
  .have hc:Builtin.zeroCells z.cells m=#[]:=by
    have:m*z.cells.size=0:=by rw[hzs];exact hms
    simp[Builtin.zeroCells,this]
   simp[Builtin.append_,run_underlying ht,run_underlying hu,sizeOf,typeInfo,zeroValue,hi,hz,asInt,asIntOf,hw,h0,h48,hc,hn,h63',aaJ,Question.forced,ho,newRow,grownCap]
  .simp[Builtin.append_,run_underlying ht,run_underlying hu,sizeOf,typeInfo,zeroValue,hi,hz,asInt,asIntOf,hw,h0,h48,hms,hn,h63',aaJ,Question.forced,ho,newRow,grownCap]
variable{X:Cx}{nt:NT}{s:St}{a:Act}{o:Oper}{dst:Option Nat}{aR:Nat}
def Cx.name(X:Cx)(v:Nat)(L:Loc):Cx:={X with ρ:=λu=>if u=v then some L else X.ρ u}
def eC{X:Cx}{v:Nat}{L:Loc}(hv:X.ρ v=none):Ext X (X.name v L):=⟨rfl,fC.refl _ _,λ_ _ h=>h,λ_ _ _=>rfl,λu M hu=>by grind[Cx.name],λ_ _ h=>.inl h⟩
def gK{X:Cx}{m:List (Tr bu)}{t:Tr Unit}{v:Nat}{L:Loc}(h:aH X m t)(hv:X.ρ v=none):aH (X.name v L) m t:=h.move (eC hv) (λ_ _ _ _ _ _=>rfl) (λ_ _ _ _ _ _ _ h=>h) h.nH
def eU{X:Cx}{v:Nat}{L:Loc}:(X.name v L).ρ v=some L:=ba rfl
def iw{X:Cx}{v n:Nat}{L:Loc}:fP X (X.name v L) v n n:=⟨bc _,λu M h=>by grind[Cx.name]⟩
def Cx.drew(X:Cx):Cx:={X with w:=X.w.drew}
def nL{X:Cx}:Ext X X.drew:=⟨rfl,(fC.refl _ _).drew,λ_ _ h=>h,λ_ _ _=>rfl,λ_ _ h=>h,λ_ _ h=>.inl h⟩
def xJ{X:Cx}{m:List (Tr bu)}{t:Tr Unit}(h:aH X m t):aH X.drew m t:=h.move nL (λ_ _ _ _ _ _=>rfl) (λ_ _ _ _ _ _ _ h=>h) h.nH
def tU{x y:Operand}{t u:TypeId}{v:Value}{w:World}(ho:o.op=.call {callee:=.builtin .append,args:=#[x,y],argTypes:=#[t,u]})(hr:(Builtin.append_ #[t,u] o.type #[a.eval x,a.eval y]).run P X.w=.ok v w):(execOp a.eval o).run P X.w=.ok (.value v) w:=by simp[execOp,ho,resolve,invoke,builtin,hr]
def tV{old new:List Value}{Z:Array Value}{k:Nat}(j:Nat)(v:Value)(h:(old++new)[j]?=some v):(old.toArray++new.toArray++Builtin.zeroCells Z k)[j]?=some v:=by grind
def wq{old new:List Value}{Z:Array Value}{n m k sz:Nat}(h1:old.length=n*sz)(h2:new.length=m*sz)(hZ:Z.size=sz)(hk:n+m<=k):k*sz<=(old.toArray++new.toArray++Builtin.zeroCells Z (k-(n+m))).size:=by simp[Array.size_append,List.size_toArray,size_zeroCells,hZ,h1,h2,<-d9]<;>grind
def pq{els:List (List D)}{b off sz sz' n cap:Nat}{ad:Option Addr}{w:World}(hw:∀b o,w.cell? ⟨b,o,none⟩=X.w.cell? ⟨b,o,none⟩){R:Nat->Nat->Prop}(h:eO X.w X.F R els b off sz')(hsz:∀e∈els,e.length=sz)(hn:els.length=n)(had:0<n->ad=some ⟨b,off,none⟩):∃old:List Value,(Builtin.firstCells sz n (.slice ad n cap)).run P w=.ok old.toArray w/\aD (DR X.w X.F) els.flatten old:=by
 obtain⟨vs,h1,h2⟩:=rX h;refine⟨vs,?_,h2⟩;have hlen:vs.length=n*sz:=by rw[<-h2.length,bq hsz,hn]
 by_cases h0:n=0;.subst h0;have:vs=[]:=eb (by simpa using hlen);subst this;cases ad with|none=>simp[Builtin.firstCells]|some ad=>simp[Builtin.firstCells,loadCells,loadCellsFrom]
 .have:=had (by omega);subst this;have:=run_loadCells_list (P:=P) w ⟨b,off,none⟩ vs λj u hj=>by rw[Addr.add_lit,hw];exact h1 j u hj
  rw[hlen]at this;simpa[Builtin.firstCells]using this
def tW(P:Program)(X:Cx)(s:St)(t u ty:TypeId)(xv yv:Value)(aR n:Nat)(e:fy):Prop:=∃Y v,(Builtin.append_ #[t,u] ty #[xv,yv]).run P X.w=.ok v Y.w/\Ext X Y/\VR Y e.val v/\aH Y (aU s.mem e.dx) (eX s.aI e.cU)/\fP X Y aR n n
def Rj{X:Cx}{m:List (Tr bu)}{t:Tr Unit}(h:aH X m t){v:Nat}{L:Loc}(hL:X.ρ v=some L)(h0:L.cap=0):aH X m (t.set v (some ())):=h.aaw hL (λhc=>by omega) λ_ _ _ _ _ _ _ hc=>by omega
def wu{t u ty e:TypeId}{i:TypeInfo}{z:Value}{ad:Option Addr}{cap:Nat}{yv:Value}{els news:List (List D)}{old new:List Value}(ht:P.underlying t=some (.slice e))(hs:Src P u i X.w yv news.length new)(hi:P.info? e=some i)(hz:i.zero=some z)(hzs:z.cells.size=i.size)(ho:(Builtin.firstCells i.size els.length (.slice ad els.length cap)).run P X.w.drew=.ok old.toArray X.w.drew)(hgrow:cap<els.length+news.length)(h63:els.length+news.length<=eW)(hby:(els.length+news.length)*i.bytes<=jA)(hd1:aD (DR X.w X.F) els.flatten old)(Im:aD (DR X.w X.F) news.flatten new)(hel:∀e∈els,e.length=i.size)(hnl:∀e∈news,e.length=i.size):∃C G,els.length+news.length<=G/\(Builtin.append_ #[t,u] ty #[.slice ad els.length cap,yv]).run P X.w=.ok (.slice (some ⟨X.w.heap.size,0,none⟩) (els.length+news.length) G) (X.w.drew.alloc (.cells C e))/\G*i.size<=C.size/\(∀(j:Nat)(u:Value),(old++new)[j]?=some u->C[j]?=some u)/\aD (DR X.w X.F) (els++news).flatten (old++new)/\(∀e∈els++news,e.length=i.size):=by
 refine⟨_,_,grownCap_ge X.w (els.length+news.length) cap e,tT ht hs hi hz ho hgrow h63 hby,?_,λj u hj=>tV j u hj,?_,?_⟩;.exact wq (by rw[<-hd1.length,bq hel]) (by rw[<-Im.length,bq hnl]) hzs (grownCap_ge _ _ _ _)
 .rw[BV];exact hd1.append Im
 grind
end
section
variable{P:Program}{X:Cx}{nt:NT}{s:St}{a:Act}{o:Oper}{dst:Option Nat}{aR:Nat}
def Gd(h:aH X s.mem s.aI)(hfr:X.ρ aR=none){C:Array Value}{e:TypeId}{els:List (List D)}{sz G n:Nat}{vs:List Value}{aI:Tr Unit}(hl:∀e∈els,e.length=sz)(hC:G*sz<=C.size)(hle:els.length<=G)(hvs:∀(j:Nat)(u:Value),vs[j]?=some u->C[j]?=some u)(hd:aD (DR X.w X.F) els.flatten vs)(aj8:∀v,aI.get? v=some ()->s.aI.get? v=some ()):∃Y,Y.w=X.w.drew.alloc (.cells C e)/\Ext X Y/\VR Y (.own els (.cU aR sz)) (.slice (some ⟨X.w.heap.size,0,none⟩) els.length G)/\aH Y s.mem (aI.set aR (some ()))/\fP X Y aR n n:=by
 have h':aH X.drew s.mem aI:=xJ (h.less (λ_ _ _ h=>h) aj8);have nt:=PL (X:=X.drew) h' (C:=C) (e:=e) (v:=aR) (els:=els) (sz:=sz) (cap:=G) (vs:=vs) hfr hl hC hle hvs (hd.mono λ_ _=>DR.ext nL);obtain⟨g1,g2,g3,g4⟩:=nt;refine⟨_,rfl,nL.trans g1,⟨some ⟨X.w.heap.size,0,none⟩,X.w.heap.size,0,sz,G,rfl,hle,λ_=>rfl,g3,tR X.drew C e aR _,rfl⟩,g2,⟨bc _,λv L hv=>?_⟩⟩;rcases g4.2 v L hv with h|h|h;.exact .inl h
 .grind
 .omega
def Ge(h:aH X s.mem s.aI)(hfr:X.ρ aR=none){m:List (Tr bu)}{C:Array Value}{e:TypeId}{els:List (List D)}{sz G n lv sl:Nat}{vs:List Value}(hl:∀e∈els,e.length=sz)(hC:G*sz<=C.size)(hle:els.length<=G)(hvs:∀(j:Nat)(u:Value),vs[j]?=some u->C[j]?=some u)(hd:aD (DR X.w X.F) els.flatten vs)(hm:aH X m s.aI):∃Y,Y.w=X.w.drew.alloc (.cells C e)/\Ext X Y/\VR Y (.ref lv sl aR 0 els.length sz) (.slice (some ⟨X.w.heap.size,0,none⟩) els.length G)/\aH Y (bJ m lv sl (some (.row aR els))) s.aI/\fP X Y aR n n:=by have nr:=Ij (X:=X.drew) (xJ hm) (C:=C) (e:=e) (v:=aR) (els:=els) (sz:=sz) (cap:=G) (vs:=vs) lv sl hfr hl hC hle hvs (hd.mono λ_ _=>DR.ext nL);refine⟨X.drew.alloc C e aR ⟨X.w.heap.size,0,sz,G⟩,rfl,nL.trans (Ext.alloc (X:=X.drew) h.nH h.low hfr),⟨⟨X.w.heap.size,0,sz,G⟩,some ⟨X.w.heap.size,0,none⟩,G,tR X.drew C e aR _,rfl,rfl,hle,λ_=>⟨by simp,by simp⟩⟩,nr,?_⟩;have:=lg (X:=X.drew) (C:=C) (e:=e) (v:=aR) (L:=⟨X.w.heap.size,0,sz,G⟩) (n:=n);exact this
def J8{X:Cx}{m:List (Tr bu)}{t:Tr Unit}{lv sl:Nat}{e:bu}(h:aH X (bJ (bJ m lv sl none) lv sl (some e)) t):aH X (bJ m lv sl (some e)) t:=h.congr (λcC cW=>by rw[cQ,cQ,cQ]<;>grind[bJ,aG]) λ_=>rfl
def Nx(h:aH X s.mem s.aI)(hfr:X.ρ aR=none){t u ty e:TypeId}{i:TypeInfo}{z:Value}{xv yv:Value}{lv sl aq off len n:Nat}{els news:List (List D)}{new:List Value}{rd:List (Nat×Nat×Nat)}(ht:P.underlying t=some (.slice e))(hs:Src P u i X.w yv news.length new)(hi:P.info? e=some i)(hz:i.zero=some z)(hzs:z.cells.size=i.size)(hx:VR X (.ref lv sl aq off len i.size) xv)(hrow:rowAt s.mem lv sl aq=some els)(hc1:off+len<=els.length)(ov:len+news.length<=eW)(J9:(len+news.length)*i.bytes<=jA)(hnl:∀e∈news,e.length=i.size)(Im:aD (DR X.w X.F) news.flatten new):tW P X s t u ty xv yv aR n {val:=.ref lv sl aR 0 (len+news.length) i.size,dx:=[(lv,sl,some (.row aR ((els.drop off).take len++news)))],cU:=[],rd}:=by
 obtain⟨L,hL,hE,hg⟩:=nJ h hrow;obtain⟨L1,ad,cap,Ka,h1,rfl,h3,h4⟩:=hx;rw[hL]at Ka;cases Ka;have vk:new.length=news.length*i.size:=by rw[<-Im.length,bq hnl]
 have CQ:((els.drop off).take len).length=len:=by grind
 have Ny:∀e∈(els.drop off).take len,e.length=i.size:=λf hf=>by rw[hE.2.1 f (po (ls hf)),h1]
 have Uf:((els.drop off).take len++news).length=len+news.length:=by grind
 have hls:∀e∈(els.drop off).take len++news,e.length=i.size:=λf hf=>(bm.1 hf).elim (Ny f) (hnl f);by_cases hroom:len+news.length<=cap
 .by_cases hcap:0<cap
  .obtain⟨rfl,h5⟩:=h4 hcap;have hc0:0<L.cap:=by omega
   obtain⟨C,ce,tv,p6,hb3,hb4,hb5,hb6,hap,xK⟩:=oQ h hg hL hc0;have hfit:L.o+off*L.sz+len*L.sz+new.length<=C.size:=by rw[vk,<-h1,eJ (L.o+off*L.sz),<-d9,eJ,<-d9];have:=d6 L.sz (show off+(len+news.length)<=L.cap by omega);omega
   have hst:=run_storeCells_at P L.b (L.o+off*L.sz+len*L.sz) ce new 0 C X.w tv (by omega) (aD.aaH Im);let C':=(C.toList.take (L.o+off*L.sz+len*L.sz)++new++C.toList.drop (L.o+off*L.sz+len*L.sz+new.length)).toArray;have nK:∀j,C'[j]?=if L.o+off*L.sz+len*L.sz<=j/\j<L.o+off*L.sz+len*L.sz+new.length then new[j-(L.o+off*L.sz+len*L.sz)]?else C[j]?:=lP hfit;have hsize:C'.size=C.size:=by show(C.toList.take (L.o+off*L.sz+len*L.sz)++new++C.toList.drop (L.o+off*L.sz+len*L.sz+new.length)).toArray.size=C.size;simp;omega
   have hFk:∀q,X.F L.b q->C'[q]?=C[q]?:=λq hq=>absurd hq (hb4 q);have hx1:Ext X (X.set L.b C'):=vj tv p6 hFk;have zf:aH (X.set L.b C') (bJ s.mem lv sl none) s.aI:=xH (h.erase lv sl) tv p6 hFk hap;let L':Loc:=⟨L.b,L.o+off*L.sz,i.size,cap⟩;have hx2:Ext (X.set L.b C') ((X.set L.b C').name aR L'):=eC hfr;have hx:Ext X ((X.set L.b C').name aR L'):=hx1.trans hx2;refine⟨(X.set L.b C').name aR L',.slice (some ⟨L.b,L.o+off*i.size,none⟩) (len+news.length) cap,?_,hx,?_,?_,?_⟩;.rw[jD (i:=i) (new:=new) ht hs hi hroom];rw[<-h1];simp only[Addr.add_lit,hst,Result.andThen_ok];rfl
   .exact⟨L',_,cap,eU,rfl,rfl,hroom,λ_=>⟨by simp[L',h1],by simp[L']⟩⟩
   .refine(gK zf hfr).reset (e:=.row aR ((els.drop off).take len++news)) (L:=L') eU ⟨by rw[Uf];exact hroom,hls,λ_=>⟨⟨p6,C',ce,jk tv,?_⟩,hb4⟩,λq f j x hq hj=>?_⟩ λk w M hk hw xq _=>?_;.show L.o+off*L.sz+cap*i.size<=C'.size;rw[<-h1,eJ,<-d9];have:=d6 L.sz h5;omega
    .show∃v,(X.set L.b C').w.cell? ⟨L.b,L.o+off*L.sz+q*i.size+j,none⟩=some v/\_;rw[cell_of_row _ _ _ _ _ _ (jk tv),nK];have Ie:j<i.size:=by rw[<-hls f (eQ hq)];exact(ci.1 hj).1
     by_cases hql:q<len
     .rw[nl (by omega)]at hq;have hqe:=(fc hq).1;obtain⟨v,hv,Nj⟩:=xK _ f j x hqe hj;have e1:L.o+off*L.sz+q*i.size+j=L.o+(off+q)*L.sz+j:=by rw[h1,d9];omega
      have hlt:q*i.size+j<len*L.sz:=by have:=d6 i.size (show q+1<=len from hql);rw[d9]at this;rw[h1];omega
      rw[bi (by omega),e1];exact⟨v,hv,Nj.ext hx⟩
     .rw[kw (by omega),CQ]at hq;have hg2:=gJ hnl _ j f hq Ie;rw[hj]at hg2;obtain⟨v,hv,Nj⟩:=Im.get _ _ hg2;have hlt:=(ci.1 hv).1;have e1:q*i.size+j=len*L.sz+((q-len)*i.size+j):=by
       have:q=len+(q-len):=by omega
       conv=>lhs;rw[this,d9]
       rw[h1];omega
      rw[ba (by omega)];rw[show L.o+off*L.sz+q*i.size+j-(L.o+off*L.sz+len*L.sz)=(q-len)*i.size+j by omega];exact⟨v,hv,Nj.ext hx⟩
    .obtain⟨M',kR,_⟩:=(h.erase lv sl).dn hk;have:((X.set L.b C').name aR L').ρ w=some M':=hx.loc _ _ kR;rw[hw]at this;cases this;exact hap k w M hk kR xq
   .exact⟨bc _,λw M hw=>by
     rcases(iw (X:=X.set L.b C') (v:=aR) (n:=0) (L:=L')).2 w M hw with hq|hq|hq;.exact .inl hq
     .exact .inr (.inl hq)
     .omega⟩
  .have hm0:news.length=0:=by omega
   have hl0:len=0:=by omega
   subst hl0;have BW:news=[]:=eb hm0;subst BW;have hnew:new=[]:=eb (by simpa using vk);subst hnew;have hrun:(Builtin.append_ #[t,u] ty #[.slice ad 0 cap,yv]).run P X.w=.ok (.slice ad 0 cap) X.w:=by rw[jD (i:=i) (m:=0) (new:=[]) ht hs hi (by omega)];cases ad with|none=>rfl|some ad=>simp[storeCells]
   refine⟨X.name aR ⟨0,0,i.size,0⟩,_,hrun,eC hfr,⟨⟨0,0,i.size,0⟩,ad,cap,eU,rfl,rfl,by simp,λhq=>absurd hq hcap⟩,?_,iw⟩;exact(gK h hfr).add (e:=.row aR ((els.drop off).take 0++[])) (L:=⟨0,0,i.size,0⟩) eU ⟨by simp,by simp,λhq=>absurd hq (by simp),by simp⟩ λ_ _ _ _ _ _ _ hq=>absurd hq (by simp)
 .have Nz:eO X.w X.F (λ_ _=>True) ((els.drop off).take len) L.b (L.o+off*L.sz) L.sz:=(hE.aav (R:=λ_ _=>True) λ_ _=>trivial).sub off len;obtain⟨old,ho,hd1⟩:=pq (P:=P) (n:=len) (cap:=cap) (ad:=ad) (X:=X) (w:=X.w.drew) (sz:=i.size) (λ_ _=>rfl) Nz Ny CQ (λhq=>by rw[(h4 (by omega)).1,h1]);have key:=wu (P:=P) (X:=X) (ty:=ty) (els:=(els.drop off).take len) (ad:=ad) (cap:=cap) ht hs hi hz hzs (by rw[CQ];exact ho) (by omega) (by omega) (by rw[CQ];exact J9) hd1 Im Ny hnl;obtain⟨C,G,g1,hrun,g2,g3,g4,g5⟩:=key;obtain⟨Y,hw,k1,k2,k3,k4⟩:=Ge (e:=e) (lv:=lv) (sl:=sl) (m:=bJ s.mem lv sl none) h hfr g5 g2 (by rw[Uf];omega) g3 g4 (n:=n) (h.erase lv sl);rw[Uf]at k2;rw[CQ]at hrun;exact⟨Y,_,by rw[hrun,hw],k1,k2,J8 k3,k4⟩
def PN(h:aH X s.mem s.aI)(hfr:X.ρ aR=none){lv sl aq off len l h' n sz cap:Nat}{els:List (List D)}{ad:Option Addr}(hx:VR X (.ref lv sl aq off len sz) (.slice ad len cap))(hrow:rowAt s.mem lv sl aq=some els)(c1:l<=h')(c2:h'<=len)(c3:off+len<=els.length):∃Y,Y.w=X.w/\Ext X Y/\VR Y (.ref lv sl aR 0 (h'-l) sz) (.slice (if cap=l then ad else ad.map (·.add (l*sz))) (h'-l) (cap-l))/\aH Y (bJ s.mem lv sl (some (.row aR ((els.drop (off+l)).take (h'-l))))) s.aI/\fP X Y aR n n:=by
 obtain⟨L,hL,hE,hg⟩:=nJ h hrow;obtain⟨L1,ad',cap',Ka,h1,he,h3,h4⟩:=hx;cases he;rw[hL]at Ka;cases Ka;have CQ:((els.drop (off+l)).take (h'-l)).length=h'-l:=by grind
 have Ny:∀e∈(els.drop (off+l)).take (h'-l),e.length=sz:=λf hf=>by rw[hE.2.1 f (po (ls hf)),h1]
 by_cases hcap:0<cap-l
 .obtain⟨rfl,h5⟩:=h4 (by omega);have hc0:0<L.cap:=by omega
  obtain⟨C,ce,tv,p6,hb3,hb4,hb5,hb6,hap,xK⟩:=oQ h hg hL hc0;let L':Loc:=⟨L.b,L.o+(off+l)*L.sz,sz,cap-l⟩;refine⟨X.name aR L',rfl,eC hfr,⟨L',_,_,eU,rfl,rfl,by omega,λ_=>⟨?_,by simp[L']⟩⟩,?_,iw⟩;.simp only[cf,Addr.add_lit,L',h1]<;>grind
  .refine(gK (h.erase lv sl) hfr).reset (e:=.row aR ((els.drop (off+l)).take (h'-l))) (L:=L') eU ⟨by rw[CQ];show h'-l<=cap-l;omega,Ny,λ_=>⟨⟨p6,C,ce,tv,?_⟩,hb4⟩,λq f j x hq hj=>?_⟩ λk w M hk hw xq _=>?_;.show L.o+(off+l)*L.sz+(cap-l)*sz<=C.size;rw[<-h1,eJ,<-d9];have:=d6 L.sz (show off+l+(cap-l)<=L.cap by omega);omega
   .have hqe:=(fc hq).1;obtain⟨v,hv,Nj⟩:=hE.2.2.2 _ f j x hqe hj;refine⟨v,?_,Nj⟩;show X.w.cell? ⟨L.b,L.o+(off+l)*L.sz+q*sz+j,none⟩=some v;rw[<-hv];congr 2;rw[<-h1,d9 (off+l)];omega
   .obtain⟨M',kR,_⟩:=(h.erase lv sl).dn hk;have:(X.name aR L').ρ w=some M':=(eC hfr).loc _ _ kR;rw[hw]at this;cases this;exact hap k w M hk kR xq
 .have h0:h'-l=0:=by omega
  refine⟨X.name aR ⟨0,0,sz,0⟩,rfl,eC hfr,⟨⟨0,0,sz,0⟩,_,_,eU,rfl,rfl,by omega,λhq=>absurd hq hcap⟩,?_,iw⟩;exact(gK h hfr).add (e:=.row aR ((els.drop (off+l)).take (h'-l))) (L:=⟨0,0,sz,0⟩) eU ⟨by rw[CQ,h0];exact bc _,Ny,λhq=>absurd hq (by simp),λq f j x hq _=>by rw[h0]at hq;simp at hq⟩ λ_ _ _ _ _ _ _ hq=>absurd hq (by simp)
def Ug(h:aH X s.mem s.aI)(hfr:X.ρ aR=none){lv sl aq off len n sz lv2 sl2:Nat}{els:List (List D)}{v:Value}(hx:VR X (.ref lv sl aq off len sz) v)(hrow:rowAt s.mem lv sl aq=some els)(c3:off+len<=els.length):∃Y,Y.w=X.w/\Ext X Y/\VR Y (.ref lv2 sl2 aR 0 len sz) v/\aH Y (bJ (bJ s.mem lv sl none) lv2 sl2 (some (.row aR ((els.drop off).take len)))) s.aI/\fP X Y aR n n:=by
 obtain⟨L,hL,hE,hg⟩:=nJ h hrow;obtain⟨L1,ad,cap,Ka,h1,rfl,h3,h4⟩:=hx;rw[hL]at Ka;cases Ka;have CQ:((els.drop off).take len).length=len:=by grind
 have Ny:∀e∈(els.drop off).take len,e.length=sz:=λf hf=>by rw[hE.2.1 f (po (ls hf)),h1]
 by_cases hcap:0<cap
 .have hc0:0<L.cap:=by omega
  obtain⟨C,ce,tv,p6,hb3,hb4,hb5,hb6,hap,xK⟩:=oQ h hg hL hc0;let L':Loc:=⟨L.b,L.o+off*L.sz,sz,cap⟩;refine⟨X.name aR L',rfl,eC hfr,⟨L',_,_,eU,rfl,rfl,h3,λ_=>⟨?_,by simp[L']⟩⟩,?_,iw⟩;.grind
  .refine(gK (h.erase lv sl) hfr).add (e:=.row aR ((els.drop off).take len)) (L:=L') eU ⟨by rw[CQ];exact h3,Ny,λ_=>⟨⟨p6,C,ce,tv,?_⟩,hb4⟩,λq f j x hq hj=>?_⟩ λk w M hk _ hw xq _=>?_;.show L.o+off*L.sz+cap*sz<=C.size;rw[<-h1,eJ,<-d9];have:=d6 L.sz (show off+cap<=L.cap by omega);omega
   .have hqe:=(fc hq).1;obtain⟨v,hv,Nj⟩:=hE.2.2.2 _ f j x hqe hj;refine⟨v,?_,Nj⟩;show X.w.cell? ⟨L.b,L.o+off*L.sz+q*sz+j,none⟩=some v;rw[<-hv];congr 2;rw[<-h1,d9 off];omega
   .obtain⟨M',kR,_⟩:=(h.erase lv sl).dn hk;have:(X.name aR L').ρ w=some M':=(eC hfr).loc _ _ kR;rw[hw]at this;cases this;exact hap k w M hk kR xq
 .have h0:len=0:=by omega
  subst h0;refine⟨X.name aR ⟨0,0,sz,0⟩,rfl,eC hfr,⟨⟨0,0,sz,0⟩,_,_,eU,rfl,rfl,h3,λhq=>absurd hq hcap⟩,?_,iw⟩;exact(gK (h.erase lv sl) hfr).add (e:=.row aR ((els.drop off).take 0)) (L:=⟨0,0,sz,0⟩) eU ⟨by simp,by simp,λhq=>absurd hq (by simp),λq f j x hq _=>by simp at hq⟩ λ_ _ _ _ _ _ _ hq=>absurd hq (by simp)
def xL(h:aH X s.mem s.aI)(hfr:X.ρ aR=none){t u ty e:TypeId}{i:TypeInfo}{z:Value}{xv yv:Value}{x y:AV}{row:Bool}{lv sl n:Nat}{E:fy}(ht:P.underlying t=some (.slice e))(hi:P.info? e=some i)(hz:i.zero=some z)(hzs:z.cells.size=i.size)(_h0:0<i.size)(hx:VR X x xv)(hy:∀news,hD s.mem y=some news->(∀e∈news,e.length=i.size)->∃new:List Value,aD (DR X.w X.F) news.flatten new/\Src P u i X.w yv news.length new)(hr:ew s row lv sl aR i.size i.bytes x y=some E):tW P X s t u ty xv yv aR n E:=by unfold ew at hr;cases hn:hD s.mem y with|none=>grind|some news=>
  rw[hn]at hr;simp only at hr;split at hr
  .rename_i PJ;have hnl:=kI PJ;obtain⟨new,Im,hs⟩:=hy news hn hnl;have vk:new.length=news.length*i.size:=by rw[<-Im.length,bq hnl]
   split at hr
   .rename_i els;split at hr
    .rename_i hc;obtain⟨hc1,ov,J9⟩:=hc;have hel:=kI hc1;obtain⟨ad,b,off,sz',rfl,had,Nz⟩:=hx;by_cases hm0:news.length=0
     .have BW:news=[]:=eb hm0;subst BW;have hnew:new=[]:=eb (by simpa using vk);subst hnew;have hrun:(Builtin.append_ #[t,u] ty #[.slice ad els.length els.length,yv]).run P X.w=.ok (.slice ad els.length els.length) X.w:=by rw[jD (i:=i) (m:=0) (new:=[]) ht hs hi (by omega)];cases ad with|none=>rfl|some ad=>simp[storeCells]
      cases hrow:row with|false=>
       simp only[hrow]at hr;cases hr;refine⟨X.name aR ⟨b,off+els.length*i.size,i.size,els.length-els.length⟩,_,hrun,eC hfr,?_,?_,iw⟩;.rw[dt];refine⟨ad,b,off,i.size,els.length,rfl,bc _,had,?_,eU,rfl⟩;grind[jA,eW,aD,hD,Cx.name,eO]
       .exact Rj (gK h hfr) eU (by simp)|true=>
       simp only[hrow]at hr;split at hr;.cases hr
       .cases hr;have CP:els=[]:=by grind
        subst CP;refine⟨X.name aR ⟨0,0,i.size,0⟩,_,hrun,eC hfr,⟨⟨0,0,i.size,0⟩,ad,0,eU,rfl,rfl,bc _,λhq=>absurd hq (by omega)⟩,?_,iw⟩;exact(gK h hfr).add (e:=.row aR ([]++[])) (L:=⟨0,0,i.size,0⟩) eU ⟨by simp,by simp,λhq=>absurd hq (by simp),by simp⟩ λ_ _ _ _ _ _ _ hq=>absurd hq (by simp)
     .obtain⟨old,ho,hd1⟩:=pq (P:=P) (n:=els.length) (cap:=els.length) (X:=X) (w:=X.w.drew) (λ_ _=>rfl) Nz hel rfl had;obtain⟨C,G,g1,hrun,g2,g3,g4,g5⟩:=wu (P:=P) (X:=X) (ty:=ty) ht hs hi hz hzs ho (by omega) ov J9 hd1 Im hel hnl;have Uf:(els++news).length=els.length+news.length:=bb;cases hrow:row with|false=>simp[hrow]at hr;cases hr;obtain⟨Y,hw,k1,k2,k3,k4⟩:=Gd (e:=e) h hfr g5 g2 (by omega) g3 g4 (aI:=s.aI) (n:=n) λ_ h=>h;simp at k2;exact⟨Y,_,by rw[hrun,hw],k1,k2,k3,k4⟩|true=>
       simp only[hrow]at hr;split at hr;.cases hr
       .cases hr;obtain⟨Y,hw,k1,k2,k3,k4⟩:=Ge (e:=e) (lv:=lv) (sl:=sl) h hfr g5 g2 (by omega) g3 g4 (n:=n) h;simp at k2;exact⟨Y,_,by rw[hrun,hw],k1,k2,k3,k4⟩
    grind
   .rename_i els v tz;split at hr
    .rename_i hc;obtain⟨hc0,ov,J9,hc4⟩:=hc;cases hr;have Uh:s.aI.get? v=some ():=by cases hg:s.aI.get? v with|none=>grind|some u=>rfl
     obtain⟨ad,b,off,sz',cap,rfl,hcap,had,Nz,hL,htz⟩:=hx;have hel:∀e∈els,e.length=i.size:=λe he=>by rw[Nz.1 e he,htz,hc0]
     obtain⟨L',hL',hT⟩:=h.aI v Uh;rw[hL]at hL';cases hL';by_cases hm0:news.length=0
     .have BW:news=[]:=eb hm0;subst BW;have hnew:new=[]:=eb (by simpa using vk);subst hnew;have hrun:(Builtin.append_ #[t,u] ty #[.slice ad els.length cap,yv]).run P X.w=.ok (.slice ad els.length cap) X.w:=by rw[jD (i:=i) (m:=0) (new:=[]) ht hs hi (by omega)];cases ad with|none=>rfl|some ad=>simp[storeCells]
      refine⟨X.name aR ⟨b,off+els.length*sz',sz',cap-els.length⟩,_,hrun,eC hfr,?_,?_,iw⟩;.rw[dt];exact⟨ad,b,off,sz',cap,rfl,hcap,had,Nz.ext (eC hfr),eU,htz.trans hc0⟩
      .refine(gK (h.Ns v) hfr).aaw eU hT λk u M hk _ hu xq hc=>?_;have hold:Holds s.mem s.aI k u/\k≠kq v:=by
        rcases hk with⟨cC,cW,e',rfl,he',nh⟩|⟨rfl,he'⟩;.exact⟨.inl ⟨cC,cW,e',rfl,he',nh⟩,dX⟩
        .rw[Tr.cL]at he';split at he';.cases he'
         .rename_i hvu;exact⟨.inr ⟨rfl,he'⟩,λhq=>hvu (by simpa[kq]using hq.symm)⟩
       obtain⟨M',kR,_⟩:=h.dn hold.1;have:(X.name aR ⟨b,off+els.length*sz',sz',cap-els.length⟩).ρ u=some M':=(eC hfr).loc _ _ kR;simp_all;exact h.apart _ _ _ _ _ _ hold.1 (.inr ⟨rfl,Uh⟩) hold.2 kR hL xq hc
     .by_cases hroom:els.length+news.length<=cap
      .have ado:0<cap-els.length:=by omega
       obtain⟨⟨p6,C,ce,tv,hb3⟩,hb4⟩:=hT ado;simp at p6 tv hb3 hb4;have asv:=had (by omega);subst asv;have hsz:sz'=i.size:=htz.trans hc0
       .subst hsz;have hfit:off+els.length*i.size+new.length<=C.size:=by have:=d6 i.size (show news.length<=cap-els.length by omega);omega
        have hst:=run_storeCells_at P b (off+els.length*i.size) ce new 0 C X.w tv (by omega) (aD.aaH Im);let C':=(C.toList.take (off+els.length*i.size)++new++C.toList.drop (off+els.length*i.size+new.length)).toArray;have nK:∀j,C'[j]?=if off+els.length*i.size<=j/\j<off+els.length*i.size+new.length then new[j-(off+els.length*i.size)]?else C[j]?:=lP hfit;have hsize:C'.size=C.size:=by show(C.toList.take (off+els.length*i.size)++new++C.toList.drop (off+els.length*i.size+new.length)).toArray.size=C.size;simp;omega
        have hFk:∀q,X.F b q->C'[q]?=C[q]?:=λq hq=>by rw[nK,bi];intro hq';exact hb4 q hq'.1 hq
        have hap:∀k w M,Holds s.mem (s.aI.set v none) k w->X.ρ w=some M->0<M.cap->M.b≠b:=by
         intro k w M hk hw xq;have hold:Holds s.mem s.aI k w/\k≠kq v:=by
          rcases hk with⟨cC,cW,e',rfl,he',nh⟩|⟨rfl,he'⟩;.exact⟨.inl ⟨cC,cW,e',rfl,he',nh⟩,dX⟩
          .rw[Tr.cL]at he';split at he';.cases he'
           .rename_i hvu;exact⟨.inr ⟨rfl,he'⟩,λhq=>hvu (by simpa[kq]using hq.symm)⟩
         exact h.apart _ _ _ _ _ _ hold.1 (.inr ⟨rfl,Uh⟩) hold.2 hw hL xq ado
        let X1:=X.set b C';have hx1:Ext X X1:=vj tv p6 hFk;have zf:aH X1 s.mem (s.aI.set v none):=xH (h.Ns v) tv p6 hFk hap;let X2:=X1.more λb' q=>b'=b/\q<off+els.length*i.size+new.length/\off+els.length*i.size<=q;have hx2:Ext X1 X2:=Ext.more λb' q hq=>by rw[hq.1];exact p6
        have Ny:b<X1.w.heap.size:=by
         have hh:=jk (X:=X) (C':=C') tv;rcases ii b X1.w.heap.size with hl|hl;.exact hl
         .rw[Array.getElem?_eq_none hl]at hh;cases hh
        have hm2:aH X2 s.mem (s.aI.set v none):=zf.more (λb' q hq=>by rw[hq.1];exact⟨p6,Ny⟩) λk w M q hk hw xq hq=>hap k w M hk hw xq hq.1;let L:Loc:=⟨b,off+(els++news).length*i.size,i.size,cap-(els++news).length⟩;have hx3:Ext X2 (X2.name aR L):=eC hfr;have hx:Ext X (X2.name aR L):=(hx1.trans hx2).trans hx3;have Uf:(els++news).length=els.length+news.length:=bb;have hoff:off+(els++news).length*i.size=off+els.length*i.size+new.length:=by rw[Uf,d9];omega
        refine⟨X2.name aR L,.slice (some ⟨b,off,none⟩) (els.length+news.length) cap,?_,hx,?_,?_,?_⟩;.rw[jD (i:=i) (new:=new) ht hs hi hroom];simp only[Addr.add_lit,hst,Result.andThen_ok];rfl
        .refine⟨some ⟨b,off,none⟩,b,off,i.size,cap,by rw[Uf],by omega,λ_=>rfl,?_,eU,rfl⟩;refine⟨λf hf=>?_,λq f j w hq hj=>?_⟩
         .rcases bm.1 hf with hf|hf;.exact hel f hf
          .exact hnl f hf
         .have Ie:j<i.size:=by
           have hff:f.length=i.size:=by
            rcases bm.1 (eQ hq)with hf|hf;.exact hel f hf
            .exact hnl f hf
           rw[<-hff];exact(ci.1 hj).1
          by_cases hql:q<els.length;.rw[nl hql]at hq;obtain⟨hF,w',PO,Nj⟩:=Nz.2 q f j w hq hj;exact⟨hx.T4 _ _ hF,w',(hx.keep _ _ hF).trans PO,Nj.ext hx⟩
          .rw[kw (by omega)]at hq;have hg:=gJ hnl _ j f hq Ie;rw[hj]at hg;obtain⟨w',PO,Nj⟩:=Im.get _ _ hg;have hlt:=(ci.1 PO).1;have e1:off+q*i.size+j=off+els.length*i.size+((q-els.length)*i.size+j):=by
            have:q=els.length+(q-els.length):=by omega
            conv=>lhs;rw[this,d9]
            omega
           refine⟨.inr ⟨rfl,by omega,by omega⟩,w',?_,Nj.ext hx⟩;show(X.set b C').w.cell? _=_;rw[cell_of_row _ _ _ _ _ _ (jk tv),e1,nK,ba (by omega)];rw[show off+els.length*i.size+((q-els.length)*i.size+j)-(off+els.length*i.size)=(q-els.length)*i.size+j by omega];exact PO
        .refine(gK hm2 hfr).aaw (L:=L) eU (λhc=>⟨⟨p6,C',ce,jk tv,?_⟩,λq hq hF=>?_⟩) λk w M hk _ hw xq _=>?_
         .rw[eJ,<-d9,show(els++news).length+(cap-(els++news).length)=cap by omega];have:off+els.length*i.size+(cap-els.length)*i.size=off+cap*i.size:=by rw[eJ,<-d9,show els.length+(cap-els.length)=cap by omega]
          omega
         .have hq:off+(els++news).length*i.size<=q:=hq;rcases hF with hF|hF;.exact hb4 q (by omega) hF
          .omega
         .have hold:∃M',X.ρ w=some M':=by obtain⟨M',kR,_⟩:=(h.Ns v).dn hk;exact⟨M',kR⟩
          obtain⟨M',kR⟩:=hold;have:(X2.name aR L).ρ w=some M':=hx.loc _ _ kR;rw[hw]at this;injection this with this;subst this;exact hap k w M hk kR xq
        .exact⟨bc _,λw M hw=>by
          rcases(iw (X:=X2) (v:=aR) (n:=0) (L:=L)).2 w M hw with hq|hq|hq;.exact .inl hq
          .exact .inr (.inl hq)
          .omega⟩
      .obtain⟨old,ho,hd1⟩:=pq (P:=P) (n:=els.length) (cap:=cap) (X:=X) (w:=X.w.drew) (λ_ _=>rfl) Nz hel rfl (λhq=>had (by omega));obtain⟨C,G,g1,hrun,g2,g3,g4,g5⟩:=wu (P:=P) (X:=X) (ty:=ty) ht hs hi hz hzs ho (by omega) ov J9 hd1 Im hel hnl;have Uf:(els++news).length=els.length+news.length:=bb;obtain⟨Y,hw,k1,k2,k3,k4⟩:=Gd (e:=e) h hfr g5 g2 (by omega) g3 g4 (aI:=s.aI.set v none) (n:=n) λw hw=>by rw[Tr.cL]at hw;split at hw<;>first|exact hw|cases hw
       simp at k2;exact⟨Y,_,by rw[hrun,hw],k1,k2,k3,k4⟩
    .cases hr
   .split at hr
    .rename_i els hrow;split at hr;.rename_i hc;obtain⟨hc0,hc1,ov,J9⟩:=hc;cases hr;subst hc0;exact Nx h hfr ht hs hi hz hzs hx hrow hc1 ov J9 hnl Im
     .cases hr
    grind
   grind
  grind
def tX(h:aH X s.mem s.aI)(hfr:X.ρ aR=none){t u ty e:TypeId}{i:TypeInfo}{z:Value}{xv yv:Value}{x y:AV}{row:Bool}{lv sl n:Nat}{E:fy}(ht:P.underlying t=some (.slice e))(hu:wo P u)(hi:P.info? e=some i)(hz:i.zero=some z)(hzs:z.cells.size=i.size)(h0:0<i.size)(hx:VR X x xv)(hy:VR X y yv)(hr:ew s row lv sl aR i.size i.bytes x y=some E):tW P X s t u ty xv yv aR n E:=xL h hfr ht hi hz hzs h0 hx (λnews hn hnl=>by
 obtain⟨new,Im,hlen,hfc⟩:=B8 (P:=P) h hn hy hnl h0;have vk:new.length=news.length*i.size:=by rw[<-Im.length,bq hnl]
 have aka:∀w:World,(∀b o,w.cell? ⟨b,o,none⟩=X.w.cell? ⟨b,o,none⟩)->(Builtin.firstCells i.size news.length yv).run P w=.ok new.toArray w:=by grind
 exact⟨new,Im,.val hu (hlen X.w) (aka X.w λ_ _=>rfl) (aka X.w.drew λ_ _=>rfl)⟩) hr
end
def gL{α:Type}{sz:Nat}:∀{els:List (List α)},(∀e∈els,e.length=sz)->∀k,k<=els.length->(els.take k).flatten=els.flatten.take (k*sz)/\(els.drop k).flatten=els.flatten.drop (k*sz)
 |els,hl,0,_=>by simp|[],hl,k+1,h=>by simp at h|f::els,hl,k+1,h=>by
  have ih:=gL (els:=els) (λe he=>hl e (by simp[he])) k (by simpa using h);have hf:=hl f (by simp);simp[List.take_succ_cons,pi,List.drop_succ_cons,ih.1,ih.2];rw[show(k+1)*sz=f.length+k*sz by rw[d9,hf];omega];refine⟨?_,?_⟩;.grind
  .rw[wt,pA (l:=f) (by omega),show f.length+k*sz-f.length=k*sz by omega,i6]
def CR{α:Type}{sz:Nat}{els new:List (List α)}(hl:∀e∈els,e.length=sz)(hn:∀e∈new,e.length=sz){off:Nat}(h:off+new.length<=els.length):(splice els off new).flatten=splice els.flatten (off*sz) new.flatten:=by unfold splice;rw[List.flatten_append,List.flatten_append,(gL hl off (by omega)).1,(gL hl (off+new.length) h).2,bq hn,d9]
def CS{α:Type}(els:List α)(off:Nat):splice els off []=els:=by simp[splice]
section
variable{P:Program}{X:Cx}{nt:NT}{s:St}{a:Act}{o:Oper}{dst:Option Nat}{aR:Nat}
def aH.same{m:List (Tr bu)}{t:Tr Unit}(h:aH X m t){lv sl:Nat}{e:bu}(hg:aG m lv sl=some e):aH X (bJ m lv sl (some e)) t:=h.congr (λcC cW=>by rw[cQ]<;>grind) λ_=>rfl
def CT{m:List (Tr bu)}{t:Tr Unit}(h:aH X m t){lv sl aq off:Nat}{els new:List (List D)}{vs:List Value}{L:Loc}(hg:aG m lv sl=some (.row aq els))(hL:X.ρ aq=some L)(hoff:off+new.length<=els.length)(hn:∀e∈new,e.length=L.sz)(hd:aD (DR X.w X.F) new.flatten vs)(h0:0<new.length):∃Y,Ext X Y/\Y.ρ=X.ρ/\aH Y (bJ m lv sl (some (.row aq (splice els off new)))) t/\(storeCells ⟨L.b,L.o+off*L.sz,none⟩ vs).run P X.w=.ok () Y.w:=by
 obtain⟨L',hL',e1,e2,_,_⟩:=h.fI _ _ _ hg;have:X.ρ aq=some L':=hL';rw[hL]at this;cases this;have hvl:vs.length=new.length*L.sz:=by rw[<-hd.length,bq hn]
 have hfl:=CR e2 hn hoff;have asn:=bq e2;have hle:off*L.sz+new.length*L.sz<=els.length*L.sz:=by rw[<-d9];exact d6 _ hoff
 have lu:els.length*L.sz<=L.cap*L.sz:=d6 _ e1;refine Gc (P:=P) h hg hL (by omega) (by omega) ?_ (λf hf=>?_) (by rw[lM _ _ _ hoff];exact e1) λj x hj=>?_;.rw[hfl,hvl,<-bq hn,qV _ _ _ (by omega)]<;>omega
 .grind[splice,Block,bu.aq,aD,aG]
 .rw[hfl,eR _ _ _ (by rw[bq hn];omega)]at hj;rw[bq hn]at hj<;>grind
def Kb{t u:TypeId}{e:TypeId}{i:TypeInfo}{x y:Operand}{ad:Option Addr}{len cap m:Nat}{cells:List Value}(ho:o.op=.call {callee:=.builtin .copy,args:=#[x,y],argTypes:=#[t,u]})(ht:P.underlying t=some (.slice e))(hi:P.info? e=some i)(hx:a.eval x=.slice ad len cap)(hl:(Builtin.lenOf (a.eval y)).run P X.w=.ok m X.w)(hf:(Builtin.firstCells i.size (Nat.min m len) (a.eval y)).run P X.w=.ok cells.toArray X.w):(execOp a.eval o).run P X.w=match ad with|some ad=>((storeCells ad cells).run P X.w).andThen λ_ w'=>.ok (.value (goInt (Nat.min m len))) w'|none=>.ok (.value (goInt (Nat.min m len))) X.w:=by cases ad with|none=>simp[execOp,ho,resolve,invoke,builtin,Builtin.copy_,run_underlying ht,hx,hl,sizeOf,typeInfo,hi,hf]|some ad=>simp[execOp,ho,resolve,invoke,builtin,Builtin.copy_,run_underlying ht,hx,hl,sizeOf,typeInfo,hi,hf];cases Sem.run P (storeCells ad cells) X.w<;>rfl
def NA(hs:fM X nt s a){t u e:TypeId}{i:TypeInfo}{x y:Operand}{x' y':cx}{lv sl aq off ln:Nat}{els news:List (List D)}{rd:List (Nat×Nat×Nat)}(ho:o.op=.call {callee:=.builtin .copy,args:=#[x,y],argTypes:=#[t,u]})(ht:P.underlying t=some (.slice e))(hi:P.info? e=some i)(h0:0<i.size)(hx:dH x=some x')(hy:dH y=some y')(hq:x'.ev s.slots=.ref lv sl aq off ln i.size)(hn:hD s.mem (y'.ev s.slots)=some news)(hr:rowAt s.mem lv sl aq=some els)(hle:off+ln<=els.length)(PJ:∀e∈news,e.length=i.size):dK P X s a o dst aR (.bZ {val:=qR (min news.length ln),dx:=[(lv,sl,some (.row aq (splice els off (news.take (min news.length ln)))))],cU:=[],rd}):=by
 obtain⟨vs,hd,hlen,hfc⟩:=B8 (P:=P) hs.mem hn (bE hs hy) PJ h0;have hv:=bE hs hx;rw[hq]at hv;obtain⟨L,ad,cap,hL,h1,h2,h3,h4⟩:=hv;obtain⟨L',hL',hE,hg⟩:=nJ hs.mem hr;have hmin:Nat.min news.length ln=min news.length ln:=rfl;have hrun:=Kb (P:=P) (X:=X) ho ht hi h2 (hlen X.w) (hfc X.w (λ_ _=>rfl) _ (tx _ _));rw[hmin]at hrun;have htl:(news.take (min news.length ln)).length=min news.length ln:=by grind
 by_cases hz:min news.length ln=0
 .have BW:news.take (min news.length ln)=[]:=by grind
  refine .value (Y:=X) (v:=goInt ((min news.length ln:Nat):Int)) ?_ (Ext.refl X) (.CG rfl) ?_ (fP.refl _ _ _);.rw[hrun];cases ad with|none=>rfl|some ad=>rw[hz];simp[storeCells]
  .rw[BW,CS];exact hs.mem.same hg
 .obtain⟨rfl,h5⟩:=h4 (by omega);have hnt:∀e∈news.take (min news.length ln),e.length=L.sz:=λf hf=>by rw[h1];exact PJ f (ls hf)
  obtain⟨Y,hx',hρ,hm,hst⟩:=CT (P:=P) hs.mem (off:=off) (new:=news.take (min news.length ln)) (vs:=vs.take (min news.length ln*i.size)) hg hL (by omega) hnt (by rw[(gL PJ _ (tx _ _)).1];exact hd.take _) (by omega);refine .value (Y:=Y) (v:=goInt ((min news.length ln:Nat):Int)) ?_ hx' (.CG rfl) hm (fP.J4 hρ)<;>simp_all
def NB(hs:fM X nt s a){t u e:TypeId}{i:TypeInfo}{x y:Operand}{x' y':cx}{lv sl aq off n:Nat}{cs:List AV}{news:List (List D)}{rd:List (Nat×Nat×Nat)}(ho:o.op=.call {callee:=.builtin .copy,args:=#[x,y],argTypes:=#[t,u]})(ht:P.underlying t=some (.slice e))(hi:P.info? e=some i)(h0:0<i.size)(hx:dH x=some x')(hy:dH y=some y')(hq:x'.ev s.slots=.dz lv sl aq off n i.size)(hn:hD s.mem (y'.ev s.slots)=some news)(hb:j3 s.mem lv sl aq=some cs)(hle:off+n*i.size<=cs.length)(PJ:∀e∈news,e.length=i.size):dK P X s a o dst aR (.bZ {val:=qR (min news.length n),dx:=[(lv,sl,some (.box aq (splice cs off ((news.take (min news.length n)).flatten.map .d))))],cU:=[],rd}):=by
 obtain⟨vs,hd,hlen,hfc⟩:=B8 (P:=P) hs.mem hn (bE hs hy) PJ h0;have hv:=bE hs hx;rw[hq]at hv;obtain⟨L,aaD,hL,h2,_⟩:=hv;have hg:aG s.mem lv sl=some (.box aq cs):=by
  unfold j3 at hb;split at hb;.split at hb<;>simp_all
  grind
 have hrun:=Kb (P:=P) (X:=X) ho ht hi h2 (hlen X.w) (hfc X.w (λ_ _=>rfl) _ (tx _ _));have hd':aD (DR X.w X.F) (news.take (min news.length n)).flatten (vs.take (min news.length n*i.size)):=by rw[(gL PJ _ (tx _ _)).1];exact hd.take _
 have hdc:aD (VC X) ((news.take (min news.length n)).flatten.map .d) (vs.take (min news.length n*i.size)):=by refine .tO (by rw[lj];exact hd'.length) λj x v hj hv=>?_;rw[fi]at hj;cases hq':(news.take (min news.length n)).flatten[j]?with|none=>grind|some y=>rw[hq']at hj;cases hj;obtain⟨v',nh,Nj⟩:=hd'.get _ _ hq';simp_all;exact Nj
 have hfl:((news.take (min news.length n)).flatten.map AV.d).length<=n*i.size:=by rw[lj,bq (λf hf=>PJ f (ls hf)),i7];exact d6 _ (by omega)
 obtain⟨L',Y,hL',hx',hρ,hm,hst⟩:=Gb (P:=P) hs.mem hg (off:=off) (by omega) hdc;rw[hL]at hL';refine .value (Y:=Y) (v:=goInt ((min news.length n:Nat):Int)) ?_ hx' (.CG rfl) hm (fP.J4 hρ)<;>simp_all
def xM(hs:fM X nt s a){t e:TypeId}{sz:Nat}{x:Operand}{x':cx}{lv sl aq off ln:Nat}{els:List (List D)}{z:List D}{zl:List Value}{rd:List (Nat×Nat×Nat)}(ho:o.op=.call {callee:=.builtin .clear,args:=#[x],argTypes:=#[t]})(ht:P.underlying t=some (.slice e))(hz:oZ P e=some zl)(Fy:jU zl=some z)(hzl:z.length=sz)(h0:0<sz)(hx:dH x=some x')(hq:x'.ev s.slots=.ref lv sl aq off ln sz)(hr:rowAt s.mem lv sl aq=some els)(hle:off+ln<=els.length):dK P X s a o dst aR (.bZ {val:=kP,dx:=[(lv,sl,some (.row aq (splice els off (List.replicate ln z))))],cU:=[],rd}):=by
 have hv:=bE hs hx;rw[hq]at hv;obtain⟨L,ad,cap,hL,h1,h2,h3,h4⟩:=hv;obtain⟨L',hL',hE,hg⟩:=nJ hs.mem hr;obtain⟨i,zv,hi,Ik,rfl⟩:=jX hz;by_cases hn:ln=0
 .subst hn;refine .value (Y:=X) (v:=undef) ?_ (Ext.refl X) o6 ?_ (fP.refl _ _ _);.cases ad<;>simp[execOp,ho,resolve,invoke,builtin,Builtin.clear_,run_underlying ht,h2,undef]
  .rw[show List.replicate 0 z=[]from rfl,CS];exact hs.mem.same hg
 .obtain⟨rfl,h5⟩:=h4 (by omega);have hZ:aD (DR X.w X.F) z zv.cells.toList:=mF Fy;have hzs:zv.cells.size=sz:=by rw[<-hzl,hZ.length,f9]
  have wm:=jC hZ hzl h0 ln (ln*sz) (bc _);rw[qE]at wm;obtain⟨Y,hx',hρ,hm,hst⟩:=CT (P:=P) hs.mem (off:=off) (new:=List.replicate ln z) hg hL (by simpa using hle) (λf hf=>by rw[(ro.1 hf).2,h1];exact hzl) wm (by simp;omega);refine .value (Y:=Y) (v:=undef) ?_ hx' o6 hm (fP.J4 hρ);have hzc:(Builtin.zeroCells zv.cells ln).toList=(madeCells zv.cells (ln*sz)).toList:=by simp[Builtin.zeroCells,madeCells,hzs]
  rw[h1]at hst;simp[execOp,ho,resolve,invoke,builtin,Builtin.clear_,run_underlying ht,h2,zeroValue,typeInfo,hi,Ik,hzc,hst,undef]
def aeU(hs:fM X nt s a){ts:Array TypeId}{x y:Operand}{x' y':cx}{k:IntKind}{p q:Int}(ho:o.op=.call {callee:=.builtin .min,args:=#[x,y],argTypes:=ts})(hx:dH x=some x')(hy:dH y=some y')(h1:x'.ev s.slots=.d (.sc (.int k p)))(h2:y'.ev s.slots=.d (.sc (.int k q))):Quiet P X o a (nC (.int k (min p q))):=by
 have g1:=bE hs hx;rw[h1]at g1;have g1:=g1.sc;have g2:=bE hs hy;rw[h2]at g2;have g2:=g2.sc;refine⟨_,?_,.nC rfl⟩;have e:(if q<p then q else p)=min p q:=by grind
 simp[execOp,ho,resolve,invoke,builtin,Builtin.min_,g1,g2,Builtin.min2,e]
def aeV(hs:fM X nt s a){ts:Array TypeId}{x y:Operand}{x' y':cx}{k:IntKind}{p q:Int}(ho:o.op=.call {callee:=.builtin .max,args:=#[x,y],argTypes:=ts})(hx:dH x=some x')(hy:dH y=some y')(h1:x'.ev s.slots=.d (.sc (.int k p)))(h2:y'.ev s.slots=.d (.sc (.int k q))):Quiet P X o a (nC (.int k (max p q))):=by
 have g1:=bE hs hx;rw[h1]at g1;have g1:=g1.sc;have g2:=bE hs hy;rw[h2]at g2;have g2:=g2.sc;refine⟨_,?_,.nC rfl⟩;have e:(if p<q then q else p)=max p q:=by grind
 simp[execOp,ho,resolve,invoke,builtin,Builtin.max_,g1,g2,Builtin.max2,e]
end
section
variable{P:Program}{X:Cx}{nt:NT}{s:St}{a:Act}{o:Oper}{dst:Option Nat}{aR:Nat}
def qW{m:List (Tr bu)}{lv sl aq:Nat}{cs:List AV}(h:j3 m lv sl aq=some cs):aG m lv sl=some (.box aq cs):=by
 unfold j3 at h;split at h;.rename_i v cs' hm;split at h<;>simp_all
 grind
def Gf{m:List (Tr bu)}{t:Tr Unit}(h:aH X m t){y:AV}{new:List AV}{v:Value}{sz:Nat}(hc:oa m sz y=some new)(hv:VR X y v)(h0:0<sz):∃(k:Nat)(vs:List Value),new.length=k*sz/\aD (VC X) new vs/\(∀w:World,(Builtin.lenOf v).run P w=.ok k w)/\(∀w:World,(∀b o,w.cell? ⟨b,o,none⟩=X.w.cell? ⟨b,o,none⟩)->(Builtin.firstCells sz k v).run P w=.ok vs.toArray w):=by
 have data:∀els,dJ m y=some els->(∀e∈els,e.length=sz)->new=els.flatten.map .d->∃(k:Nat)(vs:List Value),new.length=k*sz/\aD (VC X) new vs/\(∀w:World,(Builtin.lenOf v).run P w=.ok k w)/\(∀w:World,(∀b o,w.cell? ⟨b,o,none⟩=X.w.cell? ⟨b,o,none⟩)->(Builtin.firstCells sz k v).run P w=.ok vs.toArray w):=by
  rintro els he hl rfl;obtain⟨ad,cap,sz',b,o,rfl,h2,h3,h4⟩:=o9 h he hv;obtain⟨vs,h5,h6⟩:=rX h4;have hlen:vs.length=els.length*sz:=by rw[<-h6.length,bq hl]
  refine⟨els.length,vs,by rw[lj,bq hl],h6.aaI,λw=>rfl,λw hw=>?_⟩;by_cases hz:els.length=0;.have:vs=[]:=eb (by rw[hlen,hz,xt]);subst this;rw[hz];cases ad with|none=>simp[Builtin.firstCells]|some ad=>simp[Builtin.firstCells,loadCells,loadCellsFrom]
  .have:=h3 (by omega);subst this;have:=run_loadCells_list (P:=P) w ⟨b,o,none⟩ vs λj u hj=>by rw[Addr.add_lit,hw];exact h5 j u hj
   rw[hlen]at this;simpa[Builtin.firstCells]using this
 unfold oa at hc;split at hc
 .rename_i lv sl aq off n sz';split at hc
  .rename_i cs hb;split at hc
   .rename_i hq;obtain⟨rfl,hoff⟩:=hq;cases hc;obtain⟨L,C,e,hL,h1,h2,h3,h4,h5,h6,h7⟩:=zk h (qW hb);obtain⟨L',cap,hL',rfl,hcap,hn,_⟩:=hv;rw[hL]at hL';cases hL';have hlen:((C.toList.drop (L.o+off)).take (n*sz')).length=n*sz':=by grind
    have nK:∀(j:Nat)(u:Value),((C.toList.drop (L.o+off)).take (n*sz'))[j]?=some u->C[L.o+off+j]?=some u:=by grind
    refine⟨n,(C.toList.drop (L.o+off)).take (n*sz'),by rw[i7,oi];omega,.tO (by rw[hlen,i7,oi];omega) λj x u hj hu=>?_,λw=>rfl,λw hw=>?_⟩;.grind
    .have:=run_loadCells_list (P:=P) w ⟨L.b,L.o+off,none⟩ ((C.toList.drop (L.o+off)).take (n*sz')) λj u hj=>by rw[Addr.add_lit,hw,cell_of_row _ _ _ _ _ _ h2];exact nK j u hj
     rw[hlen]at this;simpa[Builtin.firstCells]using this
   grind
  grind
 grind
def Kc{m:List (Tr bu)}{t:Tr Unit}(h:aH X m t){y:AV}{new:List AV}{v:Value}{sz:Nat}(hc:oa m sz y=some new)(hv:VR X y v)(h0:0<new.length):∃p m c,v=.slice (some p) m c:=by
 unfold oa at hc;split at hc;.obtain⟨L',cap,hL',rfl,_⟩:=hv<;>grind
 .split at hc
  .rename_i els he;split at hc;.cases hc;obtain⟨ad,cap,sz',b,o,rfl,h2,h3,h4⟩:=o9 h he hv;cases els with|nil=>grind|cons e els=>grind
   grind
  grind
def Kd{s:St}{lv sl aR sz bytes:Nat}{x y:AV}{E:fy}(h:kH s lv sl aR sz bytes x y=some E):∃new,oa s.mem sz y=some new/\0<new.length:=by
 unfold kH at h;split at h;.cases h
 .rename_i new hc;refine⟨new,hc,?_⟩;cases new with|nil=>simp at h|cons x l=>simp
def Ui{m:List (Tr bu)}{t:Tr Unit}(h:aH X m t){C:Array Value}{e:TypeId}{v:Nat}{cs:List AV}(lv sl:Nat)(hv:X.ρ v=none)(hle:cs.length<=C.size)(hc:∀(j:Nat)(x:AV),cs[j]?=some x->∃u:Value,C[j]?=some u/\VC X x u):aH (X.alloc C e v ⟨X.w.heap.size,0,C.size,1⟩) (bJ m lv sl (some (.box v cs))) t:=by
 have hx:Ext X (X.alloc C e v ⟨X.w.heap.size,0,C.size,1⟩):=Ext.alloc h.nH h.low hv;refine(h.alloc hv).add (L:=⟨X.w.heap.size,0,C.size,1⟩) (tR _ _ _ _ _) ⟨rfl,⟨h.fresh,C,e,pe _ _ _ _ _,by simp;omega⟩,λo ho=>?_,λj x hj=>?_⟩ λk u M hk _ hu hc _=>oP h hv hk hu hc;.exact mn _ (h.nH _ _ ho)
 .obtain⟨u,hu,hr⟩:=hc _ _ hj;refine⟨u,?_,hr.ext hx⟩<;>simp_all[VC,Cx.alloc]
def VC.drew{X:Cx}{x:AV}{v:Value}(h:VC X x v):VC X.drew x v:=h.ext nL
def Gg(h:aH X s.mem s.aI)(hfr:X.ρ aR=none){m:List (Tr bu)}{C:Array Value}{e:TypeId}{cs:List AV}{sz k G n lv sl:Nat}{vs:List Value}(hl:cs.length=k*sz)(hC:G*sz<=C.size)(hle:k<=G)(h0:0<k)(hvs:∀(j:Nat)(u:Value),vs[j]?=some u->C[j]?=some u)(hd:aD (VC X) cs vs)(hm:aH X m s.aI):∃Y,Y.w=X.w.drew.alloc (.cells C e)/\Ext X Y/\VR Y (.dz lv sl aR 0 k sz) (.slice (some ⟨X.w.heap.size,0,none⟩) k G)/\aH Y (bJ m lv sl (some (.box aR cs))) s.aI/\fP X Y aR n n:=by have hk:=d6 sz hle;have nr:=Ui (X:=X.drew) (xJ hm) (C:=C) (e:=e) (v:=aR) (cs:=cs) lv sl hfr (by omega) (λj x hj=>by obtain⟨u,hu,hr⟩:=hd.get _ _ hj;exact⟨u,hvs _ _ hu,hr.drew⟩);refine⟨X.drew.alloc C e aR ⟨X.w.heap.size,0,C.size,1⟩,rfl,nL.trans (Ext.alloc (X:=X.drew) h.nH h.low hfr),⟨⟨X.w.heap.size,0,C.size,1⟩,G,tR X.drew C e aR _,by simp,hle,h0,λ_=>by show 0+G*sz<=C.size;omega⟩,nr,?_⟩;exact lg (X:=X.drew) (C:=C) (e:=e) (v:=aR) (L:=⟨X.w.heap.size,0,C.size,1⟩) (n:=n)
def NC(h:aH X s.mem s.aI)(hfr:X.ρ aR=none){t u ty e:TypeId}{i:TypeInfo}{z:Value}{xv yv:Value}{lv sl aq off len k n:Nat}{cs new:List AV}{vs:List Value}{rd:List (Nat×Nat×Nat)}(ht:P.underlying t=some (.slice e))(hs:Src P u i X.w yv k vs)(hi:P.info? e=some i)(hz:i.zero=some z)(hzs:z.cells.size=i.size)(h0:0<i.size)(hx:VR X (.dz lv sl aq off len i.size) xv)(hb:j3 s.mem lv sl aq=some cs)(hc1:off+len*i.size<=cs.length)(ov:len+k<=eW)(J9:(len+k)*i.bytes<=jA)(hk:0<k)(hl:new.length=k*i.size)(hd:aD (VC X) new vs):tW P X s t u ty xv yv aR n {val:=.dz lv sl aR 0 (len+k) i.size,dx:=[(lv,sl,some (.box aR ((cs.drop off).take (len*i.size)++new)))],cU:=[],rd}:=by
 have hg:=qW hb;obtain⟨L,C,ce,hL,h1,tv,p6,hb3,hb4,hap,xK⟩:=zk h hg;have hx0:=hx;obtain⟨L1,cap,Ka,rfl,h3,h4,h5⟩:=hx;rw[hL]at Ka;cases Ka;have hvl:vs.length=k*i.size:=by rw[<-hd.length,hl]
 have CQ:((cs.drop off).take (len*i.size)).length=len*i.size:=by grind
 have Uf:((cs.drop off).take (len*i.size)++new).length=(len+k)*i.size:=by grind
 by_cases hroom:len+k<=cap
 .have h6:=h5 (by omega);have hm:=d6 i.size hroom;rw[d9]at hm;have hfit:L.o+off+len*i.size+vs.length<=C.size:=by omega
  have hst:=run_storeCells_at P L.b (L.o+off+len*i.size) ce vs 0 C X.w tv (by omega) (aD.one hd);simp only[fb]at hst;let C':=(C.toList.take (L.o+off+len*i.size)++vs++C.toList.drop (L.o+off+len*i.size+vs.length)).toArray;have nK:∀j,C'[j]?=if L.o+off+len*i.size<=j/\j<L.o+off+len*i.size+vs.length then vs[j-(L.o+off+len*i.size)]?else C[j]?:=lP hfit;have hsize:C'.size=C.size:=by show(C.toList.take (L.o+off+len*i.size)++vs++C.toList.drop (L.o+off+len*i.size+vs.length)).toArray.size=C.size;simp;omega
  have hFk:∀q,X.F L.b q->C'[q]?=C[q]?:=λq hq=>absurd hq (hb4 q);have hx1:Ext X (X.set L.b C'):=vj tv p6 hFk;have zf:aH (X.set L.b C') (bJ s.mem lv sl none) s.aI:=xH (h.erase lv sl) tv p6 hFk hap;let L':Loc:=⟨L.b,L.o+off,cap*i.size,1⟩;have hx2:Ext (X.set L.b C') ((X.set L.b C').name aR L'):=eC hfr;have hx:Ext X ((X.set L.b C').name aR L'):=hx1.trans hx2;refine⟨(X.set L.b C').name aR L',.slice (some ⟨L.b,L.o+off,none⟩) (len+k) cap,?_,hx,?_,?_,?_⟩;.rw[jD (i:=i) (new:=vs) ht hs hi hroom];simp only[Addr.add_lit,hst,Result.andThen_ok];rfl
  .exact⟨L',cap,eU,rfl,hroom,by omega,λ_=>by show 0+cap*i.size<=cap*i.size;omega⟩
  .show aH _ (bJ s.mem lv sl _) s.aI;refine(gK zf hfr).reset (e:=.box aR ((cs.drop off).take (len*i.size)++new)) (L:=L') eU ⟨rfl,⟨p6,C',ce,jk tv,?_⟩,hb4,λj x hj=>?_⟩ λk' w M hk' hw xq _=>?_;.show L.o+off+max ((cs.drop off).take (len*i.size)++new).length (cap*i.size)<=C'.size;rw[hsize,Uf,d9];omega
   .show∃v,(X.set L.b C').w.cell? ⟨L.b,L.o+off+j,none⟩=some v/\_;rw[cell_of_row _ _ _ _ _ _ (jk tv),nK];by_cases hq:j<len*i.size;.rw[nl (by omega),fx,ba hq,pd]at hj;obtain⟨v,hv,hr⟩:=xK _ _ hj;rw[bi (by omega),eJ];exact⟨v,hv,hr.ext hx⟩
    .rw[kw (by omega),CQ]at hj;obtain⟨v,hv,hr⟩:=hd.get _ _ hj;have hlt:=(ci.1 hv).1;rw[ba (by omega),show L.o+off+j-(L.o+off+len*i.size)=j-len*i.size by omega];exact⟨v,hv,hr.ext hx⟩
   .obtain⟨M',kR,_⟩:=(h.erase lv sl).dn hk';have:((X.set L.b C').name aR L').ρ w=some M':=hx.loc _ _ kR;rw[hw]at this;injection this with this;subst this;exact hap k' w M hk' kR xq
  .exact⟨bc _,λw M hw=>by
    rcases(iw (X:=X.set L.b C') (v:=aR) (n:=0) (L:=L')).2 w M hw with hq|hq|hq;.exact .inl hq
    .exact .inr (.inl hq)
    .omega⟩
 .have lu:oa s.mem i.size (.dz lv sl aq off len i.size)=some ((cs.drop off).take (len*i.size)):=by simp[oa,hb,hc1,and_self,jn]
  obtain⟨k',old,q1,q2,q3,q4⟩:=Gf (P:=P) h lu hx0 h0;have hkk:k'=len:=by rw[CQ]at q1;exact(Nat.eq_of_mul_eq_mul_right h0 q1).symm
  subst hkk;have Io:old.length=k'*i.size:=by rw[<-q2.length,CQ]
  have hrun:=tT (P:=P) (t:=t) (u:=u) (ty:=ty) (w:=X.w) (cap:=cap) ht hs hi hz (q4 X.w.drew λ_ _=>rfl) (by omega) ov J9;have hG:=grownCap_ge X.w (k'+k) cap e;obtain⟨Y,hw,k1,k2,k3,k4⟩:=Gg (e:=e) (lv:=lv) (sl:=sl) (m:=bJ s.mem lv sl none) h hfr Uf (wq Io hvl hzs hG) hG (by omega) (λj u hj=>tV j u hj) (q2.append hd) (n:=n) (h.erase lv sl);exact⟨Y,_,by rw[hrun,hw],k1,k2,J8 k3,k4⟩
def xN(h:aH X s.mem s.aI)(hfr:X.ρ aR=none){t u ty e:TypeId}{i:TypeInfo}{z:Value}{xv yv:Value}{x y:AV}{lv sl n:Nat}{E:fy}(ht:P.underlying t=some (.slice e))(hu:wo P u)(hi:P.info? e=some i)(hz:i.zero=some z)(hzs:z.cells.size=i.size)(h0:0<i.size)(hx:VR X x xv)(hy:VR X y yv)(hr:kH s lv sl aR i.size i.bytes x y=some E):tW P X s t u ty xv yv aR n E:=by
 unfold kH at hr;split at hr;.cases hr
 .rename_i new hc;obtain⟨k,vs,q1,q2,q3,q4⟩:=Gf (P:=P) h hc hy h0;have hdiv:new.length/i.size=k:=by simp_all
  have hsrc:Src P u i X.w yv k vs:=.val hu (q3 X.w) (q4 X.w λ_ _=>rfl) (q4 X.w.drew λ_ _=>rfl);simp[hdiv]at hr;split at hr;.cases hr
  .rename_i hk;have hk:0<k:=by rcases Nat.eq_zero_or_pos k with hq|hq<;>simp_all
   split at hr
   .split at hr
    .rename_i ov;cases hr;obtain⟨ad,b,off,sz',rfl,_,_⟩:=hx;have hrun:=tT (P:=P) (t:=t) (u:=u) (ty:=ty) (w:=X.w) (ad:=ad) (n:=0) (cap:=0) (old:=[]) ht hsrc hi hz (by cases ad with|none=>simp[Builtin.firstCells]|some ad=>simp[Builtin.firstCells,loadCells,loadCellsFrom]) (by omega) (by omega) (by rw[kb];exact ov.2);have hG:=grownCap_ge X.w (0+k) 0 e;have hvl:vs.length=k*i.size:=by rw[<-q2.length,q1]
     obtain⟨Y,hw,k1,k2,k3,k4⟩:=Gg (e:=e) (lv:=lv) (sl:=sl) (m:=s.mem) h hfr (k:=0+k) (by rw[q1,kb]) (wq (old:=[]) (n:=0) (by simp) hvl hzs hG) hG (by omega) (λj u hj=>tV j u (by simpa using hj)) q2 (n:=n) h;simp at k2;exact⟨Y,_,by show _=_;rw[hw];rw[kb]at hrun⊢;exact hrun,k1,k2,k3,k4⟩
    grind
   .split at hr
    .rename_i cs hb;split at hr;.rename_i ov;obtain⟨rfl,ov,J9,hc4⟩:=ov;cases hr;exact NC h hfr ht hsrc hi hz hzs h0 hx hb ov J9 hc4 hk q1 q2
     grind
    grind
   grind
end
def zm(T:TypeId):Code:=((Go.Code.region 0 #[{dst:=some 2,op:=Go.Op.assign (Go.Operand.const (Go.Value.slice none 0 0)),type:=T,pos:= "slices.go:355",after:=#[],guard:=none}] false).seq (((Go.Code.region 1 #[{dst:=some 3,op:=Go.Op.move (Go.Operand.tmp 0),type:=T,pos:= "slices.go:357",after:=#[],guard:=none},{dst:=some 4,op:=Go.Op.binOp Go.BinOp.eql T (Go.Operand.tmp 3) (Go.Operand.const (Go.Value.slice none 0 0)) T,type:=4,pos:= "slices.go:357",after:=#[{on:=0,ground:=Go.Ground.data}],guard:=none}] false).seq (Go.Code.cond (Go.Operand.tmp 4) ((Go.Code.region 2 #[{dst:=some 2,op:=Go.Op.assign (Go.Operand.const (Go.Value.slice none 0 0)),type:=T,pos:= "slices.go:358",after:=#[],guard:=none}] false).seq Go.Code.ret) Go.Code.skip)).seq ((Go.Code.region 3 #[{dst:=some 5,op:=Go.Op.buildSlice T 0 #[],type:=T,pos:= "slices.go:362",after:=#[],guard:=none},{dst:=some 6,op:=Go.Op.move (Go.Operand.tmp 0),type:=T,pos:= "slices.go:362",after:=#[],guard:=none},{dst:=some 7,op:=Go.Op.call {callee:=Go.Callee.builtin Go.Builtin.append,args:=#[Go.Operand.tmp 5,Go.Operand.tmp 6],argTypes:=#[T,T]},type:=T,pos:= "slices.go:362",after:=#[{on:=0,ground:=Go.Ground.data},{on:=1,ground:=Go.Ground.data}],guard:=none},{dst:=some 2,op:=Go.Op.assign (Go.Operand.tmp 7),type:=T,pos:= "slices.go:362",after:=#[{on:=2,ground:=Go.Ground.data},{on:=2,ground:=Go.Ground.chain},{on:=0,ground:=Go.Ground.phase},{on:=1,ground:=Go.Ground.phase},{on:=2,ground:=Go.Ground.phase}],guard:=none}] false).seq Go.Code.ret)))
structure xO(P:Program)(f T:Nat):Prop where fn:∃fn,P.funcs[f]?=some fn/\fn.body=some (zm T)/\fn.ntmps=8/\fn.results=#[.tmp 2]/\(fn.name== "runtime.NumGoroutine")=false
section
variable{P:Program}
def pz{f:Nat}{fn:Func}{args:Array Value}{w:World}(hf:P.funcs[f]?=some fn)(hb:fn.body.isSome=true)(hn:(fn.name== "runtime.NumGoroutine")=false):(callFunc f args).run P w=.ok (.enter f args) w:=by
 have hb':fn.body.isNone=false:=by simp_all
 simp only[callFunc,Sem.run_bind,run_program,Result.andThen_ok,hf,hn,kx,n3,hb'];rfl
def ef{ops:Array Oper}{Q:Exit->Act->World->Prop}{i:Nat}{rest:List Nat}{o:Oper}{a:Act}{w:World}(ho:ops[i]?=some o)(hg:o.guard=none)(h:o.wp P a w (wpOps P ops Q rest) Q):wpOps P ops Q (i::rest) a w:=by
 simp[wpOps,ho];have:Region.wanted o (yielded ops a.tmps)=true:=by simp[Region.wanted,hg]
 grind
def kf{o:Oper}{a:Act}{w w':World}{v:Value}{K:Act->World->Prop}{Q:Exit->Act->World->Prop}(hr:(execOp a.eval o).run P w=.ok (.value v) w')(h:K (a.put o.dst v) w'):o.wp P a w K Q:=by unfold Oper.wp;rw[hr];exact h
def PR{T e:TypeId}{ad:Option Addr}{n c:Nat}{w:World}(hT:P.underlying T=some (.slice e)):(binOp .eql T (.slice ad n c) (.slice none 0 0)).run P w=.ok (.bool ad.isNone) w:=by
 have h:∀d,(Op.equalIn (d+1) T (.slice ad n c) (.slice none 0 0)).run P w=.ok ad.isNone w:=λd=>by cases ad<;>simp[Op.equalIn,run_underlying hT]
 have h9:(Op.equal T (.slice ad n c) (.slice none 0 0)).run P w=.ok ad.isNone w:=h 9999;simp[binOp,h9]
variable{X:Cx}{aR:Nat}
def Uj{next:Act->World->Prop}{Q:Exit->Act->World->Prop}{a:Act}{w:World}(h:Q .ret a w):Exit.then next Q .ret a w:=h
def Ke{f T e:TypeId}{i:TypeInfo}{z:Value}{s:St}{x:AV}{xv:Value}{row:Bool}{lv sl n:Nat}{E:fy}(hc:xO P f T)(h:aH X s.mem s.aI)(hfr:X.ρ aR=none)(hT:P.underlying T=some (.slice e))(hi:P.info? e=some i)(hz:i.zero=some z)(hzs:z.cells.size=i.size)(h0:0<i.size)(hx:VR X x xv)(cy:∃ad m c,xv=.slice ad m c)(hr:ew s row lv sl aR i.size i.bytes (.own [] .full) x=some E):Calls P f #[xv] X.w λen w'=>∃Y v,en=.returned v/\Y.w=w'/\Ext X Y/\VR Y E.val v/\aH Y (aU s.mem E.dx) (eX s.aI E.cU)/\fP X Y aR n n:=by
 obtain⟨fn,hf,hb,hnt,hres,_⟩:=hc;obtain⟨ad,m,c,rfl⟩:=cy;have hnI:wo P T:=.inl ⟨e,hT⟩;refine calls_of_wp hf hb ?_;rw[hnt];have e0:(#[Value.slice ad m c]++Array.replicate (8-(#[Value.slice ad m c]:Array Value).size) undef)=#[.slice ad m c,undef,undef,undef,undef,undef,undef,undef]:=rfl;rw[e0];unfold zm;refine wp_seq (wp_region ?_);refine ef rfl rfl (kf (v:=.slice none 0 0) (w':=X.w) rfl ?_);show Code.wp P _ _ _ _;refine wp_seq (wp_seq (wp_region ?_));refine ef rfl rfl (kf (v:=.slice ad m c) (w':=X.w) rfl ?_);refine ef rfl rfl (kf (v:=.bool ad.isNone) (w':=X.w) ?_ ?_);.have hg:(eqGuard .eql T (.tmp 3) (.const (.slice none 0 0)) (.slice ad m c) (.slice none 0 0)).run P X.w=.ok () X.w:=kz (by simp) (by simp);have he:=PR (P:=P) (n:=m) (c:=c) (ad:=ad) (w:=X.w) hT;simp[execOp,Act.eval,Act.put,hg,he]
 show Code.wp P _ _ _ _;cases ad with|none=>
  refine wp_cond_true rfl ?_;refine wp_seq (wp_region ?_);refine ef rfl rfl (kf (v:=.slice none 0 0) (w':=X.w) rfl ?_);show Code.wp P _ _ _ _;refine wp_ret ?_;refine Uj ?_;refine bodyPost_ret (results_tmp hres _ _ _) rfl ?_;have hrun:∃Y v,(Builtin.append_ #[T,T] T #[.slice none 0 0,.slice none m c]).run P X.w=.ok v Y.w/\Ext X Y/\VR Y E.val v/\aH Y (aU s.mem E.dx) (eX s.aI E.cU)/\fP X Y aR n n:=tX (x:=.own [] .full) h hfr hT hnI hi hz hzs h0 ⟨none,0,0,0,rfl,λh=>absurd h (by simp),eO.nil⟩ hx hr;obtain⟨Y,v,h1,h2,h3,h4,h5⟩:=hrun;have hm0:m=0:=by unfold ew at hr;cases hn:hD s.mem x with|none=>rw[hn]at hr;cases hr|some news=>
   have:=(B8 (P:=P) (sz:=i.size) h hn hx (by
    rw[hn]at hr;simp only at hr;split at hr;.rename_i PJ;exact kI PJ
    .cases hr) h0);obtain⟨vs,hd,hl,hfc⟩:=this;have hl':=hl X.w;simp only[Builtin.lenOf,Sem.run_pure]at hl';injection hl' with hl';have hnl:∀e∈news,e.length=i.size:=by
    rw[hn]at hr;simp only at hr;split at hr;.rename_i PJ;exact kI PJ
    .cases hr
   have:=hfc X.w (λ_ _=>rfl) news.length (bc _);simp only[Builtin.firstCells,Sem.run_pure]at this;injection this with this;have hvl:vs.length=news.length*i.size:=by rw[<-hd.length,bq hnl]
   rw[<-hvl,f4]at this;have h00:vs.length=0:=by have:=kv Array.size this;simpa using this.symm
   rw[h00]at hvl;rcases Nat.mul_eq_zero.1 hvl.symm with h|h;.omega
   .omega
  subst hm0;have hr0:(Builtin.append_ #[T,T] T #[.slice none 0 0,.slice none 0 c]).run P X.w=.ok (.slice none 0 0) X.w:=by have:=jD (P:=P) (t:=T) (u:=T) (ty:=T) (w:=X.w) (ad:=none) (n:=0) (cap:=0) (m:=0) (y:=.slice none 0 c) (new:=[]) hT (.val hnI rfl (by simp[Builtin.firstCells]) (by simp[Builtin.firstCells])) hi (by omega);exact this
  rw[hr0]at h1;injection h1 with h1 h1';subst h1;exact⟨Y,_,by simp[Act.put],h1'.symm,h2,h3,h4,h5⟩|some ad=>
  refine wp_cond_false rfl ?_;refine wp_skip ?_;show Code.wp P _ _ _ _;refine wp_seq (wp_region ?_);let X1:=X.alloc #[] e aR ⟨0,0,i.size,0⟩;let Rk:Cx:={X with w:=X.w.alloc (.cells #[] e)};have hx1:Ext X Rk:=⟨rfl,(fC.refl _ _).alloc h.low _,λ_ _ h=>h,λb o hb=>rY (h.nH b o hb),λ_ _ h=>h,λ_ _ h=>.inl h⟩;have zf:aH Rk s.mem s.aI:=h.move hx1 (λk u M hk hu hc=>by obtain⟨M',kR,h2⟩:=h.dn hk;rw[hu]at kR;injection kR with kR;subst kR;exact heap_alloc_old _ _ _ (h2 hc).1) (λ_ _ _ _ _ _ _ h=>h) λb o hb=>by have:=h.nH b o hb;show b<(X.w.alloc _).heap.size;rw[World.size_alloc];omega
  refine ef rfl rfl (kf (v:=.slice (some ⟨X.w.heap.size,0,none⟩) 0 0) (w':=Rk.w) ?_ ?_);.have e0:Array.range 0=#[]:=rfl;simp[execOp,Instr.buildSlice,run_underlying hT,sizeOf,typeInfo,hi,newRow,e0,Instr.fill,Rk]
  refine ef rfl rfl (kf (v:=.slice (some ad) m c) (w':=Rk.w) rfl ?_);obtain⟨Y,v,h1,h2,h3,h4,h5⟩:=tX (P:=P) (X:=Rk) (t:=T) (u:=T) (ty:=T) (n:=n) (xv:=.slice (some ⟨X.w.heap.size,0,none⟩) 0 0) (x:=.own [] .full) zf hfr hT hnI hi hz hzs h0 ⟨some ⟨X.w.heap.size,0,none⟩,0,0,0,rfl,λh=>absurd h (by simp),eO.nil⟩ (hx.ext hx1) hr;refine ef rfl rfl (kf (v:=v) (w':=Y.w) ?_ ?_);.simp[execOp,Act.eval,Act.put,resolve,invoke,builtin,h1]
  refine ef rfl rfl (kf (v:=v) (w':=Y.w) rfl ?_);show Code.wp P _ _ _ _;refine wp_ret ?_;refine bodyPost_ret (results_tmp hres _ _ _) rfl ?_;exact⟨Y,v,by simp[Act.put],rfl,hx1.trans h2,h3,h4,h5.1,λu M hu=>h5.2 u M hu⟩
def Ip{f T e:TypeId}{i:TypeInfo}{z:Value}{s:St}{x:AV}{xv:Value}{lv sl n:Nat}{E:fy}(hc:xO P f T)(h:aH X s.mem s.aI)(hfr:X.ρ aR=none)(hT:P.underlying T=some (.slice e))(hi:P.info? e=some i)(hz:i.zero=some z)(hzs:z.cells.size=i.size)(h0:0<i.size)(hx:VR X x xv)(cy:∃ad m c,xv=.slice (some ad) m c)(hr:kH s lv sl aR i.size i.bytes (.own [] .full) x=some E):Calls P f #[xv] X.w λen w'=>∃Y v,en=.returned v/\Y.w=w'/\Ext X Y/\VR Y E.val v/\aH Y (aU s.mem E.dx) (eX s.aI E.cU)/\fP X Y aR n n:=by
 obtain⟨fn,hf,hb,hnt,hres,_⟩:=hc;obtain⟨ad,m,c,rfl⟩:=cy;have hnI:wo P T:=.inl ⟨e,hT⟩;refine calls_of_wp hf hb ?_;rw[hnt];have e0:(#[Value.slice (some ad) m c]++Array.replicate (8-(#[Value.slice (some ad) m c]:Array Value).size) undef)=#[.slice (some ad) m c,undef,undef,undef,undef,undef,undef,undef]:=rfl;rw[e0];unfold zm;refine wp_seq (wp_region ?_);refine ef rfl rfl (kf (v:=.slice none 0 0) (w':=X.w) rfl ?_);show Code.wp P _ _ _ _;refine wp_seq (wp_seq (wp_region ?_));refine ef rfl rfl (kf (v:=.slice (some ad) m c) (w':=X.w) rfl ?_);refine ef rfl rfl (kf (v:=.bool false) (w':=X.w) ?_ ?_);.have hg:(eqGuard .eql T (.tmp 3) (.const (.slice none 0 0)) (.slice (some ad) m c) (.slice none 0 0)).run P X.w=.ok () X.w:=kz (by simp) (by simp);have he:=PR (P:=P) (n:=m) (c:=c) (ad:=some ad) (w:=X.w) hT;simp[execOp,Act.eval,Act.put,hg,he]
 show Code.wp P _ _ _ _;refine wp_cond_false rfl ?_;refine wp_skip ?_;show Code.wp P _ _ _ _;refine wp_seq (wp_region ?_);let X1:=X.alloc #[] e aR ⟨0,0,i.size,0⟩;let Rk:Cx:={X with w:=X.w.alloc (.cells #[] e)};have hx1:Ext X Rk:=⟨rfl,(fC.refl _ _).alloc h.low _,λ_ _ h=>h,λb o hb=>rY (h.nH b o hb),λ_ _ h=>h,λ_ _ h=>.inl h⟩;have zf:aH Rk s.mem s.aI:=h.move hx1 (λk u M hk hu hc=>by obtain⟨M',kR,h2⟩:=h.dn hk;rw[hu]at kR;injection kR with kR;subst kR;exact heap_alloc_old _ _ _ (h2 hc).1) (λ_ _ _ _ _ _ _ h=>h) λb o hb=>by have:=h.nH b o hb;show b<(X.w.alloc _).heap.size;rw[World.size_alloc];omega
 refine ef rfl rfl (kf (v:=.slice (some ⟨X.w.heap.size,0,none⟩) 0 0) (w':=Rk.w) ?_ ?_);.have e0:Array.range 0=#[]:=rfl;simp[execOp,Instr.buildSlice,run_underlying hT,sizeOf,typeInfo,hi,newRow,e0,Instr.fill,Rk]
 refine ef rfl rfl (kf (v:=.slice (some ad) m c) (w':=Rk.w) rfl ?_);obtain⟨Y,v,h1,h2,h3,h4,h5⟩:=xN (P:=P) (X:=Rk) (t:=T) (u:=T) (ty:=T) (n:=n) (xv:=.slice (some ⟨X.w.heap.size,0,none⟩) 0 0) (x:=.own [] .full) zf hfr hT hnI hi hz hzs h0 ⟨some ⟨X.w.heap.size,0,none⟩,0,0,0,rfl,λh=>absurd h (by simp),eO.nil⟩ (hx.ext hx1) hr;refine ef rfl rfl (kf (v:=v) (w':=Y.w) ?_ ?_);.simp[execOp,Act.eval,Act.put,resolve,invoke,builtin,h1]
 refine ef rfl rfl (kf (v:=v) (w':=Y.w) rfl ?_);show Code.wp P _ _ _ _;refine wp_ret ?_;refine bodyPost_ret (results_tmp hres _ _ _) rfl ?_;exact⟨Y,v,by simp[Act.put],rfl,hx1.trans h2,h3,h4,h5.1,λu M hu=>h5.2 u M hu⟩
end
structure PT(w w':World)(b off:Nat)(zs:List Int):Prop where
 os:w'.os=w.os
 tape:w'.tape=w.tape
 output:w'.output=w.output
 size:w.heap.size<=w'.heap.size
 other:∀k,k<w.heap.size->k≠b->w'.heap[k]?=w.heap[k]?row:∀C e,w.heap[b]?=some (.cells C e (0,0))->∃C',w'.heap[b]?=some (.cells C' e (0,0))/\C'.size=C.size/\∀j z,zs[j]?=some z->C'[off+j]?=some (.int .i64 z)
structure ND(P:Program)(f:Nat):Prop where
 fn:∃fn,P.funcs[f]?=some fn/\fn.body.isSome=true/\(fn.name== "runtime.NumGoroutine")=false
 empty:∀p cap w,Calls P f #[.slice p 0 cap] w λe w'=>e=.returned (.tuple #[])/\w'=w
 rows:∀b off cap zs w C e,w.heap[b]?=some (.cells C e (0,0))->(∀(j:Nat)z,zs[j]?=some z->C[off+j]?=some (.int .i64 z))->0<zs.length->zs.length<4611686018427387904->Calls P f #[.slice (some ⟨b,off,none⟩) zs.length cap] w λe w'=>e=.returned (.tuple #[])/\PT w w' b off (j4 zs)
structure zn(P:Program)(f:Nat):Prop where
 fn:∃fn,P.funcs[f]?=some fn/\fn.body.isSome=true/\(fn.name== "runtime.NumGoroutine")=false
 empty:∀p cap w,Calls P f #[.slice p 0 cap] w λe w'=>e=.returned (.slice p 0 cap)/\w'=w
 rows:∀b off cap zs w C e,w.heap[b]?=some (.cells C e (0,0))->(∀(j:Nat)z,zs[j]?=some z->C[off+j]?=some (.int .i64 z))->0<zs.length->zs.length<4611686018427387904->zs.length<=cap->Calls P f #[.slice (some ⟨b,off,none⟩) zs.length cap] w λe w'=>e=.returned (.slice (some ⟨b,off,none⟩) (j5 zs).length cap)/\PT w w' b off (j5 zs)
structure kA(P:Program)(f T:Nat):Prop where
 clone:T≠1000000->T≠1000001->xO P f T
 sort:T=1000000->ND P f
 compact:T=1000001->zn P f
def tY:∀{els:List (List D)}{zs:List Int},tK els=some zs->els=jt zs
 |[],zs,h=>by cases h;rfl|e::r,zs,h=>by
  unfold tK at h;split at h;.grind
  .rename_i z r' h1;cases h1;obtain⟨y,hy,rfl⟩:=fg.1 h;rw[tY hy];rfl
  grind
def AH(x:Int):∀l,(CD x l).length=l.length+1
 |[]=>rfl|y::r=>by
  unfold CD;split;.rfl
  .rw[fa,AH x r];rfl
def oG:∀l,(j4 l).length=l.length|[]=>rfl|x::r=>by rw[j4,AH,oG r];rfl
section
variable{P:Program}{X:Cx}{nt:NT}{s:St}{a:Act}{o:Oper}{dst:Option Nat}{aR:Nat}
def Gh(hm:aH X s.mem s.aI){w':World}{b off:Nat}{zs:List Int}(h:PT X.w w' b off zs)(hb:¬X.old b)(hF:∀o,¬X.F b o):Ext X {X with w:=w'}:=by
 have nI:=hm.low;refine⟨rfl,⟨h.os,h.tape,h.output,h.size,λk hk=>h.other k (nI k hk) λe=>hb (e▸hk)⟩,λ_ _ h=>h,λc o hc=>?_,λ_ _ h=>h,λ_ _ h=>.inl h⟩;have hne:c≠b:=by grind
 simp[World.cell?,h.other c (hm.nH c o hc) hne]
def NF(hs:fM X nt s a){f:Nat}{x:Operand}{x':cx}{_ts:Array TypeId}{E:fy}(hc:ND P f)(hrun:(execOp a.eval o).run P X.w=.ok (.enter f #[a.eval x]) X.w)(hx:dH x=some x')(hr:AD s (x'.ev s.slots)=some E):dK P X s a o dst aR (.bZ E):=by
 have hv:=bE hs hx;intro K Q hK;unfold Oper.wp;rw[hrun];have hu:∀Y:Cx,VR Y kP (.tuple #[]):=λY=>⟨#[],rfl,trivial⟩;unfold AD at hr;split at hr;.rename_i he;cases hr;rw[he]at hv;obtain⟨ad,b,off,sz,Gi,_⟩:=hv;rw[Gi];refine Calls.mono (hc.empty ad 0 X.w) ?_;rintro en w'⟨rfl,rfl⟩;exact hK X _ (Ext.refl X) (hu X) hs.mem ⟨bc _,λv L h=>.inl h⟩
 .rename_i lv sl aq off len sz he;split at hr
  .rename_i els hrow;obtain⟨zs,hz,qF⟩:=lr.1 hr;split at qF
   .rename_i aeW;obtain⟨rfl,rfl,rfl,hlt⟩:=aeW;cases qF;rw[he]at hv;have CP:=tY hz;have hlen:els.length=zs.length:=by rw[CP];simp[jt]
    obtain⟨L,hL,hE,hg⟩:=nJ hs.mem hrow;obtain⟨L1,ad,cap,Ka,h1,Gi,h3,h4⟩:=hv;rw[hL]at Ka;cases Ka;rw[Gi];by_cases h0:els.length=0;.have hz0:zs=[]:=eb (by omega);subst hz0;rw[h0];refine Calls.mono (hc.empty ad cap X.w) ?_;rintro en w'⟨rfl,rfl⟩;refine hK X _ (Ext.refl X) (hu X) ?_ ⟨bc _,λv L h=>.inl h⟩;show aH X (bJ s.mem lv sl (some (.row aq []))) s.aI;refine hs.mem.congr (λcC cW=>?_) λ_=>rfl;rw[cQ]<;>grind
    .obtain⟨rfl,h5⟩:=h4 (by omega);have hc0:0<L.cap:=by omega
     obtain⟨C,ce,tv,p6,hb3,hb4,hb5,hb6,hap,xK⟩:=oQ hs.mem hg hL hc0;have hC:∀(j:Nat)z,zs[j]?=some z->C[L.o+j]?=some (.int .i64 z):=by
      intro j z hj;have hq:els[j]?=some [.sc (.int .i64 z)]:=by rw[CP];simp[jt,hj]
      obtain⟨v,hv,hd⟩:=xK j _ 0 _ hq rfl;rw[h1,rc,fb]at hv;rw[hv];cases hd with|sc v _=>rfl
     have cH:=hc.rows L.b L.o cap zs X.w C ce tv hC (by omega) (by omega);rw[<-hlen]at cH;refine Calls.mono cH ?_;rintro en w'⟨rfl,hw⟩;have hx:=Gh hs.mem hw p6 hb4;refine hK {X with w:=w'} _ hx (hu _) ?_ ⟨bc _,λv L h=>.inl h⟩;obtain⟨C',hq1,zg,TG⟩:=hw.row C ce tv;have hmm:aH {X with w:=w'} (bJ s.mem lv sl none) s.aI:=(hs.mem.erase lv sl).move hx (λk v M a b c=>by obtain⟨M',kR,h2⟩:=(hs.mem.erase lv sl).dn a;rw[b]at kR;injection kR with kR;subst kR;exact hw.other M.b (h2 c).1 (hap k v M a b c)) (λ_ _ _ _ _ _ _ h=>h) (λb o hb=>by have:=hs.mem.nH b o hb;have:=hw.size;show b<w'.heap.size;omega);have cy:(j4 zs).length=zs.length:=oG zs;refine hmm.reset (e:=.row aq (jt (j4 zs))) (L:=L) hL ⟨by simp only[jt,lj];omega,λe he=>?_,λ_=>⟨⟨p6,C',ce,hq1,by rw[zg];exact hb3⟩,hb4⟩,λq f j x hq hj=>?_⟩ λk v M a b c _=>hap k v M a b c;.simp[jt,i5]at he<;>grind
     .simp[jt,fi,fg]at hq;obtain⟨z,Nw,rfl⟩:=hq;have hj0:j=0/\x=.sc (.int .i64 z):=by grind
      obtain⟨rfl,rfl⟩:=hj0;refine⟨.int .i64 z,?_,.sc _ rfl⟩;rw[cell_of_row _ _ _ _ _ _ hq1,h1,rc]<;>grind
   grind
  grind
 grind
def oH:∀l,(j5 l).length<=l.length
 |[]=>bc _|x::r=>by
  unfold j5;split;.simp
  .split;.exact Nat.le_succ_of_le (oH _)
   .exact Nat.succ_le_succ (oH _)
def Fz(hs:fM X nt s a)(hfr:X.ρ aR=none){f:Nat}{x:Operand}{x':cx}{_ts:Array TypeId}{E:fy}(hc:zn P f)(hrun:(execOp a.eval o).run P X.w=.ok (.enter f #[a.eval x]) X.w)(hx:dH x=some x')(hr:nF s aR (x'.ev s.slots)=some E):dK P X s a o dst aR (.bZ E):=by
 have hv:=bE hs hx;intro K Q hK;unfold Oper.wp;rw[hrun];unfold nF at hr;split at hr;.rename_i he;cases hr;rw[he]at hv;have nh:=hv;obtain⟨ad,b,off,sz,Gi,_⟩:=hv;rw[Gi]at nh⊢;refine Calls.mono (hc.empty ad 0 X.w) ?_;rintro en w'⟨rfl,rfl⟩;exact hK X _ (Ext.refl X) nh hs.mem ⟨bc _,λv L h=>.inl h⟩
 .rename_i lv sl aq off len sz he;split at hr
  .rename_i els hrow;obtain⟨zs,hz,qF⟩:=lr.1 hr;split at qF
   .rename_i aeW;obtain⟨rfl,rfl,rfl,hlt⟩:=aeW;cases qF;rw[he]at hv;have nh:=hv;have CP:=tY hz;have hlen:els.length=zs.length:=by rw[CP];simp[jt]
    obtain⟨L,hL,hE,hg⟩:=nJ hs.mem hrow;obtain⟨L1,ad,cap,Ka,h1,Gi,h3,h4⟩:=hv;rw[hL]at Ka;cases Ka;rw[Gi]at nh⊢;by_cases h0:els.length=0
    .have hz0:zs=[]:=eb (by omega);subst hz0;obtain⟨Y,hw,g1,g2,g3,g4⟩:=PN (n:=s.nv) hs.mem hfr (l:=0) (h':=0) nh hrow (bc _) (ub _) (by omega);rw[h0];refine Calls.mono (hc.empty ad cap X.w) ?_;rintro en w'⟨rfl,rfl⟩;rw[<-hw];refine hK Y _ g1 ?_ ?_ g4
     .have e:(if cap=0then ad else ad.map (·.add (0*1)))=ad:=by
       split;.rfl
       .rw[(h4 (by omega)).1];simp[Addr.add_lit]
      rw[e]at g2;exact g2
     .exact g3
    .obtain⟨rfl,h5⟩:=h4 (by omega);have hc0:0<L.cap:=by omega
     obtain⟨C,ce,tv,p6,hb3,hb4,hb5,hb6,hap,xK⟩:=oQ hs.mem hg hL hc0;have hC:∀(j:Nat)z,zs[j]?=some z->C[L.o+j]?=some (.int .i64 z):=by
      intro j z hj;have hq:els[j]?=some [.sc (.int .i64 z)]:=by rw[CP];simp[jt,hj]
      obtain⟨v,hv,hd⟩:=xK j _ 0 _ hq rfl;rw[h1,rc,fb]at hv;rw[hv];cases hd with|sc v _=>rfl
     have cH:=hc.rows L.b L.o cap zs X.w C ce tv hC (by omega) (by omega) (by omega);rw[<-hlen]at cH;refine Calls.mono cH ?_;rintro en w'⟨rfl,hw⟩;have hx:=Gh hs.mem hw p6 hb4;let L':Loc:=⟨L.b,L.o,1,cap⟩;have akd:({X with w:=w'}:Cx).ρ aR=none:=hfr;have hxn:Ext {X with w:=w'} (({X with w:=w'}:Cx).name aR L'):=eC akd;have cy:=oH zs;refine hK (({X with w:=w'}:Cx).name aR L') _ (hx.trans hxn) ⟨L',_,cap,eU,rfl,rfl,by omega,λ_=>⟨by simp[L'],by simp[L']⟩⟩ ?_ ⟨bc _,λv M hw=>by
      rcases(iw (X:={X with w:=w'}) (v:=aR) (n:=0) (L:=L')).2 v M hw with hq|hq|hq;.exact .inl hq
      .exact .inr (.inl hq)
      .omega⟩;obtain⟨C',hq1,zg,TG⟩:=hw.row C ce tv;have hmm:aH {X with w:=w'} (bJ s.mem lv sl none) s.aI:=(hs.mem.erase lv sl).move hx (λk v M a b c=>by obtain⟨M',kR,h2⟩:=(hs.mem.erase lv sl).dn a;rw[b]at kR;injection kR with kR;subst kR;exact hw.other M.b (h2 c).1 (hap k v M a b c)) (λ_ _ _ _ _ _ _ h=>h) (λb o hb=>by have:=hs.mem.nH b o hb;have:=hw.size;show b<w'.heap.size;omega);refine(gK hmm akd).reset (e:=.row aR (jt (j5 zs))) (L:=L') eU ⟨by simp only[jt,lj,L'];omega,λe he=>?_,λ_=>⟨⟨p6,C',ce,hq1,?_⟩,hb4⟩,λq f j x hq hj=>?_⟩ λk v M a b c _=>?_;.simp[jt,i5]at he;obtain⟨z,_,rfl⟩:=he;rfl
     .show L.o+cap*1<=C'.size;rw[h1]at hb3;omega
     .simp[jt,fi,fg]at hq;obtain⟨z,Nw,rfl⟩:=hq;have hj0:j=0/\x=.sc (.int .i64 z):=by cases j with|zero=>simp at hj;exact⟨rfl,hj.symm⟩|succ j=>simp at hj
      obtain⟨rfl,rfl⟩:=hj0;refine⟨.int .i64 z,?_,.sc _ rfl⟩;show World.cell? w' ⟨L.b,L.o+q*1+0,none⟩=_;rw[cell_of_row _ _ _ _ _ _ hq1,rc];exact TG q z Nw
     .obtain⟨M',kR,_⟩:=(hs.mem.erase lv sl).dn a;have h9:(({X with w:=w'}:Cx).name aR L').ρ v=some M':=hxn.loc _ _ kR;rw[b]at h9;cases h9;exact hap k v M a kR c
   grind
  grind
 grind
def Rl{lq:Nat}(hs:fM X nt s a)(hfr:X.ρ aR=none){x:Operand}{x':cx}{row d:Nat}(hrun:(execOp a.eval o).run P X.w=.ok (.value (a.eval x)) X.w)(hx:dH x=some x'):dK P X s a o dst aR (.bZ (BT row lq d aR (x'.ev s.slots))):=by
 have hv:=bE hs hx;unfold BT;split;.rename_i he;rw[he]at hv;obtain⟨ad,b,off,sz,Gi,_⟩:=hv;refine .value (Y:=X.name aR ⟨0,0,row/65536,0⟩) (by rw[hrun,Gi];rfl) (eC hfr) ⟨⟨0,0,row/65536,0⟩,ad,0,eU,rfl,rfl,bc _,λhq=>absurd hq (by simp)⟩ ?_ iw;exact(gK hs.mem hfr).add (e:=.row aR []) (L:=⟨0,0,row/65536,0⟩) eU ⟨by simp,by simp,λhq=>absurd hq (by simp),by simp⟩ λ_ _ _ _ _ _ _ hq=>absurd hq (by simp)
 .exact .quiet hs ⟨a.eval x,hrun,hv⟩
def NG{lq:Nat}(hs:fM X nt s a)(hfr:X.ρ aR=none){x:Operand}{x':cx}{d:Nat}{E:fy}(hrun:(execOp a.eval o).run P X.w=.ok (.value (a.eval x)) X.w)(hx:dH x=some x')(hr:JY s lq d aR (x'.ev s.slots)=some E):dK P X s a o dst aR (.bZ E):=by
 have hv:=bE hs hx;unfold JY at hr;split at hr
 .rename_i cC cW aq off len sz he;rw[he]at hv;split at hr
  .rename_i els hrow;split at hr;.rename_i hle;have hle:=ft hle;injection hr with hr;subst hr;obtain⟨Y,hw,g1,g2,g3,g4⟩:=Ug (n:=s.nv) (lv2:=lq) (sl2:=d) hs.mem hfr hv hrow hle;exact .value (Y:=Y) (by rw[hw];exact hrun) g1 g2 g3 g4
   grind
  grind
 grind
def CU{call:Go.bL.Call}{sh:Nat->Bool}(hs:fM X nt s a)(hfr:X.ρ aR=none){x:Operand}{x':cx}{row d:Nat}{r:iu}(hrun:(execOp a.eval o).run P X.w=.ok (.value (a.eval x)) X.w)(hx:dH x=some x')(hr:cG.run call sh s row d aR (.JS x')=some r):dK P X s a o dst aR r:=by
 simp[cG.run]at hr;split at hr;.obtain⟨E,hE,rfl⟩:=fg.1 hr;exact NG hs hfr hrun hx hE
 .cases hr;exact Rl hs hfr hrun hx
end
def cD(P:Program)(call:Go.bL.Call):Prop:=∀f args mem aI nv r mem' kB BX,call f args mem aI nv=some (r,mem',kB,BX)->∀(X:Cx)(bV:Array Value),aH X mem aI->(∀v,nv<=v->X.ρ v=none)->aD (V1 X) args bV.toList->(∃fn,P.funcs[f]?=some fn/\fn.body.isSome=true/\(fn.name== "runtime.NumGoroutine")=false)/\Calls P f bV X.w λe w'=>∃Y v,e=.returned v/\Y.w=w'/\Ext X Y/\VR Y r v/\aH Y mem' kB/\nv<=BX/\∀u L,Y.ρ u=some L->X.ρ u=some L\/(nv<=u/\u<BX)
def DR.mono{w:World}{F G:Nat->Nat->Prop}(h:∀b o,F b o->G b o){x:D}{v:Value}(hd:DR w F x v):DR w G x v:=by induction hd with|sc v h1=>exact .sc v h1|er v h1=>exact .er v h1|sl els a n cap sz b o g hn hcap hsz ha hF hc _ ih=>exact .sl els a n cap sz b o g hn hcap hsz ha (λi e j x h1 h2=>h _ _ (hF i e j x h1 h2)) hc ih
def eO.mono{w:World}{F G R S:Nat->Nat->Prop}(h:∀b o,F b o->G b o){els:List (List D)}{b o sz:Nat}(TF:∀q,(∃v,w.cell? ⟨b,q,none⟩=some v)->R b q->S b q)(hl:eO w F R els b o sz):eO w G S els b o sz:=⟨hl.1,λi e j x h1 h2=>by obtain⟨hF,v,hv,hd⟩:=hl.2 i e j x h1 h2;exact⟨TF _ ⟨v,hv⟩ hF,v,hv,hd.mono h⟩⟩
def Iq{w:World}{b o:Nat}(h:∃v,w.cell? ⟨b,o,none⟩=some v):b<w.heap.size:=by obtain⟨v,hv⟩:=h;exact World.block_lt_of_cell? w ⟨b,o,none⟩ hv
def Cx.inner(X:Cx):Cx:={w:=X.w,F:=X.F,ρ:=λ_=>none,old:=λb=>b<X.w.heap.size}
def Ir{X Y:Cx}{f:Nat}{v:Value}(h:VC X (.fK f []) v):VC Y (.fK f []) v:=by grind[CF,aD,VC]
section
variable{X:Cx}{m:List (Tr bu)}{t:Tr Unit}
def nM(h:aH X m t)(ks:List (Nat×Nat)){x y:AV}{v:Value}(hx:dD m x=some y)(hv:VC X x v):VC (X.nD m ks).inner y v:=by
 have hex:=r6 h ks;have hsub:∀b o,X.F b o->(X.nD m ks).F b o:=λ_ _=>.inl;have data:∀{els a cap sz b o},v=.slice a els.length cap->els.length<=cap->(0<els.length->a=some ⟨b,o,none⟩)->eO X.w X.F X.F els b o sz->VC (X.nD m ks).inner (.d (.sl els)) v:=by rintro els a cap sz b o rfl h2 h3 h4;exact DR.gI (h4.ext hex) rfl h2 h3
 have Rm:∀{els a cap sz b o}{R:Nat->Nat->Prop},v=.slice a els.length cap->els.length<=cap->(0<els.length->a=some ⟨b,o,none⟩)->eO X.w X.F R els b o sz->VC (X.nD m ks).inner (.own els .bD) v:=by rintro els a cap sz b o R rfl h2 h3 h4;exact⟨a,b,o,sz,cap,rfl,h2,h3,h4.mono hsub λq hq _=>Iq hq⟩
 cases x with
 |d x=>cases hx;exact DR.ext hex hv|own els ow=>cases ow with|full=>cases hx;obtain⟨a,b,o,sz,h1,h2,h3⟩:=hv;exact data h1 (bc _) h2 h3|cU aq tz=>cases hx;obtain⟨a,b,o,sz,cap,h1,h2,h3,h4,_⟩:=hv;exact data h1 h2 (λh=>h3 (by omega)) h4|bD=>cases hx;obtain⟨a,b,o,sz,cap,h1,h2,h3,h4⟩:=hv;exact Rm h1 h2 h3 h4
 |ref lv sl aq off len sz=>simp only[dD]at hx;cases he:dJ m (.ref lv sl aq off len sz)with|none=>grind|some els=>rw[he]at hx;cases hx;obtain⟨a,cap,sz',b,o,h1,h2,h3,h4⟩:=o9 h he (.k9 hv);exact Rm h1 h2 h3 h4
 |fK f c=>cases c with|nil=>cases hx;exact Ir hv|cons=>cases hx
 |_=>cases hx
def AI(h:aH X m t){ks k:List (Nat×Nat)}{x y:AV}{v:Value}(hx:fB m x=some (y,k))(hv:VC X x v)(hk:∀p∈k,p∈ks):VC (X.nD m ks).inner y v:=by
 have asz:∀{x},(BS m x).map (λp=>(AV.d p.1,p.2))=some (y,k)->VC X x v->VC (X.nD m ks).inner y v:=by intro x hx hv;cases hd:BS m x with|none=>rw[hd]at hx;cases hx|some p=>rw[hd]at hx;injection hx with hx;injection hx with h1 h2;subst h1;exact Ua h (ks:=ks) hd hv λq hq=>hk q (by rw[<-h2];exact hq)
 unfold fB at hx;split at hx;.cases hx;exact nM h ks rfl hv
 .cases hx;exact nM h ks rfl hv
 .exact asz hx hv
def xP(h:aH X m t){ks:List (Nat×Nat)}:∀{xs ys:List AV}{k:List (Nat×Nat)}{vs:List Value},gn m xs=some (ys,k)->aD (VC X) xs vs->(∀p∈k,p∈ks)->aD (VC (X.nD m ks).inner) ys vs
 |[],ys,k,[],hx,_,_=>by cases hx;trivial|x::xs,ys,k,v::vs,hx,hv,hk=>by
  simp[gn]at hx;split at hx;.rename_i y k1 ys' k2 h1 h2;cases hx;exact⟨AI h h1 hv.1 λp hp=>hk p (by simp[hp]),xP h h2 hv.2 λp hp=>hk p (by simp[hp])⟩
  grind|[],_,_,_::_,_,hv,_=>hv.elim|_::_,_,_,[],_,hv,_=>hv.elim
def PU(h:aH X m t){ks k:List (Nat×Nat)}{x y:AV}{v:Value}(hx:zh m x=some (y,k))(hv:VR X x v)(hk:∀p∈k,p∈ks):V1 (X.nD m ks).inner y v:=by
 have one:∀{x:AV},(dD m x).map (λy=>(y,([]:List (Nat×Nat))))=some (y,k)->VC X x v->V1 (X.nD m ks).inner y v:=by intro x hx hv;cases hd:dD m x with|none=>grind|some y'=>rw[hd]at hx;cases hx;exact .k9 (nM h ks hd hv)
 cases x with
 |agg cs=>simp only[zh]at hx;cases hd:gn m cs with|none=>grind|some p=>rw[hd]at hx;injection hx with hx;injection hx with h1 h2;subst h1;obtain⟨vs,rfl,h3⟩:=hv;exact⟨vs,rfl,xP h (k:=p.2) hd h3 λq hq=>hk q (by rw[<-h2];exact hq)⟩
 |fu cs=>simp[zh,dD]at hx|_=>simp only[zh]at hx;exact one hx hv
def Kf(h:aH X m t){ks:List (Nat×Nat)}:∀{xs ys:List AV}{k:List (Nat×Nat)}{vs:List Value},sX m xs=some (ys,k)->aD (VR X) xs vs->(∀p∈k,p∈ks)->aD (V1 (X.nD m ks).inner) ys vs
 |[],ys,k,[],hx,_,_=>by cases hx;trivial|x::xs,ys,k,v::vs,hx,hv,hk=>by
  simp[sX]at hx;split at hx;.rename_i y k1 ys' k2 h1 h2;cases hx;exact⟨PU h h1 hv.1 λp hp=>hk p (by simp[hp]),Kf h h2 hv.2 λp hp=>hk p (by simp[hp])⟩
  grind|[],_,_,_::_,_,hv,_=>hv.elim|_::_,_,_,[],_,hv,_=>hv.elim
def aaN(h:aH X m t){ks k:List (Nat×Nat)}{x y:AV}{v:Value}(hx:zi m x=some (y,k))(hv:VR X x v)(hk:∀p∈k,p∈ks):V1 (X.nD m ks).inner y v:=by cases x with|agg cs=>exact PU h (x:=.agg cs) hx hv hk|fu cs=>simp[zi,fB,BS]at hx|_=>simp only[zi]at hx;exact .k9 (AI h hx hv hk)
def Kg(h:aH X m t){ks:List (Nat×Nat)}:∀{xs ys:List AV}{k:List (Nat×Nat)}{vs:List Value},sY m xs=some (ys,k)->aD (VR X) xs vs->(∀p∈k,p∈ks)->aD (V1 (X.nD m ks).inner) ys vs
 |[],ys,k,[],hx,_,_=>by cases hx;trivial|x::xs,ys,k,v::vs,hx,hv,hk=>by
  simp[sY]at hx;split at hx;.rename_i y k1 ys' k2 h1 h2;cases hx;exact⟨aaN h h1 hv.1 λp hp=>hk p (bm.2 (.inl hp)),Kg h h2 hv.2 λp hp=>hk p (bm.2 (.inr hp))⟩
  grind|[],_,_,_::_,_,hv,_=>hv.elim|_::_,_,_,[],_,hv,_=>hv.elim
def Gj(h:aH X m t)(ks:List (Nat×Nat)):∀{xs ys:List AV}{vs:List Value},qB m xs=some ys->aD (VC X) xs vs->aD (VC (X.nD m ks).inner) ys vs
 |[],ys,[],hx,_=>by cases hx;trivial|x::xs,ys,v::vs,hx,hv=>by
  simp[qB]at hx;split at hx;.rename_i y ys' h1 h2;cases hx;exact⟨nM h ks h1 hv.1,Gj h ks h2 hv.2⟩
  grind|[],_,_::_,_,hv=>hv.elim|_::_,_,[],_,hv=>hv.elim
def Uk(h:aH X m t)(ks:List (Nat×Nat)){x y:AV}{v:Value}(hx:sZ m x=some y)(hv:VR X x v):V1 (X.nD m ks).inner y v:=by cases x with
 |agg cs=>simp only[sZ]at hx;cases h1:qB m cs with|none=>grind|some z=>rw[h1]at hx;cases hx;obtain⟨vs,rfl,h3⟩:=hv;exact⟨vs,rfl,Gj h ks h1 h3⟩
 |fu cs=>simp[sZ,dD]at hx|_=>simp only[sZ]at hx;exact .k9 (nM h ks hx hv)
def Gk(h:aH X m t)(ks:List (Nat×Nat)):∀{xs ys:List AV}{vs:List Value},rT m xs=some ys->aD (VR X) xs vs->aD (V1 (X.nD m ks).inner) ys vs
 |[],ys,[],hx,_=>by cases hx;trivial|x::xs,ys,v::vs,hx,hv=>by
  simp[rT]at hx;split at hx;.rename_i y ys' h1 h2;cases hx;exact⟨Uk h ks h1 hv.1,Gk h ks h2 hv.2⟩
  grind|[],_,_::_,_,hv=>hv.elim|_::_,_,[],_,hv=>hv.elim
def Gl(h:aH X m t):aH X.inner [.lf] .lf:=by
 refine⟨λlv sl e he=>?_,λv hv=>by simp at hv,λk k' v v' L L' _ _ _ hv _ _ _=>?_,h.nH,λ_ h=>h,λb hb=>h.low b (h.p8.gb b hb),h.p8.gk⟩;.unfold aG at he;grind[Tr.get?,ou,bu.aq,Cx.inner]
 .cases hv
end
structure Ul(Z:Cx)(top:Nat)(cm:List (Tr bu))(els:List (List D))(len sz:Nat)(v:Value):Prop where row:∃L off a cap,v=.slice a len cap/\len<=cap/\els.length=len/\(∀e∈els,e.length=sz)/\(0<cap->(∃cC cW e,top<=cC/\(aG cm cC cW=some e/\e.fz=false)/\Z.ρ e.aq=some L)/\a=some ⟨L.b,L.o+off*sz,none⟩/\off+cap<=L.cap/\L.sz=sz/\0<L.cap/\Block Z L.b (L.o+L.cap*L.sz)/\(∀o,¬Z.F L.b o)/\∀i e j x,els[i]?=some e->e[j]?=some x->∃u,Z.w.cell? ⟨L.b,L.o+off*sz+i*sz+j,none⟩=some u/\DR Z.w Z.F x u)
section
variable{Z Y:Cx}{cm:List (Tr bu)}{ts:Tr Unit}
def CV(h:aH Z cm ts){top pk k lv sl aq:Nat}(hw:Y.w=Z.w)(hF:∀b o,Z.F b o->Y.F b o)(hρ:0<top->∀v L,Z.ρ v=some L->Y.ρ v=some L)(hfz:pk=0->∀cC cW e L,top<=cC->aG cm cC cW=some e->e.fz=false->Z.ρ e.aq=some L->0<L.cap->∀o,Y.F L.b o){x y:AV}{us:List (List (List D))}{v:Value}(hx:bG cm top pk k lv sl aq x=some (y,us))(hv:VC Z x v):(us=[]/\VC Y y v)\/∃els len sz,us=[els]/\y=.ref lv sl aq 0 len sz/\pk≠0/\Ul Z top cm els len sz v:=by
 have data:∀{els a cap sz b o},v=.slice a els.length cap->els.length<=cap->(0<els.length->a=some ⟨b,o,none⟩)->eO Z.w Z.F Z.F els b o sz->VC Y (.d (.sl els)) v:=by rintro els a cap sz b o rfl h2 h3 h4;refine DR.gI (b:=b) (o:=o) (sz:=sz) ?_ rfl h2 h3;rw[hw];exact h4.mono hF λq _ hq=>hF _ _ hq
 cases x with
 |d x=>injection hx with hx;injection hx with h1 h2;subst h1;refine .inl ⟨h2.symm,?_⟩;show DR Y.w Y.F x v;rw[hw];exact DR.mono hF hv|own els ow=>cases ow with
  |full=>
   simp[bG]at hx;obtain⟨a,b,o,sz,g1,g2,g3⟩:=hv;split at hx
   .rename_i hq;injection hx with hx;injection hx with h1 h2;subst h1;have hpk:pk≠0:=by intro e;subst e;simp at hq
    exact .inr ⟨[],0,pk/65536,h2.symm,rfl,hpk,⟨⟨0,0,0,0⟩,0,a,0,g1,bc _,rfl,λ_ h=>(by cases h),λh=>absurd h (by omega)⟩⟩
   .split at hx;.injection hx with hx;injection hx with h1 h2;subst h1;refine .inl ⟨h2.symm,a,b,o,sz,g1,g2,?_⟩;rw[hw];exact g3.mono hF λq _ hq=>hF _ _ hq
    grind|cU aq tz=>
   simp[bG]at hx;obtain⟨a,b,o,sz,cap,g1,g2,g3,g4,g5,g6⟩:=hv;split at hx
   .rename_i hk;injection hx with hx;injection hx with h1 h2;subst h1;have ht:0<top:=by
     have:=(Bool.and_eq_true_iff.1 hk).2;rcases Nat.eq_zero_or_pos top with e|e;.rw[e]at this;cases this
     .exact e
    refine .inl ⟨h2.symm,a,b,o,sz,cap,g1,g2,g3,?_,hρ ht _ _ g5,g6⟩;rw[hw];exact g4.mono hF λq _ hq=>hF _ _ hq
   grind|bD=>cases hx
 |ref cC cW gD off len sz=>simp[bG]at hx;cases hb:Nat.ble top cC with|false=>
   rw[hb]at hx;injection hx with hx;injection hx with h1 h2;subst h1;have ht:0<top:=by
    have:¬top<=cC:=λhle=>by rw[mi hle]at hb;cases hb
    omega
   obtain⟨L,a,cap,g1,g2⟩:=hv;exact .inl ⟨h2.symm,L,a,cap,hρ ht _ _ g1,g2⟩|true=>rw[hb]at hx;have hle:top<=cC:=ft hb;cases he:dJ cm (.ref cC cW gD off len sz)with|none=>grind|some els=>rw[he]at hx;simp at hx;obtain⟨L',a,cap,hL',g1,rfl,g3,g4⟩:=hv;simp[dJ]at he;cases hr:qQ cm cC cW gD with|none=>grind|some els'=>
     rw[hr]at he;simp only[ae]at he;split at he
     .cases he;obtain⟨L,hL,hE1,hE⟩:=CM h hr;rw[hL]at hL';injection hL' with hL';subst hL';have hlen:((els'.drop off).take len).length=len:=by grind
      have hsz:∀e∈(els'.drop off).take len,e.length=sz:=λf hf=>by rw[hE.1 f (po (ls hf)),g1]
      split at hx
      .rename_i hpk;injection hx with hx;injection hx with h1 h2;subst h1;refine .inl ⟨h2.symm,?_⟩;have hpk:=beq_true.1 hpk;have hl:=(hE.region (S:=Y.F) λb o hq=>hq.elim (hF b o) λhq=>by obtain⟨e,M,q1,q2,q3,rfl,q5⟩:=lN hq;exact hfz hpk cC cW e M hle q1 q5 q2 q3 o).sub off len;refine DR.gI (b:=L.b) (o:=L.o+off*L.sz) (sz:=L.sz) ?_ hlen g3 λh0=>by rw[(g4 (by omega)).1,g1]
       rw[hw];exact hl.mono hF λq _ hq=>hq
      .rename_i hpk;have hpk:=beq_false.1 hpk;split at hx
       .split at hx
        .rename_i zo qF;injection hx with hx;injection hx with h1 h2;subst h1;obtain⟨L2,hL2,hE2,hg⟩:=nJ h qF;have CP:zo=els':=by have hr':=hr;unfold qQ at hr'<;>grind
         subst CP;rw[hL]at hL2;cases hL2;refine .inr ⟨_,len,sz,h2.symm,rfl,hpk,⟨L,off,a,cap,rfl,g3,hlen,hsz,λhc=>?_⟩⟩;obtain⟨k1,k2⟩:=g4 hc;have hc0:0<L.cap:=by omega
         refine⟨⟨cC,cW,_,hle,⟨hg,rfl⟩,hL⟩,k1,k2,g1,hc0,(hE2.2.2.1 hc0).1,(hE2.2.2.1 hc0).2,λi e j x hi hj=>?_⟩;obtain⟨u,hu,hd⟩:=hE2.2.2.2 (off+i) e j x (fc hi).1 hj<;>grind
        grind
       .split at hx;.cases hx
        .rename_i qF;injection hx with hx;injection hx with h1 h2;subst h1;refine .inl ⟨h2.symm,?_⟩;have hl:=(hE.region (S:=Y.F) λb o hq=>hq.elim (hF b o) λhq=>by exfalso;obtain⟨e,M,q1,q2,q3,rfl,q5⟩:=lN hq;have q1:aG cm cC cW=some e:=q1;unfold qQ at hr;unfold rowAt at qF;rw[q1]at hr qF;cases e with|row v els=>simp only at hr qF;rw[hr]at qF;cases qF|box v cs=>cases hr|mp v ks=>cases hr|Ni v els=>cases q5).sub off len;refine DR.gI (b:=L.b) (o:=L.o+off*L.sz) (sz:=L.sz) ?_ hlen g3 λh0=>by rw[(g4 (by omega)).1,g1]
         rw[hw];exact hl.mono hF λq _ hq=>hq
     grind
 |ptr cC cW gD i off=>
  simp[bG]at hx;cases hb:Nat.ble top cC with|false=>
   rw[hb]at hx;injection hx with hx;injection hx with h1 h2;subst h1;have ht:0<top:=by
    have:¬top<=cC:=λhle=>by rw[mi hle]at hb;cases hb
    omega
   obtain⟨L,g1,g2⟩:=hv;exact .inl ⟨h2.symm,L,hρ ht _ _ g1,g2⟩|true=>rw[hb]at hx;cases hx
 |fK f c=>cases c with|nil=>injection hx with hx;injection hx with h1 h2;subst h1;exact .inl ⟨h2.symm,Ir hv⟩|cons=>cases hx
 |dz cC cW gD off n sz=>
  simp only[bG]at hx;cases hb:Nat.ble top cC with|false=>
   rw[hb]at hx;injection hx with hx;injection hx with h1 h2;subst h1;have ht:0<top:=by
    have:¬top<=cC:=λhle=>by rw[mi hle]at hb;cases hb
    omega
   obtain⟨L,cap,g1,g2⟩:=hv;exact .inl ⟨h2.symm,L,cap,hρ ht _ _ g1,g2⟩|true=>rw[hb]at hx;cases hx
 |_=>cases hx
end
end Go.bL
