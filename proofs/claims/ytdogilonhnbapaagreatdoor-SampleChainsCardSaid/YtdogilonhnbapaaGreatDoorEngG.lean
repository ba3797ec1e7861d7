/- Memory made, frozen and written: the laws under the operations that change it. -/
import Derived.Test.YtdogilonhnbapaaGreatDoorEngF
import Derived.Laws.MakeOwn
set_option linter.unusedVariables false
set_option linter.unusedSimpArgs false
namespace Go.bI
open Go Go.RowKit
theorem fS{α:Type}{sz:Nat}:∀{els:List (List α)},(∀e∈els,e.length=sz)->∀(i j:Nat)(e:List α),els[i]?=some e->j<sz->els.flatten[i*sz+j]?=e[j]?|[],_,i,j,e,h,_=>by simp at h|f::els,hl,0,j,e,h,hj=>by grind|f::els,hl,i+1,j,e,h,hj=>by simp[List.flatten_cons];have hf:=hl f (by simp);rw[List.getElem?_append_right (by rw[hf,Nat.add_mul];omega),hf,show(i+1)*sz+j-sz=i*sz+j by rw[Nat.add_mul];omega];exact fS (λe he=>hl e (by simp[he])) i j e (by simpa using h) hj
theorem aX{α:Type}{sz:Nat}:∀{els:List (List α)},(∀e∈els,e.length=sz)->els.flatten.length=els.length*sz|[],_=>by simp|f::els,hl=>by simp only[List.flatten_cons,List.length_append,List.length_cons,Nat.add_mul];rw[aX (λe he=>hl e (by simp[he])),hl f (by simp)];omega
theorem zW{α:Type}(a b:List (List α)):(a++b).flatten=a.flatten++b.flatten:=by simp
theorem rT{α:Type}{sz:Nat}:∀{els:List (List α)},(∀e∈els,e.length=sz)->∀(i:Nat)(e:List α),i<els.length->e.length=sz->(els.set i e).flatten=splice els.flatten (i*sz) e|[],_,i,e,h,_=>by simp at h|f::els,hl,0,e,_,he=>by grind[splice]|f::els,hl,i+1,e,h,he=>by have hf:=hl f (by simp);simp[List.set_cons_succ,List.flatten_cons];rw[rT (λe he=>hl e (by simp[he])) i e (by simpa using h) he];unfold splice;rw[show(i+1)*sz=f.length+i*sz by rw[Nat.add_mul];omega];rw[List.take_append,List.take_of_length_le (l:=f) (by omega)];rw[List.drop_append,List.drop_of_length_le (l:=f) (by omega),show f.length+i*sz+e.length-f.length=i*sz+e.length by omega];simp[List.append_assoc]
theorem vu{w:World}{F R:Nat->Nat->Prop}{els:List (List D)}{b o sz:Nat}{C:Array Value}{e:TypeId}{vs:List Value}(hb:w.heap[b]?=some (.cells C e (0,0)))(hl:∀e∈els,e.length=sz)(hv:∀j v,vs[j]?=some v->C[o+j]?=some v)(h:aC (DR w F) els.flatten vs)(hR:∀k,k<els.length*sz->R b (o+k)):eg w F R els b o sz:=by
 refine⟨hl,λi e j x h1 h2=>?_⟩;have hj:j<sz:=by grind
 have hg:=fS hl i j e h1 hj;rw[h2]at hg;obtain⟨v,h3,h4⟩:=h.get _ _ hg;have hlt:i*sz+j<els.length*sz:=by have:=(List.getElem?_eq_some_iff.1 hg).1;rwa[aX hl]at this
 rw[Nat.add_assoc];exact⟨hR _ hlt,v,by rw[cell_of_row _ _ _ _ _ _ hb];exact hv _ _ h3,h4⟩
theorem vw{w:World}{F R:Nat->Nat->Prop}{els:List (List D)}{b o sz:Nat}(h:eg w F R els b o sz):∃vs:List Value,(∀j v,vs[j]?=some v->w.cell? ⟨b,o+j,none⟩=some v)/\aC (DR w F) els.flatten vs:=by
 refine AN els.flatten λk x hk=>?_;have hlen:=aX h.1;have hk':k<els.length*sz:=by grind
 have hsz:0<sz:=Nat.pos_of_ne_zero λe=>by subst e;omega
 have hi:k/sz<els.length:=(Nat.div_lt_iff_lt_mul hsz).2 hk';have hj:k%sz<sz:=Nat.mod_lt _ hsz;have he:els[k/sz]?=some els[k/sz]:=List.getElem?_eq_getElem hi;have hg:=fS h.1 (k/sz) (k%sz) _ he hj;have hkk:k/sz*sz+k%sz=k:=by rw[Nat.mul_comm];exact Nat.div_add_mod k sz
 grind[eg]
def Cx.alloc(X:Cx)(C:Array Value)(e:TypeId)(v:Nat)(L:Loc):Cx:={X with w:=X.w.alloc (.cells C e),ρ:=λu=>if u=v then some L else X.ρ u}
theorem aH.cZ{X:Cx}{m:List (Tr bC)}{t:Tr Unit}(h:aH X m t){k:Nat×Nat×Nat}{v:Nat}(hk:Holds m t k v):∃L,X.ρ v=some L/\(0<L.cap->L.b<X.w.heap.size/\¬X.old L.b):=by
 rcases hk with⟨lv,sl,e,_,he,rfl,hz⟩|⟨_,he⟩;.obtain⟨L,hL,hE⟩:=h.eV lv sl e he;refine⟨L,hL,λhc=>?_⟩;cases e with|OF _ _=>cases hz|row _ _=>exact⟨(hE.2.2.1 hc).1.lt,(hE.2.2.1 hc).1.1⟩|box _ _=>exact⟨hE.2.1.lt,hE.2.1.1⟩|mp _ _=>grind[mM,bC.ai,bC.fz,aK,bL]
 .obtain⟨L,hL,hT⟩:=h.aG v he;exact⟨L,hL,λhc=>⟨(hT hc).1.lt,(hT hc).1.1⟩⟩
theorem uv{w:World}{b o:Nat}{ob:Obj}(h:b<w.heap.size):(w.alloc ob).cell? ⟨b,o,none⟩=w.cell? ⟨b,o,none⟩:=World.cell?_alloc_lt w ob ⟨b,o,none⟩ h
theorem Ext.alloc{X:Cx}{C:Array Value}{e:TypeId}{v:Nat}{L:Loc}(hin:∀b o,X.F b o->b<X.w.heap.size)(n9:∀b,X.old b->b<X.w.heap.size)(hv:X.ρ v=none):Ext X (X.alloc C e v L):=⟨rfl,(eu.refl _ _).alloc n9 _,λ_ _ h=>h,λb o h=>uv (hin b o h),λu M hu=>by grind[Cx.alloc],λ_ _ h=>.inl h⟩
theorem aH.alloc{X:Cx}{m:List (Tr bC)}{t:Tr Unit}{C:Array Value}{e:TypeId}{v:Nat}{L:Loc}(h:aH X m t)(hv:X.ρ v=none):aH (X.alloc C e v L) m t:=h.move (Ext.alloc h.n8 h.low hv) (λk u M hk hu hc=>by obtain⟨M',jY,h2⟩:=h.cZ hk;rw[hu]at jY;cases jY;exact heap_alloc_old _ _ _ (h2 hc).1) (λ_ _ _ _ _ _ _ h=>h) (λb o hb=>by have:=h.n8 b o hb;show b<(X.w.alloc _).heap.size;rw[World.size_alloc];omega)
def Cx.more(X:Cx)(G:Nat->Nat->Prop):Cx:={X with F:=λb o=>X.F b o\/G b o}
theorem Ext.more{X:Cx}{G:Nat->Nat->Prop}(hG:∀b o,G b o->¬X.old b):Ext X (X.more G):=⟨rfl,eu.refl _ _,λ_ _=>.inl,λ_ _ _=>rfl,λ_ _ h=>h,λb o h=>h.elim .inl λh=>.inr (hG b o h)⟩
theorem aH.more{X:Cx}{m:List (Tr bC)}{t:Tr Unit}{G:Nat->Nat->Prop}(h:aH X m t)(hG:∀b o,G b o->¬X.old b/\b<X.w.heap.size)(hk:∀k v L o,Holds m t k v->X.ρ v=some L->0<L.cap->¬G L.b o):aH (X.more G) m t:=h.move (Ext.more λb o h=>(hG b o h).1) (λ_ _ _ _ _ _=>rfl) (λk v L o a b c h=>h.elim id λh=>absurd h (hk k v L o a b c)) λb o hb=>hb.elim (h.n8 b o) λhb=>(hG b o hb).2
def lS(X:Cx)(m:List (Tr bC))(k:Nat×Nat):Option Nat:=(aK m k.1 k.2).bind λe=>(X.ρ e.ai).bind λL=>if 0<L.cap/\e.fz=false then some L.b else none
def Cx.lZ(X:Cx)(m:List (Tr bC))(ks:List (Nat×Nat)):Cx:=X.more λb _=>∃k∈ks,lS X m k=some b
theorem j8{X:Cx}{m:List (Tr bC)}{k:Nat×Nat}{b:Nat}(h:lS X m k=some b):∃e L,aK m k.1 k.2=some e/\X.ρ e.ai=some L/\0<L.cap/\L.b=b/\e.fz=false:=by unfold lS at h;cases he:aK m k.1 k.2with|none=>grind|some e=>rw[he]at h;cases hL:X.ρ e.ai with|none=>grind|some L=>grind
theorem ua(m0:List (Tr bC)):∀(ks:List (Nat×Nat))(m:List (Tr bC))(lv sl:Nat),m.length=m0.length->aK (bz m (dS m0 ks)) lv sl=if(lv,sl)∈ks then(aK m0 lv sl).bind bC.lZ else aK m lv sl
 |[],m,lv,sl,_=>by simp[dS,bz]|k::ks,m,lv,sl,hl0=>by
  have ih:=ua m0 ks (cj m k.1 k.2 ((aK m0 k.1 k.2).bind bC.lZ)) lv sl (by simpa[cj]using hl0);simp[dS,List.map_cons,bz]at ih⊢;rw[ih];by_cases h1:(lv,sl)∈ks;.simp[h1]
  .simp[h1,if_false,List.mem_cons,or_false];rw[cr];by_cases h2:(lv,sl)=k
   .subst h2;simp only[if_true,true_and];split;.rfl
    .unfold aK;rw[List.getElem?_eq_none (by omega),List.getElem?_eq_none (by omega)];rfl
   .rw[if_neg h2,if_neg];rintro⟨rfl,rfl,_⟩;exact h2 rfl
theorem qn(ks:List (Nat×Nat))(m:List (Tr bC))(lv sl:Nat):aK (bz m (dS m ks)) lv sl=if(lv,sl)∈ks then(aK m lv sl).bind bC.lZ else aK m lv sl:=ua m ks m lv sl rfl
theorem abT{e e':bC}(h:e.lZ=some e'):e'.fz=true:=by cases e<;>simp only[bC.lZ]at h<;>first|(cases h;rfl)|cases h
theorem qo{X:Cx}{m:List (Tr bC)}{t:Tr Unit}(h:aH X m t)(ks:List (Nat×Nat)):Ext X (X.lZ m ks):=Ext.more λb _⟨k,_,hb⟩=>by obtain⟨e,L,he,hL,hc,rfl,hz⟩:=j8 hb;obtain⟨L',hL',h2⟩:=h.cZ (.inl ⟨k.1,k.2,e,rfl,he,rfl,hz⟩)<;>grind
theorem FL{X:Cx}{m:List (Tr bC)}{t:Tr Unit}(h:aH X m t)(ks:List (Nat×Nat)):aH (X.lZ m ks) (bz m (dS m ks)) t:=by
 let era:List (Nat×Nat)->List (Tr bC)->List (Tr bC):=λks m=>bz m (ks.map λk=>(k.1,k.2,none));have agz:∀(ks:List (Nat×Nat))(m:List (Tr bC))(lv sl:Nat),aK (era ks m) lv sl=if(lv,sl)∈ks then none else aK m lv sl:=by intro ks;induction ks with|nil=>simp[era,bz]|cons k ks ih=>
   intro m lv sl;simp[era,List.map_cons,bz]at ih⊢;rw[ih];by_cases h1:(lv,sl)∈ks;.simp[h1]
   .rw[cr]<;>grind[bz,cj,aK]
 have Nk:aH X (era ks m) t:=h.less (λlv sl e he=>by
  rw[agz]at he;split at he;.cases he
  .exact he) λ_ h=>h;have hm0:aH (X.lZ m ks) (era ks m) t:=by
  refine Nk.more (λb o⟨k,_,hb⟩=>?_) λk v L o hk hv hc⟨k',hk',hb⟩=>?_;.obtain⟨e,L,he,hL,hc,rfl,hz⟩:=j8 hb;obtain⟨L',hL',h2⟩:=h.cZ (.inl ⟨k.1,k.2,e,rfl,he,rfl,hz⟩)<;>grind
  .obtain⟨e,M,he,hM,xb,hMb,hz⟩:=j8 hb;have hh:Holds m t k v/\k≠bL k'.1 k'.2:=by
    rcases hk with⟨lv,sl,e',rfl,he',kT⟩|⟨rfl,he'⟩;.grind[bC.fz,bC.ai,lS,aK,bL,Holds]
    .exact⟨.inr ⟨rfl,he'⟩,λhq=>ei hq.symm⟩
   exact h.apart _ _ _ _ _ _ hh.1 (.inl ⟨k'.1,k'.2,e,rfl,he,rfl,hz⟩) hh.2 hv hM hc xb hMb.symm
 have hh:∀k v,Holds (bz m (dS m ks)) t k v->Holds (era ks m) t k v:=by
  rintro k v(⟨lv,sl,e,rfl,he,hv,hz⟩|⟨rfl,he⟩)
  .rw[qn]at he;split at he;.obtain⟨e0,_,V8⟩:=Option.bind_eq_some_iff.1 he;rw[abT V8]at hz;cases hz
   grind[bC.fz,bC.ai,Cx.lZ,aK,bL,Holds]
  .exact .inr ⟨rfl,he⟩
 refine⟨λlv sl e he=>?_,hm0.aG,λk k' v v' L L' a b=>hm0.apart k k' v v' L L' (hh _ _ a) (hh _ _ b),hm0.n8,hm0.ql⟩;rw[qn]at he;split at he;.rename_i hk;obtain⟨e0,he1,V8⟩:=Option.bind_eq_some_iff.1 he;obtain⟨L,hL,hE⟩:=h.eV _ _ _ he1;cases e0 with|box v cs=>cases V8|mp v ks=>cases V8|OF v els=>cases V8;exact⟨L,hL,hE.1,hE.2.ext (qo h ks)⟩|row v els=>
   cases V8;refine⟨L,hL,hE.1,hE.2.1,λi e j x h1 h2=>?_⟩;obtain⟨u,hu,hd⟩:=hE.2.2.2 i e j x h1 h2;have hc:0<L.cap:=by have:i<els.length:=(List.getElem?_eq_some_iff.1 h1).1;have:=hE.1<;>omega
   refine⟨.inr ⟨(lv,sl),hk,?_⟩,u,hu,hd.ext (qo h ks)⟩;have hL':X.ρ v=some L:=hL;simp[lS,he1,bC.ai,hL',bC.fz,hc]
 .rename_i hn;exact hm0.eV lv sl e (by rw[agz,if_neg hn];exact he)
theorem AR{X:Cx}{m:List (Tr bC)}{t:Tr Unit}(h:aH X m t){lv sl ai:Nat}{els:List (List D)}(hr:qV m lv sl ai=some els):∃L,X.ρ ai=some L/\els.length<=L.cap/\eg X.w X.F (λb o=>X.F b o\/lS X m (lv,sl)=some b) els L.b L.o L.sz:=by
 unfold qV at hr;split at hr
 .rename_i v els' hg;split at hr
  .rename_i hv;simp_all;subst hv;obtain⟨L,hL,hE⟩:=h.eV _ _ _ hg;refine⟨L,hL,hE.1,hE.2.1,λi e j x h1 h2=>⟨.inr ?_,hE.2.2.2 i e j x h1 h2⟩⟩;have hc:0<L.cap:=by grind[mM,bC.ai,aK]
   have hL':X.ρ v=some L:=hL;simp[lS,hg,bC.ai,hL',bC.fz,hc]
  grind
 .rename_i v els' hg;split at hr;.simp_all;obtain⟨L,hL,hE⟩:=h.eV _ _ _ hg;grind[mM,bC.ai,aK,lS,eg]
  grind
 grind
theorem l7{X:Cx}{m:List (Tr bC)}{t:Tr Unit}(h:aH X m t){lv sl ai:Nat}{els:List (List D)}(hr:rowAt m lv sl ai=some els):∃L,X.ρ ai=some L/\mM X (.row ai els) L/\aK m lv sl=some (.row ai els):=by
 unfold rowAt at hr;split at hr
 .rename_i v els' hg;split at hr;.rename_i hv;cases hr;have hv:=beq_true.1 hv;subst hv;obtain⟨L,hL,hE⟩:=h.eV _ _ _ hg;exact⟨L,hL,hE,hg⟩
  grind
 grind
theorem mM.VX{X:Cx}{ai:Nat}{els:List (List D)}{L:Loc}{R:Nat->Nat->Prop}(h:mM X (.row ai els) L)(hR:0<L.cap->∀o,R L.b o):eg X.w X.F R els L.b L.o L.sz:=⟨h.2.1,λi e j x h1 h2=>⟨hR (by grind[mM]) _,h.2.2.2 i e j x h1 h2⟩⟩
theorem eg.ext'{X Y:Cx}(hx:Ext X Y){R:Nat->Nat->Prop}{els:List (List D)}{b o sz:Nat}(h:eg X.w X.F R els b o sz)(hc:∀o,Y.w.cell? ⟨b,o,none⟩=X.w.cell? ⟨b,o,none⟩):eg Y.w Y.F R els b o sz:=⟨h.1,λi e j x h1 h2=>by obtain⟨hF,v,hv,hd⟩:=h.2 i e j x h1 h2;exact⟨hF,v,(hc _).trans hv,hd.ext hx⟩⟩
theorem rU{X:Cx}{m:List (Tr bC)}{t:Tr Unit}(h:aH X m t){x:AV}{els:List (List D)}{v:Value}(he:dm m x=some els)(hv:VR X x v):∃a cap sz b o,v=.slice a els.length cap/\els.length<=cap/\(0<els.length->a=some ⟨b,o,none⟩)/\eg X.w X.F (λb o=>X.F b o\/X.old b\/∃lv sl ai off len sz,x=.ref lv sl ai off len sz/\lS X m (lv,sl)=some b) els b o sz:=by cases x with
 |d x=>cases x with|sc v=>cases he|er=>cases he|sl els'=>cases he;obtain⟨a,cap,sz,b,o,h1,h2,h3,h4⟩:=vt (.inl rfl) hv<;>grind
 |own els' ow=>cases he;obtain⟨a,cap,sz,b,o,h1,h2,h3,h4⟩:=vt (.inr ⟨_,rfl⟩) hv<;>grind|ref lv sl ai off len sz=>simp[dm]at he;cases hr:qV m lv sl ai with|none=>grind|some els'=>
   rw[hr]at he;simp only[Option.bind_some]at he;split at he
   .cases he;obtain⟨L,hL,hE1,hE⟩:=AR h hr;obtain⟨L',a,cap,hL',h1,h2,h3,h4⟩:=hv;rw[hL]at hL';have hlen:((els'.drop off).take len).length=len:=by grind
    refine⟨a,cap,L.sz,L.b,L.o+off*L.sz,by rw[hlen];exact h2,by omega,λh0=>?_,?_⟩<;>grind[qV,lS,eg]
   grind
 |_=>cases he
theorem RB{X:Cx}{m:List (Tr bC)}{t:Tr Unit}(h:aH X m t){ks k:List (Nat×Nat)}{x:AV}{y:D}{v:Value}(hx:zS m x=some (y,k))(hv:VC X x v)(hk:∀p∈k,p∈ks):DR X.w (X.lZ m ks).F y v:=by have hex:=qo h ks;cases x with
 |d x=>cases hx;exact DR.ext hex hv|own els ow=>cases ow with|full=>cases hx;obtain⟨a,b,o,sz,rfl,h3,h4⟩:=hv;exact DR.gp (h4.ext hex) rfl (Nat.le_refl _) h3|cB ai tz=>cases hx;obtain⟨a,b,o,sz,cap,rfl,h2,h3,h4,_⟩:=hv;exact DR.gp (h4.ext hex) rfl h2 λh=>h3 (by omega)|bA=>cases hx
 |ref lv sl ai off len sz=>simp only[zS]at hx;cases he:dm m (.ref lv sl ai off len sz)with|none=>grind|some els=>rw[he]at hx;injection hx with hx;injection hx with h1 h2;subst h1;obtain⟨L',a,cap,hL',g1,g2,g3,g4⟩:=hv;simp[dm]at he;cases hr:qV m lv sl ai with|none=>grind|some els'=>
    rw[hr]at he;simp only[Option.bind_some]at he;split at he
    .cases he;obtain⟨L,hL,hE1,hE⟩:=AR h hr;rw[hL]at hL';cases hL';subst g2;have hlen:((els'.drop off).take len).length=len:=by grind
     have hl:=(hE.region (S:=(X.lZ m ks).F) λb o hq=>hq.elim .inl λhq=>.inr ⟨(lv,sl),hk _ (by rw[<-h2];simp),hq⟩).sub off len;exact DR.gp (hl.ext' hex λ_=>rfl) hlen g3 λh0=>by rw[(g4 (by omega)).1,g1]
    grind
 |_=>cases hx
theorem FM{X:Cx}{m:List (Tr bC)}{t:Tr Unit}(h:aH X m t){ks:List (Nat×Nat)}:∀{xs:List AV}{ys:List D}{k:List (Nat×Nat)}{vs:List Value},Dc m xs=some (ys,k)->aC (VC X) xs vs->(∀p∈k,p∈ks)->aC (DR X.w (X.lZ m ks).F) ys vs
 |[],ys,k,[],hx,_,_=>by cases hx;trivial|x::xs,ys,k,v::vs,hx,hv,hk=>by
  simp[Dc]at hx;split at hx;.rename_i y k1 ys' k2 h1 h2;cases hx;exact⟨RB h h1 hv.1 λp hp=>hk p (by simp[hp]),FM h h2 hv.2 λp hp=>hk p (by simp[hp])⟩
  grind|[],_,_,_::_,_,hv,_=>hv.elim|_::_,_,_,[],_,hv,_=>hv.elim
end Go.bI
