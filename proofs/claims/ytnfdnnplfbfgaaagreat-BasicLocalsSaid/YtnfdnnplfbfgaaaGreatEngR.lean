/- Parts of the proof. -/
import Derived.Test.YtnfdnnplfbfgaaaGreatEngG
import Derived.Laws.Append
import Derived.Laws.AppendOwn
import Derived.Laws.CopyOwn
import Derived.Laws.BytesArg
import Derived.Laws.IdiomStrings
import Derived.MapKept
import Derived.Tactics
import Derived.Shelf.Sort.Plain
import Derived.Shelf.Slices.In.SortNone
import Derived.Shelf.Slices.CompactI
set_option linter.unusedVariables false
set_option linter.unusedSimpArgs false
set_option linter.defProp false
namespace Go.bS
open Go Go.RowKit
def gj(X Y:Cx)(aZ n n':Nat):Prop:=n<=n'/\∀v L,Y.ρ v=some L->X.ρ v=some L\/v=aZ\/(n<=v/\v<n')
def oQ{X:Cx}{C:Array Value}{e:TypeId}{v:Nat}{L:Loc}{n:Nat}:gj X (X.alloc C e v L) v n n:=⟨bd _,λu M h=>by grind[Cx.alloc]⟩
def gj.refl(X:Cx)(v n:Nat):gj X X v n n:=⟨bd _,λ_ _ h=>.inl h⟩
section
variable{X:Cx}{m:List (Tr bM)}{t:Tr Unit}
def tv(X:Cx)(C:Array Value)(e:TypeId)(v:Nat)(L:Loc):(X.alloc C e v L).w.heap[X.w.heap.size]?=some (.cells C e (0,0)):=heap_alloc_new _ _
def xe(X:Cx)(C:Array Value)(e:TypeId)(v:Nat)(L:Loc):(X.alloc C e v L).ρ v=some L:=be rfl
def uN(h:aM X m t){C:Array Value}{e:TypeId}{v:Nat}{L:Loc}(hv:X.ρ v=none){k:Nat×Nat×Nat}{u:Nat}{M:Loc}(hk:Holds m t k u)(hu:(X.alloc C e v L).ρ u=some M)(hc:0<M.cap):M.b≠X.w.heap.size:=by obtain⟨M',mH,h2⟩:=h.ew hk<;>grind[Cx.alloc,Holds]
def N8(h:aM X m t){C:Array Value}{e:TypeId}{v:Nat}{cs:List AV}(lv sl:Nat)(hv:X.ρ v=none)(hc:aI (VC X) cs C.toList):aM (X.alloc C e v ⟨X.w.heap.size,0,C.size,1⟩) (cH m lv sl (some (.box v cs))) t:=by
 have hx:Ext X (X.alloc C e v ⟨X.w.heap.size,0,C.size,1⟩):=Ext.alloc h.qI h.low hv;refine(h.alloc hv).add (L:=⟨X.w.heap.size,0,C.size,1⟩) (xe _ _ _ _ _) ⟨rfl,⟨h.fresh,C,e,tv _ _ _ _ _,by rw[hc.length];simp⟩,λo ho=>?_,λj x hj=>?_⟩ λk u M hk _ hu hc _=>uN h hv hk hu hc;.exact pA _ (h.qI _ _ ho)
 .obtain⟨u,hu,hr⟩:=hc.get _ _ hj;refine⟨u,?_,hr.ext hx⟩<;>simp_all[aI,VC,Cx.alloc]
def He(h:aM X m t){C:Array Value}{e:TypeId}{v:Nat}{els:List (List D)}{sz cap:Nat}{vs:List Value}(lv sl:Nat)(hv:X.ρ v=none)(hl:∀e∈els,e.length=sz)(hC:cap*sz<=C.size)(hle:els.length<=cap)(hvs:∀(j:Nat)(u:Value),vs[j]?=some u->C[j]?=some u)(hd:aI (DR X.w X.F) els.flatten vs):aM (X.alloc C e v ⟨X.w.heap.size,0,sz,cap⟩) (cH m lv sl (some (.row v els))) t:=by
 have hx:Ext X (X.alloc C e v ⟨X.w.heap.size,0,sz,cap⟩):=Ext.alloc h.qI h.low hv;refine(h.alloc hv).add (L:=⟨X.w.heap.size,0,sz,cap⟩) (xe _ _ _ _ _) ⟨hle,hl,λ_=>⟨⟨h.fresh,C,e,tv _ _ _ _ _,by simpa using hC⟩,λo ho=>?_⟩,λi f j x h1 h2=>?_⟩ λk u M hk _ hu hc _=>uN h hv hk hu hc;.exact pA _ (h.qI _ _ ho)
 .have:=w9 (R:=λ_ _=>True) (o:=0) (tv X C e v ⟨X.w.heap.size,0,sz,cap⟩) hl (λj u hj=>by rw[m9];exact hvs j u hj) (hd.mono λ_ _=>DR.ext hx) (λ_ _=>trivial);grind[fe,aI,Cx.alloc]
def N9(h:aM X m t){C:Array Value}{e:TypeId}{v:Nat}{els:List (List D)}{sz cap:Nat}{vs:List Value}(hv:X.ρ v=none)(hl:∀e∈els,e.length=sz)(hC:cap*sz<=C.size)(hle:els.length<=cap)(hvs:∀(j:Nat)(u:Value),vs[j]?=some u->C[j]?=some u)(hd:aI (DR X.w X.F) els.flatten vs):let Y:=(X.alloc C e v ⟨X.w.heap.size,0+els.length*sz,sz,cap-els.length⟩).more λb o=>b=X.w.heap.size/\o<els.length*sz;Ext X Y/\aM Y m (t.set v (some ()))/\fe Y.w Y.F Y.F els X.w.heap.size 0 sz/\gj X Y v 0 0:=by
 intro Y;let Z:=X.alloc C e v ⟨X.w.heap.size,0+els.length*sz,sz,cap-els.length⟩;have hz:Ext X Z:=Ext.alloc h.qI h.low hv;have hm:Ext Z Y:=Ext.more λb o hb=>by rw[hb.1];exact h.fresh
 have hmem:aM Y m t:=(h.alloc hv).more (λb o hb=>⟨by rw[hb.1];exact h.fresh,by rw[hb.1];show _<(X.w.alloc _).heap.size;rw[World.size_alloc];omega⟩) λk u M o hk hu hc hb=>uN (C:=C) (e:=e) (L:=⟨X.w.heap.size,0+els.length*sz,sz,cap-els.length⟩) h hv hk hu hc hb.1;refine⟨hz.trans hm,hmem.Zc (L:=⟨X.w.heap.size,0+els.length*sz,sz,cap-els.length⟩) (xe X C e v _) (λhc=>⟨⟨h.fresh,C,e,tv X C e v ⟨X.w.heap.size,0+els.length*sz,sz,cap-els.length⟩,?_⟩,λo ho hF=>?_⟩) (λk u M hk _ hu hc _=>uN (C:=C) (e:=e) (L:=⟨X.w.heap.size,0+els.length*sz,sz,cap-els.length⟩) h hv hk hu hc),?_,⟨bd _,λu M hu=>?_⟩⟩;.rw[m9,<-d9,Nat.add_sub_cancel' hle]<;>omega
 .rcases hF with hF|hF;.exact pA _ (h.qI _ _ hF)
  grind
 .exact w9 (o:=0) (tv X C e v ⟨X.w.heap.size,0+els.length*sz,sz,cap-els.length⟩) hl (λj u hj=>by rw[m9];exact hvs j u hj) (hd.mono λ_ _=>DR.ext (hz.trans hm)) (λk hk=>.inr ⟨rfl,by omega⟩)
 .exact(oQ (C:=C) (e:=e) (n:=0)).2 u M hu
def Cx.set(X:Cx)(g:Nat)(C:Array Value):Cx:={X with w:=X.w.setRow g C}
def kq{g:Nat}{C C':Array Value}{e:TypeId}(hg:X.w.heap[g]?=some (.cells C e (0,0))):(X.set g C').w.heap[g]?=some (.cells C' e (0,0)):=setRow_heap _ _ _ _ _ _ hg
def xg{g:Nat}{C C':Array Value}{e:TypeId}(hg:X.w.heap[g]?=some (.cells C e (0,0)))(hb:¬X.old g)(hF:∀o,X.F g o->C'[o]?=C[o]?):Ext X (X.set g C'):=by
 refine⟨rfl,(fy.refl _ _).setRow hb _,λ_ _ h=>h,λb o h=>?_,λ_ _ h=>h,λ_ _ h=>.inl h⟩;by_cases hbg:b=g;.subst hbg;rw[cell_of_row _ _ _ _ _ _ (kq hg),cell_of_row _ _ _ _ _ _ hg]<;>grind
 .have:=setRow_other X.w g b C' hbg;simp[World.cell?,Cx.set,this]
def Bs(h:aM X m t){g:Nat}{C C':Array Value}{e:TypeId}(hg:X.w.heap[g]?=some (.cells C e (0,0)))(hb:¬X.old g)(hF:∀o,X.F g o->C'[o]?=C[o]?)(hk:∀k v L,Holds m t k v->X.ρ v=some L->0<L.cap->L.b≠g):aM (X.set g C') m t:=h.move (xg hg hb hF) (λk v L a b c=>setRow_other X.w g L.b C' (hk k v L a b c)) (λ_ _ _ _ _ _ _ h=>h) λb o hb=>by have:=h.qI b o hb<;>simp_all[Holds,Cx.set]
end
def ir.val:ir->AV|.cu e=>e.val|.all v _ _ _=>v
def dS(P:Program)(X:Cx)(s:St)(a:Act)(o:Oper)(dst:Option Nat)(aZ:Nat)(r:ir):Prop:=∀(K:Act->World->Prop)(Q:Exit->Act->World->Prop),(∀Y v,Ext X Y->VR Y r.val v->aM Y (s.app dst r).mem (s.app dst r).aO->gj X Y aZ s.nv (s.app dst r).nv->K (a.put o.dst v) Y.w)->Oper.wp P o a X.w K Q
section
variable{P:Program}{X:Cx}{nt:NT}{s:St}{a:Act}{o:Oper}{dst:Option Nat}{aZ:Nat}
def dS.value{r:ir}{Y:Cx}{v:Value}(hrun:(execOp a.eval o).run P X.w=.ok (.value v) Y.w)(hx:Ext X Y)(hv:VR Y r.val v)(hm:aM Y (s.app dst r).mem (s.app dst r).aO)(hd:gj X Y aZ s.nv (s.app dst r).nv):dS P X s a o dst aZ r:=by intro K Q h;unfold Oper.wp;rw[hrun];exact h Y v hx hv hm hd
def dS.skip{r:ir}{Y:Cx}(hrun:(execOp a.eval o).run P X.w=.ok .skip Y.w)(hx:Ext X Y)(hv:VR Y r.val undef)(hm:aM Y (s.app dst r).mem (s.app dst r).aO)(hd:gj X Y aZ s.nv (s.app dst r).nv):dS P X s a o dst aZ r:=by intro K Q h;unfold Oper.wp;rw[hrun];exact h Y undef hx hv hm hd
def dS.quiet{val:AV}{rd:List (Nat×Nat×Nat)}(hs:fQ X nt s a)(h:Quiet P X o a val):dS P X s a o dst aZ (.cu {val,dD:=[],cT:=[],rd}):=by obtain⟨v,hrun,hv⟩:=h;exact .value hrun (Ext.refl X) hv hs.mem (gj.refl _ _ _)
def j3{t:TypeId}{z:List Value}(h:o6 P t=some z):∃i v,P.info? t=some i/\i.zero=some v/\z=v.cells.toList:=by unfold o6 at h;cases hi:P.info? t with|none=>grind|some i=>rw[hi]at h;cases hz:i.zero with|none=>grind|some v=>grind
def Ff{lq:Nat}(hs:fQ X nt s a)(hv:X.ρ aZ=none){d:Nat}{C:Array Value}{e:TypeId}{cs:List AV}{rd:List (Nat×Nat×Nat)}(hrun:(execOp a.eval o).run P X.w=.ok (.value (.pointer (some ⟨X.w.heap.size,0,none⟩))) (X.w.alloc (.cells C e)))(hc:aI (VC X) cs C.toList):dS P X s a o dst aZ (.cu {val:=.ptr (lq) d aZ 0 0,dD:=[(lq,d,some (.box aZ cs))],cT:=[],rd}):=.value (Y:=X.alloc C e aZ ⟨X.w.heap.size,0,C.size,1⟩) hrun (Ext.alloc hs.mem.qI hs.mem.low hv) ⟨_,xe _ _ _ _ _,by simp⟩ (N8 hs.mem _ _ hv hc) oQ
def B2(hs:fQ X nt s a)(hv:X.ρ aZ=none){t:TypeId}{z:List Value}{cs:List AV}{d:Nat}{rd:List (Nat×Nat×Nat)}(ho:o.op=.alloc t)(hz:o6 P t=some z)(hc:gi z=some cs):dS P X s a o dst aZ (.cu {val:=.ptr (s.mem.length-1) d aZ 0 0,dD:=[(s.mem.length-1,d,some (.box aZ cs))],cT:=[],rd}):=by obtain⟨i,v,hi,Hf,rfl⟩:=j3 hz;refine Ff hs hv (C:=v.cells) (e:=t) ?_ (nB hc);simp[execOp,ho,Instr.alloc,zeroValue,typeInfo,hi,Hf,newVar,newRow]
def Sy{lq:Nat}(hs:fQ X nt s a)(hv:X.ρ aZ=none){t:TypeId}{x:Operand}{x':cq}{cs:List AV}{d:Nat}{rd:List (Nat×Nat×Nat)}(ho:o.op=.box t x)(hx:dA x=some x')(hc:cellsOf (x'.ev s.slots)=some cs):dS P X s a o dst aZ (.cu {val:=.ptr lq d aZ 0 0,dD:=[(lq,d,some (.box aZ cs))],cT:=[],rd}):=by refine Ff hs hv (C:=(a.eval x).cells) (e:=t) ?_ (rO hc (bD hs hx));simp[execOp,ho,Instr.box,newVar,newRow]
def aI.one{X:Cx}:∀{cs:List AV}{vs:List Value},aI (VC X) cs vs->∀v∈vs,v.oneCell'=true
 |[],[],_,v,h=>by cases h|_::_,_::_,h,v,hv=>by
  rcases dq.1 hv with rfl|hv;.exact VC.one h.1
  .exact aI.one h.2 v hv|[],_::_,h,_,_=>h.elim|_::_,[],h,_,_=>h.elim
def aI.Zm{w:World}{F:Nat->Nat->Prop}:∀{cs:List D}{vs:List Value},aI (DR w F) cs vs->∀v∈vs,v.oneCell'=true
 |[],[],_,v,h=>by cases h|_::_,_::_,h,v,hv=>by
  rcases dq.1 hv with rfl|hv;.exact DR.one h.1
  .exact aI.Zm h.2 v hv|[],_::_,h,_,_=>h.elim|_::_,[],h,_,_=>h.elim
def oH{C:Array Value}{k:Nat}{vs:List Value}(h:k+vs.length<=C.size)(j:Nat):(C.toList.take k++vs++C.toList.drop (k+vs.length)).toArray[j]?=if k<=j/\j<k+vs.length then vs[j-k]?else C[j]?:=by grind
def PA{X:Cx}{m:List (Tr bM)}{t:Tr Unit}(h:aM X m t){lv sl av:Nat}{cells:List AV}(hg:aT m lv sl=some (.box av cells)):∃L C e,X.ρ av=some L/\L.cap=1/\X.w.heap[L.b]?=some (.cells C e (0,0))/\¬X.old L.b/\L.o+cells.length<=C.size/\(∀o,¬X.F L.b o)/\(∀k v M,Holds (cH m lv sl none) t k v->X.ρ v=some M->0<M.cap->M.b≠L.b)/\∀j x,cells[j]?=some x->∃v,C[L.o+j]?=some v/\VC X x v:=by
 obtain⟨L,hL,h1,⟨h2,C,e,h3,h4⟩,h5,h6⟩:=h.gz _ _ _ hg;refine⟨L,C,e,hL,h1,h3,h2,h4,h5,λk v M hk hv hc=>?_,λj x hj=>?_⟩
 .have hh:Holds m t k v/\k≠cF lv sl:=by
   rcases hk with⟨cV,dy,e',rfl,he',n9⟩|⟨rfl,he'⟩;.rw[cM]at he';grind[bM.fz,VC,bM.av,aT,cF,Holds]
   .exact⟨.inr ⟨rfl,he'⟩,λhq=>fP hq.symm⟩
  exact h.apart _ _ _ _ _ _ hh.1 (.inl ⟨lv,sl,_,rfl,hg,rfl,rfl⟩) hh.2 hv hL hc (by omega)
 .obtain⟨v,hv,hr⟩:=h6 j x hj;rw[cell_of_row _ _ _ _ _ _ h3]at hv<;>grind
def oR{X:Cx}{m:List (Tr bM)}{t:Tr Unit}(h:aM X m t){lv sl av:Nat}{els:List (List D)}(hg:aT m lv sl=some (.row av els)){L:Loc}(hL:X.ρ av=some L)(hc0:0<L.cap):∃C e,X.w.heap[L.b]?=some (.cells C e (0,0))/\¬X.old L.b/\L.o+L.cap*L.sz<=C.size/\(∀o,¬X.F L.b o)/\els.length<=L.cap/\(∀e∈els,e.length=L.sz)/\(∀k v M,Holds (cH m lv sl none) t k v->X.ρ v=some M->0<M.cap->M.b≠L.b)/\∀i e j x,els[i]?=some e->e[j]?=some x->∃v,C[L.o+i*L.sz+j]?=some v/\DR X.w X.F x v:=by
 obtain⟨L',hL',h1,h2,h3,h4⟩:=h.gz _ _ _ hg;have:X.ρ av=some L':=hL';rw[hL]at this;cases this;obtain⟨⟨h5,C,e,h6,h7⟩,h8⟩:=h3 hc0;refine⟨C,e,h6,h5,h7,h8,h1,h2,λk v M hk hv hc=>?_,λi f j x hi hj=>?_⟩
 .have hh:Holds m t k v/\k≠cF lv sl:=by
   rcases hk with⟨cV,dy,e',rfl,he',n9⟩|⟨rfl,he'⟩;.rw[cM]at he';grind[bM.fz,Block,bM.av,aT,cF,Holds]
   .exact⟨.inr ⟨rfl,he'⟩,λhq=>fP hq.symm⟩
  exact h.apart _ _ _ _ _ _ hh.1 (.inl ⟨lv,sl,_,rfl,hg,rfl,rfl⟩) hh.2 hv hL hc hc0
 .obtain⟨v,hv,hr⟩:=h4 i f j x hi hj;rw[cell_of_row _ _ _ _ _ _ h6]at hv<;>grind
def aM.reset{X:Cx}{m:List (Tr bM)}{t:Tr Unit}{lv sl:Nat}{e:bM}{L:Loc}(h:aM X (cH m lv sl none) t)(hL:X.ρ e.av=some L)(hE:pZ X e L)(hap:∀k v M,Holds (cH m lv sl none) t k v->X.ρ v=some M->0<M.cap->0<L.cap->M.b≠L.b):aM X (cH m lv sl (some e)) t:=(h.add (lv:=lv) (sl:=sl) hL hE λk v M a _ b c d=>hap k v M a b c d).congr (λcV dy=>by rw[cM,cM,cM]<;>grind[Holds,pZ,bM.av,cH,aT]) λ_=>rfl
def Fg{X:Cx}{m:List (Tr bM)}{t:Tr Unit}(h:aM X m t){lv sl av off:Nat}{cells new:List AV}{vs:List Value}(hg:aT m lv sl=some (.box av cells))(hoff:off+new.length<=cells.length)(hn:aI (VC X) new vs):∃L Y,X.ρ av=some L/\Ext X Y/\Y.ρ=X.ρ/\aM Y (cH m lv sl (some (.box av (splice cells off new)))) t/\(storeCells ⟨L.b,L.o+off,none⟩ vs).run P X.w=.ok () Y.w:=by
 obtain⟨L,C,e,hL,h1,h2,h3,h4,h5,h6,h7⟩:=PA h hg;have hlen:=hn.length;have hst:=run_storeCells_at P L.b (L.o+off) e vs 0 C X.w h2 (by omega) (aI.one hn);let C':=(C.toList.take (L.o+off)++vs++C.toList.drop (L.o+off+vs.length)).toArray;have rR:∀j,C'[j]?=if L.o+off<=j/\j<L.o+off+vs.length then vs[j-(L.o+off)]?else C[j]?:=oH (by omega);have hx:Ext X (X.set L.b C'):=xg h2 h3 λo ho=>absurd ho (h5 o);refine⟨L,X.set L.b C',hL,hx,rfl,?_,hst⟩;refine(Bs (h.erase lv sl) h2 h3 (λo ho=>absurd ho (h5 o)) h6).reset (e:=.box av (splice cells off new)) (L:=L) hL ⟨h1,⟨h3,C',e,kq h2,?_⟩,h5,λj x hj=>?_⟩ λk v M a b c _=>h6 k v M a b c
 .rw[lz _ _ _ hoff];have hs:C'.size=C.size:=by show(C.toList.take (L.o+off)++vs++C.toList.drop (L.o+off+vs.length)).toArray.size=C.size;simp;omega
  omega
 .rw[eE _ _ _ hoff]at hj;rw[cell_of_row _ _ _ _ _ _ (kq h2),rR];by_cases hb:off<=j/\j<off+new.length;.rw[be hb]at hj;obtain⟨v,hv,hr⟩:=hn.get _ _ hj;rw[be (by omega),show L.o+j-(L.o+off)=j-off by omega];exact⟨v,hv,hr.ext hx⟩
  .rw[bi hb]at hj;obtain⟨v,hv,hr⟩:=h7 j x hj;rw[bi (by omega)];exact⟨v,hv,hr.ext hx⟩
def Fh{X:Cx}{m:List (Tr bM)}{t:Tr Unit}(h:aM X m t){lv sl av k:Nat}{els els':List (List D)}{vs:List Value}{L:Loc}(hg:aT m lv sl=some (.row av els))(hL:X.ρ av=some L)(hc:0<L.cap)(hk:k+vs.length<=L.cap*L.sz)(hn:aI (DR X.w X.F) ((els'.flatten.drop k).take vs.length) vs)(hl':∀e∈els',e.length=L.sz)(hle:els'.length<=L.cap)(hold:∀j x,els'.flatten[j]?=some x->(k<=j/\j<k+vs.length)\/els.flatten[j]?=some x):∃Y,Ext X Y/\Y.ρ=X.ρ/\aM Y (cH m lv sl (some (.row av els'))) t/\(storeCells ⟨L.b,L.o+k,none⟩ vs).run P X.w=.ok () Y.w:=by
 obtain⟨C,e,h2,h3,h4,h5,h8,h9,h6,h7⟩:=oR h hg hL hc;have hst:=run_storeCells_at P L.b (L.o+k) e vs 0 C X.w h2 (by omega) (aI.Zm hn);let C':=(C.toList.take (L.o+k)++vs++C.toList.drop (L.o+k+vs.length)).toArray;have rR:∀j,C'[j]?=if L.o+k<=j/\j<L.o+k+vs.length then vs[j-(L.o+k)]?else C[j]?:=oH (by omega);have hx:Ext X (X.set L.b C'):=xg h2 h3 λo ho=>absurd ho (h5 o);have hs:C'.size=C.size:=by show(C.toList.take (L.o+k)++vs++C.toList.drop (L.o+k+vs.length)).toArray.size=C.size;simp;omega
 refine⟨X.set L.b C',hx,rfl,?_,hst⟩;refine(Bs (h.erase lv sl) h2 h3 (λo ho=>absurd ho (h5 o)) h6).reset (e:=.row av els') (L:=L) hL ⟨hle,hl',λ_=>⟨⟨h3,C',e,kq h2,by omega⟩,h5⟩,λi f j x hi hj=>?_⟩ λk v M a b c _=>h6 k v M a b c;have GZ:j<L.sz:=by rw[<-hl' f (jn hi)];exact(db.1 hj).1
 have hf:=gD hl' i j f hi GZ;rw[hj]at hf;rw[cell_of_row _ _ _ _ _ _ (kq h2),rR];by_cases hb:k<=i*L.sz+j/\i*L.sz+j<k+vs.length
 .rw[be (by omega)];have hq:((els'.flatten.drop k).take vs.length)[i*L.sz+j-k]?=some x:=by rw[gg,be (by omega),sa,show k+(i*L.sz+j-k)=i*L.sz+j by omega];exact hf
  obtain⟨v,hv,hr⟩:=hn.get _ _ hq;rw[show L.o+i*L.sz+j-(L.o+k)=i*L.sz+j-k by omega];exact⟨v,hv,hr.ext hx⟩
 .rw[bi (by omega)];have hq:=(hold _ _ hf).resolve_left hb;have hlt:i*L.sz+j<els.length*L.sz:=by rw[<-bz h9];exact(db.1 hq).1
  have hi':i<els.length:=by
   rcases i9 i els.length with hi'|hi';.exact hi'
   .have:=d8 L.sz hi';omega
  have hg2:=gD h9 i j _ (aw hi') GZ;rw[hq]at hg2;obtain⟨v,hv,hr⟩:=h7 i _ j x (aw hi') hg2.symm;exact⟨v,hv,hr.ext hx⟩
end
def kF:∀(u v:List (Nat×Nat×Option bM))(m:List (Tr bM)),bI m (u++v)=bI (bI m u) v|[],_,_=>rfl|(lv,sl,e)::u,v,m=>by exact kF u v _
def qK{α:Type}(cs new:List α)(off:Nat)(h:off<=cs.length):((splice cs off new).drop off).take new.length=new:=by grind[splice]
def Sz{sz:Nat}{els:List (List D)}(hl:∀e∈els,e.length=sz){i off:Nat}{e ds:List D}(hi:els[i]?=some e)(ho:off+ds.length<=sz):(els.set i (splice e off ds)).flatten=splice els.flatten (i*sz+off) ds:=by
 have he:=hl e (jn hi);have hlt:i<els.length:=(db.1 hi).1;have hle:i*sz+sz<=els.flatten.length:=by rw[bz hl];have:=d8 sz (show i+1<=els.length from hlt);rw[d9]at this;omega
 have h1:(splice e off ds).length=sz:=by rw[lz _ _ _ (by omega),he]
 rw[tn hl i _ hlt h1];apply lO;intro j;have q1:=eE els.flatten (splice e off ds) (i*sz) (by omega) j;have q2:=eE els.flatten ds (i*sz+off) (by omega) j;have q3:=eE e ds off (by omega) (j-i*sz);rw[q1,q2,h1];by_cases hb:i*sz<=j/\j<i*sz+sz
 .rw[be hb,q3];by_cases hc:off<=j-i*sz/\j-i*sz<off+ds.length;.rw[be hc,be (by omega),show j-i*sz-off=j-(i*sz+off)by omega]
  .rw[bi hc,bi (by omega)];have:=gD hl i (j-i*sz) e hi (by omega);rw[show i*sz+(j-i*sz)=j by omega]at this;exact this.symm
 .rw[bi hb,bi (by omega)]
section
variable{P:Program}{X:Cx}{nt:NT}{s:St}{a:Act}{o:Oper}{dst:Option Nat}{aZ:Nat}
def gj.I9{X Y:Cx}{v n:Nat}(h:Y.ρ=X.ρ):gj X Y v n n:=⟨bd _,λu L hu=>.inl (by grind)⟩
def SA(hs:fQ X nt s a){t:TypeId}{x v:Operand}{x' v':cq}{sz:Nat}{e:gu}(ho:o.op=.store t x v)(hsz:dg P t=some sz)(hx:dA x=some x')(hv:dA v=some v')(hr:rM s.mem sz (x'.ev s.slots) (v'.ev s.slots)=some e):dS P X s a o dst aZ (.cu e):=by
 obtain⟨i,hi,his⟩:=fZ hsz;have hp:=bD hs hx;have hval:=bD hs hv;have run:∀(b off:Nat)(Y:Cx),a.eval x=.pointer (some ⟨b,off,none⟩)->(a.eval v).cells.size=sz->(storeCells ⟨b,off,none⟩ (a.eval v).cells.toList).run P X.w=.ok () Y.w->(execOp a.eval o).run P X.w=.ok .skip Y.w:=by intro b off Y h1 h2 h3;simp[execOp,ho,Instr.storeAt,h1,jZ,storeVar,sizeOf,typeInfo,hi,his,h2,h3]
 unfold rM at hr;split at hr
 .rename_i lv sl av j off new hq hc;rw[hq]at hp;obtain⟨L,hL,hp⟩:=hp;have B3:=rO hc hval;split at hr
  .rename_i hlen;have hsize:(a.eval v).cells.size=sz:=by rw[<-hlen,B3.length,ii]
   split at hr
   .rename_i gU cs hg;split at hr
    .rename_i EE hj;split at hr;.rename_i hle;cases hr;have EE:=beq_true.1 EE;have hj:=beq_true.1 hj;subst EE;subst hj;obtain⟨L',Y,hL',hx',hρ,hm,hst⟩:=Fg (P:=P) hs.mem hg (by rw[hlen];exact hle) B3;rw[hL]at hL';cases hL';refine .skip (Y:=Y) (run L.b (L.o+off) Y (by rw[hp];simp) hsize hst) hx' o7 hm (gj.I9 hρ)
     grind
    grind
   .rename_i gU els hg;split at hr
    .rename_i EE;split at hr
     .rename_i el ds ks hel hds;split at hr
      .rename_i hle;obtain⟨hle,hks⟩:=hle;cases hr;have EE:=beq_true.1 EE;subst EE;have LR:=G2 hs.mem (ks:=ks) hds B3 λp hp=>hp;have EF:=G1 hs.mem ks;have hx1:=rQ hs.mem ks;have hg1:aT (bI s.mem (eR s.mem ks)) lv sl=some (.row gU els):=by rw[rP,bi hks,hg]
       have hlt:j<els.length:=(db.1 hel).1;obtain⟨L',hL',hE⟩:=hs.mem.gz _ _ _ hg;have:X.ρ gU=some L':=hL';rw[hL]at this;cases this;obtain⟨e1,e2,_,_⟩:=hE;have hcap:0<L.cap:=by omega
       have B4:=e2 el (jn hel);have hlen':ds.length=(a.eval v).cells.toList.length:=LR.length;have azE:(a.eval v).cells.toList.length=sz:=by grind
       have hfl:=Sz (ds:=ds) e2 hel (off:=off) (by omega);have aqI:=bz e2;have hjl:j*L.sz+L.sz<=els.length*L.sz:=by have:=d8 L.sz (show j+1<=els.length from hlt)<;>grind
       have hjc:els.length*L.sz<=L.cap*L.sz:=d8 _ e1;obtain⟨Y,hx',hρ,hm,hst⟩:=Fh (P:=P) EF (k:=j*L.sz+off) (els':=els.set j (splice el off ds)) (vs:=(a.eval v).cells.toList) hg1 hL hcap (by omega) (by rw[hfl,<-hlen',qK _ _ _ (by omega)];exact LR) (λf hf=>by
        rcases List.mem_or_eq_of_mem_set hf with hf|rfl;.exact e2 f hf
        .rw[lz _ _ _ (by omega),B4]) (by simpa using e1) (λq y hq=>by
        rw[hfl,eE _ _ _ (by omega)]at hq;split at hq;.exact .inl (by omega)
        .exact .inr hq);refine .skip (Y:=Y) (run L.b (L.o+j*L.sz+off) Y hp hsize (by rw[fb];exact hst)) (hx1.trans hx') o7 ?_ (gj.I9 hρ);show aM Y (bI s.mem (eR s.mem ks++_)) s.aO;rw[kF];exact hm
      grind
     grind
    grind
   .cases hr
   .cases hr
   grind
  grind
 grind
def PB{w:World}{F:Nat->Nat->Prop}{v:Value}{x:D}(h:vz v=some x):DR w F x v:=by cases v with
 |slice a n c=>
  simp[vz]at h;split at h;.rename_i hv;cases hv;cases h;exact .sl [] none 0 0 0 0 0 (λ_ _=>undef) rfl (bd _) (by simp) (λh=>absurd h (by simp)) (by simp) (by simp) (by simp)
  all_goals first|(cases h;done)|simp_all
 |agg cs=>simp[vz]at h|tuple cs=>simp[vz]at h|func fn first cap=>simp[vz]at h|_=>simp only[vz]at h;injection h with h;subst h;exact DR.sc _ rfl
def mI{w:World}{F:Nat->Nat->Prop}:∀{vs:List Value}{xs:List D},jY vs=some xs->aI (DR w F) xs vs
 |[],xs,h=>by grind[jY,aI]|v::r,xs,h=>by
  simp[jY]at h;split at h;.rename_i x xs' h1 h2;cases h;exact⟨PB h1,mI h2⟩
  grind
def jA{w:World}{F:Nat->Nat->Prop}{z:List D}{Z:Array Value}{sz:Nat}(hz:aI (DR w F) z Z.toList)(hl:z.length=sz)(h0:0<sz)(n k:Nat)(hk:n*sz<=k):aI (DR w F) (List.replicate n z).flatten ((madeCells Z k).toList.take (n*sz)):=by
 have hu:∀e∈List.replicate n z,e.length=sz:=λe he=>by rw[(rx.1 he).2];exact hl
 refine .vA (by rw[bz hu];simp[madeCells];omega) λi x v hx hv=>?_;have hi:i<n*sz:=by grind
 have hq:i/sz<n:=(Nat.div_lt_iff_lt_mul h0).2 hi;have hg:=gD hu (i/sz) (i%sz) z (by rw[ka,be hq]) (At _ h0);rw[show i/sz*sz+i%sz=i by rw[ww];exact Nat.div_add_mod i sz,hx]at hg;have hZ:Z.size=sz:=by rw[<-hl,hz.length,ii]
 obtain⟨u,mq,hr⟩:=hz.get _ _ hg.symm;have:v=u:=by simp only[madeCells,Array.getElem?_toList,Array.getElem?_map]at hv<;>grind
 grind
def qt{Z:Array Value}{k:Nat}:(madeCells Z k).toList.take k=(madeCells Z k).toList:=f8 (by simp[madeCells])
def Ja(hs:fQ X nt s a){sz:Nat}{K:List (Nat×Nat)}:∀(ps:List (Nat×Operand))(l:List (Nat×cq))(els els':List (List D))(ks:List (Nat×Nat))(C:Array Value),pY ps=some l->(∀e∈els,e.length=sz)->aI (DR X.w (X.nK s.mem K).F) els.flatten C.toList->qH s.mem s.slots sz els l=some (els',ks)->(∀p∈ks,p∈K)->∃C',Instr.fill (λi=>some (i*sz,sz)) C (ps.map λp=>(p.1,a.eval p.2))=some C'/\aI (DR X.w (X.nK s.mem K).F) els'.flatten C'.toList/\(∀e∈els',e.length=sz)/\els'.length=els.length
 |[],l,els,els',ks,C,hp,hl,hd,hf,hk=>by cases hp;cases hf;exact⟨C,rfl,hd,hl,rfl⟩|(i,x)::ps,l,els,els',ks,C,hp,hl,hd,hf,hk=>by
  simp[pY]at hp;split at hp
  .rename_i y ys h2 h3;cases hp;simp[qH]at hf;split at hf
   .rename_i e k1 he;split at hf
    .rename_i hc;obtain⟨hc1,qD⟩:=hc;split at hf;.rename_i adz k2 hf';injection hf with hf;injection hf with e1 e2;subst e1;subst e2;unfold E4 at he;cases hcs:cellsOf (y.ev s.slots)with|none=>grind|some cs=>
      rw[hcs]at he;have hv:=G2 hs.mem (ks:=K) he (rO hcs (bD hs h2)) λp hp=>hk p (by simp[hp]);have hsz:(a.eval x).cells.size=sz:=by rw[<-hc1,hv.length,ii]
      have hC:C.size=els.length*sz:=by rw[<-bz hl,hd.length,ii]
      have hle:i*sz+sz<=C.size:=by have:=d8 sz (show i+1<=els.length from qD)<;>grind
      obtain⟨C',h4,h5,h6,h7⟩:=Ja hs ps ys (els.set i e) adz k2 ((a.eval x).cells.zipIdx.foldl (λcs x=>match x with|(c,j)=>cs.setIfInBounds (i*sz+j) c) C) h3 (λf hf=>by
       rcases List.mem_or_eq_of_mem_set hf with hf|rfl;.exact hl f hf
       .exact hc1) (by rw[Fc _ _ C (by omega),tn hl i e qD hc1];exact hd.splice hv) hf' λp hp=>hk p (by simp[hp]);simp only[gc,Instr.fill,hsz,ne_eq,wt,tx,Bool.false_or]<;>grind
     grind
    grind
   grind
  grind
def tw{t e:TypeId}{n sz:Nat}{ps:Array (Nat×Operand)}{i:TypeInfo}{zv:Value}{C':Array Value}(ho:o.op=.buildSlice t n ps)(ht:P.underlying t=some (.slice e))(hi:P.info? e=some i)(his:i.size=sz)(hz:i.zero=some zv)(Ez:n*sz<=16777216)(hf:Instr.fill (λi=>some (i*sz,sz)) (madeCells zv.cells (n*sz)) (ps.toList.map λp=>(p.1,a.eval p.2))=some C'):(execOp a.eval o).run P X.w=.ok (.value (.slice (some ⟨X.w.heap.size,0,none⟩) n n)) (X.w.alloc (.cells C' e)):=by
 have hn:¬(16777216<n*sz):=by omega
 have key:(Instr.buildSlice t n (ps.map λ(x:Nat×Operand)=>(x.1,a.eval x.2))).run P X.w=.ok (.slice (some ⟨X.w.heap.size,0,none⟩) n n) (X.w.alloc (.cells C' e)):=by
  unfold madeCells at hf;by_cases h0:n*sz=0;.have e0:Array.range 0=#[]:=rfl;rw[h0,e0,Array.map_empty]at hf;simp[Instr.buildSlice,run_underlying ht,sizeOf,typeInfo,hi,his,h0,newRow,e0,hf]
  .simp[Instr.buildSlice,run_underlying ht,sizeOf,typeInfo,hi,his,hn,h0,zeroValue,hz,hf,newRow]
 simp[execOp,ho];simp[key]
end
section
variable{P:Program}{X:Cx}{nt:NT}{s:St}{a:Act}{o:Oper}{dst:Option Nat}{aZ:Nat}
def SB{X:Cx}{m:List (Tr bM)}{t:Tr Unit}{v:Nat}(h:aM X m (t.set v (some ()))):aM X m t:=h.less (λ_ _ _ h=>h) λu hu=>by rw[Tr.cD]<;>grind
def EG(hs:fQ X nt s a)(hfr:X.ρ aZ=none){t e:TypeId}{n sz d:Nat}{ps:Array (Nat×Operand)}{z:List D}{zl:List Value}{l:List (Nat×cq)}{els:List (List D)}{ks:List (Nat×Nat)}{rd:List (Nat×Nat×Nat)}(ho:o.op=.buildSlice t n ps)(ht:P.underlying t=some (.slice e))(hsz:dg P e=some sz)(hz:o6 P e=some zl)(EH:jY zl=some z)(hl:pY ps.toList=some l)(Ez:n*sz<=16777216)(hzl:z.length=sz)(h0:0<sz)(hf:qH s.mem s.slots sz (List.replicate n z) l=some (els,ks)):dS P X s a o dst aZ (.cu {val:=.own els .full,dD:=eR s.mem ks,cT:=[],rd})/\((s.mem.length-1,d)∉ks->dS P X s a o dst aZ (.cu {val:=.ref (s.mem.length-1) d aZ 0 n sz,dD:=eR s.mem ks++[(s.mem.length-1,d,some (.row aZ els))],cT:=[],rd})):=by
 obtain⟨i,zv,hi,Hf,rfl⟩:=j3 hz;obtain⟨i',hi',his⟩:=fZ hsz;rw[hi]at hi';simp_all;have hZ:aI (DR X.w (X.nK s.mem ks).F) z zv.cells.toList:=mI EH;have vD:=jA hZ hzl h0 n (n*sz) (bd _);rw[qt]at vD;obtain⟨C',h1,h2,h3,h4⟩:=Ja hs ps.toList l _ els ks (madeCells zv.cells (n*sz)) hl (λe he=>by rw[(rx.1 he).2];exact hzl) vD hf λp hp=>hp;have hrun:=tw (P:=P) (X:=X) ho ht hi his Hf Ez h1;have EF:=G1 hs.mem ks;have hx1:=rQ hs.mem ks;have hen:els.length=n:=by grind
 have hC:C'.size=n*sz:=by rw[<-hen,<-bz h3,h2.length,ii]
 refine⟨?_,λhnk=>?_⟩
 .have nt:=N9 (X:=X.nK s.mem ks) EF (C:=C') (e:=e) (v:=aZ) (els:=els) (sz:=sz) (cap:=n) (vs:=C'.toList) hfr h3 (by omega) (by omega) (λj u hj=>by simpa using hj) h2;obtain⟨g1,g2,g3,g4⟩:=nt;refine .value hrun (hx1.trans g1) ⟨some ⟨X.w.heap.size,0,none⟩,X.w.heap.size,0,sz,?_,λ_=>rfl,g3⟩ (SB g2) ⟨bd _,λv L h=>?_⟩;.rw[hen]
  .rcases g4.2 v L h with h|h|h;.exact .inl h
   .grind
   .omega
 .have nr:=He (X:=X.nK s.mem ks) EF (C:=C') (e:=e) (v:=aZ) (els:=els) (sz:=sz) (cap:=n) (vs:=C'.toList) (s.mem.length-1) d hfr h3 (by omega) (by omega) (λj u hj=>by simpa using hj) h2;refine .value (Y:=(X.nK s.mem ks).alloc C' e aZ ⟨X.w.heap.size,0,sz,n⟩) hrun (hx1.trans (Ext.alloc EF.qI EF.low hfr)) ⟨⟨X.w.heap.size,0,sz,n⟩,some ⟨X.w.heap.size,0,none⟩,n,xe _ _ _ _ _,rfl,rfl,bd _,λ_=>⟨by simp,by simp⟩⟩ ?_ (oQ (X:=X.nK s.mem ks));show aM _ (bI s.mem (eR s.mem ks++_)) s.aO;rw[kF];exact nr
def xh{sz:Nat}:∀{ps:List (Nat×Operand)}{l:List (Nat×cq)},pY ps=some l->tg (λi=>some (i*sz,sz)) ps=some (l.map λp=>(p.1*sz,sz,p.2))
 |[],l,h=>by cases h;rfl|(i,x)::r,l,h=>by
  simp[pY]at h;split at h;.rename_i y ys h1 h2;cases h;simp[tg,h1,xh h2,gc]
  grind
def aI.adA{X:Cx}:∀{ds:List D}{vs:List Value},aI (DR X.w X.F) ds vs->aI (VC X) (ds.map .d) vs|[],[],_=>trivial|_::_,_::_,h=>⟨h.1,aI.adA h.2⟩|[],_::_,h=>h.elim|_::_,[],h=>h.elim
def Jb(hs:fQ X nt s a)(hfr:X.ρ aZ=none){t e:TypeId}{n sz d:Nat}{ps:Array (Nat×Operand)}{z:List D}{zl:List Value}{l:List (Nat×cq)}{cs:List AV}{rd:List (Nat×Nat×Nat)}(ho:o.op=.buildSlice t n ps)(ht:P.underlying t=some (.slice e))(hsz:dg P e=some sz)(hz:o6 P e=some zl)(EH:jY zl=some z)(hl:pY ps.toList=some l)(Ez:n*sz<=16777216)(hzl:z.length=sz)(h0:0<sz)(hn:n≠0)(hf:qG s.slots ((List.replicate n z).flatten.map .d) (l.map λp=>(p.1*sz,sz,p.2))=some cs):dS P X s a o dst aZ (.cu {val:=.fX (s.mem.length-1) d aZ 0 n sz,dD:=[(s.mem.length-1,d,some (.box aZ cs))],cT:=[],rd}):=by obtain⟨i,zv,hi,Hf,rfl⟩:=j3 hz;obtain⟨i',hi',his⟩:=fZ hsz;rw[hi]at hi';cases hi';have hZ:aI (DR X.w X.F) z zv.cells.toList:=mI EH;have vD:=jA hZ hzl h0 n (n*sz) (bd _);rw[qt]at vD;obtain⟨C',h1,h2⟩:=BZ hs (λi=>some (i*sz,sz)) ps.toList _ _ cs (madeCells zv.cells (n*sz)) (xh hl) vD.adA hf;have hrun:=tw (P:=P) (X:=X) ho ht hi his Hf Ez h1;exact .value (Y:=X.alloc C' e aZ ⟨X.w.heap.size,0,C'.size,1⟩) hrun (Ext.alloc hs.mem.qI hs.mem.low hfr) ⟨_,xe _ _ _ _ _,by simp,by omega⟩ (N8 hs.mem _ _ hfr h2) oQ
def Hg(hs:fQ X nt s a)(hfr:X.ρ aZ=none){t e:TypeId}{l c d:Nat}{i:TypeInfo}{ln cp:Operand}{ln' cp':cq}{z:List D}{zl:List Value}{rd:List (Nat×Nat×Nat)}(ho:o.op=.makeSlice t ln cp)(ht:P.underlying t=some (.slice e))(hi:P.info? e=some i)(hz:o6 P e=some zl)(EH:jY zl=some z)(hzl:z.length=i.size)(h0:0<i.size)(hln:dA ln=some ln')(hcp:dA cp=some cp')(hl:gN (ln'.ev s.slots)=some l)(hc:gN (cp'.ev s.slots)=some c)(hlc:l<=c)(hby:i.bytes*c<=kP)(h63:c<=fN):dS P X s a o dst aZ (.cu {val:=.ref (s.mem.length-1) d aZ 0 l i.size,dD:=[(s.mem.length-1,d,some (.row aZ (List.replicate l z)))],cT:=[],rd}):=by
 obtain⟨i',zv,hi',Hf,rfl⟩:=j3 hz;rw[hi]at hi';cases hi';obtain⟨kl,hle⟩:=kR hl (bD hs hln);obtain⟨kc,hce⟩:=kR hc (bD hs hcp);have hr:=run_make (P:=P) X.w t e i zv ht hi Hf kl kc l c (by omega) (by omega) (by
  have:((i.bytes*c:Nat):Int)<=281474976710656:=by unfold kP at hby;omega
  rwa[pi]at this) (by unfold fN at h63;omega);have hZ:aI (DR X.w X.F) z zv.cells.toList:=mI EH;have vD:=jA hZ hzl h0 l (c*i.size) (d8 _ hlc);have nr:=He hs.mem (C:=madeCells zv.cells (c*i.size)) (e:=e) (v:=aZ) (els:=List.replicate l z) (sz:=i.size) (cap:=c) (s.mem.length-1) d hfr (λe he=>by rw[(rx.1 he).2];exact hzl) (by simp[madeCells]) (by simpa using hlc) (vs:=(madeCells zv.cells (c*i.size)).toList.take (l*i.size)) (λj u hj=>by
   rw[gg]at hj;split at hj;.simpa using hj
   .cases hj) vD;refine .value (Y:=X.alloc (madeCells zv.cells (c*i.size)) e aZ ⟨X.w.heap.size,0,i.size,c⟩) ?_ (Ext.alloc hs.mem.qI hs.mem.low hfr) ⟨⟨X.w.heap.size,0,i.size,c⟩,some ⟨X.w.heap.size,0,none⟩,c,xe _ _ _ _ _,rfl,rfl,hlc,λ_=>⟨by simp,by simp⟩⟩ nr oQ;simp[execOp,ho,hle,hce,hr];rfl
def Bt{X:Cx}{m:List (Tr bM)}{t:Tr Unit}(h:aM X m t){y:AV}{news:List (List D)}{v:Value}{sz:Nat}(he:gP m y=some news)(hv:VR X y v)(hl:∀e∈news,e.length=sz)(h0:0<sz):∃vs:List Value,aI (DR X.w X.F) news.flatten vs/\(∀w:World,(Builtin.lenOf v).run P w=.ok news.length w)/\(∀w:World,(∀b o,w.cell? ⟨b,o,none⟩=X.w.cell? ⟨b,o,none⟩)->∀n,n<=news.length->(Builtin.firstCells sz n v).run P w=.ok (vs.take (n*sz)).toArray w):=by
 have data:∀els,dQ m y=some els->els=news->∃vs:List Value,aI (DR X.w X.F) news.flatten vs/\(∀w:World,(Builtin.lenOf v).run P w=.ok news.length w)/\(∀w:World,(∀b o,w.cell? ⟨b,o,none⟩=X.w.cell? ⟨b,o,none⟩)->∀n,n<=news.length->(Builtin.firstCells sz n v).run P w=.ok (vs.take (n*sz)).toArray w):=by
  rintro els he' rfl;have he:=he';obtain⟨ad,cap,sz',b,o,rfl,h2,h3,h4⟩:=tu h he hv;obtain⟨vs,h5,h6⟩:=xb h4;refine⟨vs,h6,λw=>rfl,λw hw n hn=>?_⟩;by_cases hz:els.length=0
  .have hn:n=0:=by omega
   subst hn;cases ad with|none=>simp[Builtin.firstCells]|some ad=>simp[Builtin.firstCells,loadCells,loadCellsFrom]
  .have hlt:0<els.length:=by omega
   have:=h3 hlt;subst this;have hs':sz'=sz:=by have hm:=fw hlt;rw[<-h4.1 _ hm,hl _ hm]
   subst hs';have hlen:(vs.take (n*sz')).length=n*sz':=by
    have:vs.length=els.length*sz':=by rw[<-h6.length,bz hl]
    simp_all
   have:=run_loadCells_list (P:=P) w ⟨b,o,none⟩ (vs.take (n*sz')) λj u hj=>by
    rw[Addr.add_lit,hw];rw[gg]at hj;split at hj;.exact h5 j u hj
    .cases hj
   rw[hlen]at this;simpa[Builtin.firstCells]using this
 unfold gP at he;split at he
 .rename_i bs;simp_all;have hv:=hv.sc;subst hv;have hlen:news.length=bs.size:=by rw[<-he];simp
  refine⟨bs.data.toList.map λc=>.int .u8 c.toNat,?_,λw=>by rw[hlen];rfl,λw _ n hn=>?_⟩;.rw[<-he];generalize bs.data.toList=l;induction l with|nil=>trivial|cons c l ih=>exact⟨DR.sc _ rfl,ih⟩
  .by_cases hz:news.length=0
   .have hn:n=0:=by omega
    subst hn;simp[Builtin.firstCells]
   .have hs1:sz=1:=by
     have hlt:0<news.length:=by omega
     have h1:=hl _ (fw hlt)<;>grind
    simp[Builtin.firstCells,Sem.run_pure,rp]<;>grind
 grind
end
section
variable{P:Program}
def Hh(P:Program)(u:TypeId):Prop:=(∃e,P.underlying u=some (.slice e))\/P.underlying u=some .string
inductive Src(P:Program)(u:TypeId)(i:TypeInfo)(w:World)(y:Value)(m:Nat)(new:List Value):Prop|val(hu:Hh P u)(hl:(Builtin.lenOf y).run P w=.ok m w)(hf:(Builtin.firstCells i.size m y).run P w=.ok new.toArray w)(hf':(Builtin.firstCells i.size m y).run P w.drew=.ok new.toArray w.drew)|zero(k k':IntKind)(z:Value)(hu:P.underlying u=some (.int k))(hz:i.zero=some z)(hzs:z.cells.size=i.size)(hy:y=.int k' m)(h63:m<=fN)(hby:m*i.bytes<=kP)(hn:new=(Builtin.zeroCells z.cells m).toList)
def Jc{m:Nat}(h:m<=fN):IntKind.i64.wrap (m:Int)=m:=by unfold fN at h;rw[IntKind.wrap_i64];omega
def kS{t u ty e:TypeId}{i:TypeInfo}{w:World}{ad:Option Addr}{n cap m:Nat}{y:Value}{new:List Value}(ht:P.underlying t=some (.slice e))(hs:Src P u i w y m new)(hi:P.info? e=some i)(hroom:n+m<=cap):(Builtin.append_ #[t,u] ty #[.slice ad n cap,y]).run P w=match ad with
   |some a=>((storeCells (a.add (n*i.size)) new).run P w).andThen λ_ w'=>.ok (.slice ad (n+m) cap) w'
   |none=>.ok (.slice none (n+m) cap) w:=by cases hs with|val hu hl hf=>
  rcases hu with⟨e',hd⟩|hd;.cases ad<;>simp[Builtin.append_,run_underlying ht,run_underlying hd,sizeOf,typeInfo,hi,hl,hroom,hf]
  .cases ad<;>simp[Builtin.append_,run_underlying ht,run_underlying hd,sizeOf,typeInfo,hi,hl,hroom,hf]|zero k k' z hu hz hzs hy h63 hby hn=>
  subst hy hn;have hw:=Jc h63;have h0:¬((m:Int)<0):=by omega
  have h48:¬(281474976710656<((m:Int)*i.bytes)):=by rw[<-pi];unfold kP at hby;omega
  by_cases YU:m*i.size=0
  .have hc:Builtin.zeroCells z.cells m=#[]:=by
    have:m*z.cells.size=0:=by rw[hzs];exact YU
    simp[Builtin.zeroCells,this]
   cases ad<;>simp[Builtin.append_,run_underlying ht,run_underlying hu,sizeOf,typeInfo,hi,asInt,asIntOf,hw,h0,h48,YU,hroom,hc]
  .cases ad<;>simp[Builtin.append_,run_underlying ht,run_underlying hu,sizeOf,typeInfo,zeroValue,hi,hz,asInt,asIntOf,hw,h0,h48,YU,hroom]
def Jd{t u ty e:TypeId}{i:TypeInfo}{z:Value}{w:World}{ad:Option Addr}{n cap m:Nat}{y:Value}{old new:List Value}(ht:P.underlying t=some (.slice e))(hs:Src P u i w y m new)(hi:P.info? e=some i)(hz:i.zero=some z)(ho:(Builtin.firstCells i.size n (.slice ad n cap)).run P w.drew=.ok old.toArray w.drew)(hgrow:cap<n+m)(h63:n+m<=fN)(hby:(n+m)*i.bytes<=kP):(Builtin.append_ #[t,u] ty #[.slice ad n cap,y]).run P w=.ok (.slice (some ⟨w.heap.size,0,none⟩) (n+m) (grownCap w (n+m) cap e)) (w.drew.alloc (.cells (old.toArray++new.toArray++Builtin.zeroCells z.cells (grownCap w (n+m) cap e-(n+m))) e)):=by
 have hn:¬(n+m<=cap):=by omega
 have h63':¬(9223372036854775807<((n:Int)+(m:Int))):=by grind[kP,fN]
 have Zn:¬(281474976710656<Builtin.nextslicecap (n+m) cap*i.bytes):=by have:=growslice_fits (need:=n+m) (old:=cap) (bytes:=i.bytes) hgrow (by unfold kP at hby;omega);omega
 cases hs with|val hu hl _ hf=>
  rcases hu with⟨e',hd⟩|hd;.simp[Builtin.append_,run_underlying ht,sizeOf,typeInfo,zeroValue,hi,hz,run_underlying hd,hl,hn,h63',Zn,Question.forced,ho,hf,newRow,grownCap];congr 2;apply Array.ext';simp
  .simp[Builtin.append_,run_underlying ht,sizeOf,typeInfo,zeroValue,hi,hz,run_underlying hd,hl,hn,h63',Zn,Question.forced,ho,hf,newRow,grownCap];congr 2;apply Array.ext';simp|zero k k' z' hu L6 hzs hy aqK aqL hnew=>
  rw[hz]at L6;injection L6 with L6;subst L6;subst hy hnew;have hw:=Jc aqK;have h0:¬((m:Int)<0):=by omega
  have h48:¬(281474976710656<((m:Int)*i.bytes)):=by rw[<-pi];unfold kP at aqL;omega
  by_cases YU:m*i.size=0
  .have hc:Builtin.zeroCells z.cells m=#[]:=by
    have:m*z.cells.size=0:=by rw[hzs];exact YU
    simp[Builtin.zeroCells,this]
   simp[Builtin.append_,run_underlying ht,run_underlying hu,sizeOf,typeInfo,zeroValue,hi,hz,asInt,asIntOf,hw,h0,h48,hc,hn,h63',Zn,Question.forced,ho,newRow,grownCap]
  .simp[Builtin.append_,run_underlying ht,run_underlying hu,sizeOf,typeInfo,zeroValue,hi,hz,asInt,asIntOf,hw,h0,h48,YU,hn,h63',Zn,Question.forced,ho,newRow,grownCap]
variable{X:Cx}{nt:NT}{s:St}{a:Act}{o:Oper}{dst:Option Nat}{aZ:Nat}
def Cx.name(X:Cx)(v:Nat)(L:Loc):Cx:={X with ρ:=λu=>if u=v then some L else X.ρ u}
def eS{X:Cx}{v:Nat}{L:Loc}(hv:X.ρ v=none):Ext X (X.name v L):=⟨rfl,fy.refl _ _,λ_ _ h=>h,λ_ _ _=>rfl,λu M hu=>by grind[Cx.name],λ_ _ h=>.inl h⟩
def gW{X:Cx}{m:List (Tr bM)}{t:Tr Unit}{v:Nat}{L:Loc}(h:aM X m t)(hv:X.ρ v=none):aM (X.name v L) m t:=h.move (eS hv) (λ_ _ _ _ _ _=>rfl) (λ_ _ _ _ _ _ _ h=>h) h.qI
def ff{X:Cx}{v:Nat}{L:Loc}:(X.name v L).ρ v=some L:=be rfl
def je{X:Cx}{v n:Nat}{L:Loc}:gj X (X.name v L) v n n:=⟨bd _,λu M h=>by grind[Cx.name]⟩
def Cx.drew(X:Cx):Cx:={X with w:=X.w.drew}
def qL{X:Cx}:Ext X X.drew:=⟨rfl,(fy.refl _ _).drew,λ_ _ h=>h,λ_ _ _=>rfl,λ_ _ h=>h,λ_ _ h=>.inl h⟩
def B5{X:Cx}{m:List (Tr bM)}{t:Tr Unit}(h:aM X m t):aM X.drew m t:=h.move qL (λ_ _ _ _ _ _=>rfl) (λ_ _ _ _ _ _ _ h=>h) h.qI
def zT{x y:Operand}{t u:TypeId}{v:Value}{w:World}(ho:o.op=.call {callee:=.builtin .append,args:=#[x,y],argTypes:=#[t,u]})(hr:(Builtin.append_ #[t,u] o.type #[a.eval x,a.eval y]).run P X.w=.ok v w):(execOp a.eval o).run P X.w=.ok (.value v) w:=by simp[execOp,ho,resolve,invoke,builtin,hr]
def Je{old new:List Value}{Z:Array Value}{k:Nat}(j:Nat)(v:Value)(h:(old++new)[j]?=some v):(old.toArray++new.toArray++Builtin.zeroCells Z k)[j]?=some v:=by grind
def L7{old new:List Value}{Z:Array Value}{n m k sz:Nat}(h1:old.length=n*sz)(h2:new.length=m*sz)(hZ:Z.size=sz)(hk:n+m<=k):k*sz<=(old.toArray++new.toArray++Builtin.zeroCells Z (k-(n+m))).size:=by simp[Array.size_append,List.size_toArray,size_zeroCells,hZ,h1,h2,<-d9]<;>grind
def o9{els:List (List D)}{b off sz sz' n cap:Nat}{ad:Option Addr}{w:World}(hw:∀b o,w.cell? ⟨b,o,none⟩=X.w.cell? ⟨b,o,none⟩){R:Nat->Nat->Prop}(h:fe X.w X.F R els b off sz')(hsz:∀e∈els,e.length=sz)(hn:els.length=n)(had:0<n->ad=some ⟨b,off,none⟩):∃old:List Value,(Builtin.firstCells sz n (.slice ad n cap)).run P w=.ok old.toArray w/\aI (DR X.w X.F) els.flatten old:=by
 obtain⟨vs,h1,h2⟩:=xb h;refine⟨vs,?_,h2⟩;have hlen:vs.length=n*sz:=by rw[<-h2.length,bz hsz,hn]
 by_cases h0:n=0;.subst h0;have:vs=[]:=fa (by simpa using hlen);subst this;cases ad with|none=>simp[Builtin.firstCells]|some ad=>simp[Builtin.firstCells,loadCells,loadCellsFrom]
 .have:=had (by omega);subst this;have:=run_loadCells_list (P:=P) w ⟨b,off,none⟩ vs λj u hj=>by rw[Addr.add_lit,hw];exact h1 j u hj
  rw[hlen]at this;simpa[Builtin.firstCells]using this
def B6(P:Program)(X:Cx)(s:St)(t u ty:TypeId)(xv yv:Value)(aZ n:Nat)(e:gu):Prop:=∃Y v,(Builtin.append_ #[t,u] ty #[xv,yv]).run P X.w=.ok v Y.w/\Ext X Y/\VR Y e.val v/\aM Y (bI s.mem e.dD) (eO s.aO e.cT)/\gj X Y aZ n n
def PC{X:Cx}{m:List (Tr bM)}{t:Tr Unit}(h:aM X m t){v:Nat}{L:Loc}(hL:X.ρ v=some L)(h0:L.cap=0):aM X m (t.set v (some ())):=h.Zc hL (λhc=>by omega) λ_ _ _ _ _ _ _ hc=>by omega
def vE{t u ty e:TypeId}{i:TypeInfo}{z:Value}{ad:Option Addr}{cap:Nat}{yv:Value}{els news:List (List D)}{old new:List Value}(ht:P.underlying t=some (.slice e))(hs:Src P u i X.w yv news.length new)(hi:P.info? e=some i)(hz:i.zero=some z)(hzs:z.cells.size=i.size)(ho:(Builtin.firstCells i.size els.length (.slice ad els.length cap)).run P X.w.drew=.ok old.toArray X.w.drew)(hgrow:cap<els.length+news.length)(h63:els.length+news.length<=fN)(hby:(els.length+news.length)*i.bytes<=kP)(YV:aI (DR X.w X.F) els.flatten old)(Hi:aI (DR X.w X.F) news.flatten new)(hel:∀e∈els,e.length=i.size)(hnl:∀e∈news,e.length=i.size):∃C G,els.length+news.length<=G/\(Builtin.append_ #[t,u] ty #[.slice ad els.length cap,yv]).run P X.w=.ok (.slice (some ⟨X.w.heap.size,0,none⟩) (els.length+news.length) G) (X.w.drew.alloc (.cells C e))/\G*i.size<=C.size/\(∀(j:Nat)(u:Value),(old++new)[j]?=some u->C[j]?=some u)/\aI (DR X.w X.F) (els++news).flatten (old++new)/\(∀e∈els++news,e.length=i.size):=by
 refine⟨_,_,grownCap_ge X.w (els.length+news.length) cap e,Jd ht hs hi hz ho hgrow h63 hby,?_,λj u hj=>Je j u hj,?_,?_⟩;.exact L7 (by rw[<-YV.length,bz hel]) (by rw[<-Hi.length,bz hnl]) hzs (grownCap_ge _ _ _ _)
 .rw[Bi];exact YV.append Hi
 grind
end
section
variable{P:Program}{X:Cx}{nt:NT}{s:St}{a:Act}{o:Oper}{dst:Option Nat}{aZ:Nat}
def Fi(h:aM X s.mem s.aO)(hfr:X.ρ aZ=none){C:Array Value}{e:TypeId}{els:List (List D)}{sz G n:Nat}{vs:List Value}{aO:Tr Unit}(hl:∀e∈els,e.length=sz)(hC:G*sz<=C.size)(hle:els.length<=G)(hvs:∀(j:Nat)(u:Value),vs[j]?=some u->C[j]?=some u)(hd:aI (DR X.w X.F) els.flatten vs)(aiN:∀v,aO.get? v=some ()->s.aO.get? v=some ()):∃Y,Y.w=X.w.drew.alloc (.cells C e)/\Ext X Y/\VR Y (.own els (.cT aZ sz)) (.slice (some ⟨X.w.heap.size,0,none⟩) els.length G)/\aM Y s.mem (aO.set aZ (some ()))/\gj X Y aZ n n:=by
 have h':aM X.drew s.mem aO:=B5 (h.less (λ_ _ _ h=>h) aiN);have nt:=N9 (X:=X.drew) h' (C:=C) (e:=e) (v:=aZ) (els:=els) (sz:=sz) (cap:=G) (vs:=vs) hfr hl hC hle hvs (hd.mono λ_ _=>DR.ext qL);obtain⟨g1,g2,g3,g4⟩:=nt;refine⟨_,rfl,qL.trans g1,⟨some ⟨X.w.heap.size,0,none⟩,X.w.heap.size,0,sz,G,rfl,hle,λ_=>rfl,g3,xe X.drew C e aZ _,rfl⟩,g2,⟨bd _,λv L hv=>?_⟩⟩;rcases g4.2 v L hv with h|h|h;.exact .inl h
 .grind
 .omega
def Fj(h:aM X s.mem s.aO)(hfr:X.ρ aZ=none){m:List (Tr bM)}{C:Array Value}{e:TypeId}{els:List (List D)}{sz G n lv sl:Nat}{vs:List Value}(hl:∀e∈els,e.length=sz)(hC:G*sz<=C.size)(hle:els.length<=G)(hvs:∀(j:Nat)(u:Value),vs[j]?=some u->C[j]?=some u)(hd:aI (DR X.w X.F) els.flatten vs)(hm:aM X m s.aO):∃Y,Y.w=X.w.drew.alloc (.cells C e)/\Ext X Y/\VR Y (.ref lv sl aZ 0 els.length sz) (.slice (some ⟨X.w.heap.size,0,none⟩) els.length G)/\aM Y (cH m lv sl (some (.row aZ els))) s.aO/\gj X Y aZ n n:=by have nr:=He (X:=X.drew) (B5 hm) (C:=C) (e:=e) (v:=aZ) (els:=els) (sz:=sz) (cap:=G) (vs:=vs) lv sl hfr hl hC hle hvs (hd.mono λ_ _=>DR.ext qL);refine⟨X.drew.alloc C e aZ ⟨X.w.heap.size,0,sz,G⟩,rfl,qL.trans (Ext.alloc (X:=X.drew) h.qI h.low hfr),⟨⟨X.w.heap.size,0,sz,G⟩,some ⟨X.w.heap.size,0,none⟩,G,xe X.drew C e aZ _,rfl,rfl,hle,λ_=>⟨by simp,by simp⟩⟩,nr,?_⟩;have:=oQ (X:=X.drew) (C:=C) (e:=e) (v:=aZ) (L:=⟨X.w.heap.size,0,sz,G⟩) (n:=n);exact this
def SC{X:Cx}{m:List (Tr bM)}{t:Tr Unit}{lv sl:Nat}{e:bM}(h:aM X (cH (cH m lv sl none) lv sl (some e)) t):aM X (cH m lv sl (some e)) t:=h.congr (λcV dy=>by rw[cM,cM,cM]<;>grind[cH,aT]) λ_=>rfl
def L8(h:aM X s.mem s.aO)(hfr:X.ρ aZ=none){t u ty e:TypeId}{i:TypeInfo}{z:Value}{xv yv:Value}{lv sl av off len n:Nat}{els news:List (List D)}{new:List Value}{rd:List (Nat×Nat×Nat)}(ht:P.underlying t=some (.slice e))(hs:Src P u i X.w yv news.length new)(hi:P.info? e=some i)(hz:i.zero=some z)(hzs:z.cells.size=i.size)(hx:VR X (.ref lv sl av off len i.size) xv)(hrow:rowAt s.mem lv sl av=some els)(hc1:off+len<=els.length)(qD:len+news.length<=fN)(PD:(len+news.length)*i.bytes<=kP)(hnl:∀e∈news,e.length=i.size)(Hi:aI (DR X.w X.F) news.flatten new):B6 P X s t u ty xv yv aZ n {val:=.ref lv sl aZ 0 (len+news.length) i.size,dD:=[(lv,sl,some (.row aZ ((els.drop off).take len++news)))],cT:=[],rd}:=by
 obtain⟨L,hL,hE,hg⟩:=nN h hrow;obtain⟨L1,ad,cap,Oa,h1,rfl,h3,h4⟩:=hx;rw[hL]at Oa;cases Oa;have uO:new.length=news.length*i.size:=by rw[<-Hi.length,bz hnl]
 have Fk:((els.drop off).take len).length=len:=by grind
 have Hj:∀e∈(els.drop off).take len,e.length=i.size:=λf hf=>by rw[hE.2.1 f (nl (kb hf)),h1]
 have YW:((els.drop off).take len++news).length=len+news.length:=by grind
 have hls:∀e∈(els.drop off).take len++news,e.length=i.size:=λf hf=>(bm.1 hf).elim (Hj f) (hnl f);by_cases hroom:len+news.length<=cap
 .by_cases hcap:0<cap
  .obtain⟨rfl,h5⟩:=h4 hcap;have hc0:0<L.cap:=by omega
   obtain⟨C,ce,vB,qC,hb3,hb4,hb5,hb6,hap,B7⟩:=oR h hg hL hc0;have hfit:L.o+off*L.sz+len*L.sz+new.length<=C.size:=by rw[uO,<-h1,fb (L.o+off*L.sz),<-d9,fb,<-d9];have:=d8 L.sz (show off+(len+news.length)<=L.cap by omega);omega
   have hst:=run_storeCells_at P L.b (L.o+off*L.sz+len*L.sz) ce new 0 C X.w vB (by omega) (aI.Zm Hi);let C':=(C.toList.take (L.o+off*L.sz+len*L.sz)++new++C.toList.drop (L.o+off*L.sz+len*L.sz+new.length)).toArray;have rR:∀j,C'[j]?=if L.o+off*L.sz+len*L.sz<=j/\j<L.o+off*L.sz+len*L.sz+new.length then new[j-(L.o+off*L.sz+len*L.sz)]?else C[j]?:=oH hfit;have hsize:C'.size=C.size:=by show(C.toList.take (L.o+off*L.sz+len*L.sz)++new++C.toList.drop (L.o+off*L.sz+len*L.sz+new.length)).toArray.size=C.size;simp;omega
   have hFk:∀q,X.F L.b q->C'[q]?=C[q]?:=λq hq=>absurd hq (hb4 q);have hx1:Ext X (X.set L.b C'):=xg vB qC hFk;have EF:aM (X.set L.b C') (cH s.mem lv sl none) s.aO:=Bs (h.erase lv sl) vB qC hFk hap;let L':Loc:=⟨L.b,L.o+off*L.sz,i.size,cap⟩;have hx2:Ext (X.set L.b C') ((X.set L.b C').name aZ L'):=eS hfr;have hx:Ext X ((X.set L.b C').name aZ L'):=hx1.trans hx2;refine⟨(X.set L.b C').name aZ L',.slice (some ⟨L.b,L.o+off*i.size,none⟩) (len+news.length) cap,?_,hx,?_,?_,?_⟩;.rw[kS (i:=i) (new:=new) ht hs hi hroom];rw[<-h1];simp only[Addr.add_lit,hst,Result.andThen_ok];rfl
   .exact⟨L',_,cap,ff,rfl,rfl,hroom,λ_=>⟨by simp[L',h1],by simp[L']⟩⟩
   .refine(gW EF hfr).reset (e:=.row aZ ((els.drop off).take len++news)) (L:=L') ff ⟨by rw[YW];exact hroom,hls,λ_=>⟨⟨qC,C',ce,kq vB,?_⟩,hb4⟩,λq f j x hq hj=>?_⟩ λk w M hk hw yH _=>?_;.show L.o+off*L.sz+cap*i.size<=C'.size;rw[<-h1,fb,<-d9];have:=d8 L.sz h5;omega
    .show∃v,(X.set L.b C').w.cell? ⟨L.b,L.o+off*L.sz+q*i.size+j,none⟩=some v/\_;rw[cell_of_row _ _ _ _ _ _ (kq vB),rR];have GZ:j<i.size:=by rw[<-hls f (jn hq)];exact(db.1 hj).1
     by_cases hql:q<len
     .rw[pw (by omega)]at hq;have hqe:=(eU hq).1;obtain⟨v,hv,LR⟩:=B7 _ f j x hqe hj;have e1:L.o+off*L.sz+q*i.size+j=L.o+(off+q)*L.sz+j:=by rw[h1,d9];omega
      have hlt:q*i.size+j<len*L.sz:=by have:=d8 i.size (show q+1<=len from hql);rw[d9]at this;rw[h1];omega
      rw[bi (by omega),e1];exact⟨v,hv,LR.ext hx⟩
     .rw[lL (by omega),Fk]at hq;have hg2:=gD hnl _ j f hq GZ;rw[hj]at hg2;obtain⟨v,hv,LR⟩:=Hi.get _ _ hg2;have hlt:=(db.1 hv).1;have e1:q*i.size+j=len*L.sz+((q-len)*i.size+j):=by
       have:q=len+(q-len):=by omega
       conv=>lhs;rw[this,d9]
       rw[h1];omega
      rw[be (by omega)];rw[show L.o+off*L.sz+q*i.size+j-(L.o+off*L.sz+len*L.sz)=(q-len)*i.size+j by omega];exact⟨v,hv,LR.ext hx⟩
    .obtain⟨M',mH,_⟩:=(h.erase lv sl).ew hk;have:((X.set L.b C').name aZ L').ρ w=some M':=hx.loc _ _ mH;rw[hw]at this;cases this;exact hap k w M hk mH yH
   .exact⟨bd _,λw M hw=>by
     rcases(je (X:=X.set L.b C') (v:=aZ) (n:=0) (L:=L')).2 w M hw with hq|hq|hq;.exact .inl hq
     .exact .inr (.inl hq)
     .omega⟩
  .have hm0:news.length=0:=by omega
   have hl0:len=0:=by omega
   subst hl0;have vF:news=[]:=fa hm0;subst vF;have hnew:new=[]:=fa (by simpa using uO);subst hnew;have hrun:(Builtin.append_ #[t,u] ty #[.slice ad 0 cap,yv]).run P X.w=.ok (.slice ad 0 cap) X.w:=by rw[kS (i:=i) (m:=0) (new:=[]) ht hs hi (by omega)];cases ad with|none=>rfl|some ad=>simp[storeCells]
   refine⟨X.name aZ ⟨0,0,i.size,0⟩,_,hrun,eS hfr,⟨⟨0,0,i.size,0⟩,ad,cap,ff,rfl,rfl,by simp,λhq=>absurd hq hcap⟩,?_,je⟩;exact(gW h hfr).add (e:=.row aZ ((els.drop off).take 0++[])) (L:=⟨0,0,i.size,0⟩) ff ⟨by simp,by simp,λhq=>absurd hq (by simp),by simp⟩ λ_ _ _ _ _ _ _ hq=>absurd hq (by simp)
 .have PE:fe X.w X.F (λ_ _=>True) ((els.drop off).take len) L.b (L.o+off*L.sz) L.sz:=(hE.Zb (R:=λ_ _=>True) λ_ _=>trivial).sub off len;obtain⟨old,ho,YV⟩:=o9 (P:=P) (n:=len) (cap:=cap) (ad:=ad) (X:=X) (w:=X.w.drew) (sz:=i.size) (λ_ _=>rfl) PE Hj Fk (λhq=>by rw[(h4 (by omega)).1,h1]);have key:=vE (P:=P) (X:=X) (ty:=ty) (els:=(els.drop off).take len) (ad:=ad) (cap:=cap) ht hs hi hz hzs (by rw[Fk];exact ho) (by omega) (by omega) (by rw[Fk];exact PD) YV Hi Hj hnl;obtain⟨C,G,g1,hrun,g2,g3,g4,g5⟩:=key;obtain⟨Y,hw,k1,k2,k3,k4⟩:=Fj (e:=e) (lv:=lv) (sl:=sl) (m:=cH s.mem lv sl none) h hfr g5 g2 (by rw[YW];omega) g3 g4 (n:=n) (h.erase lv sl);rw[YW]at k2;rw[Fk]at hrun;exact⟨Y,_,by rw[hrun,hw],k1,k2,SC k3,k4⟩
def Ob(h:aM X s.mem s.aO)(hfr:X.ρ aZ=none){lv sl av off len l h' n sz cap:Nat}{els:List (List D)}{ad:Option Addr}(hx:VR X (.ref lv sl av off len sz) (.slice ad len cap))(hrow:rowAt s.mem lv sl av=some els)(c1:l<=h')(c2:h'<=len)(c3:off+len<=els.length):∃Y,Y.w=X.w/\Ext X Y/\VR Y (.ref lv sl aZ 0 (h'-l) sz) (.slice (if cap=l then ad else ad.map (·.add (l*sz))) (h'-l) (cap-l))/\aM Y (cH s.mem lv sl (some (.row aZ ((els.drop (off+l)).take (h'-l))))) s.aO/\gj X Y aZ n n:=by
 obtain⟨L,hL,hE,hg⟩:=nN h hrow;obtain⟨L1,ad',cap',Oa,h1,he,h3,h4⟩:=hx;cases he;rw[hL]at Oa;cases Oa;have Fk:((els.drop (off+l)).take (h'-l)).length=h'-l:=by grind
 have Hj:∀e∈(els.drop (off+l)).take (h'-l),e.length=sz:=λf hf=>by rw[hE.2.1 f (nl (kb hf)),h1]
 by_cases hcap:0<cap-l
 .obtain⟨rfl,h5⟩:=h4 (by omega);have hc0:0<L.cap:=by omega
  obtain⟨C,ce,vB,qC,hb3,hb4,hb5,hb6,hap,B7⟩:=oR h hg hL hc0;let L':Loc:=⟨L.b,L.o+(off+l)*L.sz,sz,cap-l⟩;refine⟨X.name aZ L',rfl,eS hfr,⟨L',_,_,ff,rfl,rfl,by omega,λ_=>⟨?_,by simp[L']⟩⟩,?_,je⟩;.simp only[cf,Addr.add_lit,L',h1]<;>grind
  .refine(gW (h.erase lv sl) hfr).reset (e:=.row aZ ((els.drop (off+l)).take (h'-l))) (L:=L') ff ⟨by rw[Fk];show h'-l<=cap-l;omega,Hj,λ_=>⟨⟨qC,C,ce,vB,?_⟩,hb4⟩,λq f j x hq hj=>?_⟩ λk w M hk hw yH _=>?_;.show L.o+(off+l)*L.sz+(cap-l)*sz<=C.size;rw[<-h1,fb,<-d9];have:=d8 L.sz (show off+l+(cap-l)<=L.cap by omega);omega
   .have hqe:=(eU hq).1;obtain⟨v,hv,LR⟩:=hE.2.2.2 _ f j x hqe hj;refine⟨v,?_,LR⟩;show X.w.cell? ⟨L.b,L.o+(off+l)*L.sz+q*sz+j,none⟩=some v;rw[<-hv];congr 2;rw[<-h1,d9 (off+l)];omega
   .obtain⟨M',mH,_⟩:=(h.erase lv sl).ew hk;have:(X.name aZ L').ρ w=some M':=(eS hfr).loc _ _ mH;rw[hw]at this;cases this;exact hap k w M hk mH yH
 .have h0:h'-l=0:=by omega
  refine⟨X.name aZ ⟨0,0,sz,0⟩,rfl,eS hfr,⟨⟨0,0,sz,0⟩,_,_,ff,rfl,rfl,by omega,λhq=>absurd hq hcap⟩,?_,je⟩;exact(gW h hfr).add (e:=.row aZ ((els.drop (off+l)).take (h'-l))) (L:=⟨0,0,sz,0⟩) ff ⟨by rw[Fk,h0];exact bd _,Hj,λhq=>absurd hq (by simp),λq f j x hq _=>by rw[h0]at hq;simp at hq⟩ λ_ _ _ _ _ _ _ hq=>absurd hq (by simp)
def SD(h:aM X s.mem s.aO)(hfr:X.ρ aZ=none){lv sl av off len n sz lv2 sl2:Nat}{els:List (List D)}{v:Value}(hx:VR X (.ref lv sl av off len sz) v)(hrow:rowAt s.mem lv sl av=some els)(c3:off+len<=els.length):∃Y,Y.w=X.w/\Ext X Y/\VR Y (.ref lv2 sl2 aZ 0 len sz) v/\aM Y (cH (cH s.mem lv sl none) lv2 sl2 (some (.row aZ ((els.drop off).take len)))) s.aO/\gj X Y aZ n n:=by
 obtain⟨L,hL,hE,hg⟩:=nN h hrow;obtain⟨L1,ad,cap,Oa,h1,rfl,h3,h4⟩:=hx;rw[hL]at Oa;cases Oa;have Fk:((els.drop off).take len).length=len:=by grind
 have Hj:∀e∈(els.drop off).take len,e.length=sz:=λf hf=>by rw[hE.2.1 f (nl (kb hf)),h1]
 by_cases hcap:0<cap
 .have hc0:0<L.cap:=by omega
  obtain⟨C,ce,vB,qC,hb3,hb4,hb5,hb6,hap,B7⟩:=oR h hg hL hc0;let L':Loc:=⟨L.b,L.o+off*L.sz,sz,cap⟩;refine⟨X.name aZ L',rfl,eS hfr,⟨L',_,_,ff,rfl,rfl,h3,λ_=>⟨?_,by simp[L']⟩⟩,?_,je⟩;.grind
  .refine(gW (h.erase lv sl) hfr).add (e:=.row aZ ((els.drop off).take len)) (L:=L') ff ⟨by rw[Fk];exact h3,Hj,λ_=>⟨⟨qC,C,ce,vB,?_⟩,hb4⟩,λq f j x hq hj=>?_⟩ λk w M hk _ hw yH _=>?_;.show L.o+off*L.sz+cap*sz<=C.size;rw[<-h1,fb,<-d9];have:=d8 L.sz (show off+cap<=L.cap by omega);omega
   .have hqe:=(eU hq).1;obtain⟨v,hv,LR⟩:=hE.2.2.2 _ f j x hqe hj;refine⟨v,?_,LR⟩;show X.w.cell? ⟨L.b,L.o+off*L.sz+q*sz+j,none⟩=some v;rw[<-hv];congr 2;rw[<-h1,d9 off];omega
   .obtain⟨M',mH,_⟩:=(h.erase lv sl).ew hk;have:(X.name aZ L').ρ w=some M':=(eS hfr).loc _ _ mH;rw[hw]at this;cases this;exact hap k w M hk mH yH
 .have h0:len=0:=by omega
  subst h0;refine⟨X.name aZ ⟨0,0,sz,0⟩,rfl,eS hfr,⟨⟨0,0,sz,0⟩,_,_,ff,rfl,rfl,h3,λhq=>absurd hq hcap⟩,?_,je⟩;exact(gW (h.erase lv sl) hfr).add (e:=.row aZ ((els.drop off).take 0)) (L:=⟨0,0,sz,0⟩) ff ⟨by simp,by simp,λhq=>absurd hq (by simp),λq f j x hq _=>by simp at hq⟩ λ_ _ _ _ _ _ _ hq=>absurd hq (by simp)
def xj(h:aM X s.mem s.aO)(hfr:X.ρ aZ=none){t u ty e:TypeId}{i:TypeInfo}{z:Value}{xv yv:Value}{x y:AV}{row:Bool}{lv sl n:Nat}{E:gu}(ht:P.underlying t=some (.slice e))(hi:P.info? e=some i)(hz:i.zero=some z)(hzs:z.cells.size=i.size)(_h0:0<i.size)(hx:VR X x xv)(hy:∀news,gP s.mem y=some news->(∀e∈news,e.length=i.size)->∃new:List Value,aI (DR X.w X.F) news.flatten new/\Src P u i X.w yv news.length new)(hr:eg s row lv sl aZ i.size i.bytes x y=some E):B6 P X s t u ty xv yv aZ n E:=by unfold eg at hr;cases hn:gP s.mem y with|none=>grind|some news=>
  rw[hn]at hr;simp only at hr;split at hr
  .rename_i I7;have hnl:=kE I7;obtain⟨new,Hi,hs⟩:=hy news hn hnl;have uO:new.length=news.length*i.size:=by rw[<-Hi.length,bz hnl]
   split at hr
   .rename_i els;split at hr
    .rename_i hc;obtain⟨hc1,qD,PD⟩:=hc;have hel:=kE hc1;obtain⟨ad,b,off,sz',rfl,had,PE⟩:=hx;by_cases hm0:news.length=0
     .have vF:news=[]:=fa hm0;subst vF;have hnew:new=[]:=fa (by simpa using uO);subst hnew;have hrun:(Builtin.append_ #[t,u] ty #[.slice ad els.length els.length,yv]).run P X.w=.ok (.slice ad els.length els.length) X.w:=by rw[kS (i:=i) (m:=0) (new:=[]) ht hs hi (by omega)];cases ad with|none=>rfl|some ad=>simp[storeCells]
      cases hrow:row with|false=>
       simp only[hrow]at hr;cases hr;refine⟨X.name aZ ⟨b,off+els.length*i.size,i.size,els.length-els.length⟩,_,hrun,eS hfr,?_,?_,je⟩;.rw[dv];refine⟨ad,b,off,i.size,els.length,rfl,bd _,had,?_,ff,rfl⟩;grind[kP,fN,aI,gP,Cx.name,fe]
       .exact PC (gW h hfr) ff (by simp)|true=>
       simp only[hrow]at hr;split at hr;.cases hr
       .cases hr;have B4:els=[]:=by grind
        subst B4;refine⟨X.name aZ ⟨0,0,i.size,0⟩,_,hrun,eS hfr,⟨⟨0,0,i.size,0⟩,ad,0,ff,rfl,rfl,bd _,λhq=>absurd hq (by omega)⟩,?_,je⟩;exact(gW h hfr).add (e:=.row aZ ([]++[])) (L:=⟨0,0,i.size,0⟩) ff ⟨by simp,by simp,λhq=>absurd hq (by simp),by simp⟩ λ_ _ _ _ _ _ _ hq=>absurd hq (by simp)
     .obtain⟨old,ho,YV⟩:=o9 (P:=P) (n:=els.length) (cap:=els.length) (X:=X) (w:=X.w.drew) (λ_ _=>rfl) PE hel rfl had;obtain⟨C,G,g1,hrun,g2,g3,g4,g5⟩:=vE (P:=P) (X:=X) (ty:=ty) ht hs hi hz hzs ho (by omega) qD PD YV Hi hel hnl;have YW:(els++news).length=els.length+news.length:=bc;cases hrow:row with|false=>simp[hrow]at hr;cases hr;obtain⟨Y,hw,k1,k2,k3,k4⟩:=Fi (e:=e) h hfr g5 g2 (by omega) g3 g4 (aO:=s.aO) (n:=n) λ_ h=>h;simp at k2;exact⟨Y,_,by rw[hrun,hw],k1,k2,k3,k4⟩|true=>
       simp only[hrow]at hr;split at hr;.cases hr
       .cases hr;obtain⟨Y,hw,k1,k2,k3,k4⟩:=Fj (e:=e) (lv:=lv) (sl:=sl) h hfr g5 g2 (by omega) g3 g4 (n:=n) h;simp at k2;exact⟨Y,_,by rw[hrun,hw],k1,k2,k3,k4⟩
    grind
   .rename_i els v tz;split at hr
    .rename_i hc;obtain⟨hc0,qD,PD,hc4⟩:=hc;cases hr;have SE:s.aO.get? v=some ():=by cases hg:s.aO.get? v with|none=>grind|some u=>rfl
     obtain⟨ad,b,off,sz',cap,rfl,hcap,had,PE,hL,htz⟩:=hx;have hel:∀e∈els,e.length=i.size:=λe he=>by rw[PE.1 e he,htz,hc0]
     obtain⟨L',hL',hT⟩:=h.aO v SE;rw[hL]at hL';cases hL';by_cases hm0:news.length=0
     .have vF:news=[]:=fa hm0;subst vF;have hnew:new=[]:=fa (by simpa using uO);subst hnew;have hrun:(Builtin.append_ #[t,u] ty #[.slice ad els.length cap,yv]).run P X.w=.ok (.slice ad els.length cap) X.w:=by rw[kS (i:=i) (m:=0) (new:=[]) ht hs hi (by omega)];cases ad with|none=>rfl|some ad=>simp[storeCells]
      refine⟨X.name aZ ⟨b,off+els.length*sz',sz',cap-els.length⟩,_,hrun,eS hfr,?_,?_,je⟩;.rw[dv];exact⟨ad,b,off,sz',cap,rfl,hcap,had,PE.ext (eS hfr),ff,htz.trans hc0⟩
      .refine(gW (h.L0 v) hfr).Zc ff hT λk u M hk _ hu yH hc=>?_;have hold:Holds s.mem s.aO k u/\k≠kZ v:=by
        rcases hk with⟨cV,dy,e',rfl,he',n9⟩|⟨rfl,he'⟩;.exact⟨.inl ⟨cV,dy,e',rfl,he',n9⟩,fP⟩
        .rw[Tr.cD]at he';split at he';.cases he'
         .rename_i hvu;exact⟨.inr ⟨rfl,he'⟩,λhq=>hvu (by simpa[kZ]using hq.symm)⟩
       obtain⟨M',mH,_⟩:=h.ew hold.1;have:(X.name aZ ⟨b,off+els.length*sz',sz',cap-els.length⟩).ρ u=some M':=(eS hfr).loc _ _ mH;simp_all;exact h.apart _ _ _ _ _ _ hold.1 (.inr ⟨rfl,SE⟩) hold.2 mH hL yH hc
     .by_cases hroom:els.length+news.length<=cap
      .have abD:0<cap-els.length:=by omega
       obtain⟨⟨qC,C,ce,vB,hb3⟩,hb4⟩:=hT abD;simp at qC vB hb3 hb4;have aqP:=had (by omega);subst aqP;have hsz:sz'=i.size:=htz.trans hc0
       .subst hsz;have hfit:off+els.length*i.size+new.length<=C.size:=by have:=d8 i.size (show news.length<=cap-els.length by omega);omega
        have hst:=run_storeCells_at P b (off+els.length*i.size) ce new 0 C X.w vB (by omega) (aI.Zm Hi);let C':=(C.toList.take (off+els.length*i.size)++new++C.toList.drop (off+els.length*i.size+new.length)).toArray;have rR:∀j,C'[j]?=if off+els.length*i.size<=j/\j<off+els.length*i.size+new.length then new[j-(off+els.length*i.size)]?else C[j]?:=oH hfit;have hsize:C'.size=C.size:=by show(C.toList.take (off+els.length*i.size)++new++C.toList.drop (off+els.length*i.size+new.length)).toArray.size=C.size;simp;omega
        have hFk:∀q,X.F b q->C'[q]?=C[q]?:=λq hq=>by rw[rR,bi];intro hq';exact hb4 q hq'.1 hq
        have hap:∀k w M,Holds s.mem (s.aO.set v none) k w->X.ρ w=some M->0<M.cap->M.b≠b:=by
         intro k w M hk hw yH;have hold:Holds s.mem s.aO k w/\k≠kZ v:=by
          rcases hk with⟨cV,dy,e',rfl,he',n9⟩|⟨rfl,he'⟩;.exact⟨.inl ⟨cV,dy,e',rfl,he',n9⟩,fP⟩
          .rw[Tr.cD]at he';split at he';.cases he'
           .rename_i hvu;exact⟨.inr ⟨rfl,he'⟩,λhq=>hvu (by simpa[kZ]using hq.symm)⟩
         exact h.apart _ _ _ _ _ _ hold.1 (.inr ⟨rfl,SE⟩) hold.2 hw hL yH abD
        let X1:=X.set b C';have hx1:Ext X X1:=xg vB qC hFk;have EF:aM X1 s.mem (s.aO.set v none):=Bs (h.L0 v) vB qC hFk hap;let X2:=X1.more λb' q=>b'=b/\q<off+els.length*i.size+new.length/\off+els.length*i.size<=q;have hx2:Ext X1 X2:=Ext.more λb' q hq=>by rw[hq.1];exact qC
        have Hj:b<X1.w.heap.size:=by
         have hh:=kq (X:=X) (C':=C') vB;rcases i9 b X1.w.heap.size with hl|hl;.exact hl
         .rw[Array.getElem?_eq_none hl]at hh;cases hh
        have hm2:aM X2 s.mem (s.aO.set v none):=EF.more (λb' q hq=>by rw[hq.1];exact⟨qC,Hj⟩) λk w M q hk hw yH hq=>hap k w M hk hw yH hq.1;let L:Loc:=⟨b,off+(els++news).length*i.size,i.size,cap-(els++news).length⟩;have hx3:Ext X2 (X2.name aZ L):=eS hfr;have hx:Ext X (X2.name aZ L):=(hx1.trans hx2).trans hx3;have YW:(els++news).length=els.length+news.length:=bc;have hoff:off+(els++news).length*i.size=off+els.length*i.size+new.length:=by rw[YW,d9];omega
        refine⟨X2.name aZ L,.slice (some ⟨b,off,none⟩) (els.length+news.length) cap,?_,hx,?_,?_,?_⟩;.rw[kS (i:=i) (new:=new) ht hs hi hroom];simp only[Addr.add_lit,hst,Result.andThen_ok];rfl
        .refine⟨some ⟨b,off,none⟩,b,off,i.size,cap,by rw[YW],by omega,λ_=>rfl,?_,ff,rfl⟩;refine⟨λf hf=>?_,λq f j w hq hj=>?_⟩
         .rcases bm.1 hf with hf|hf;.exact hel f hf
          .exact hnl f hf
         .have GZ:j<i.size:=by
           have Zo:f.length=i.size:=by
            rcases bm.1 (jn hq)with hf|hf;.exact hel f hf
            .exact hnl f hf
           rw[<-Zo];exact(db.1 hj).1
          by_cases hql:q<els.length;.rw[pw hql]at hq;obtain⟨hF,w',Oc,LR⟩:=PE.2 q f j w hq hj;exact⟨hx.zQ _ _ hF,w',(hx.keep _ _ hF).trans Oc,LR.ext hx⟩
          .rw[lL (by omega)]at hq;have hg:=gD hnl _ j f hq GZ;rw[hj]at hg;obtain⟨w',Oc,LR⟩:=Hi.get _ _ hg;have hlt:=(db.1 Oc).1;have e1:off+q*i.size+j=off+els.length*i.size+((q-els.length)*i.size+j):=by
            have:q=els.length+(q-els.length):=by omega
            conv=>lhs;rw[this,d9]
            omega
           refine⟨.inr ⟨rfl,by omega,by omega⟩,w',?_,LR.ext hx⟩;show(X.set b C').w.cell? _=_;rw[cell_of_row _ _ _ _ _ _ (kq vB),e1,rR,be (by omega)];rw[show off+els.length*i.size+((q-els.length)*i.size+j)-(off+els.length*i.size)=(q-els.length)*i.size+j by omega];exact Oc
        .refine(gW hm2 hfr).Zc (L:=L) ff (λhc=>⟨⟨qC,C',ce,kq vB,?_⟩,λq hq hF=>?_⟩) λk w M hk _ hw yH _=>?_
         .rw[fb,<-d9,show(els++news).length+(cap-(els++news).length)=cap by omega];have:off+els.length*i.size+(cap-els.length)*i.size=off+cap*i.size:=by rw[fb,<-d9,show els.length+(cap-els.length)=cap by omega]
          omega
         .have hq:off+(els++news).length*i.size<=q:=hq;rcases hF with hF|hF;.exact hb4 q (by omega) hF
          .omega
         .have hold:∃M',X.ρ w=some M':=by obtain⟨M',mH,_⟩:=(h.L0 v).ew hk;exact⟨M',mH⟩
          obtain⟨M',mH⟩:=hold;have:(X2.name aZ L).ρ w=some M':=hx.loc _ _ mH;rw[hw]at this;injection this with this;subst this;exact hap k w M hk mH yH
        .exact⟨bd _,λw M hw=>by
          rcases(je (X:=X2) (v:=aZ) (n:=0) (L:=L)).2 w M hw with hq|hq|hq;.exact .inl hq
          .exact .inr (.inl hq)
          .omega⟩
      .obtain⟨old,ho,YV⟩:=o9 (P:=P) (n:=els.length) (cap:=cap) (X:=X) (w:=X.w.drew) (λ_ _=>rfl) PE hel rfl (λhq=>had (by omega));obtain⟨C,G,g1,hrun,g2,g3,g4,g5⟩:=vE (P:=P) (X:=X) (ty:=ty) ht hs hi hz hzs ho (by omega) qD PD YV Hi hel hnl;have YW:(els++news).length=els.length+news.length:=bc;obtain⟨Y,hw,k1,k2,k3,k4⟩:=Fi (e:=e) h hfr g5 g2 (by omega) g3 g4 (aO:=s.aO.set v none) (n:=n) λw hw=>by rw[Tr.cD]at hw;split at hw<;>first|exact hw|cases hw
       simp at k2;exact⟨Y,_,by rw[hrun,hw],k1,k2,k3,k4⟩
    .cases hr
   .split at hr
    .rename_i els hrow;split at hr;.rename_i hc;obtain⟨hc0,hc1,qD,PD⟩:=hc;cases hr;subst hc0;exact L8 h hfr ht hs hi hz hzs hx hrow hc1 qD PD hnl Hi
     .cases hr
    grind
   grind
  grind
def tA(h:aM X s.mem s.aO)(hfr:X.ρ aZ=none){t u ty e:TypeId}{i:TypeInfo}{z:Value}{xv yv:Value}{x y:AV}{row:Bool}{lv sl n:Nat}{E:gu}(ht:P.underlying t=some (.slice e))(hu:Hh P u)(hi:P.info? e=some i)(hz:i.zero=some z)(hzs:z.cells.size=i.size)(h0:0<i.size)(hx:VR X x xv)(hy:VR X y yv)(hr:eg s row lv sl aZ i.size i.bytes x y=some E):B6 P X s t u ty xv yv aZ n E:=xj h hfr ht hi hz hzs h0 hx (λnews hn hnl=>by
 obtain⟨new,Hi,hlen,hfc⟩:=Bt (P:=P) h hn hy hnl h0;have uO:new.length=news.length*i.size:=by rw[<-Hi.length,bz hnl]
 have aiQ:∀w:World,(∀b o,w.cell? ⟨b,o,none⟩=X.w.cell? ⟨b,o,none⟩)->(Builtin.firstCells i.size news.length yv).run P w=.ok new.toArray w:=by grind
 exact⟨new,Hi,.val hu (hlen X.w) (aiQ X.w λ_ _=>rfl) (aiQ X.w.drew λ_ _=>rfl)⟩) hr
end
def gE{α:Type}{sz:Nat}:∀{els:List (List α)},(∀e∈els,e.length=sz)->∀k,k<=els.length->(els.take k).flatten=els.flatten.take (k*sz)/\(els.drop k).flatten=els.flatten.drop (k*sz)
 |els,hl,0,_=>by simp|[],hl,k+1,h=>by simp at h|f::els,hl,k+1,h=>by
  have ih:=gE (els:=els) (λe he=>hl e (by simp[he])) k (by simpa using h);have hf:=hl f (by simp);simp[List.take_succ_cons,pj,List.drop_succ_cons,ih.1,ih.2];rw[show(k+1)*sz=f.length+k*sz by rw[d9,hf];omega];refine⟨?_,?_⟩;.grind
  .rw[xt,t8 (l:=f) (by omega),show f.length+k*sz-f.length=k*sz by omega,ge]
def B8{α:Type}{sz:Nat}{els new:List (List α)}(hl:∀e∈els,e.length=sz)(hn:∀e∈new,e.length=sz){off:Nat}(h:off+new.length<=els.length):(splice els off new).flatten=splice els.flatten (off*sz) new.flatten:=by unfold splice;rw[List.flatten_append,List.flatten_append,(gE hl off (by omega)).1,(gE hl (off+new.length) h).2,bz hn,d9]
def B9{α:Type}(els:List α)(off:Nat):splice els off []=els:=by simp[splice]
section
variable{P:Program}{X:Cx}{nt:NT}{s:St}{a:Act}{o:Oper}{dst:Option Nat}{aZ:Nat}
def aM.same{m:List (Tr bM)}{t:Tr Unit}(h:aM X m t){lv sl:Nat}{e:bM}(hg:aT m lv sl=some e):aM X (cH m lv sl (some e)) t:=h.congr (λcV dy=>by rw[cM]<;>grind) λ_=>rfl
def Ca{m:List (Tr bM)}{t:Tr Unit}(h:aM X m t){lv sl av off:Nat}{els new:List (List D)}{vs:List Value}{L:Loc}(hg:aT m lv sl=some (.row av els))(hL:X.ρ av=some L)(hoff:off+new.length<=els.length)(hn:∀e∈new,e.length=L.sz)(hd:aI (DR X.w X.F) new.flatten vs)(h0:0<new.length):∃Y,Ext X Y/\Y.ρ=X.ρ/\aM Y (cH m lv sl (some (.row av (splice els off new)))) t/\(storeCells ⟨L.b,L.o+off*L.sz,none⟩ vs).run P X.w=.ok () Y.w:=by
 obtain⟨L',hL',e1,e2,_,_⟩:=h.gz _ _ _ hg;have:X.ρ av=some L':=hL';rw[hL]at this;cases this;have hvl:vs.length=new.length*L.sz:=by rw[<-hd.length,bz hn]
 have hfl:=B8 e2 hn hoff;have aqI:=bz e2;have hle:off*L.sz+new.length*L.sz<=els.length*L.sz:=by rw[<-d9];exact d8 _ hoff
 have ov:els.length*L.sz<=L.cap*L.sz:=d8 _ e1;refine Fh (P:=P) h hg hL (by omega) (by omega) ?_ (λf hf=>?_) (by rw[lz _ _ _ hoff];exact e1) λj x hj=>?_;.rw[hfl,hvl,<-bz hn,qK _ _ _ (by omega)]<;>omega
 .grind[splice,Block,bM.av,aI,aT]
 .rw[hfl,eE _ _ _ (by rw[bz hn];omega)]at hj;rw[bz hn]at hj<;>grind
def Jf{t u:TypeId}{e:TypeId}{i:TypeInfo}{x y:Operand}{ad:Option Addr}{len cap m:Nat}{cells:List Value}(ho:o.op=.call {callee:=.builtin .copy,args:=#[x,y],argTypes:=#[t,u]})(ht:P.underlying t=some (.slice e))(hi:P.info? e=some i)(hx:a.eval x=.slice ad len cap)(hl:(Builtin.lenOf (a.eval y)).run P X.w=.ok m X.w)(hf:(Builtin.firstCells i.size (Nat.min m len) (a.eval y)).run P X.w=.ok cells.toArray X.w):(execOp a.eval o).run P X.w=match ad with|some ad=>((storeCells ad cells).run P X.w).andThen λ_ w'=>.ok (.value (goInt (Nat.min m len))) w'|none=>.ok (.value (goInt (Nat.min m len))) X.w:=by cases ad with|none=>simp[execOp,ho,resolve,invoke,builtin,Builtin.copy_,run_underlying ht,hx,hl,sizeOf,typeInfo,hi,hf]|some ad=>simp[execOp,ho,resolve,invoke,builtin,Builtin.copy_,run_underlying ht,hx,hl,sizeOf,typeInfo,hi,hf];cases Sem.run P (storeCells ad cells) X.w<;>rfl
def L9(hs:fQ X nt s a){t u e:TypeId}{i:TypeInfo}{x y:Operand}{x' y':cq}{lv sl av off ln:Nat}{els news:List (List D)}{rd:List (Nat×Nat×Nat)}(ho:o.op=.call {callee:=.builtin .copy,args:=#[x,y],argTypes:=#[t,u]})(ht:P.underlying t=some (.slice e))(hi:P.info? e=some i)(h0:0<i.size)(hx:dA x=some x')(hy:dA y=some y')(hq:x'.ev s.slots=.ref lv sl av off ln i.size)(hn:gP s.mem (y'.ev s.slots)=some news)(hr:rowAt s.mem lv sl av=some els)(hle:off+ln<=els.length)(I7:∀e∈news,e.length=i.size):dS P X s a o dst aZ (.cu {val:=qF (min news.length ln),dD:=[(lv,sl,some (.row av (splice els off (news.take (min news.length ln)))))],cT:=[],rd}):=by
 obtain⟨vs,hd,hlen,hfc⟩:=Bt (P:=P) hs.mem hn (bD hs hy) I7 h0;have hv:=bD hs hx;rw[hq]at hv;obtain⟨L,ad,cap,hL,h1,h2,h3,h4⟩:=hv;obtain⟨L',hL',hE,hg⟩:=nN hs.mem hr;have hmin:Nat.min news.length ln=min news.length ln:=rfl;have hrun:=Jf (P:=P) (X:=X) ho ht hi h2 (hlen X.w) (hfc X.w (λ_ _=>rfl) _ (ub _ _));rw[hmin]at hrun;have htl:(news.take (min news.length ln)).length=min news.length ln:=by grind
 by_cases hz:min news.length ln=0
 .have vF:news.take (min news.length ln)=[]:=by grind
  refine .value (Y:=X) (v:=goInt ((min news.length ln:Nat):Int)) ?_ (Ext.refl X) (.BV rfl) ?_ (gj.refl _ _ _);.rw[hrun];cases ad with|none=>rfl|some ad=>rw[hz];simp[storeCells]
  .rw[vF,B9];exact hs.mem.same hg
 .obtain⟨rfl,h5⟩:=h4 (by omega);have hnt:∀e∈news.take (min news.length ln),e.length=L.sz:=λf hf=>by rw[h1];exact I7 f (kb hf)
  obtain⟨Y,hx',hρ,hm,hst⟩:=Ca (P:=P) hs.mem (off:=off) (new:=news.take (min news.length ln)) (vs:=vs.take (min news.length ln*i.size)) hg hL (by omega) hnt (by rw[(gE I7 _ (ub _ _)).1];exact hd.take _) (by omega);refine .value (Y:=Y) (v:=goInt ((min news.length ln:Nat):Int)) ?_ hx' (.BV rfl) hm (gj.I9 hρ)<;>simp_all
def Ma(hs:fQ X nt s a){t u e:TypeId}{i:TypeInfo}{x y:Operand}{x' y':cq}{lv sl av off n:Nat}{cs:List AV}{news:List (List D)}{rd:List (Nat×Nat×Nat)}(ho:o.op=.call {callee:=.builtin .copy,args:=#[x,y],argTypes:=#[t,u]})(ht:P.underlying t=some (.slice e))(hi:P.info? e=some i)(h0:0<i.size)(hx:dA x=some x')(hy:dA y=some y')(hq:x'.ev s.slots=.fX lv sl av off n i.size)(hn:gP s.mem (y'.ev s.slots)=some news)(hb:pV s.mem lv sl av=some cs)(hle:off+n*i.size<=cs.length)(I7:∀e∈news,e.length=i.size):dS P X s a o dst aZ (.cu {val:=qF (min news.length n),dD:=[(lv,sl,some (.box av (splice cs off ((news.take (min news.length n)).flatten.map .d))))],cT:=[],rd}):=by
 obtain⟨vs,hd,hlen,hfc⟩:=Bt (P:=P) hs.mem hn (bD hs hy) I7 h0;have hv:=bD hs hx;rw[hq]at hv;obtain⟨L,hL,h2,_⟩:=hv;have hg:aT s.mem lv sl=some (.box av cs):=by
  unfold pV at hb;split at hb;.split at hb<;>simp_all
  grind
 have hrun:=Jf (P:=P) (X:=X) ho ht hi h2 (hlen X.w) (hfc X.w (λ_ _=>rfl) _ (ub _ _));have hd':aI (DR X.w X.F) (news.take (min news.length n)).flatten (vs.take (min news.length n*i.size)):=by rw[(gE I7 _ (ub _ _)).1];exact hd.take _
 have hdc:aI (VC X) ((news.take (min news.length n)).flatten.map .d) (vs.take (min news.length n*i.size)):=by refine .vA (by rw[iv];exact hd'.length) λj x v hj hv=>?_;rw[eI]at hj;cases hq':(news.take (min news.length n)).flatten[j]?with|none=>grind|some y=>rw[hq']at hj;cases hj;obtain⟨v',n9,LR⟩:=hd'.get _ _ hq';simp_all;exact LR
 have hfl:((news.take (min news.length n)).flatten.map AV.d).length<=n*i.size:=by rw[iv,bz (λf hf=>I7 f (kb hf)),io];exact d8 _ (by omega)
 obtain⟨L',Y,hL',hx',hρ,hm,hst⟩:=Fg (P:=P) hs.mem hg (off:=off) (by omega) hdc;rw[hL]at hL';refine .value (Y:=Y) (v:=goInt ((min news.length n:Nat):Int)) ?_ hx' (.BV rfl) hm (gj.I9 hρ)<;>simp_all
def xk(hs:fQ X nt s a){t e:TypeId}{sz:Nat}{x:Operand}{x':cq}{lv sl av off ln:Nat}{els:List (List D)}{z:List D}{zl:List Value}{rd:List (Nat×Nat×Nat)}(ho:o.op=.call {callee:=.builtin .clear,args:=#[x],argTypes:=#[t]})(ht:P.underlying t=some (.slice e))(hz:o6 P e=some zl)(EH:jY zl=some z)(hzl:z.length=sz)(h0:0<sz)(hx:dA x=some x')(hq:x'.ev s.slots=.ref lv sl av off ln sz)(hr:rowAt s.mem lv sl av=some els)(hle:off+ln<=els.length):dS P X s a o dst aZ (.cu {val:=kI,dD:=[(lv,sl,some (.row av (splice els off (List.replicate ln z))))],cT:=[],rd}):=by
 have hv:=bD hs hx;rw[hq]at hv;obtain⟨L,ad,cap,hL,h1,h2,h3,h4⟩:=hv;obtain⟨L',hL',hE,hg⟩:=nN hs.mem hr;obtain⟨i,zv,hi,Hf,rfl⟩:=j3 hz;by_cases hn:ln=0
 .subst hn;refine .value (Y:=X) (v:=undef) ?_ (Ext.refl X) o7 ?_ (gj.refl _ _ _);.cases ad<;>simp[execOp,ho,resolve,invoke,builtin,Builtin.clear_,run_underlying ht,h2,undef]
  .rw[show List.replicate 0 z=[]from rfl,B9];exact hs.mem.same hg
 .obtain⟨rfl,h5⟩:=h4 (by omega);have hZ:aI (DR X.w X.F) z zv.cells.toList:=mI EH;have hzs:zv.cells.size=sz:=by rw[<-hzl,hZ.length,ii]
  have vD:=jA hZ hzl h0 ln (ln*sz) (bd _);rw[qt]at vD;obtain⟨Y,hx',hρ,hm,hst⟩:=Ca (P:=P) hs.mem (off:=off) (new:=List.replicate ln z) hg hL (by simpa using hle) (λf hf=>by rw[(rx.1 hf).2,h1];exact hzl) vD (by simp;omega);refine .value (Y:=Y) (v:=undef) ?_ hx' o7 hm (gj.I9 hρ);have Zp:(Builtin.zeroCells zv.cells ln).toList=(madeCells zv.cells (ln*sz)).toList:=by simp[Builtin.zeroCells,madeCells,hzs]
  rw[h1]at hst;simp[execOp,ho,resolve,invoke,builtin,Builtin.clear_,run_underlying ht,h2,zeroValue,typeInfo,hi,Hf,Zp,hst,undef]
def adB(hs:fQ X nt s a){ts:Array TypeId}{x y:Operand}{x' y':cq}{k:IntKind}{p q:Int}(ho:o.op=.call {callee:=.builtin .min,args:=#[x,y],argTypes:=ts})(hx:dA x=some x')(hy:dA y=some y')(h1:x'.ev s.slots=.d (.sc (.int k p)))(h2:y'.ev s.slots=.d (.sc (.int k q))):Quiet P X o a (nJ (.int k (min p q))):=by
 have g1:=bD hs hx;rw[h1]at g1;have g1:=g1.sc;have g2:=bD hs hy;rw[h2]at g2;have g2:=g2.sc;refine⟨_,?_,.nJ rfl⟩;have e:(if q<p then q else p)=min p q:=by grind
 simp[execOp,ho,resolve,invoke,builtin,Builtin.min_,g1,g2,Builtin.min2,e]
def adC(hs:fQ X nt s a){ts:Array TypeId}{x y:Operand}{x' y':cq}{k:IntKind}{p q:Int}(ho:o.op=.call {callee:=.builtin .max,args:=#[x,y],argTypes:=ts})(hx:dA x=some x')(hy:dA y=some y')(h1:x'.ev s.slots=.d (.sc (.int k p)))(h2:y'.ev s.slots=.d (.sc (.int k q))):Quiet P X o a (nJ (.int k (max p q))):=by
 have g1:=bD hs hx;rw[h1]at g1;have g1:=g1.sc;have g2:=bD hs hy;rw[h2]at g2;have g2:=g2.sc;refine⟨_,?_,.nJ rfl⟩;have e:(if p<q then q else p)=max p q:=by grind
 simp[execOp,ho,resolve,invoke,builtin,Builtin.max_,g1,g2,Builtin.max2,e]
end
def Hl:∀{els:List (List D)}{l:List UInt8},bytesOf els=some l->∃xs:List Int,els=xs.map (λn=>[.sc (.int .u8 n)])/\l=xs.map λn=>UInt8.ofNat n.toNat:=by intro els;induction els with|nil=>simp_all[bytesOf]|cons e r ih=>
 intro l h;unfold bytesOf at h;split at h;.grind
 .rename_i n r' hq;cases hq;obtain⟨l',hl',rfl⟩:=f0.1 h;obtain⟨xs,rfl,rfl⟩:=ih hl';exact⟨n::xs,rfl,rfl⟩
 grind
section
variable{P:Program}{X:Cx}{nt:NT}{s:St}{a:Act}{o:Oper}{dst:Option Nat}{aZ:Nat}
def adD(hs:fQ X nt s a){src ds e:TypeId}{x:Operand}{x':cq}{els:List (List D)}{l:List UInt8}(ho:o.op=.convert src ds x)(h1:P.underlying src=some (.slice e))(h2:P.underlying e=some (.int .u8))(h3:P.underlying ds=some .string)(hx:dA x=some x')(he:dQ s.mem (x'.ev s.slots)=some els)(hl:bytesOf els=some l):Quiet P X o a (nJ (.string (od l))):=by
 obtain⟨xs,rfl,rfl⟩:=Hl hl;obtain⟨ad,cap,sz,b,off,hv,_,had,PE⟩:=tu hs.mem he (bD hs hx);refine⟨.string (od (xs.map λn=>UInt8.ofNat n.toNat)),?_,.nJ rfl⟩;have key:(convert src ds (a.eval x)).run P X.w=.ok (.string (od (xs.map λn=>UInt8.ofNat n.toNat))) X.w:=by
  rw[hv];by_cases h0:xs.length=0;.have vF:xs=[]:=fa h0;subst vF;rw[run_convert_bytes_string X.w src ds e ad _ cap h1 h2 h3];cases ad with|none=>rfl|some ad=>rfl
  .have hlt:0<(xs.map (λn=>([.sc (.int .u8 n)]:List D))).length:=by grind
   have:=had hlt;subst this;have hsz:sz=1:=by have:=PE.1 _ (fw hlt)<;>grind
   subst hsz;exact run_convert_bytes_arg X.w src e h1 h2 b off _ cap xs (by simp) (λi hi=>by simp at hi;obtain⟨_,v,hv,hd⟩:=PE.2 i [.sc (.int .u8 xs[i])] 0 (.sc (.int .u8 xs[i])) (by simp[aw hi]) rfl;cases hd;simp only[rp,dT]at hv;rw[hv];simp[List.getD,aw hi]) ds h3
 simp[execOp,ho,key]
def Cx.qu(X:Cx)(ob:Obj)(v:Nat)(L:Loc):Cx:={X with w:=X.w.alloc ob,ρ:=λu=>if u=v then some L else X.ρ u}
def vG{ob:Obj}{v:Nat}{L:Loc}(hin:∀b o,X.F b o->b<X.w.heap.size)(xd:∀b,X.old b->b<X.w.heap.size)(hv:X.ρ v=none):Ext X (X.qu ob v L):=⟨rfl,(fy.refl _ _).alloc xd _,λ_ _ h=>h,λb o h=>vC (hin b o h),λu M hu=>by grind[Cx.qu],λ_ _ h=>.inl h⟩
def Cb{m:List (Tr bM)}{t:Tr Unit}{ob:Obj}{v:Nat}{L:Loc}(h:aM X m t)(hv:X.ρ v=none):aM (X.qu ob v L) m t:=h.move (vG h.qI h.low hv) (λk u M hk hu hc=>by obtain⟨M',mH,h2⟩:=h.ew hk;rw[hu]at mH;cases mH;exact @heap_alloc_old _ _ _ (h2 hc).1) (λ_ _ _ _ _ _ _ h=>h) (λb o hb=>by have:=h.qI b o hb;show b<(X.w.alloc _).heap.size;rw[World.size_alloc];omega)
def Cc{ob:Obj}{v:Nat}{L:Loc}{n:Nat}:gj X (X.qu ob v L) v n n:=⟨bd _,λu M h=>by grind[Cx.qu]⟩
def adE(hs:fQ X nt s a)(hfr:X.ρ aZ=none){src ds e:TypeId}{x:Operand}{x':cq}{b:ByteArray}{rd:List (Nat×Nat×Nat)}(ho:o.op=.convert src ds x)(h1:P.underlying src=some .string)(h2:P.underlying ds=some (.slice e))(h3:P.underlying e=some (.int .u8))(hx:dA x=some x')(he:x'.ev s.slots=.d (.sc (.string b))):dS P X s a o dst aZ (.cu {val:=.d (.sl (b.data.toList.map λc=>[.sc (.int .u8 c.toNat)])),dD:=[],cT:=[],rd}):=by
 have hv:=bD hs hx;rw[he]at hv;have hv:=hv.sc;have hrun:=run_bytes_of_string (P:=P) X.w src ds e b h1 h2 h3;have hcap:b.size<=grownCap X.w b.size 0 e:=grownCap_ge _ _ _ _;generalize grownCap X.w b.size 0 e=cap at hrun hcap;let ob:Obj:=.cells (bytesRow b cap) e ((bytesRow b cap).size,(bytesRow b cap).size+1);let X2:=X.drew.qu ob aZ ⟨0,0,0,0⟩;let X3:=X2.more λb' q=>b'=X.w.heap.size/\q<b.size;have m1:aM X.drew s.mem s.aO:=B5 hs.mem;have e2:Ext X.drew X2:=vG m1.qI m1.low hfr;have m2:aM X2 s.mem s.aO:=Cb m1 hfr;have hsz:X2.w.heap.size=X.w.heap.size+1:=World.size_alloc _ _;have e3:Ext X2 X3:=Ext.more λb' q hq=>by rw[hq.1];exact hs.mem.fresh
 have m3:aM X3 s.mem s.aO:=m2.more (λb' q hq=>by rw[hq.1];exact⟨hs.mem.fresh,by omega⟩) λk u M q hk hu hc hq=>by obtain⟨M',mH,g⟩:=m1.ew hk;have:X2.ρ u=some M':=e2.loc _ _ mH;rw[hu]at this;injection this with this;subst this;have h4:=(g hc).1;have h5:X.drew.w.heap.size=X.w.heap.size:=rfl;have h6:=hq.1;omega
 have hheap:X3.w.heap[X.w.heap.size]?=some ob:=heap_alloc_new X.drew.w ob;have hx3:Ext X X3:=(qL.trans e2).trans e3;refine .value (Y:=X3) (v:=.slice (some ⟨X.w.heap.size,0,none⟩) b.size cap) ?_ hx3 ?_ m3 ⟨bd _,λu M hu=>?_⟩;.simp[execOp,ho,hv,hrun];rfl
 .refine DR.jr (b:=X.w.heap.size) (o:=0) (sz:=1) ⟨λf hf=>?_,λi f j y hi hj=>?_⟩ (by simp) hcap λ_=>rfl;.grind
  .rw[eI]at hi;obtain⟨c,hc,rfl⟩:=f0.1 hi;have zU:i<b.data.toList.length:=(db.1 hc).1;match j,hj with|0,hj=>simp at hj;subst hj;refine⟨.inr ⟨rfl,by simpa using zU⟩,.int .u8 c.toNat,?_,.sc _ rfl⟩;simp[World.cell?,hheap,ob,m9,rp,dT,o0,kv,n3];unfold bytesRow<;>grind
 .rcases(Cc (X:=X.drew) (ob:=ob) (v:=aZ) (L:=⟨0,0,0,0⟩) (n:=s.nv)).2 u M hu with q|q|q<;>grind[Cx.drew,VR,cq.ev,dA,St.app]
def SF(hs:fQ X nt s a)(hfr:X.ρ aZ=none){t:TypeId}{d:Nat}(ho:o.op=.makeMap t none):dS P X s a o dst aZ (.cu {val:=.mp (s.mem.length-1) d aZ,dD:=[(s.mem.length-1,d,some (.mp aZ []))],cT:=[],rd:=[]}):=by
 have hρ:(X.qu (.map #[] 0) aZ ⟨X.w.heap.size,0,0,1⟩).ρ aZ=some ⟨X.w.heap.size,0,0,1⟩:=be rfl;refine .value (Y:=X.qu (.map #[] 0) aZ ⟨X.w.heap.size,0,0,1⟩) (v:=.map (some X.w.heap.size)) ?_ (vG hs.mem.qI hs.mem.low hfr) ⟨_,hρ,rfl⟩ ?_ Cc;.simp[execOp,ho,Instr.makeMap,Cx.qu]
 .refine(Cb hs.mem hfr).add (e:=.mp aZ []) (L:=⟨X.w.heap.size,0,0,1⟩) hρ ⟨rfl,hs.mem.fresh,λo ho=>pA _ (hs.mem.qI _ _ ho),#[],0,heap_alloc_new _ _,rfl⟩ λk u M hk _ hu hc _=>?_;obtain⟨M',mH,h2⟩:=hs.mem.ew hk<;>grind[cF,St.app,Holds,Cx.qu]
def Jg{m:List (Tr bM)}{t:Tr Unit}(h:aM X m t){lv sl av:Nat}{ks:List (List UInt8)}(hr:setAt m lv sl av=some ks):∃L,X.ρ av=some L/\pZ X (.mp av ks) L/\aT m lv sl=some (.mp av ks):=by
 unfold setAt at hr;split at hr
 .rename_i v ks' hg;split at hr;.rename_i hv;cases hr;have hv:=beq_true.1 hv;subst hv;obtain⟨L,hL,hE⟩:=h.gz _ _ _ hg;exact⟨L,hL,hE,hg⟩
  grind
 grind
def SG(b:ByteArray)(l:List UInt8):(b==od l)=decide (b.data.toList=l):=by
 have hb:∀x y:ByteArray,(x==y)=(x.data==y.data):=λx y=>by cases x;cases y;rfl
 grind[od]
def Cd{b:ByteArray}:∀{es:List MapEntry}{ks:List (List UInt8)}(i:Nat),es.map (λe=>(e.key,e.val))=ks.map (λl=>(Value.string (od l),Value.bool true))->(hasB ks b.data.toList=false/\Instr.findNow .string (.string b) es i=some none)\/(hasB ks b.data.toList=true/\∃j e,es[j]?=some e/\e.key=.string b/\e.val=.bool true/\Instr.findNow .string (.string b) es i=some (some (i+j,.bool true)))
 |[],[],i,_=>.inl ⟨rfl,rfl⟩|[],_::_,i,h=>by simp at h|_::_,[],i,h=>by simp at h|e::es,l::ks,i,h=>by
  simp at h;obtain⟨⟨hk,hv⟩,h⟩:=h;have hsame:Instr.sameNow .string (.string b) e.key=some (decide (b.data.toList=l)):=by rw[hk];simp[Instr.sameNow];rw[SG]
  by_cases hq:b.data.toList=l
  .refine .inr ⟨by simp[hasB,hq],0,e,rfl,?_,hv,?_⟩;.rw[hk,<-hq];simp[od]
   .simp[Instr.findNow,hsame,hq,hv]
  .rcases Cd (b:=b) (i+1) h with⟨h1,h2⟩|⟨h1,j,e',h2,h3,h4,h5⟩;.exact .inl ⟨by simpa[hasB,hq]using h1,by simp[Instr.findNow,hsame,hq,h2]⟩
   .refine .inr ⟨by simpa[hasB,hq]using h1,j+1,e',by simpa using h2,h3,h4,?_⟩;simp only[Instr.findNow,hsame,hq,tx,h5]<;>grind
def SH{w:World}{c:Bool}{k:TypeId}{b:ByteArray}(hk:P.underlying k=some .string):(Instr.checkKey c 10000 k (.string b)).run P w=.ok () w:=by rw[Instr.checkKey];simp[run_underlying hk]
def SI{n:Nat}{b:ByteArray}:Instr.sameBits n (.string b) (.string b)=true:=by
 have h:(b==b)=true:=by have:=SG b b.data.toList;simp_all[od]
 cases n<;>exact h
def Zq(hs:fQ X nt s a){t k e:TypeId}{m x:Operand}{m' x':cq}{lv sl av:Nat}{b:ByteArray}{ks:List (List UInt8)}(ho:o.op=.lookup t m x false)(ht:P.underlying t=some (.map k e))(hk:P.underlying k=some .string)(hz:(P.info? e).bind (·.zero)=some (.bool false))(hm:dA m=some m')(hx:dA x=some x')(h1:m'.ev s.slots=.mp lv sl av)(h2:x'.ev s.slots=.d (.sc (.string b)))(h3:setAt s.mem lv sl av=some ks):Quiet P X o a (nJ (.bool (hasB ks b.data.toList))):=by
 have g1:=bD hs hm;rw[h1]at g1;have g2:=bD hs hx;rw[h2]at g2;have g2:=g2.sc;obtain⟨L,hL,g1⟩:=g1;obtain⟨L',hL',hE,_⟩:=Jg hs.mem h3;simp_all;obtain⟨_,_,_,es,clock,hb,hf⟩:=hE;refine⟨.bool (hasB ks b.data.toList),?_,.nJ rfl⟩;obtain⟨i,hi,Hf⟩:=lw.1 hz;have hc:=SH (P:=P) (w:=X.w) (c:=es.isEmpty) (b:=b) hk;rcases Cd (b:=b) 0 hf with⟨q1,q2⟩|⟨q1,j,e',q2,q3,q4,q5⟩;.simp[execOp,ho,g1,g2,Instr.lookup,run_underlying ht,MapKept.run_getObj_map hb,hc,Instr.findKey,run_underlying hk,q2,zeroValue,typeInfo,hi,Hf,q1]
 .simp[execOp,ho,g1,g2,Instr.lookup,run_underlying ht,MapKept.run_getObj_map hb,hc,Instr.findKey,run_underlying hk,q5,q1]
def Cx.Bj(X:Cx)(g:Nat)(ob:Obj):Cx:={X with w:={X.w with heap:=X.w.heap.setIfInBounds g ob}}
def PG{g:Nat}{ob ob':Obj}(hg:X.w.heap[g]?=some ob'):(X.Bj g ob).w.heap[g]?=some ob:=by grind[Cx.Bj]
def vH{g b:Nat}{ob:Obj}(h:b≠g):(X.Bj g ob).w.heap[b]?=X.w.heap[b]?:=by simp[Cx.Bj,pD h]
def Jh{g:Nat}{ob:Obj}(hb:¬X.old g)(hF:∀o,¬X.F g o):Ext X (X.Bj g ob):=by
 refine⟨rfl,⟨rfl,rfl,rfl,by simp[Cx.Bj],λk hk=>vH λe=>hb (e▸hk)⟩,λ_ _ h=>h,λb o h=>?_,λ_ _ h=>h,λ_ _ h=>.inl h⟩;have hne:b≠g:=by grind
 simp[World.cell?,vH hne]
def Zr(hs:fQ X nt s a){t k e:TypeId}{m x:Operand}{m' x':cq}{lv sl av:Nat}{b:ByteArray}{ks:List (List UInt8)}{rd:List (Nat×Nat×Nat)}(ho:o.op=.mapUpdate t m x (.const (.bool true)))(ht:P.underlying t=some (.map k e))(hk:P.underlying k=some .string)(hm:dA m=some m')(hx:dA x=some x')(h1:m'.ev s.slots=.mp lv sl av)(h2:x'.ev s.slots=.d (.sc (.string b)))(h3:setAt s.mem lv sl av=some ks):dS P X s a o dst aZ (.cu {val:=kI,dD:=[(lv,sl,some (.mp av (tc ks b.data.toList)))],cT:=[],rd}):=by
 have g1:=bD hs hm;rw[h1]at g1;have g2:=bD hs hx;rw[h2]at g2;have g2:=g2.sc;obtain⟨L,hL,g1⟩:=g1;obtain⟨L',hL',hE,hg⟩:=Jg hs.mem h3;rw[hL]at hL';cases hL';obtain⟨c1,c2,c3,es,clock,hb,hf⟩:=hE;have hc:=SH (P:=P) (w:=X.w) (c:=false) (b:=b) hk;have gt:a.eval (.const (.bool true))=.bool true:=rfl;have fin:∀es' clock',(Instr.mapUpdate t (.map (some L.b)) (.string b) (.bool true)).run P X.w=.ok () (X.Bj L.b (.map es' clock')).w->GX es' (tc ks b.data.toList)->dS P X s a o dst aZ (.cu {val:=kI,dD:=[(lv,sl,some (.mp av (tc ks b.data.toList)))],cT:=[],rd}):=by
  intro es' clock' hrun hfit;refine .skip (Y:=X.Bj L.b (.map es' clock')) ?_ (Jh c2 c3) o7 ?_ (gj.I9 rfl);.simp[execOp,ho,g1,g2,gt,hrun]
  .have hap:∀k w M,Holds (cH s.mem lv sl none) s.aO k w->X.ρ w=some M->0<M.cap->M.b≠L.b:=by
    intro k' w M hk' hw yH;have hold:Holds s.mem s.aO k' w/\k'≠cF lv sl:=by
     rcases hk' with⟨cV,dy,e',rfl,he',n9⟩|⟨rfl,he'⟩
     .rw[cM]at he';split at he';.cases he'
      .rename_i hcc;refine⟨.inl ⟨cV,dy,e',rfl,he',n9⟩,λhq=>?_⟩;obtain⟨rfl,rfl⟩:=BU hq;apply hcc;unfold aT at he'<;>grind
     .exact⟨.inr ⟨rfl,he'⟩,λhq=>fP hq.symm⟩
    exact hs.mem.apart _ _ _ _ _ _ hold.1 (.inl ⟨lv,sl,_,rfl,hg,rfl,rfl⟩) hold.2 hw hL yH (by omega)
   have EF:aM (X.Bj L.b (.map es' clock')) (cH s.mem lv sl none) s.aO:=(hs.mem.erase lv sl).move (Jh c2 c3) (λk' w M hk' hw yH=>vH (hap k' w M hk' hw yH)) (λ_ _ _ _ _ _ _ h=>h) λb' o' hb'=>by have:=hs.mem.qI b' o' hb';simpa[Cx.Bj]using this
   exact EF.reset (e:=.mp av (tc ks b.data.toList)) (L:=L) hL ⟨c1,c2,c3,es',clock',PG hb,hfit⟩ λk' w M hk' hw yH _=>hap k' w M hk' hw yH
 rcases Cd (b:=b) 0 hf with⟨q1,q2⟩|⟨q1,j,e',q2,q3,q4,q5⟩
 .refine fin (es.push {key:=.string b,val:=.bool true,born:=clock}) (clock+1) ?_ ?_;.simp[Instr.mapUpdate,run_underlying ht,MapKept.run_getObj_map hb,hc,Instr.findKey,run_underlying hk,q2,MapKept.run_setObj_map _ hb,Cx.Bj]
  .unfold GX tc at*;rw[q1];simp[hf,od]
 .refine fin (es.modify j λe=>{e with key:=.string b,val:=.bool true}) clock ?_ ?_
  .simp[Instr.mapUpdate,run_underlying ht,MapKept.run_getObj_map hb,hc,Instr.findKey,run_underlying hk,q5,MapKept.run_setObj_map _ hb,Cx.Bj,Instr.keyThatStays];have hj:es[j]?=some e':=by grind
   intro hno;rw[hj]at hno;simp only[cf,tb,q3,SI]at hno<;>grind
  .unfold GX tc at*;apply lO;grind
end
def Fl(T:TypeId):Code:=((Go.Code.region 0 #[{dst:=some 2,op:=Go.Op.assign (Go.Operand.const (Go.Value.slice none 0 0)),type:=T,pos:= "slices.go:355",after:=#[],guard:=none}] false).seq (((Go.Code.region 1 #[{dst:=some 3,op:=Go.Op.move (Go.Operand.tmp 0),type:=T,pos:= "slices.go:357",after:=#[],guard:=none},{dst:=some 4,op:=Go.Op.binOp Go.BinOp.eql T (Go.Operand.tmp 3) (Go.Operand.const (Go.Value.slice none 0 0)) T,type:=4,pos:= "slices.go:357",after:=#[{on:=0,ground:=Go.Ground.data}],guard:=none}] false).seq (Go.Code.cond (Go.Operand.tmp 4) ((Go.Code.region 2 #[{dst:=some 2,op:=Go.Op.assign (Go.Operand.const (Go.Value.slice none 0 0)),type:=T,pos:= "slices.go:358",after:=#[],guard:=none}] false).seq Go.Code.ret) Go.Code.skip)).seq ((Go.Code.region 3 #[{dst:=some 5,op:=Go.Op.buildSlice T 0 #[],type:=T,pos:= "slices.go:362",after:=#[],guard:=none},{dst:=some 6,op:=Go.Op.move (Go.Operand.tmp 0),type:=T,pos:= "slices.go:362",after:=#[],guard:=none},{dst:=some 7,op:=Go.Op.call {callee:=Go.Callee.builtin Go.Builtin.append,args:=#[Go.Operand.tmp 5,Go.Operand.tmp 6],argTypes:=#[T,T]},type:=T,pos:= "slices.go:362",after:=#[{on:=0,ground:=Go.Ground.data},{on:=1,ground:=Go.Ground.data}],guard:=none},{dst:=some 2,op:=Go.Op.assign (Go.Operand.tmp 7),type:=T,pos:= "slices.go:362",after:=#[{on:=2,ground:=Go.Ground.data},{on:=2,ground:=Go.Ground.chain},{on:=0,ground:=Go.Ground.phase},{on:=1,ground:=Go.Ground.phase},{on:=2,ground:=Go.Ground.phase}],guard:=none}] false).seq Go.Code.ret)))
structure Ho(P:Program)(f T:Nat):Prop where fn:∃fn,P.funcs[f]?=some fn/\fn.body=some (Fl T)/\fn.ntmps=8/\fn.results=#[.tmp 2]/\(fn.name== "runtime.NumGoroutine")=false
section
variable{P:Program}
def pe{f:Nat}{fn:Func}{args:Array Value}{w:World}(hf:P.funcs[f]?=some fn)(hb:fn.body.isSome=true)(hn:(fn.name== "runtime.NumGoroutine")=false):(callFunc f args).run P w=.ok (.enter f args) w:=by
 have hb':fn.body.isNone=false:=by simp_all
 simp only[callFunc,Sem.run_bind,run_program,Result.andThen_ok,hf,hn,kv,n3,hb'];rfl
def jg{ops:Array Oper}{Q:Exit->Act->World->Prop}{i:Nat}{rest:List Nat}{o:Oper}{a:Act}{w:World}(ho:ops[i]?=some o)(hg:o.guard=none)(h:o.wp P a w (wpOps P ops Q rest) Q):wpOps P ops Q (i::rest) a w:=by
 simp[wpOps,ho];have:Region.wanted o (yielded ops a.tmps)=true:=by simp[Region.wanted,hg]
 grind
def rS{o:Oper}{a:Act}{w w':World}{v:Value}{K:Act->World->Prop}{Q:Exit->Act->World->Prop}(hr:(execOp a.eval o).run P w=.ok (.value v) w')(h:K (a.put o.dst v) w'):o.wp P a w K Q:=by unfold Oper.wp;rw[hr];exact h
def Zs{T e:TypeId}{ad:Option Addr}{n c:Nat}{w:World}(hT:P.underlying T=some (.slice e)):(binOp .eql T (.slice ad n c) (.slice none 0 0)).run P w=.ok (.bool ad.isNone) w:=by
 have h:∀d,(Op.equalIn (d+1) T (.slice ad n c) (.slice none 0 0)).run P w=.ok ad.isNone w:=λd=>by cases ad<;>simp[Op.equalIn,run_underlying hT]
 have h9:(Op.equal T (.slice ad n c) (.slice none 0 0)).run P w=.ok ad.isNone w:=h 9999;simp[binOp,h9]
variable{X:Cx}{aZ:Nat}
def SJ{next:Act->World->Prop}{Q:Exit->Act->World->Prop}{a:Act}{w:World}(h:Q .ret a w):Exit.then next Q .ret a w:=h
def Ji{f T e:TypeId}{i:TypeInfo}{z:Value}{s:St}{x:AV}{xv:Value}{row:Bool}{lv sl n:Nat}{E:gu}(hc:Ho P f T)(h:aM X s.mem s.aO)(hfr:X.ρ aZ=none)(hT:P.underlying T=some (.slice e))(hi:P.info? e=some i)(hz:i.zero=some z)(hzs:z.cells.size=i.size)(h0:0<i.size)(hx:VR X x xv)(cr:∃ad m c,xv=.slice ad m c)(hr:eg s row lv sl aZ i.size i.bytes (.own [] .full) x=some E):Calls P f #[xv] X.w λen w'=>∃Y v,en=.returned v/\Y.w=w'/\Ext X Y/\VR Y E.val v/\aM Y (bI s.mem E.dD) (eO s.aO E.cT)/\gj X Y aZ n n:=by
 obtain⟨fn,hf,hb,hnt,hres,_⟩:=hc;obtain⟨ad,m,c,rfl⟩:=cr;have hnI:Hh P T:=.inl ⟨e,hT⟩;refine calls_of_wp hf hb ?_;rw[hnt];have e0:(#[Value.slice ad m c]++Array.replicate (8-(#[Value.slice ad m c]:Array Value).size) undef)=#[.slice ad m c,undef,undef,undef,undef,undef,undef,undef]:=rfl;rw[e0];unfold Fl;refine wp_seq (wp_region ?_);refine jg rfl rfl (rS (v:=.slice none 0 0) (w':=X.w) rfl ?_);show Code.wp P _ _ _ _;refine wp_seq (wp_seq (wp_region ?_));refine jg rfl rfl (rS (v:=.slice ad m c) (w':=X.w) rfl ?_);refine jg rfl rfl (rS (v:=.bool ad.isNone) (w':=X.w) ?_ ?_);.have hg:(eqGuard .eql T (.tmp 3) (.const (.slice none 0 0)) (.slice ad m c) (.slice none 0 0)).run P X.w=.ok () X.w:=nC (by simp) (by simp);have he:=Zs (P:=P) (n:=m) (c:=c) (ad:=ad) (w:=X.w) hT;simp[execOp,Act.eval,Act.put,hg,he]
 show Code.wp P _ _ _ _;cases ad with|none=>
  refine wp_cond_true rfl ?_;refine wp_seq (wp_region ?_);refine jg rfl rfl (rS (v:=.slice none 0 0) (w':=X.w) rfl ?_);show Code.wp P _ _ _ _;refine wp_ret ?_;refine SJ ?_;refine bodyPost_ret (results_tmp hres _ _ _) rfl ?_;have hrun:∃Y v,(Builtin.append_ #[T,T] T #[.slice none 0 0,.slice none m c]).run P X.w=.ok v Y.w/\Ext X Y/\VR Y E.val v/\aM Y (bI s.mem E.dD) (eO s.aO E.cT)/\gj X Y aZ n n:=tA (x:=.own [] .full) h hfr hT hnI hi hz hzs h0 ⟨none,0,0,0,rfl,λh=>absurd h (by simp),fe.nil⟩ hx hr;obtain⟨Y,v,h1,h2,h3,h4,h5⟩:=hrun;have hm0:m=0:=by unfold eg at hr;cases hn:gP s.mem x with|none=>rw[hn]at hr;cases hr|some news=>
   have:=(Bt (P:=P) (sz:=i.size) h hn hx (by
    rw[hn]at hr;simp only at hr;split at hr;.rename_i I7;exact kE I7
    .cases hr) h0);obtain⟨vs,hd,hl,hfc⟩:=this;have hl':=hl X.w;simp only[Builtin.lenOf,Sem.run_pure]at hl';injection hl' with hl';have hnl:∀e∈news,e.length=i.size:=by
    rw[hn]at hr;simp only at hr;split at hr;.rename_i I7;exact kE I7
    .cases hr
   have:=hfc X.w (λ_ _=>rfl) news.length (bd _);simp only[Builtin.firstCells,Sem.run_pure]at this;injection this with this;have hvl:vs.length=news.length*i.size:=by rw[<-hd.length,bz hnl]
   rw[<-hvl,f9]at this;have h00:vs.length=0:=by have:=kw Array.size this;simpa using this.symm
   rw[h00]at hvl;rcases Nat.mul_eq_zero.1 hvl.symm with h|h;.omega
   .omega
  subst hm0;have hr0:(Builtin.append_ #[T,T] T #[.slice none 0 0,.slice none 0 c]).run P X.w=.ok (.slice none 0 0) X.w:=by have:=kS (P:=P) (t:=T) (u:=T) (ty:=T) (w:=X.w) (ad:=none) (n:=0) (cap:=0) (m:=0) (y:=.slice none 0 c) (new:=[]) hT (.val hnI rfl (by simp[Builtin.firstCells]) (by simp[Builtin.firstCells])) hi (by omega);exact this
  rw[hr0]at h1;injection h1 with h1 h1';subst h1;exact⟨Y,_,by simp[Act.put],h1'.symm,h2,h3,h4,h5⟩|some ad=>
  refine wp_cond_false rfl ?_;refine wp_skip ?_;show Code.wp P _ _ _ _;refine wp_seq (wp_region ?_);let X1:=X.alloc #[] e aZ ⟨0,0,i.size,0⟩;let X1':Cx:={X with w:=X.w.alloc (.cells #[] e)};have hx1:Ext X X1':=⟨rfl,(fy.refl _ _).alloc h.low _,λ_ _ h=>h,λb o hb=>vC (h.qI b o hb),λ_ _ h=>h,λ_ _ h=>.inl h⟩;have EF:aM X1' s.mem s.aO:=h.move hx1 (λk u M hk hu hc=>by obtain⟨M',mH,h2⟩:=h.ew hk;rw[hu]at mH;injection mH with mH;subst mH;exact @heap_alloc_old _ _ _ (h2 hc).1) (λ_ _ _ _ _ _ _ h=>h) λb o hb=>by have:=h.qI b o hb;show b<(X.w.alloc _).heap.size;rw[World.size_alloc];omega
  refine jg rfl rfl (rS (v:=.slice (some ⟨X.w.heap.size,0,none⟩) 0 0) (w':=X1'.w) ?_ ?_);.have e0:Array.range 0=#[]:=rfl;simp[execOp,Instr.buildSlice,run_underlying hT,sizeOf,typeInfo,hi,newRow,e0,Instr.fill,X1']
  refine jg rfl rfl (rS (v:=.slice (some ad) m c) (w':=X1'.w) rfl ?_);obtain⟨Y,v,h1,h2,h3,h4,h5⟩:=tA (P:=P) (X:=X1') (t:=T) (u:=T) (ty:=T) (n:=n) (xv:=.slice (some ⟨X.w.heap.size,0,none⟩) 0 0) (x:=.own [] .full) EF hfr hT hnI hi hz hzs h0 ⟨some ⟨X.w.heap.size,0,none⟩,0,0,0,rfl,λh=>absurd h (by simp),fe.nil⟩ (hx.ext hx1) hr;refine jg rfl rfl (rS (v:=v) (w':=Y.w) ?_ ?_);.simp[execOp,Act.eval,Act.put,resolve,invoke,builtin,h1]
  refine jg rfl rfl (rS (v:=v) (w':=Y.w) rfl ?_);show Code.wp P _ _ _ _;refine wp_ret ?_;refine bodyPost_ret (results_tmp hres _ _ _) rfl ?_;exact⟨Y,v,by simp[Act.put],rfl,hx1.trans h2,h3,h4,h5.1,λu M hu=>h5.2 u M hu⟩
end
structure Od(w w':World)(b off:Nat)(zs:List Int):Prop where
 os:w'.os=w.os
 tape:w'.tape=w.tape
 output:w'.output=w.output
 size:w.heap.size<=w'.heap.size
 other:∀k,k<w.heap.size->k≠b->w'.heap[k]?=w.heap[k]?row:∀C e,w.heap[b]?=some (.cells C e (0,0))->∃C',w'.heap[b]?=some (.cells C' e (0,0))/\C'.size=C.size/\∀j z,zs[j]?=some z->C'[off+j]?=some (.int .i64 z)
structure Mb(P:Program)(f:Nat):Prop where
 fn:∃fn,P.funcs[f]?=some fn/\fn.body.isSome=true/\(fn.name== "runtime.NumGoroutine")=false
 empty:∀p cap w,Calls P f #[.slice p 0 cap] w λe w'=>e=.returned (.tuple #[])/\w'=w
 rows:∀b off cap zs w C e,w.heap[b]?=some (.cells C e (0,0))->(∀(j:Nat)z,zs[j]?=some z->C[off+j]?=some (.int .i64 z))->0<zs.length->zs.length<4611686018427387904->Calls P f #[.slice (some ⟨b,off,none⟩) zs.length cap] w λe w'=>e=.returned (.tuple #[])/\Od w w' b off (j7 zs)
structure yL(P:Program)(f:Nat):Prop where
 fn:∃fn,P.funcs[f]?=some fn/\fn.body.isSome=true/\(fn.name== "runtime.NumGoroutine")=false
 empty:∀p cap w,Calls P f #[.slice p 0 cap] w λe w'=>e=.returned (.slice p 0 cap)/\w'=w
 rows:∀b off cap zs w C e,w.heap[b]?=some (.cells C e (0,0))->(∀(j:Nat)z,zs[j]?=some z->C[off+j]?=some (.int .i64 z))->0<zs.length->zs.length<4611686018427387904->zs.length<=cap->Calls P f #[.slice (some ⟨b,off,none⟩) zs.length cap] w λe w'=>e=.returned (.slice (some ⟨b,off,none⟩) (j8 zs).length cap)/\Od w w' b off (j8 zs)
structure kr(P:Program)(f T:Nat):Prop where
 clone:T≠1000000->T≠1000001->Ho P f T
 sort:T=1000000->Mb P f
 compact:T=1000001->yL P f
def tB:∀{els:List (List D)}{zs:List Int},tf els=some zs->els=jm zs
 |[],zs,h=>by cases h;rfl|e::r,zs,h=>by
  unfold tf at h;split at h;.grind
  .rename_i z r' h1;cases h1;obtain⟨y,hy,rfl⟩:=f0.1 h;rw[tB hy];rfl
  grind
def zV(x:Int):∀l,(BS x l).length=l.length+1
 |[]=>rfl|y::r=>by
  unfold BS;split;.rfl
  .rw[eK,zV x r];rfl
def oI:∀l,(j7 l).length=l.length|[]=>rfl|x::r=>by rw[j7,zV,oI r];rfl
section
variable{P:Program}{X:Cx}{nt:NT}{s:St}{a:Act}{o:Oper}{dst:Option Nat}{aZ:Nat}
def Fm(hm:aM X s.mem s.aO){w':World}{b off:Nat}{zs:List Int}(h:Od X.w w' b off zs)(hb:¬X.old b)(hF:∀o,¬X.F b o):Ext X {X with w:=w'}:=by
 have xd:=hm.low;refine⟨rfl,⟨h.os,h.tape,h.output,h.size,λk hk=>h.other k (xd k hk) λe=>hb (e▸hk)⟩,λ_ _ h=>h,λc o hc=>?_,λ_ _ h=>h,λ_ _ h=>.inl h⟩;have hne:c≠b:=by grind
 simp[World.cell?,h.other c (hm.qI c o hc) hne]
def Mc(hs:fQ X nt s a){f:Nat}{x:Operand}{x':cq}{_ts:Array TypeId}{E:gu}(hc:Mb P f)(hrun:(execOp a.eval o).run P X.w=.ok (.enter f #[a.eval x]) X.w)(hx:dA x=some x')(hr:zP s (x'.ev s.slots)=some E):dS P X s a o dst aZ (.cu E):=by
 have hv:=bD hs hx;intro K Q hK;unfold Oper.wp;rw[hrun];have hu:∀Y:Cx,VR Y kI (.tuple #[]):=λY=>⟨#[],rfl,trivial⟩;unfold zP at hr;split at hr;.rename_i he;cases hr;rw[he]at hv;obtain⟨ad,b,off,sz,Md,_⟩:=hv;rw[Md];refine Calls.mono (hc.empty ad 0 X.w) ?_;rintro en w'⟨rfl,rfl⟩;exact hK X _ (Ext.refl X) (hu X) hs.mem ⟨bd _,λv L h=>.inl h⟩
 .rename_i lv sl av off len sz he;split at hr
  .rename_i els hrow;obtain⟨zs,hz,qv⟩:=lw.1 hr;split at qv
   .rename_i adF;obtain⟨rfl,rfl,rfl,hlt⟩:=adF;cases qv;rw[he]at hv;have B4:=tB hz;have hlen:els.length=zs.length:=by rw[B4];simp[jm]
    obtain⟨L,hL,hE,hg⟩:=nN hs.mem hrow;obtain⟨L1,ad,cap,Oa,h1,Md,h3,h4⟩:=hv;rw[hL]at Oa;cases Oa;rw[Md];by_cases h0:els.length=0;.have hz0:zs=[]:=fa (by omega);subst hz0;rw[h0];refine Calls.mono (hc.empty ad cap X.w) ?_;rintro en w'⟨rfl,rfl⟩;refine hK X _ (Ext.refl X) (hu X) ?_ ⟨bd _,λv L h=>.inl h⟩;show aM X (cH s.mem lv sl (some (.row av []))) s.aO;refine hs.mem.congr (λcV dy=>?_) λ_=>rfl;rw[cM]<;>grind
    .obtain⟨rfl,h5⟩:=h4 (by omega);have hc0:0<L.cap:=by omega
     obtain⟨C,ce,vB,qC,hb3,hb4,hb5,hb6,hap,B7⟩:=oR hs.mem hg hL hc0;have hC:∀(j:Nat)z,zs[j]?=some z->C[L.o+j]?=some (.int .i64 z):=by
      intro j z hj;have hq:els[j]?=some [.sc (.int .i64 z)]:=by rw[B4];simp[jm,hj]
      obtain⟨v,hv,hd⟩:=B7 j _ 0 _ hq rfl;rw[h1,rp,dT]at hv;rw[hv];cases hd with|sc v _=>rfl
     have cP:=hc.rows L.b L.o cap zs X.w C ce vB hC (by omega) (by omega);rw[<-hlen]at cP;refine Calls.mono cP ?_;rintro en w'⟨rfl,hw⟩;have hx:=Fm hs.mem hw qC hb4;refine hK {X with w:=w'} _ hx (hu _) ?_ ⟨bd _,λv L h=>.inl h⟩;obtain⟨C',hq1,xl,R4⟩:=hw.row C ce vB;have hmm:aM {X with w:=w'} (cH s.mem lv sl none) s.aO:=(hs.mem.erase lv sl).move hx (λk v M a b c=>by obtain⟨M',mH,h2⟩:=(hs.mem.erase lv sl).ew a;rw[b]at mH;injection mH with mH;subst mH;exact hw.other M.b (h2 c).1 (hap k v M a b c)) (λ_ _ _ _ _ _ _ h=>h) (λb o hb=>by have:=hs.mem.qI b o hb;have:=hw.size;show b<w'.heap.size;omega);have cr:(j7 zs).length=zs.length:=oI zs;refine hmm.reset (e:=.row av (jm (j7 zs))) (L:=L) hL ⟨by simp only[jm,iv];omega,λe he=>?_,λ_=>⟨⟨qC,C',ce,hq1,by rw[xl];exact hb3⟩,hb4⟩,λq f j x hq hj=>?_⟩ λk v M a b c _=>hap k v M a b c;.simp[jm,j1]at he<;>grind
     .simp[jm,eI,f0]at hq;obtain⟨z,L6,rfl⟩:=hq;have hj0:j=0/\x=.sc (.int .i64 z):=by grind
      obtain⟨rfl,rfl⟩:=hj0;refine⟨.int .i64 z,?_,.sc _ rfl⟩;rw[cell_of_row _ _ _ _ _ _ hq1,h1,rp]<;>grind
   grind
  grind
 grind
def oJ:∀l,(j8 l).length<=l.length
 |[]=>bd _|x::r=>by
  unfold j8;split;.simp
  .split;.exact Nat.le_succ_of_le (oJ _)
   .exact Nat.succ_le_succ (oJ _)
def EI(hs:fQ X nt s a)(hfr:X.ρ aZ=none){f:Nat}{x:Operand}{x':cq}{_ts:Array TypeId}{E:gu}(hc:yL P f)(hrun:(execOp a.eval o).run P X.w=.ok (.enter f #[a.eval x]) X.w)(hx:dA x=some x')(hr:nL s aZ (x'.ev s.slots)=some E):dS P X s a o dst aZ (.cu E):=by
 have hv:=bD hs hx;intro K Q hK;unfold Oper.wp;rw[hrun];unfold nL at hr;split at hr;.rename_i he;cases hr;rw[he]at hv;have n9:=hv;obtain⟨ad,b,off,sz,Md,_⟩:=hv;rw[Md]at n9⊢;refine Calls.mono (hc.empty ad 0 X.w) ?_;rintro en w'⟨rfl,rfl⟩;exact hK X _ (Ext.refl X) n9 hs.mem ⟨bd _,λv L h=>.inl h⟩
 .rename_i lv sl av off len sz he;split at hr
  .rename_i els hrow;obtain⟨zs,hz,qv⟩:=lw.1 hr;split at qv
   .rename_i adF;obtain⟨rfl,rfl,rfl,hlt⟩:=adF;cases qv;rw[he]at hv;have n9:=hv;have B4:=tB hz;have hlen:els.length=zs.length:=by rw[B4];simp[jm]
    obtain⟨L,hL,hE,hg⟩:=nN hs.mem hrow;obtain⟨L1,ad,cap,Oa,h1,Md,h3,h4⟩:=hv;rw[hL]at Oa;cases Oa;rw[Md]at n9⊢;by_cases h0:els.length=0
    .have hz0:zs=[]:=fa (by omega);subst hz0;obtain⟨Y,hw,g1,g2,g3,g4⟩:=Ob (n:=s.nv) hs.mem hfr (l:=0) (h':=0) n9 hrow (bd _) (yi _) (by omega);rw[h0];refine Calls.mono (hc.empty ad cap X.w) ?_;rintro en w'⟨rfl,rfl⟩;rw[<-hw];refine hK Y _ g1 ?_ ?_ g4
     .have e:(if cap=0then ad else ad.map (·.add (0*1)))=ad:=by
       split;.rfl
       .rw[(h4 (by omega)).1];simp[Addr.add_lit]
      rw[e]at g2;exact g2
     .exact g3
    .obtain⟨rfl,h5⟩:=h4 (by omega);have hc0:0<L.cap:=by omega
     obtain⟨C,ce,vB,qC,hb3,hb4,hb5,hb6,hap,B7⟩:=oR hs.mem hg hL hc0;have hC:∀(j:Nat)z,zs[j]?=some z->C[L.o+j]?=some (.int .i64 z):=by
      intro j z hj;have hq:els[j]?=some [.sc (.int .i64 z)]:=by rw[B4];simp[jm,hj]
      obtain⟨v,hv,hd⟩:=B7 j _ 0 _ hq rfl;rw[h1,rp,dT]at hv;rw[hv];cases hd with|sc v _=>rfl
     have cP:=hc.rows L.b L.o cap zs X.w C ce vB hC (by omega) (by omega) (by omega);rw[<-hlen]at cP;refine Calls.mono cP ?_;rintro en w'⟨rfl,hw⟩;have hx:=Fm hs.mem hw qC hb4;let L':Loc:=⟨L.b,L.o,1,cap⟩;have aiR:({X with w:=w'}:Cx).ρ aZ=none:=hfr;have hxn:Ext {X with w:=w'} (({X with w:=w'}:Cx).name aZ L'):=eS aiR;have cr:=oJ zs;refine hK (({X with w:=w'}:Cx).name aZ L') _ (hx.trans hxn) ⟨L',_,cap,ff,rfl,rfl,by omega,λ_=>⟨by simp[L'],by simp[L']⟩⟩ ?_ ⟨bd _,λv M hw=>by
      rcases(je (X:={X with w:=w'}) (v:=aZ) (n:=0) (L:=L')).2 v M hw with hq|hq|hq;.exact .inl hq
      .exact .inr (.inl hq)
      .omega⟩;obtain⟨C',hq1,xl,R4⟩:=hw.row C ce vB;have hmm:aM {X with w:=w'} (cH s.mem lv sl none) s.aO:=(hs.mem.erase lv sl).move hx (λk v M a b c=>by obtain⟨M',mH,h2⟩:=(hs.mem.erase lv sl).ew a;rw[b]at mH;injection mH with mH;subst mH;exact hw.other M.b (h2 c).1 (hap k v M a b c)) (λ_ _ _ _ _ _ _ h=>h) (λb o hb=>by have:=hs.mem.qI b o hb;have:=hw.size;show b<w'.heap.size;omega);refine(gW hmm aiR).reset (e:=.row aZ (jm (j8 zs))) (L:=L') ff ⟨by simp only[jm,iv,L'];omega,λe he=>?_,λ_=>⟨⟨qC,C',ce,hq1,?_⟩,hb4⟩,λq f j x hq hj=>?_⟩ λk v M a b c _=>?_;.simp[jm,j1]at he;obtain⟨z,_,rfl⟩:=he;rfl
     .show L.o+cap*1<=C'.size;rw[h1]at hb3;omega
     .simp[jm,eI,f0]at hq;obtain⟨z,L6,rfl⟩:=hq;have hj0:j=0/\x=.sc (.int .i64 z):=by cases j with|zero=>simp at hj;exact⟨rfl,hj.symm⟩|succ j=>simp at hj
      obtain⟨rfl,rfl⟩:=hj0;refine⟨.int .i64 z,?_,.sc _ rfl⟩;show World.cell? w' ⟨L.b,L.o+q*1+0,none⟩=_;rw[cell_of_row _ _ _ _ _ _ hq1,rp];exact R4 q z L6
     .obtain⟨M',mH,_⟩:=(hs.mem.erase lv sl).ew a;have h9:(({X with w:=w'}:Cx).name aZ L').ρ v=some M':=hxn.loc _ _ mH;rw[b]at h9;cases h9;exact hap k v M a mH c
   grind
  grind
 grind
def PI(hs:fQ X nt s a)(hfr:X.ρ aZ=none){x:Operand}{x':cq}{row d:Nat}(hrun:(execOp a.eval o).run P X.w=.ok (.value (a.eval x)) X.w)(hx:dA x=some x'):dS P X s a o dst aZ (.cu (Bf row (s.mem.length-1) d aZ (x'.ev s.slots))):=by
 have hv:=bD hs hx;unfold Bf;split;.rename_i he;rw[he]at hv;obtain⟨ad,b,off,sz,Md,_⟩:=hv;refine .value (Y:=X.name aZ ⟨0,0,row/65536,0⟩) (by rw[hrun,Md];rfl) (eS hfr) ⟨⟨0,0,row/65536,0⟩,ad,0,ff,rfl,rfl,bd _,λhq=>absurd hq (by simp)⟩ ?_ je;exact(gW hs.mem hfr).add (e:=.row aZ []) (L:=⟨0,0,row/65536,0⟩) ff ⟨by simp,by simp,λhq=>absurd hq (by simp),by simp⟩ λ_ _ _ _ _ _ _ hq=>absurd hq (by simp)
 .exact .quiet hs ⟨a.eval x,hrun,hv⟩
def Me(hs:fQ X nt s a)(hfr:X.ρ aZ=none){x:Operand}{x':cq}{d:Nat}{E:gu}(hrun:(execOp a.eval o).run P X.w=.ok (.value (a.eval x)) X.w)(hx:dA x=some x')(hr:I1 s (s.mem.length-1) d aZ (x'.ev s.slots)=some E):dS P X s a o dst aZ (.cu E):=by
 have hv:=bD hs hx;unfold I1 at hr;split at hr
 .rename_i cV dy av off len sz he;rw[he]at hv;split at hr
  .rename_i els hrow;split at hr;.rename_i hle;have hle:=i7 hle;cases hr;obtain⟨Y,hw,g1,g2,g3,g4⟩:=SD (n:=s.nv) (lv2:=s.mem.length-1) (sl2:=d) hs.mem hfr hv hrow hle;exact .value (Y:=Y) (by rw[hw];exact hrun) g1 g2 g3 g4
   grind
  grind
 grind
def Ce{call:Go.bS.Call}{sh:Nat->Bool}(hs:fQ X nt s a)(hfr:X.ρ aZ=none){x:Operand}{x':cq}{row d:Nat}{r:ir}(hrun:(execOp a.eval o).run P X.w=.ok (.value (a.eval x)) X.w)(hx:dA x=some x')(hr:cy.run call sh s row d aZ (.IV x')=some r):dS P X s a o dst aZ r:=by
 simp[cy.run]at hr;split at hr;.obtain⟨E,hE,rfl⟩:=f0.1 hr;exact Me hs hfr hrun hx hE
 .cases hr;exact PI hs hfr hrun hx
end
end Go.bS
namespace Go.bS
open Go Go.RowKit Go.Sort
def yM(x:Int):∀l,(BS x l).Perm (x::l)
 |[]=>Eq _|y::r=>by
  unfold BS;split;.exact Eq _
  .exact((yM x r).cons y).trans (List.Perm.swap x y r)
def Cf:∀l,(j7 l).Perm l|[]=>Eq _|x::r=>by rw[j7];exact(yM x _).trans ((Cf r).cons x)
def zW(x:Int):∀l:List Int,l.Pairwise (·<=·)->(BS x l).Pairwise (·<=·)
 |[],_=>by simp[BS]|y::r,h=>by
  rw[pb]at h;unfold BS;split
  .rename_i hc;have hc:=dE hc;rw[pb];refine⟨λz hz=>?_,pb.2 h⟩;rcases dq.1 hz with rfl|hz;.exact hc
   .exact Hb hc (h.1 z hz)
  .rename_i hc;have hc:=of_decide_eq_false hc;rw[pb];refine⟨λz hz=>?_,zW x r h.2⟩;rcases dq.1 ((yM x r).mem_iff.1 hz)with rfl|hz;.omega
   .exact h.1 z hz
def xm:∀l:List Int,(j7 l).Pairwise (·<=·)|[]=>List.Pairwise.nil|x::r=>zW x _ (xm r)
def Hp(l:List Int):(l.mergeSort λx y=>decide (x<=y))=j7 l:=by refine List.Perm.eq_of_pairwise (le:=λa b=>a<=b) (λa b _ _ h1 h2=>Int.le_antisymm h1 h2) ?_ (xm l) ((List.mergeSort_perm _ _).trans (Cf l).symm);have:=List.pairwise_mergeSort (le:=λx y:Int=>decide (x<=y)) (λa b c h1 h2=>by simp only[dj]at*;omega) (λa b=>by simp only[ib,dj];omega) l;exact this.imp λh=>dE h
def Jj{w:World}{b off n:Nat}{zs:List Int}{os:Array Obj}(hz:∀C e,w.heap[b]?=some (.cells C e (0,0))->off+zs.length<=C.size)(hb:b<w.heap.size):Od w (grow (putRow (Value.int .i64) (Go.Sort.ahead w n) b off zs.toArray) os) b off zs:=by
 refine⟨rfl,rfl,rfl,?_,λk hk hne=>?_,λC e hC=>?_⟩;.simp[grow,putRow,mapBlock,Go.Sort.ahead]
 .simp only[grow,putRow,mapBlock,Go.Sort.ahead];rw[sf (by simpa using hk),Array.getElem?_modify,bi (pD hne)]
 .refine⟨putCells (Value.int .i64) off zs.toArray C,?_,by simp[putCells],λj z hj=>?_⟩;.simp only[grow,putRow,mapBlock,Go.Sort.ahead];rw[sf (by simpa using hb),Array.getElem?_modify,be rfl,hC];rfl
  .have hlt:=(db.1 hj).1;have hs:=hz C e hC;have hlt2:off+j<C.size:=by omega
   simp only[putCells];rw[Array.getElem?_mapIdx,px hlt2];simp only[cf];rw[be ⟨by omega,by simpa using hlt⟩];rw[show off+j-off=j by omega];have:zs.toArray[j]! =z:=by rw[FS zs.toArray j (by simpa using hlt)];have:=(db.1 hj).2;simpa using this
   rw[this]
def PJ{P:Program}{ρ:Go.Shelf.Ren}(L:Go.Proofs.Lays.n189 P ρ)(hf:∃fn,P.funcs[ρ.f 189]?=some fn/\fn.body.isSome=true/\(fn.name== "runtime.NumGoroutine")=false):Mb P (ρ.f 189):=by
 refine⟨hf,λp cap w=>Go.Proofs.Any.slices_Sort_int_none L p cap w,λb off cap zs w C e hC hz h0 hlt=>?_⟩;have hb:b<w.heap.size:=(ma.1 hC).1;have hH:Go.Sort.Holds (Value.int .i64) w b off zs.toArray:=by
  intro j hj;have hj:j<zs.length:=by simpa using hj
  have h1:=hz j zs[j] (aw hj);refine⟨?_,?_⟩;.rw[FS zs.toArray j (by simpa using hj)];simp[World.cell?,hC,h1]
  .simp[World.frozen?,hC]
 refine Calls.mono (Go.Proofs.Any.slices_Sort_int L b off cap zs w hH hb hlt) ?_;rintro en w'⟨rfl,n,os,rfl⟩;refine⟨rfl,?_⟩;rw[Hp];refine Jj (λC' e' PK=>?_) hb;rw[hC]at PK;injection PK with PK;injection PK with PK _ _;subst PK;rw[oI];have:=hz (zs.length-1) zs[zs.length-1] (aw (by omega));have:=(ma.1 this).1;omega
def kT(x:Int):List Int->List Int|[]=>[]|y::r=>if y≠x then y::kT y r else kT y r
def vI(x:Int):∀r,j8 (x::r)=x::kT x r
 |[]=>rfl|y::r=>by
  rw[j8];by_cases h:x=y;.subst h;rw[bv rfl,vI x r,kT,bi (by simp)]
  .rw[cb h,vI y r,kT,be (pD h)]
def Cg:∀(r:List Int)(x:Int),((List.range r.length).filter λj=>Lib.keeps (x::r).toArray (j+1)).map (λj=>(x::r).toArray[j+1]!)=kT x r
 |[],_=>rfl|y::r,x=>by
  have ih:=Cg r y;have h0:Lib.keeps (x::y::r).toArray (0+1)=decide (y≠x):=by simp[Lib.keeps]
  have hs:∀j,Lib.keeps (x::y::r).toArray (j+1+1)=Lib.keeps (y::r).toArray (j+1):=by intro j;simp[Lib.keeps]
  have hg:∀j,(x::y::r).toArray[j+1+1]! =(y::r).toArray[j+1]!:=by intro j;simp
  have Ch:(((List.range r.length).map Nat.succ).filter λj=>Lib.keeps (x::y::r).toArray (j+1)).map (λj=>(x::y::r).toArray[j+1]!)=kT y r:=by rw[List.filter_map,rc,<-ih];have e1:((λj=>Lib.keeps (x::y::r).toArray (j+1))∘Nat.succ)=λj=>Lib.keeps (y::r).toArray (j+1):=funext λj=>hs j;have e2:((λj=>(x::y::r).toArray[j+1]!)∘Nat.succ)=λj=>(y::r).toArray[j+1]!:=funext λj=>hg j;rw[e1,e2]
  rw[eK,List.range_succ_eq_map,te];rw[h0,kT];by_cases h:y≠x;.rw[be h,be (bv h),gc,Ch];simp
  .rw[bi h,bi (by simpa using h),Ch]
def Mf:∀zs:List Int,Lib.compact zs=j8 zs|[]=>rfl|x::r=>by rw[vI,<-Cg r x];unfold Lib.compact Lib.compactUpTo;rw[eK,List.range_succ_eq_map,te];rw[be (by simp[Lib.keeps])];rw[gc,List.filter_map,rc];rfl
def Hq{P:Program}{ρ:Go.Shelf.Ren}(L:Go.Proofs.Lays2.n20 P ρ)(hf:∃fn,P.funcs[ρ.f 20]?=some fn/\fn.body.isSome=true/\(fn.name== "runtime.NumGoroutine")=false):yL P (ρ.f 20):=by
 refine⟨hf,λp cap w=>Go.Proofs.Any.slices_Compact_int_empty L p cap w,λb off cap zs w C e hC hz h0 hlt hcap=>?_⟩;have hb:b<w.heap.size:=(ma.1 hC).1;have hH:Go.Sort.Holds (Value.int .i64) w b off zs.toArray:=by
  intro j hj;have hj:j<zs.length:=by simpa using hj
  have h1:=hz j zs[j] (aw hj);refine⟨?_,?_⟩;.rw[FS zs.toArray j (by simpa using hj)];simp[World.cell?,hC,h1]
  .simp[World.frozen?,hC]
 refine Calls.mono (Go.Proofs.Any.slices_Compact_int L b off cap zs w hH (by omega) hcap) ?_;rintro en w'⟨rfl,q,rfl⟩;rw[Mf];refine⟨rfl,?_⟩;have hle:=oJ zs;have:=Jj (w:=w) (b:=b) (off:=off) (n:=q) (zs:=j8 zs++List.replicate (zs.length-(j8 zs).length) 0) (os:=#[]) (λC' e' PK=>by rw[hC]at PK;injection PK with PK;injection PK with PK _ _;subst PK;have h2:=hz (zs.length-1) zs[zs.length-1] (aw (by omega));have h2:=(ma.1 h2).1;simp only[bc,d6];omega) hb;rw[grow_empty]at this;refine⟨this.os,this.tape,this.output,this.size,this.other,λC e hC=>?_⟩;obtain⟨C',h1,h2,h3⟩:=this.row C e hC;refine⟨C',h1,h2,λj z hj=>h3 j z ?_⟩;rw[pw (db.1 hj).1];exact hj
end Go.bS
namespace Go.bS
open Go Go.RowKit
def eL(P:Program)(call:Go.bS.Call):Prop:=∀f args mem aO nv r mem' p5 IK,call f args mem aO nv=some (r,mem',p5,IK)->∀(X:Cx)(cU:Array Value),aM X mem aO->(∀v,nv<=v->X.ρ v=none)->aI (V1 X) args cU.toList->(∃fn,P.funcs[f]?=some fn/\fn.body.isSome=true/\(fn.name== "runtime.NumGoroutine")=false)/\Calls P f cU X.w λe w'=>∃Y v,e=.returned v/\Y.w=w'/\Ext X Y/\VR Y r v/\aM Y mem' p5/\nv<=IK/\∀u L,Y.ρ u=some L->X.ρ u=some L\/(nv<=u/\u<IK)
def DR.mono{w:World}{F G:Nat->Nat->Prop}(h:∀b o,F b o->G b o){x:D}{v:Value}(hd:DR w F x v):DR w G x v:=by induction hd with|sc v h1=>exact .sc v h1|er v h1=>exact .er v h1|sl els a n cap sz b o g hn hcap hsz ha hF hc _ ih=>exact .sl els a n cap sz b o g hn hcap hsz ha (λi e j x h1 h2=>h _ _ (hF i e j x h1 h2)) hc ih
def fe.mono{w:World}{F G R S:Nat->Nat->Prop}(h:∀b o,F b o->G b o){els:List (List D)}{b o sz:Nat}(R3:∀q,(∃v,w.cell? ⟨b,q,none⟩=some v)->R b q->S b q)(hl:fe w F R els b o sz):fe w G S els b o sz:=⟨hl.1,λi e j x h1 h2=>by obtain⟨hF,v,hv,hd⟩:=hl.2 i e j x h1 h2;exact⟨R3 _ ⟨v,hv⟩ hF,v,hv,hd.mono h⟩⟩
def Oe{w:World}{b o:Nat}(h:∃v,w.cell? ⟨b,o,none⟩=some v):b<w.heap.size:=by obtain⟨v,hv⟩:=h;exact World.block_lt_of_cell? w ⟨b,o,none⟩ hv
def Cx.inner(X:Cx):Cx:={w:=X.w,F:=X.F,ρ:=λ_=>none,old:=λb=>b<X.w.heap.size}
def Hr{X Y:Cx}{f:Nat}{v:Value}(h:VC X (.fL f []) v):VC Y (.fL f []) v:=by grind[I3,aI,VC]
section
variable{X:Cx}{m:List (Tr bM)}{t:Tr Unit}
def nO(h:aM X m t)(ks:List (Nat×Nat)){x y:AV}{v:Value}(hx:dm m x=some y)(hv:VC X x v):VC (X.nK m ks).inner y v:=by
 have hex:=rQ h ks;have hsub:∀b o,X.F b o->(X.nK m ks).F b o:=λ_ _=>.inl;have data:∀{els a cap sz b o},v=.slice a els.length cap->els.length<=cap->(0<els.length->a=some ⟨b,o,none⟩)->fe X.w X.F X.F els b o sz->VC (X.nK m ks).inner (.d (.sl els)) v:=by rintro els a cap sz b o rfl h2 h3 h4;exact DR.jr (h4.ext hex) rfl h2 h3
 have SK:∀{els a cap sz b o}{R:Nat->Nat->Prop},v=.slice a els.length cap->els.length<=cap->(0<els.length->a=some ⟨b,o,none⟩)->fe X.w X.F R els b o sz->VC (X.nK m ks).inner (.own els .aY) v:=by rintro els a cap sz b o R rfl h2 h3 h4;exact⟨a,b,o,sz,cap,rfl,h2,h3,h4.mono hsub λq hq _=>Oe hq⟩
 cases x with
 |d x=>cases hx;exact DR.ext hex hv|own els ow=>cases ow with|full=>cases hx;obtain⟨a,b,o,sz,h1,h2,h3⟩:=hv;exact data h1 (bd _) h2 h3|cT av tz=>cases hx;obtain⟨a,b,o,sz,cap,h1,h2,h3,h4,_⟩:=hv;exact data h1 h2 (λh=>h3 (by omega)) h4|aY=>cases hx;obtain⟨a,b,o,sz,cap,h1,h2,h3,h4⟩:=hv;exact SK h1 h2 h3 h4
 |ref lv sl av off len sz=>simp only[dm]at hx;cases he:dQ m (.ref lv sl av off len sz)with|none=>grind|some els=>rw[he]at hx;cases hx;obtain⟨a,cap,sz',b,o,h1,h2,h3,h4⟩:=tu h he (.kQ hv);exact SK h1 h2 h3 h4
 |fL f c=>cases c with|nil=>cases hx;exact Hr hv|cons=>cases hx
 |_=>cases hx
def zX(h:aM X m t){ks k:List (Nat×Nat)}{x y:AV}{v:Value}(hx:fc m x=some (y,k))(hv:VC X x v)(hk:∀p∈k,p∈ks):VC (X.nK m ks).inner y v:=by
 have aqU:∀{x},(Be m x).map (λp=>(AV.d p.1,p.2))=some (y,k)->VC X x v->VC (X.nK m ks).inner y v:=by intro x hx hv;cases hd:Be m x with|none=>rw[hd]at hx;cases hx|some p=>rw[hd]at hx;injection hx with hx;injection hx with h1 h2;subst h1;exact Sx h (ks:=ks) hd hv λq hq=>hk q (by rw[<-h2];exact hq)
 unfold fc at hx;split at hx;.cases hx;exact nO h ks rfl hv
 .cases hx;exact nO h ks rfl hv
 .exact aqU hx hv
def xo(h:aM X m t){ks:List (Nat×Nat)}:∀{xs ys:List AV}{k:List (Nat×Nat)}{vs:List Value},fY m xs=some (ys,k)->aI (VC X) xs vs->(∀p∈k,p∈ks)->aI (VC (X.nK m ks).inner) ys vs
 |[],ys,k,[],hx,_,_=>by cases hx;trivial|x::xs,ys,k,v::vs,hx,hv,hk=>by
  simp[fY]at hx;split at hx;.rename_i y k1 ys' k2 h1 h2;cases hx;exact⟨zX h h1 hv.1 λp hp=>hk p (by simp[hp]),xo h h2 hv.2 λp hp=>hk p (by simp[hp])⟩
  grind|[],_,_,_::_,_,hv,_=>hv.elim|_::_,_,_,[],_,hv,_=>hv.elim
def Of(h:aM X m t){ks k:List (Nat×Nat)}{x y:AV}{v:Value}(hx:yI m x=some (y,k))(hv:VR X x v)(hk:∀p∈k,p∈ks):V1 (X.nK m ks).inner y v:=by
 have one:∀{x:AV},(dm m x).map (λy=>(y,([]:List (Nat×Nat))))=some (y,k)->VC X x v->V1 (X.nK m ks).inner y v:=by intro x hx hv;cases hd:dm m x with|none=>grind|some y'=>rw[hd]at hx;cases hx;exact .kQ (nO h ks hd hv)
 cases x with
 |agg cs=>simp only[yI]at hx;cases hd:fY m cs with|none=>grind|some p=>rw[hd]at hx;injection hx with hx;injection hx with h1 h2;subst h1;obtain⟨vs,rfl,h3⟩:=hv;exact⟨vs,rfl,xo h (k:=p.2) hd h3 λq hq=>hk q (by rw[<-h2];exact hq)⟩
 |jU cs=>simp[yI,dm]at hx|_=>simp only[yI]at hx;exact one hx hv
def Jk(h:aM X m t){ks:List (Nat×Nat)}:∀{xs ys:List AV}{k:List (Nat×Nat)}{vs:List Value},sH m xs=some (ys,k)->aI (VR X) xs vs->(∀p∈k,p∈ks)->aI (V1 (X.nK m ks).inner) ys vs
 |[],ys,k,[],hx,_,_=>by cases hx;trivial|x::xs,ys,k,v::vs,hx,hv,hk=>by
  simp[sH]at hx;split at hx;.rename_i y k1 ys' k2 h1 h2;cases hx;exact⟨Of h h1 hv.1 λp hp=>hk p (by simp[hp]),Jk h h2 hv.2 λp hp=>hk p (by simp[hp])⟩
  grind|[],_,_,_::_,_,hv,_=>hv.elim|_::_,_,_,[],_,hv,_=>hv.elim
def Zt(h:aM X m t){ks k:List (Nat×Nat)}{x y:AV}{v:Value}(hx:yJ m x=some (y,k))(hv:VR X x v)(hk:∀p∈k,p∈ks):V1 (X.nK m ks).inner y v:=by cases x with|agg cs=>exact Of h (x:=.agg cs) hx hv hk|jU cs=>simp[yJ,fc,Be]at hx|_=>simp only[yJ]at hx;exact .kQ (zX h hx hv hk)
def Jl(h:aM X m t){ks:List (Nat×Nat)}:∀{xs ys:List AV}{k:List (Nat×Nat)}{vs:List Value},sI m xs=some (ys,k)->aI (VR X) xs vs->(∀p∈k,p∈ks)->aI (V1 (X.nK m ks).inner) ys vs
 |[],ys,k,[],hx,_,_=>by cases hx;trivial|x::xs,ys,k,v::vs,hx,hv,hk=>by
  simp[sI]at hx;split at hx;.rename_i y k1 ys' k2 h1 h2;cases hx;exact⟨Zt h h1 hv.1 λp hp=>hk p (bm.2 (.inl hp)),Jl h h2 hv.2 λp hp=>hk p (bm.2 (.inr hp))⟩
  grind|[],_,_,_::_,_,hv,_=>hv.elim|_::_,_,_,[],_,hv,_=>hv.elim
def Fo(h:aM X m t)(ks:List (Nat×Nat)):∀{xs ys:List AV}{vs:List Value},qq m xs=some ys->aI (VC X) xs vs->aI (VC (X.nK m ks).inner) ys vs
 |[],ys,[],hx,_=>by cases hx;trivial|x::xs,ys,v::vs,hx,hv=>by
  simp[qq]at hx;split at hx;.rename_i y ys' h1 h2;cases hx;exact⟨nO h ks h1 hv.1,Fo h ks h2 hv.2⟩
  grind|[],_,_::_,_,hv=>hv.elim|_::_,_,[],_,hv=>hv.elim
def SM(h:aM X m t)(ks:List (Nat×Nat)){x y:AV}{v:Value}(hx:sJ m x=some y)(hv:VR X x v):V1 (X.nK m ks).inner y v:=by cases x with
 |agg cs=>simp only[sJ]at hx;cases h1:qq m cs with|none=>grind|some z=>rw[h1]at hx;cases hx;obtain⟨vs,rfl,h3⟩:=hv;exact⟨vs,rfl,Fo h ks h1 h3⟩
 |jU cs=>simp[sJ,dm]at hx|_=>simp only[sJ]at hx;exact .kQ (nO h ks hx hv)
def Fp(h:aM X m t)(ks:List (Nat×Nat)):∀{xs ys:List AV}{vs:List Value},rJ m xs=some ys->aI (VR X) xs vs->aI (V1 (X.nK m ks).inner) ys vs
 |[],ys,[],hx,_=>by cases hx;trivial|x::xs,ys,v::vs,hx,hv=>by
  simp[rJ]at hx;split at hx;.rename_i y ys' h1 h2;cases hx;exact⟨SM h ks h1 hv.1,Fp h ks h2 hv.2⟩
  grind|[],_,_::_,_,hv=>hv.elim|_::_,_,[],_,hv=>hv.elim
def PL(h:aM X m t):aM X.inner [.lf] .lf:=by
 refine⟨λlv sl e he=>?_,λv hv=>by simp at hv,λk k' v v' L L' _ _ _ hv _ _ _=>?_,h.qI,λ_ h=>h,λb hb=>h.low b (h.Bh.gb b hb),h.Bh.gk⟩;.unfold aT at he;grind[Tr.get?,pZ,bM.av,Cx.inner]
 .cases hv
end
structure SN(Z:Cx)(top:Nat)(cm:List (Tr bM))(els:List (List D))(len sz:Nat)(v:Value):Prop where row:∃L off a cap,v=.slice a len cap/\len<=cap/\els.length=len/\(∀e∈els,e.length=sz)/\(0<cap->(∃cV dy e,top<=cV/\(aT cm cV dy=some e/\e.fz=false)/\Z.ρ e.av=some L)/\a=some ⟨L.b,L.o+off*sz,none⟩/\off+cap<=L.cap/\L.sz=sz/\0<L.cap/\Block Z L.b (L.o+L.cap*L.sz)/\(∀o,¬Z.F L.b o)/\∀i e j x,els[i]?=some e->e[j]?=some x->∃u,Z.w.cell? ⟨L.b,L.o+off*sz+i*sz+j,none⟩=some u/\DR Z.w Z.F x u)
section
variable{Z Y:Cx}{cm:List (Tr bM)}{ts:Tr Unit}
def Ci(h:aM Z cm ts){top pk k lv sl av:Nat}(hw:Y.w=Z.w)(hF:∀b o,Z.F b o->Y.F b o)(hρ:0<top->∀v L,Z.ρ v=some L->Y.ρ v=some L)(hfz:pk=0->∀cV dy e L,top<=cV->aT cm cV dy=some e->e.fz=false->Z.ρ e.av=some L->0<L.cap->∀o,Y.F L.b o){x y:AV}{us:List (List (List D))}{v:Value}(hx:bC cm top pk k lv sl av x=some (y,us))(hv:VC Z x v):(us=[]/\VC Y y v)\/∃els len sz,us=[els]/\y=.ref lv sl av 0 len sz/\pk≠0/\SN Z top cm els len sz v:=by
 have data:∀{els a cap sz b o},v=.slice a els.length cap->els.length<=cap->(0<els.length->a=some ⟨b,o,none⟩)->fe Z.w Z.F Z.F els b o sz->VC Y (.d (.sl els)) v:=by rintro els a cap sz b o rfl h2 h3 h4;refine DR.jr (b:=b) (o:=o) (sz:=sz) ?_ rfl h2 h3;rw[hw];exact h4.mono hF λq _ hq=>hF _ _ hq
 cases x with
 |d x=>injection hx with hx;injection hx with h1 h2;subst h1;refine .inl ⟨h2.symm,?_⟩;show DR Y.w Y.F x v;rw[hw];exact DR.mono hF hv|own els ow=>cases ow with
  |full=>
   simp[bC]at hx;obtain⟨a,b,o,sz,g1,g2,g3⟩:=hv;split at hx
   .rename_i hq;injection hx with hx;injection hx with h1 h2;subst h1;have hpk:pk≠0:=by intro e;subst e;simp at hq
    exact .inr ⟨[],0,pk/65536,h2.symm,rfl,hpk,⟨⟨0,0,0,0⟩,0,a,0,g1,bd _,rfl,λ_ h=>(by cases h),λh=>absurd h (by omega)⟩⟩
   .split at hx;.injection hx with hx;injection hx with h1 h2;subst h1;refine .inl ⟨h2.symm,a,b,o,sz,g1,g2,?_⟩;rw[hw];exact g3.mono hF λq _ hq=>hF _ _ hq
    grind|cT av tz=>
   simp[bC]at hx;obtain⟨a,b,o,sz,cap,g1,g2,g3,g4,g5,g6⟩:=hv;split at hx
   .rename_i hk;injection hx with hx;injection hx with h1 h2;subst h1;have ht:0<top:=by
     have:=(Bool.and_eq_true_iff.1 hk).2;rcases Nat.eq_zero_or_pos top with e|e;.rw[e]at this;cases this
     .exact e
    refine .inl ⟨h2.symm,a,b,o,sz,cap,g1,g2,g3,?_,hρ ht _ _ g5,g6⟩;rw[hw];exact g4.mono hF λq _ hq=>hF _ _ hq
   grind|aY=>cases hx
 |ref cV dy gU off len sz=>simp[bC]at hx;cases hb:Nat.ble top cV with|false=>
   rw[hb]at hx;injection hx with hx;injection hx with h1 h2;subst h1;have ht:0<top:=by
    have:¬top<=cV:=λhle=>by rw[rh hle]at hb;cases hb
    omega
   obtain⟨L,a,cap,g1,g2⟩:=hv;exact .inl ⟨h2.symm,L,a,cap,hρ ht _ _ g1,g2⟩|true=>rw[hb]at hx;have hle:top<=cV:=i7 hb;cases he:dQ cm (.ref cV dy gU off len sz)with|none=>grind|some els=>rw[he]at hx;simp at hx;obtain⟨L',a,cap,hL',g1,rfl,g3,g4⟩:=hv;simp[dQ]at he;cases hr:sG cm cV dy gU with|none=>grind|some els'=>
     rw[hr]at he;simp only[ae]at he;split at he
     .cases he;obtain⟨L,hL,hE1,hE⟩:=B1 h hr;rw[hL]at hL';injection hL' with hL';subst hL';have hlen:((els'.drop off).take len).length=len:=by grind
      have hsz:∀e∈(els'.drop off).take len,e.length=sz:=λf hf=>by rw[hE.1 f (nl (kb hf)),g1]
      split at hx
      .rename_i hpk;injection hx with hx;injection hx with h1 h2;subst h1;refine .inl ⟨h2.symm,?_⟩;have hpk:=beq_true.1 hpk;have hl:=(hE.region (S:=Y.F) λb o hq=>hq.elim (hF b o) λhq=>by obtain⟨e,M,q1,q2,q3,rfl,q5⟩:=lB hq;exact hfz hpk cV dy e M hle q1 q5 q2 q3 o).sub off len;refine DR.jr (b:=L.b) (o:=L.o+off*L.sz) (sz:=L.sz) ?_ hlen g3 λh0=>by rw[(g4 (by omega)).1,g1]
       rw[hw];exact hl.mono hF λq _ hq=>hq
      .rename_i hpk;have hpk:=beq_false.1 hpk;split at hx
       .split at hx
        .rename_i yN qv;injection hx with hx;injection hx with h1 h2;subst h1;obtain⟨L2,hL2,hE2,hg⟩:=nN h qv;have B4:yN=els':=by have hr':=hr;unfold sG at hr'<;>grind
         subst B4;rw[hL]at hL2;cases hL2;refine .inr ⟨_,len,sz,h2.symm,rfl,hpk,⟨L,off,a,cap,rfl,g3,hlen,hsz,λhc=>?_⟩⟩;obtain⟨k1,k2⟩:=g4 hc;have hc0:0<L.cap:=by omega
         refine⟨⟨cV,dy,_,hle,⟨hg,rfl⟩,hL⟩,k1,k2,g1,hc0,(hE2.2.2.1 hc0).1,(hE2.2.2.1 hc0).2,λi e j x hi hj=>?_⟩;obtain⟨u,hu,hd⟩:=hE2.2.2.2 (off+i) e j x (eU hi).1 hj<;>grind
        grind
       .split at hx;.cases hx
        .rename_i qv;injection hx with hx;injection hx with h1 h2;subst h1;refine .inl ⟨h2.symm,?_⟩;have hl:=(hE.region (S:=Y.F) λb o hq=>hq.elim (hF b o) λhq=>by exfalso;obtain⟨e,M,q1,q2,q3,rfl,q5⟩:=lB hq;have q1:aT cm cV dy=some e:=q1;unfold sG at hr;unfold rowAt at qv;rw[q1]at hr qv;cases e with|row v els=>simp only at hr qv;rw[hr]at qv;cases qv|box v cs=>cases hr|mp v ks=>cases hr|Po v els=>cases q5).sub off len;refine DR.jr (b:=L.b) (o:=L.o+off*L.sz) (sz:=L.sz) ?_ hlen g3 λh0=>by rw[(g4 (by omega)).1,g1]
         rw[hw];exact hl.mono hF λq _ hq=>hq
     grind
 |ptr cV dy gU i off=>
  simp[bC]at hx;cases hb:Nat.ble top cV with|false=>
   rw[hb]at hx;injection hx with hx;injection hx with h1 h2;subst h1;have ht:0<top:=by
    have:¬top<=cV:=λhle=>by rw[rh hle]at hb;cases hb
    omega
   obtain⟨L,g1,g2⟩:=hv;exact .inl ⟨h2.symm,L,hρ ht _ _ g1,g2⟩|true=>rw[hb]at hx;cases hx
 |fL f c=>cases c with|nil=>injection hx with hx;injection hx with h1 h2;subst h1;exact .inl ⟨h2.symm,Hr hv⟩|cons=>cases hx
 |_=>cases hx
end
structure Good(Z:Cx)(cm:List (Tr bM))(top pk:Nat)(Y:Cx):Prop where
 w:Y.w=Z.w
 F:∀b o,Z.F b o->Y.F b o
 ρ:0<top->∀v L,Z.ρ v=some L->Y.ρ v=some L
 fz:pk=0->∀cV dy e L,top<=cV->aT cm cV dy=some e->e.fz=false->Z.ρ e.av=some L->0<L.cap->∀o,Y.F L.b o
def ez{α:Type}(Z:Cx)(cm:List (Tr bM))(top pk lv sl av:Nat)(R:Cx->α->Prop)(y:α)(us:List (List (List D))):Prop:=(us=[]/\∀Y,Good Z cm top pk Y->R Y y)\/(∃els len sz v',us=[els]/\(pk≠0/\SN Z top cm els len sz v')/\∀Y,Good Z cm top pk Y->VC Y (.ref lv sl av 0 len sz) v'->R Y y)\/2<=us.length
def ez.map{α β:Type}{Z:Cx}{cm:List (Tr bM)}{top pk lv sl av:Nat}{R:Cx->α->Prop}{S:Cx->β->Prop}{y:α}{z:β}{us:List (List (List D))}(h:ez Z cm top pk lv sl av R y us)(R3:∀Y,R Y y->S Y z):ez Z cm top pk lv sl av S z us:=by grind[ez]
def ez.pair{α β γ:Type}{Z:Cx}{cm:List (Tr bM)}{top pk lv sl av:Nat}{R:Cx->α->Prop}{S:Cx->β->Prop}{T:Cx->γ->Prop}{y:α}{z:β}{x:γ}{us vs:List (List (List D))}(h:ez Z cm top pk lv sl av R y us)(k:ez Z cm top pk lv sl av S z vs)(R3:∀Y,R Y y->S Y z->T Y x):ez Z cm top pk lv sl av T x (us++vs):=by grind[ez]
section
variable{Z:Cx}{cm:List (Tr bM)}{ts:Tr Unit}{top pk lv sl av:Nat}
def Fq(h:aM Z cm ts){k:Nat}{x y:AV}{us:List (List (List D))}{v:Value}(hx:bC cm top pk k lv sl av x=some (y,us))(hv:VC Z x v):ez Z cm top pk lv sl av (λY y=>VC Y y v) y us:=by
 by_cases hu:us=[];.refine .inl ⟨hu,λY hY=>?_⟩;rcases Ci h hY.w hY.F hY.ρ hY.fz hx hv with⟨_,h⟩|⟨_,_,_,h,_⟩<;>grind
 .rcases Ci (Y:={Z with F:=λ_ _=>True}) h rfl (λ_ _ _=>trivial) (λ_ _ _ h=>h) (λ_ _ _ _ _ _ _ _ _ _ _=>trivial) hx hv with⟨h,_⟩|⟨els,len,sz,h1,rfl,h2,h3⟩<;>grind[bC,VC,ez]
def Cj(h:aM Z cm ts):∀{k:Nat}{xs ys:List AV}{us:List (List (List D))}{vs:List Value},dR cm top pk lv sl av k xs=some (ys,us)->aI (VC Z) xs vs->ez Z cm top pk lv sl av (λY ys=>aI (VC Y) ys vs) ys us
 |k,[],ys,us,[],hx,_=>by grind[dR,VC,aI,ez]|k,x::xs,ys,us,v::vs,hx,hv=>by
  simp[dR]at hx;split at hx;.rename_i y u ys' us' h1 h2;cases hx;exact(Fq h h1 hv.1).pair (Cj h h2 hv.2) λY a b=>⟨a,b⟩
  grind|_,[],_,_,_::_,_,hv=>hv.elim|_,_::_,_,_,[],_,hv=>hv.elim
def SO(h:aM Z cm ts){k:Nat}{x y:AV}{us:List (List (List D))}{v:Value}(hx:mF cm top pk lv sl av k x=some (y,us))(hv:V1 Z x v):ez Z cm top pk lv sl av (λY y=>V1 Y y v) y us:=by cases x with
 |agg cs=>simp only[mF]at hx;cases hd:dR cm top pk lv sl av k cs with|none=>grind|some p=>rw[hd]at hx;cases hx;obtain⟨vs,rfl,h3⟩:=hv;exact(Cj h (us:=p.2) hd h3).map λY h=>⟨vs,rfl,h⟩
 |jU cs=>cases hx|_=>simp only[mF]at hx;exact(Fq h hx hv).map λY h=>.kQ h
def Jm(h:aM Z cm ts):∀{k:Nat}{xs ys:List AV}{us:List (List (List D))}{vs:List Value},gx cm top pk lv sl av k xs=some (ys,us)->aI (V1 Z) xs vs->ez Z cm top pk lv sl av (λY ys=>aI (V1 Y) ys vs) ys us
 |k,[],ys,us,[],hx,_=>by grind[gx,V1,aI,ez]|k,x::xs,ys,us,v::vs,hx,hv=>by
  simp[gx]at hx;split at hx;.rename_i y u ys' us' h1 h2;cases hx;exact(SO h h1 hv.1).pair (Jm h h2 hv.2) λY a b=>⟨a,b⟩
  grind|_,[],_,_,_::_,_,hv=>hv.elim|_,_::_,_,_,[],_,hv=>hv.elim
def Mg(h:aM Z cm ts){x y:AV}{us:List (List (List D))}{v:Value}(hx:jc cm top pk lv sl av x=some (y,us))(hv:VR Z x v):ez Z cm top pk lv sl av (λY y=>VR Y y v) y us:=by cases x with
 |jU cs=>simp only[jc]at hx;cases hd:gx cm top pk lv sl av 1 cs with|none=>grind|some p=>rw[hd]at hx;cases hx;obtain⟨vs,rfl,h3⟩:=hv;exact(Jm h (us:=p.2) hd h3).map λY h=>⟨vs,rfl,h⟩
 |_=>simp only[jc]at hx;exact(SO h hx hv).map λY h=>.wV h
def Ck{Y:Cx}{m:List (Tr bM)}{t:Tr Unit}{els:List (List D)}{len sz off cap:Nat}{a:Option Addr}{L:Loc}(hm:aM Y m t)(hw:Y.w=Z.w)(hF:∀b o,Z.F b o->Y.F b o)(hb:∀b,Y.old b->Z.old b)(hfr:Y.ρ av=none)(h1:len<=cap)(h2:els.length=len)(h3:∀e∈els,e.length=sz)(h4:0<cap->a=some ⟨L.b,L.o+off*sz,none⟩/\off+cap<=L.cap/\L.sz=sz/\0<L.cap/\Block Z L.b (L.o+L.cap*L.sz)/\(∀o,¬Z.F L.b o)/\∀i e j x,els[i]?=some e->e[j]?=some x->∃u,Z.w.cell? ⟨L.b,L.o+off*sz+i*sz+j,none⟩=some u/\DR Z.w Z.F x u)(hno:0<cap->(∀o,¬Y.F L.b o)/\∀k u M,Holds m t k u->Y.ρ u=some M->0<M.cap->M.b≠L.b):∃W:Cx,W.w=Y.w/\W.F=Y.F/\W.old=Y.old/\(∀u M,Y.ρ u=some M->W.ρ u=some M)/\(∀u M,W.ρ u=some M->Y.ρ u=some M\/u=av)/\aM W (cH m lv sl (some (.row av els))) t/\VC W (.ref lv sl av 0 len sz) (.slice a len cap):=by
 let L':Loc:=⟨L.b,L.o+off*sz,sz,cap⟩;refine⟨Y.name av L',rfl,rfl,rfl,(eS hfr).loc,λu M hu=>?_,?_,L',a,cap,ff,rfl,rfl,h1,λhc=>⟨by rw[(h4 hc).1];simp[L'],by simp[L']⟩⟩;.grind[Cx.name,Holds,Block]
 .refine(gW hm hfr).add (e:=.row av els) (L:=L') ff ⟨by rw[h2];exact h1,h3,λhc=>?_,λi e j x hi hj=>?_⟩ λk u M hk _ hu yH hc=>?_;.obtain⟨g1,g2,g3,g4,⟨g5,C,ce,g6,g7⟩,g8,_⟩:=h4 hc;refine⟨⟨λq=>g5 (hb _ q),C,ce,by show Y.w.heap[L.b]?=_;rw[hw];exact g6,?_⟩,(hno hc).1⟩;have:=d8 sz g2<;>grind
  .have hi':i<els.length:=(db.1 hi).1;obtain⟨u,hu,hd⟩:=(h4 (by omega)).2.2.2.2.2.2 i e j x hi hj;refine⟨u,?_,?_⟩;.grind[Holds,Block,Cx.name]
   .show DR Y.w Y.F x u;rw[hw];exact hd.mono hF
  .obtain⟨M',mH,_⟩:=hm.ew hk<;>grind[Cx.name,cF,Holds,Block]
end
def nP(m:List (Tr bM))(k lv sl:Nat):aT (m.take k) lv sl=if lv<k then aT m lv sl else none:=by grind[aT]
section
variable{P:Program}{X:Cx}{nt:NT}{s:St}{a:Act}{o:Oper}{dst:Option Nat}{aZ:Nat}
def Cl{call:Go.bS.Call}(cP:eL P call)(hs:fQ X nt s a)(hfr:X.ρ aZ=none){f pk lv sl:Nat}{cU:Array Value}{aU:List AV}{ks:List (Nat×Nat)}{r val:AV}{cm:List (Tr bM)}{ts:Tr Unit}{n':Nat}{us:List (List (List D))}{u:List (Nat×Nat×Option bM)}{rd:List (Nat×Nat×Nat)}(hV:aI (V1 (X.nK s.mem ks).inner) aU cU.toList)(hc:call f aU [.lf] .lf 0=some (r,cm,ts,n'))(hi:jc cm 0 pk lv sl aZ r=some (val,us))(hu:lg lv sl aZ us=some u)(hrun:(∃fn,P.funcs[f]?=some fn/\fn.body.isSome=true/\(fn.name== "runtime.NumGoroutine")=false)->(execOp a.eval o).run P X.w=.ok (.enter f cU) X.w):dS P X s a o dst aZ (.cu {val,dD:=eR s.mem ks++u,cT:=[],rd}):=by
 intro K Q hK;have EF:=G1 hs.mem ks;have hx1:=rQ hs.mem ks;obtain⟨hfn,vJ⟩:=cP f aU [.lf] .lf 0 r cm ts n' hc (X.nK s.mem ks).inner cU (PL EF) (λ_ _=>rfl) hV;unfold Oper.wp;rw[hrun hfn];refine Calls.mono vJ ?_;rintro e w'⟨Z,v,rfl,rfl,Hs,hvZ,PM,_,_⟩;have hblk:∀b,b<X.w.heap.size->Z.w.heap[b]?=X.w.heap[b]?:=λb hb=>Hs.below.block b hb;have SP:Z.old=λb=>b<X.w.heap.size:=Hs.base;have hZF:∀b o,Z.F b o->(X.nK s.mem ks).F b o\/X.w.heap.size<=b:=λb o h=>(Hs.new b o h).imp id λh=>Nat.le_of_not_lt h;have mk:∀(p:Option Nat),∃Y:Cx,Y.w=Z.w/\Y.old=X.old/\Y.ρ=X.ρ/\(∀b o,Y.F b o↔Z.F b o\/(X.w.heap.size<=b/\b<Z.w.heap.size/\some b≠p))/\Ext X Y/\aM Y (bI s.mem (eR s.mem ks)) s.aO:=by
  intro p;let Y:Cx:={w:=Z.w,F:=λb o=>Z.F b o\/(X.w.heap.size<=b/\b<Z.w.heap.size/\some b≠p),ρ:=X.ρ,old:=X.old};have hx:Ext (X.nK s.mem ks) Y:=by
   refine⟨rfl,Hs.below.mono hs.mem.low,λb o h=>.inl (Hs.zQ b o h),λb o h=>?_,λ_ _ h=>h,λb o h=>?_⟩;.exact Hs.keep b o h
   .rcases h with h|h;.exact(hZF b o h).imp id λh q=>pA _ (lj (hs.mem.low _ q) h)
    .exact .inr λq=>pA _ (lj (hs.mem.low _ q) h.1)
  refine⟨Y,rfl,rfl,rfl,λ_ _=>Hc,hx1.trans hx,EF.move hx (λk v L hk hv hc=>?_) (λk v L o hk hv hc h=>?_) λb o h=>?_⟩;.obtain⟨M,hM,h2⟩:=EF.ew hk;rw[hv]at hM;cases hM;exact hblk _ (h2 hc).1
  .obtain⟨M,hM,h2⟩:=EF.ew hk;rw[hv]at hM;cases hM;have:=(h2 hc).1;have this:L.b<X.w.heap.size:=this<;>grind
  .rcases h with h|h;.exact PM.qI b o h
   grind
 rcases Mg PM hi hvZ with⟨rfl,hb⟩|⟨els,len,sz,v',rfl,⟨hpk,⟨L,off,ad,cap,g3,g4,g5,g6,g7'⟩⟩,hb⟩|hlen
 .cases hu;obtain⟨Y,y1,y2,y3,y4,y5,y6⟩:=mk none;rw[<-y1];refine hK Y v y5 (hb Y ⟨y1,λb o h=>(y4 b o).2 (.inl h),λh=>absurd h (by omega),λ_ cV dy e L _ hg hz hL hc o=>?_⟩) ?_ ?_;.obtain⟨M,hM,h2⟩:=PM.ew (.inl ⟨cV,dy,e,rfl,hg,rfl,hz⟩)<;>grind
  .rw[dv];exact y6
  .exact gj.I9 y3
 .cases hu;subst g3;have g7:=λhc=>(g7' hc).2;obtain⟨Y,y1,y2,y3,y4,y5,y6⟩:=mk (some L.b);have hLb:0<cap->X.w.heap.size<=L.b:=λhc=>by have:=(g7 hc).2.2.2.2.1.1;rw[SP]at this;exact Nat.le_of_not_lt this
  obtain⟨W,w1,w2,w3,w4,w5,w6,w7⟩:=Ck (Z:=Z) (lv:=lv) (sl:=sl) (av:=aZ) y6 y1 (λb o h=>(y4 b o).2 (.inl h)) (by rw[y2,SP];exact hs.mem.low) (by rw[y3];exact hfr) g4 g5 g6 g7 λhc=>⟨λo h=>by
    rcases(y4 _ _).1 h with h|h;.exact(g7 hc).2.2.2.2.2.1 o h
    .exact h.2.2 rfl,λk u M hk hM yH=>by obtain⟨M',mH,h2⟩:=EF.ew hk;rw[y3]at hM;have mH:X.ρ u=some M':=mH;rw[hM]at mH;injection mH with mH;subst mH;have:M.b<X.w.heap.size:=(h2 yH).1;have:=hLb hc;omega⟩;have hxW:Ext Y W:=⟨w3,by rw[w1];exact fy.refl _ _,λb o h=>by rw[w2];exact h,λb o _=>by rw[w1],w4,λb o h=>by rw[w2]at h;exact .inl h⟩;rw[<-y1,<-w1];refine hK W v (y5.trans hxW) (hb W ⟨w1.trans y1,λb o h=>by rw[w2];exact(y4 b o).2 (.inl h),λh=>absurd h (by omega),λh=>absurd h hpk⟩ w7) ?_ ?_;.show aM W (bI s.mem (eR s.mem ks++_)) s.aO;rw[kF];exact w6
  .refine⟨bd _,λu M hM=>?_⟩<;>grind
 .match us,hlen with|_::_::_,_=>simp[lg]at hu
end
end Go.bS
