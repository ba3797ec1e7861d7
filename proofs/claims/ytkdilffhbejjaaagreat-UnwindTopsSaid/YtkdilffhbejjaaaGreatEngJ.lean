/- A part of the proof: EngH, EngI, EngJ. -/
import Derived.Test.YtkdilffhbejjaaaGreatEngG
import Derived.Laws.Append
import Derived.Laws.AppendOwn
import Derived.Laws.CopyOwn
set_option linter.unusedVariables false
set_option linter.unusedSimpArgs false
namespace Go.bM
open Go Go.RowKit
def fL(X Y:Cx)(aT n n':Nat):Prop:=n<=n'/\∀v L,Y.ρ v=some L->X.ρ v=some L\/v=aT\/(n<=v/\v<n')
theorem nZ{X:Cx}{C:Array Value}{e:TypeId}{v:Nat}{L:Loc}{n:Nat}:fL X (X.alloc C e v L) v n n:=⟨bc _,λu M h=>by grind[Cx.alloc]⟩
theorem fL.refl(X:Cx)(v n:Nat):fL X X v n n:=⟨bc _,λ_ _ h=>.inl h⟩
section
variable{X:Cx}{m:List (Tr bH)}{t:Tr Unit}
theorem sx(X:Cx)(C:Array Value)(e:TypeId)(v:Nat)(L:Loc):(X.alloc C e v L).w.heap[X.w.heap.size]?=some (.cells C e (0,0)):=heap_alloc_new _ _
theorem vS(X:Cx)(C:Array Value)(e:TypeId)(v:Nat)(L:Loc):(X.alloc C e v L).ρ v=some L:=bb rfl
theorem tV(h:aH X m t){C:Array Value}{e:TypeId}{v:Nat}{L:Loc}(hv:X.ρ v=none){k:Nat×Nat×Nat}{u:Nat}{M:Loc}(hk:Holds m t k u)(hu:(X.alloc C e v L).ρ u=some M)(hc:0<M.cap):M.b≠X.w.heap.size:=by obtain⟨M',lP,h2⟩:=h.dV hk<;>grind[Cx.alloc,Holds]
theorem M0(h:aH X m t){C:Array Value}{e:TypeId}{v:Nat}{cs:List AV}(lv sl:Nat)(hv:X.ρ v=none)(hc:aE (VC X) cs C.toList):aH (X.alloc C e v ⟨X.w.heap.size,0,C.size,1⟩) (cC m lv sl (some (.box v cs))) t:=by
 have hx:Ext X (X.alloc C e v ⟨X.w.heap.size,0,C.size,1⟩):=Ext.alloc h.p7 h.low hv;refine(h.alloc hv).add (L:=⟨X.w.heap.size,0,C.size,1⟩) (vS _ _ _ _ _) ⟨rfl,⟨h.fresh,C,e,sx _ _ _ _ _,by rw[hc.length];simp⟩,λo ho=>?_,λj x hj=>?_⟩ λk u M hk _ hu hc _=>tV h hv hk hu hc;.exact pd _ (h.p7 _ _ ho)
 .obtain⟨u,hu,hr⟩:=hc.get _ _ hj;refine⟨u,?_,hr.ext hx⟩<;>simp_all[aE,VC,Cx.alloc]
theorem Gb(h:aH X m t){C:Array Value}{e:TypeId}{v:Nat}{els:List (List D)}{sz cap:Nat}{vs:List Value}(lv sl:Nat)(hv:X.ρ v=none)(hl:∀e∈els,e.length=sz)(hC:cap*sz<=C.size)(hle:els.length<=cap)(hvs:∀(j:Nat)(u:Value),vs[j]?=some u->C[j]?=some u)(hd:aE (DR X.w X.F) els.flatten vs):aH (X.alloc C e v ⟨X.w.heap.size,0,sz,cap⟩) (cC m lv sl (some (.row v els))) t:=by
 have hx:Ext X (X.alloc C e v ⟨X.w.heap.size,0,sz,cap⟩):=Ext.alloc h.p7 h.low hv;refine(h.alloc hv).add (L:=⟨X.w.heap.size,0,sz,cap⟩) (vS _ _ _ _ _) ⟨hle,hl,λ_=>⟨⟨h.fresh,C,e,sx _ _ _ _ _,by simpa using hC⟩,λo ho=>?_⟩,λi f j x h1 h2=>?_⟩ λk u M hk _ hu hc _=>tV h hv hk hu hc;.exact pd _ (h.p7 _ _ ho)
 .have:=vP (R:=λ_ _=>True) (o:=0) (sx X C e v ⟨X.w.heap.size,0,sz,cap⟩) hl (λj u hj=>by rw[ma];exact hvs j u hj) (hd.mono λ_ _=>DR.ext hx) (λ_ _=>trivial);grind[eS,aE,Cx.alloc]
theorem M1(h:aH X m t){C:Array Value}{e:TypeId}{v:Nat}{els:List (List D)}{sz cap:Nat}{vs:List Value}(hv:X.ρ v=none)(hl:∀e∈els,e.length=sz)(hC:cap*sz<=C.size)(hle:els.length<=cap)(hvs:∀(j:Nat)(u:Value),vs[j]?=some u->C[j]?=some u)(hd:aE (DR X.w X.F) els.flatten vs):let Y:=(X.alloc C e v ⟨X.w.heap.size,0+els.length*sz,sz,cap-els.length⟩).more λb o=>b=X.w.heap.size/\o<els.length*sz;Ext X Y/\aH Y m (t.set v (some ()))/\eS Y.w Y.F Y.F els X.w.heap.size 0 sz/\fL X Y v 0 0:=by
 intro Y;let Z:=X.alloc C e v ⟨X.w.heap.size,0+els.length*sz,sz,cap-els.length⟩;have hz:Ext X Z:=Ext.alloc h.p7 h.low hv;have hm:Ext Z Y:=Ext.more λb o hb=>by rw[hb.1];exact h.fresh
 have hmem:aH Y m t:=(h.alloc hv).more (λb o hb=>⟨by rw[hb.1];exact h.fresh,by rw[hb.1];show _<(X.w.alloc _).heap.size;rw[World.size_alloc];omega⟩) λk u M o hk hu hc hb=>tV (C:=C) (e:=e) (L:=⟨X.w.heap.size,0+els.length*sz,sz,cap-els.length⟩) h hv hk hu hc hb.1;refine⟨hz.trans hm,hmem.Xb (L:=⟨X.w.heap.size,0+els.length*sz,sz,cap-els.length⟩) (vS X C e v _) (λhc=>⟨⟨h.fresh,C,e,sx X C e v ⟨X.w.heap.size,0+els.length*sz,sz,cap-els.length⟩,?_⟩,λo ho hF=>?_⟩) (λk u M hk _ hu hc _=>tV (C:=C) (e:=e) (L:=⟨X.w.heap.size,0+els.length*sz,sz,cap-els.length⟩) h hv hk hu hc),?_,⟨bc _,λu M hu=>?_⟩⟩;.rw[ma,<-d6,Nat.add_sub_cancel' hle]<;>omega
 .rcases hF with hF|hF;.exact pd _ (h.p7 _ _ hF)
  grind
 .exact vP (o:=0) (sx X C e v ⟨X.w.heap.size,0+els.length*sz,sz,cap-els.length⟩) hl (λj u hj=>by rw[ma];exact hvs j u hj) (hd.mono λ_ _=>DR.ext (hz.trans hm)) (λk hk=>.inr ⟨rfl,by omega⟩)
 .exact(nZ (C:=C) (e:=e) (n:=0)).2 u M hu
def Cx.set(X:Cx)(g:Nat)(C:Array Value):Cx:={X with w:=X.w.setRow g C}
theorem jY{g:Nat}{C C':Array Value}{e:TypeId}(hg:X.w.heap[g]?=some (.cells C e (0,0))):(X.set g C').w.heap[g]?=some (.cells C' e (0,0)):=setRow_heap _ _ _ _ _ _ hg
theorem vT{g:Nat}{C C':Array Value}{e:TypeId}(hg:X.w.heap[g]?=some (.cells C e (0,0)))(hb:¬X.old g)(hF:∀o,X.F g o->C'[o]?=C[o]?):Ext X (X.set g C'):=by
 refine⟨rfl,(eY.refl _ _).setRow hb _,λ_ _ h=>h,λb o h=>?_,λ_ _ h=>h,λ_ _ h=>.inl h⟩;by_cases hbg:b=g;.subst hbg;rw[cell_of_row _ _ _ _ _ _ (jY hg),cell_of_row _ _ _ _ _ _ hg]<;>grind
 .have:=setRow_other X.w g b C' hbg;simp[World.cell?,Cx.set,this]
theorem AD(h:aH X m t){g:Nat}{C C':Array Value}{e:TypeId}(hg:X.w.heap[g]?=some (.cells C e (0,0)))(hb:¬X.old g)(hF:∀o,X.F g o->C'[o]?=C[o]?)(hk:∀k v L,Holds m t k v->X.ρ v=some L->0<L.cap->L.b≠g):aH (X.set g C') m t:=h.move (vT hg hb hF) (λk v L a b c=>setRow_other X.w g L.b C' (hk k v L a b c)) (λ_ _ _ _ _ _ _ h=>h) λb o hb=>by have:=h.p7 b o hb<;>simp_all[Holds,Cx.set]
end
end Go.bM
namespace Go.bM
open Go Go.RowKit
def gT.val:gT->AV|.ck e=>e.val|.all v _ _ _=>v
def dI(P:Program)(X:Cx)(s:St)(a:Act)(o:Oper)(dst:Option Nat)(aT:Nat)(r:gT):Prop:=∀(K:Act->World->Prop)(Q:Exit->Act->World->Prop),(∀Y v,Ext X Y->VR Y r.val v->aH Y (s.app dst r).mem (s.app dst r).aK->fL X Y aT s.nv (s.app dst r).nv->K (a.put o.dst v) Y.w)->Oper.wp P o a X.w K Q
section
variable{P:Program}{X:Cx}{nt:NT}{s:St}{a:Act}{o:Oper}{dst:Option Nat}{aT:Nat}
theorem dI.value{r:gT}{Y:Cx}{v:Value}(hrun:(execOp a.eval o).run P X.w=.ok (.value v) Y.w)(hx:Ext X Y)(hv:VR Y r.val v)(hm:aH Y (s.app dst r).mem (s.app dst r).aK)(hd:fL X Y aT s.nv (s.app dst r).nv):dI P X s a o dst aT r:=by intro K Q h;unfold Oper.wp;rw[hrun];exact h Y v hx hv hm hd
theorem dI.skip{r:gT}{Y:Cx}(hrun:(execOp a.eval o).run P X.w=.ok .skip Y.w)(hx:Ext X Y)(hv:VR Y r.val undef)(hm:aH Y (s.app dst r).mem (s.app dst r).aK)(hd:fL X Y aT s.nv (s.app dst r).nv):dI P X s a o dst aT r:=by intro K Q h;unfold Oper.wp;rw[hrun];exact h Y undef hx hv hm hd
theorem dI.quiet{val:AV}{rd:List (Nat×Nat×Nat)}(hs:fu X nt s a)(h:Quiet P X o a val):dI P X s a o dst aT (.ck {val,di:=[],cK:=[],rd}):=by obtain⟨v,hrun,hv⟩:=h;exact .value hrun (Ext.refl X) hv hs.mem (fL.refl _ _ _)
theorem jM{t:TypeId}{z:List Value}(h:og P t=some z):∃i v,P.info? t=some i/\i.zero=some v/\z=v.cells.toList:=by unfold og at h;cases hi:P.info? t with|none=>grind|some i=>rw[hi]at h;cases hz:i.zero with|none=>grind|some v=>grind
theorem Ek{lq:Nat}(hs:fu X nt s a)(hv:X.ρ aT=none){d:Nat}{C:Array Value}{e:TypeId}{cs:List AV}{rd:List (Nat×Nat×Nat)}(hrun:(execOp a.eval o).run P X.w=.ok (.value (.pointer (some ⟨X.w.heap.size,0,none⟩))) (X.w.alloc (.cells C e)))(hc:aE (VC X) cs C.toList):dI P X s a o dst aT (.ck {val:=.ptr (lq) d aT 0 0,di:=[(lq,d,some (.box aT cs))],cK:=[],rd}):=.value (Y:=X.alloc C e aT ⟨X.w.heap.size,0,C.size,1⟩) hrun (Ext.alloc hs.mem.p7 hs.mem.low hv) ⟨_,vS _ _ _ _ _,by simp⟩ (M0 hs.mem _ _ hv hc) nZ
theorem Bi(hs:fu X nt s a)(hv:X.ρ aT=none){t:TypeId}{z:List Value}{cs:List AV}{d:Nat}{rd:List (Nat×Nat×Nat)}(ho:o.op=.alloc t)(hz:og P t=some z)(hc:fK z=some cs):dI P X s a o dst aT (.ck {val:=.ptr (s.mem.length-1) d aT 0 0,di:=[(s.mem.length-1,d,some (.box aT cs))],cK:=[],rd}):=by obtain⟨i,v,hi,Gc,rfl⟩:=jM hz;refine Ek hs hv (C:=v.cells) (e:=t) ?_ (mE hc);simp[execOp,ho,Instr.alloc,zeroValue,typeInfo,hi,Gc,newVar,newRow]
theorem Ri{lq:Nat}(hs:fu X nt s a)(hv:X.ρ aT=none){t:TypeId}{x:Operand}{x':cc}{cs:List AV}{d:Nat}{rd:List (Nat×Nat×Nat)}(ho:o.op=.box t x)(hx:dh x=some x')(hc:cellsOf (x'.ev s.slots)=some cs):dI P X s a o dst aT (.ck {val:=.ptr lq d aT 0 0,di:=[(lq,d,some (.box aT cs))],cK:=[],rd}):=by refine Ek hs hv (C:=(a.eval x).cells) (e:=t) ?_ (qM hc (bB hs hx));simp[execOp,ho,Instr.box,newVar,newRow]
theorem aE.one{X:Cx}:∀{cs:List AV}{vs:List Value},aE (VC X) cs vs->∀v∈vs,v.oneCell'=true
 |[],[],_,v,h=>by cases h|_::_,_::_,h,v,hv=>by
  rcases dk.1 hv with rfl|hv;.exact VC.one h.1
  .exact aE.one h.2 v hv|[],_::_,h,_,_=>h.elim|_::_,[],h,_,_=>h.elim
theorem aE.Xl{w:World}{F:Nat->Nat->Prop}:∀{cs:List D}{vs:List Value},aE (DR w F) cs vs->∀v∈vs,v.oneCell'=true
 |[],[],_,v,h=>by cases h|_::_,_::_,h,v,hv=>by
  rcases dk.1 hv with rfl|hv;.exact DR.one h.1
  .exact aE.Xl h.2 v hv|[],_::_,h,_,_=>h.elim|_::_,[],h,_,_=>h.elim
theorem nS{C:Array Value}{k:Nat}{vs:List Value}(h:k+vs.length<=C.size)(j:Nat):(C.toList.take k++vs++C.toList.drop (k+vs.length)).toArray[j]?=if k<=j/\j<k+vs.length then vs[j-k]?else C[j]?:=by grind
theorem Ot{X:Cx}{m:List (Tr bH)}{t:Tr Unit}(h:aH X m t){lv sl au:Nat}{cells:List AV}(hg:aN m lv sl=some (.box au cells)):∃L C e,X.ρ au=some L/\L.cap=1/\X.w.heap[L.b]?=some (.cells C e (0,0))/\¬X.old L.b/\L.o+cells.length<=C.size/\(∀o,¬X.F L.b o)/\(∀k v M,Holds (cC m lv sl none) t k v->X.ρ v=some M->0<M.cap->M.b≠L.b)/\∀j x,cells[j]?=some x->∃v,C[L.o+j]?=some v/\VC X x v:=by
 obtain⟨L,hL,h1,⟨h2,C,e,h3,h4⟩,h5,h6⟩:=h.fZ _ _ _ hg;refine⟨L,C,e,hL,h1,h3,h2,h4,h5,λk v M hk hv hc=>?_,λj x hj=>?_⟩
 .have hh:Holds m t k v/\k≠cB lv sl:=by
   rcases hk with⟨cM,cZ,e',rfl,he',nD⟩|⟨rfl,he'⟩;.rw[cG]at he';grind[bH.fz,VC,bH.au,aN,cB,Holds]
   .exact⟨.inr ⟨rfl,he'⟩,λhq=>fq hq.symm⟩
  exact h.apart _ _ _ _ _ _ hh.1 (.inl ⟨lv,sl,_,rfl,hg,rfl,rfl⟩) hh.2 hv hL hc (by omega)
 .obtain⟨v,hv,hr⟩:=h6 j x hj;rw[cell_of_row _ _ _ _ _ _ h3]at hv<;>grind
theorem n4{X:Cx}{m:List (Tr bH)}{t:Tr Unit}(h:aH X m t){lv sl au:Nat}{els:List (List D)}(hg:aN m lv sl=some (.row au els)){L:Loc}(hL:X.ρ au=some L)(hc0:0<L.cap):∃C e,X.w.heap[L.b]?=some (.cells C e (0,0))/\¬X.old L.b/\L.o+L.cap*L.sz<=C.size/\(∀o,¬X.F L.b o)/\els.length<=L.cap/\(∀e∈els,e.length=L.sz)/\(∀k v M,Holds (cC m lv sl none) t k v->X.ρ v=some M->0<M.cap->M.b≠L.b)/\∀i e j x,els[i]?=some e->e[j]?=some x->∃v,C[L.o+i*L.sz+j]?=some v/\DR X.w X.F x v:=by
 obtain⟨L',hL',h1,h2,h3,h4⟩:=h.fZ _ _ _ hg;have:X.ρ au=some L':=hL';rw[hL]at this;cases this;obtain⟨⟨h5,C,e,h6,h7⟩,h8⟩:=h3 hc0;refine⟨C,e,h6,h5,h7,h8,h1,h2,λk v M hk hv hc=>?_,λi f j x hi hj=>?_⟩
 .have hh:Holds m t k v/\k≠cB lv sl:=by
   rcases hk with⟨cM,cZ,e',rfl,he',nD⟩|⟨rfl,he'⟩;.rw[cG]at he';grind[bH.fz,Block,bH.au,aN,cB,Holds]
   .exact⟨.inr ⟨rfl,he'⟩,λhq=>fq hq.symm⟩
  exact h.apart _ _ _ _ _ _ hh.1 (.inl ⟨lv,sl,_,rfl,hg,rfl,rfl⟩) hh.2 hv hL hc hc0
 .obtain⟨v,hv,hr⟩:=h4 i f j x hi hj;rw[cell_of_row _ _ _ _ _ _ h6]at hv<;>grind
theorem aH.reset{X:Cx}{m:List (Tr bH)}{t:Tr Unit}{lv sl:Nat}{e:bH}{L:Loc}(h:aH X (cC m lv sl none) t)(hL:X.ρ e.au=some L)(hE:oU X e L)(hap:∀k v M,Holds (cC m lv sl none) t k v->X.ρ v=some M->0<M.cap->0<L.cap->M.b≠L.b):aH X (cC m lv sl (some e)) t:=(h.add (lv:=lv) (sl:=sl) hL hE λk v M a _ b c d=>hap k v M a b c d).congr (λcM cZ=>by rw[cG,cG,cG]<;>grind[Holds,oU,bH.au,cC,aN]) λ_=>rfl
theorem El{X:Cx}{m:List (Tr bH)}{t:Tr Unit}(h:aH X m t){lv sl au off:Nat}{cells new:List AV}{vs:List Value}(hg:aN m lv sl=some (.box au cells))(hoff:off+new.length<=cells.length)(hn:aE (VC X) new vs):∃L Y,X.ρ au=some L/\Ext X Y/\Y.ρ=X.ρ/\aH Y (cC m lv sl (some (.box au (splice cells off new)))) t/\(storeCells ⟨L.b,L.o+off,none⟩ vs).run P X.w=.ok () Y.w:=by
 obtain⟨L,C,e,hL,h1,h2,h3,h4,h5,h6,h7⟩:=Ot h hg;have hlen:=hn.length;have hst:=run_storeCells_at P L.b (L.o+off) e vs 0 C X.w h2 (by omega) (aE.one hn);let C':=(C.toList.take (L.o+off)++vs++C.toList.drop (L.o+off+vs.length)).toArray;have qP:∀j,C'[j]?=if L.o+off<=j/\j<L.o+off+vs.length then vs[j-(L.o+off)]?else C[j]?:=nS (by omega);have hx:Ext X (X.set L.b C'):=vT h2 h3 λo ho=>absurd ho (h5 o);refine⟨L,X.set L.b C',hL,hx,rfl,?_,hst⟩;refine(AD (h.erase lv sl) h2 h3 (λo ho=>absurd ho (h5 o)) h6).reset (e:=.box au (splice cells off new)) (L:=L) hL ⟨h1,⟨h3,C',e,jY h2,?_⟩,h5,λj x hj=>?_⟩ λk v M a b c _=>h6 k v M a b c
 .rw[kM _ _ _ hoff];have hs:C'.size=C.size:=by show(C.toList.take (L.o+off)++vs++C.toList.drop (L.o+off+vs.length)).toArray.size=C.size;simp;omega
  omega
 .rw[ee _ _ _ hoff]at hj;rw[cell_of_row _ _ _ _ _ _ (jY h2),qP];by_cases hb:off<=j/\j<off+new.length;.rw[bb hb]at hj;obtain⟨v,hv,hr⟩:=hn.get _ _ hj;rw[bb (by omega),show L.o+j-(L.o+off)=j-off by omega];exact⟨v,hv,hr.ext hx⟩
  .rw[be hb]at hj;obtain⟨v,hv,hr⟩:=h7 j x hj;rw[be (by omega)];exact⟨v,hv,hr.ext hx⟩
theorem Em{X:Cx}{m:List (Tr bH)}{t:Tr Unit}(h:aH X m t){lv sl au k:Nat}{els els':List (List D)}{vs:List Value}{L:Loc}(hg:aN m lv sl=some (.row au els))(hL:X.ρ au=some L)(hc:0<L.cap)(hk:k+vs.length<=L.cap*L.sz)(hn:aE (DR X.w X.F) ((els'.flatten.drop k).take vs.length) vs)(hl':∀e∈els',e.length=L.sz)(hle:els'.length<=L.cap)(hold:∀j x,els'.flatten[j]?=some x->(k<=j/\j<k+vs.length)\/els.flatten[j]?=some x):∃Y,Ext X Y/\Y.ρ=X.ρ/\aH Y (cC m lv sl (some (.row au els'))) t/\(storeCells ⟨L.b,L.o+k,none⟩ vs).run P X.w=.ok () Y.w:=by
 obtain⟨C,e,h2,h3,h4,h5,h8,h9,h6,h7⟩:=n4 h hg hL hc;have hst:=run_storeCells_at P L.b (L.o+k) e vs 0 C X.w h2 (by omega) (aE.Xl hn);let C':=(C.toList.take (L.o+k)++vs++C.toList.drop (L.o+k+vs.length)).toArray;have qP:∀j,C'[j]?=if L.o+k<=j/\j<L.o+k+vs.length then vs[j-(L.o+k)]?else C[j]?:=nS (by omega);have hx:Ext X (X.set L.b C'):=vT h2 h3 λo ho=>absurd ho (h5 o);have hs:C'.size=C.size:=by show(C.toList.take (L.o+k)++vs++C.toList.drop (L.o+k+vs.length)).toArray.size=C.size;simp;omega
 refine⟨X.set L.b C',hx,rfl,?_,hst⟩;refine(AD (h.erase lv sl) h2 h3 (λo ho=>absurd ho (h5 o)) h6).reset (e:=.row au els') (L:=L) hL ⟨hle,hl',λ_=>⟨⟨h3,C',e,jY h2,by omega⟩,h5⟩,λi f j x hi hj=>?_⟩ λk v M a b c _=>h6 k v M a b c;have F0:j<L.sz:=by rw[<-hl' f (f7 hi)];exact(cf.1 hj).1
 have hf:=gn hl' i j f hi F0;rw[hj]at hf;rw[cell_of_row _ _ _ _ _ _ (jY h2),qP];by_cases hb:k<=i*L.sz+j/\i*L.sz+j<k+vs.length
 .rw[bb (by omega)];have hq:((els'.flatten.drop k).take vs.length)[i*L.sz+j-k]?=some x:=by rw[fx,bb (by omega),sT,show k+(i*L.sz+j-k)=i*L.sz+j by omega];exact hf
  obtain⟨v,hv,hr⟩:=hn.get _ _ hq;rw[show L.o+i*L.sz+j-(L.o+k)=i*L.sz+j-k by omega];exact⟨v,hv,hr.ext hx⟩
 .rw[be (by omega)];have hq:=(hold _ _ hf).resolve_left hb;have hlt:i*L.sz+j<els.length*L.sz:=by rw[<-bu h9];exact(cf.1 hq).1
  have hi':i<els.length:=by
   rcases f6 i els.length with hi'|hi';.exact hi'
   .have:=dE L.sz hi';omega
  have hg2:=gn h9 i j _ (al hi') F0;rw[hq]at hg2;obtain⟨v,hv,hr⟩:=h7 i _ j x (al hi') hg2.symm;exact⟨v,hv,hr.ext hx⟩
end
end Go.bM
namespace Go.bM
open Go Go.RowKit
theorem j8:∀(u v:List (Nat×Nat×Option bH))(m:List (Tr bH)),bF m (u++v)=bF (bF m u) v|[],_,_=>rfl|(lv,sl,e)::u,v,m=>by exact j8 u v _
theorem p9{α:Type}(cs new:List α)(off:Nat)(h:off<=cs.length):((splice cs off new).drop off).take new.length=new:=by grind[splice]
theorem Rj{sz:Nat}{els:List (List D)}(hl:∀e∈els,e.length=sz){i off:Nat}{e ds:List D}(hi:els[i]?=some e)(ho:off+ds.length<=sz):(els.set i (splice e off ds)).flatten=splice els.flatten (i*sz+off) ds:=by
 have he:=hl e (f7 hi);have hlt:i<els.length:=(cf.1 hi).1;have hle:i*sz+sz<=els.flatten.length:=by rw[bu hl];have:=dE sz (show i+1<=els.length from hlt);rw[d6]at this;omega
 have h1:(splice e off ds).length=sz:=by rw[kM _ _ _ (by omega),he]
 rw[sv hl i _ hlt h1];apply la;intro j;have q1:=ee els.flatten (splice e off ds) (i*sz) (by omega) j;have q2:=ee els.flatten ds (i*sz+off) (by omega) j;have q3:=ee e ds off (by omega) (j-i*sz);rw[q1,q2,h1];by_cases hb:i*sz<=j/\j<i*sz+sz
 .rw[bb hb,q3];by_cases hc:off<=j-i*sz/\j-i*sz<off+ds.length;.rw[bb hc,bb (by omega),show j-i*sz-off=j-(i*sz+off)by omega]
  .rw[be hc,be (by omega)];have:=gn hl i (j-i*sz) e hi (by omega);rw[show i*sz+(j-i*sz)=j by omega]at this;exact this.symm
 .rw[be hb,be (by omega)]
section
variable{P:Program}{X:Cx}{nt:NT}{s:St}{a:Act}{o:Oper}{dst:Option Nat}{aT:Nat}
theorem fL.Ib{X Y:Cx}{v n:Nat}(h:Y.ρ=X.ρ):fL X Y v n n:=⟨bc _,λu L hu=>.inl (by grind)⟩
theorem Rk(hs:fu X nt s a){t:TypeId}{x v:Operand}{x' v':cc}{sz:Nat}{e:fT}(ho:o.op=.store t x v)(hsz:dB P t=some sz)(hx:dh x=some x')(hv:dh v=some v')(hr:qK s.mem sz (x'.ev s.slots) (v'.ev s.slots)=some e):dI P X s a o dst aT (.ck e):=by
 obtain⟨i,hi,Zz⟩:=fH hsz;have hp:=bB hs hx;have hval:=bB hs hv;have run:∀(b off:Nat)(Y:Cx),a.eval x=.pointer (some ⟨b,off,none⟩)->(a.eval v).cells.size=sz->(storeCells ⟨b,off,none⟩ (a.eval v).cells.toList).run P X.w=.ok () Y.w->(execOp a.eval o).run P X.w=.ok .skip Y.w:=by intro b off Y h1 h2 h3;simp[execOp,ho,Instr.storeAt,h1,jK,storeVar,sizeOf,typeInfo,hi,Zz,h2,h3]
 unfold qK at hr;split at hr
 .rename_i lv sl au j off new hq hc;rw[hq]at hp;obtain⟨L,hL,hp⟩:=hp;have Bj:=qM hc hval;split at hr
  .rename_i hlen;have hsize:(a.eval v).cells.size=sz:=by rw[<-hlen,Bj.length,ft]
   split at hr
   .rename_i gF cs hg;split at hr
    .rename_i DP hj;split at hr;.rename_i hle;cases hr;have DP:=beq_true.1 DP;have hj:=beq_true.1 hj;subst DP;subst hj;obtain⟨L',Y,hL',hx',hρ,hm,hst⟩:=El (P:=P) hs.mem hg (by rw[hlen];exact hle) Bj;rw[hL]at hL';cases hL';refine .skip (Y:=Y) (run L.b (L.o+off) Y (by rw[hp];simp) hsize hst) hx' oh hm (fL.Ib hρ)
     grind
    grind
   .rename_i gF els hg;split at hr
    .rename_i DP;split at hr
     .rename_i el ds ks hel hds;split at hr
      .rename_i hle;obtain⟨hle,hks⟩:=hle;cases hr;have DP:=beq_true.1 DP;subst DP;have KD:=Ga hs.mem (ks:=ks) hds Bj λp hp=>hp;have DQ:=F2 hs.mem ks;have hx1:=qO hs.mem ks;have hg1:aN (bF s.mem (ew s.mem ks)) lv sl=some (.row gF els):=by rw[qN,be hks,hg]
       have hlt:j<els.length:=(cf.1 hel).1;obtain⟨L',hL',hE⟩:=hs.mem.fZ _ _ _ hg;have:X.ρ gF=some L':=hL';rw[hL]at this;cases this;obtain⟨e1,e2,_,_⟩:=hE;have hcap:0<L.cap:=by omega
       have Bk:=e2 el (f7 hel);have hlen':ds.length=(a.eval v).cells.toList.length:=KD.length;have auG:(a.eval v).cells.toList.length=sz:=by grind
       have hfl:=Rj (ds:=ds) e2 hel (off:=off) (by omega);have amj:=bu e2;have hjl:j*L.sz+L.sz<=els.length*L.sz:=by have:=dE L.sz (show j+1<=els.length from hlt)<;>grind
       have hjc:els.length*L.sz<=L.cap*L.sz:=dE _ e1;obtain⟨Y,hx',hρ,hm,hst⟩:=Em (P:=P) DQ (k:=j*L.sz+off) (els':=els.set j (splice el off ds)) (vs:=(a.eval v).cells.toList) hg1 hL hcap (by omega) (by rw[hfl,<-hlen',p9 _ _ _ (by omega)];exact KD) (λf hf=>by
        rcases List.mem_or_eq_of_mem_set hf with hf|rfl;.exact e2 f hf
        .rw[kM _ _ _ (by omega),Bk]) (by simpa using e1) (λq y hq=>by
        rw[hfl,ee _ _ _ (by omega)]at hq;split at hq;.exact .inl (by omega)
        .exact .inr hq);refine .skip (Y:=Y) (run L.b (L.o+j*L.sz+off) Y hp hsize (by rw[ed];exact hst)) (hx1.trans hx') oh ?_ (fL.Ib hρ);show aH Y (bF s.mem (ew s.mem ks++_)) s.aK;rw[j8];exact hm
      grind
     grind
    grind
   .cases hr
   .cases hr
   grind
  grind
 grind
theorem Ou{w:World}{F:Nat->Nat->Prop}{v:Value}{x:D}(h:uN v=some x):DR w F x v:=by cases v with
 |slice a n c=>
  simp[uN]at h;split at h;.rename_i hv;cases hv;cases h;exact .sl [] none 0 0 0 0 0 (λ_ _=>undef) rfl (bc _) (by simp) (λh=>absurd h (by simp)) (by simp) (by simp) (by simp)
  all_goals first|(cases h;done)|simp_all
 |agg cs=>simp[uN]at h|tuple cs=>simp[uN]at h|func fn first cap=>simp[uN]at h|_=>simp only[uN]at h;injection h with h;subst h;exact DR.sc _ rfl
theorem lQ{w:World}{F:Nat->Nat->Prop}:∀{vs:List Value}{xs:List D},jJ vs=some xs->aE (DR w F) xs vs
 |[],xs,h=>by grind[jJ,aE]|v::r,xs,h=>by
  simp[jJ]at h;split at h;.rename_i x xs' h1 h2;cases h;exact⟨Ou h1,lQ h2⟩
  grind
theorem jj{w:World}{F:Nat->Nat->Prop}{z:List D}{Z:Array Value}{sz:Nat}(hz:aE (DR w F) z Z.toList)(hl:z.length=sz)(h0:0<sz)(n k:Nat)(hk:n*sz<=k):aE (DR w F) (List.replicate n z).flatten ((madeCells Z k).toList.take (n*sz)):=by
 have hu:∀e∈List.replicate n z,e.length=sz:=λe he=>by rw[(pB.1 he).2];exact hl
 refine .uO (by rw[bu hu];simp[madeCells];omega) λi x v hx hv=>?_;have hi:i<n*sz:=by grind
 have hq:i/sz<n:=(Nat.div_lt_iff_lt_mul h0).2 hi;have hg:=gn hu (i/sz) (i%sz) z (by rw[m8,bb hq]) (wi _ h0);rw[show i/sz*sz+i%sz=i by rw[xc];exact Nat.div_add_mod i sz,hx]at hg;have hZ:Z.size=sz:=by rw[<-hl,hz.length,ft]
 obtain⟨u,lF,hr⟩:=hz.get _ _ hg.symm;have:v=u:=by simp only[madeCells,Array.getElem?_toList,Array.getElem?_map]at hv<;>grind
 grind
theorem pN{Z:Array Value}{k:Nat}:(madeCells Z k).toList.take k=(madeCells Z k).toList:=fg (by simp[madeCells])
theorem Ic(hs:fu X nt s a){sz:Nat}{K:List (Nat×Nat)}:∀(ps:List (Nat×Operand))(l:List (Nat×cc))(els els':List (List D))(ks:List (Nat×Nat))(C:Array Value),oT ps=some l->(∀e∈els,e.length=sz)->aE (DR X.w (X.mN s.mem K).F) els.flatten C.toList->p6 s.mem s.slots sz els l=some (els',ks)->(∀p∈ks,p∈K)->∃C',Instr.fill (λi=>some (i*sz,sz)) C (ps.map λp=>(p.1,a.eval p.2))=some C'/\aE (DR X.w (X.mN s.mem K).F) els'.flatten C'.toList/\(∀e∈els',e.length=sz)/\els'.length=els.length
 |[],l,els,els',ks,C,hp,hl,hd,hf,hk=>by cases hp;cases hf;exact⟨C,rfl,hd,hl,rfl⟩|(i,x)::ps,l,els,els',ks,C,hp,hl,hd,hf,hk=>by
  simp[oT]at hp;split at hp
  .rename_i y ys h2 h3;cases hp;simp[p6]at hf;split at hf
   .rename_i e k1 he;split at hf
    .rename_i hc;obtain⟨hc1,pY⟩:=hc;split at hf;.rename_i abl k2 hf';injection hf with hf;injection hf with e1 e2;subst e1;subst e2;unfold Ea at he;cases hcs:cellsOf (y.ev s.slots)with|none=>grind|some cs=>
      rw[hcs]at he;have hv:=Ga hs.mem (ks:=K) he (qM hcs (bB hs h2)) λp hp=>hk p (by simp[hp]);have hsz:(a.eval x).cells.size=sz:=by rw[<-hc1,hv.length,ft]
      have hC:C.size=els.length*sz:=by rw[<-bu hl,hd.length,ft]
      have hle:i*sz+sz<=C.size:=by have:=dE sz (show i+1<=els.length from pY)<;>grind
      obtain⟨C',h4,h5,h6,h7⟩:=Ic hs ps ys (els.set i e) abl k2 ((a.eval x).cells.zipIdx.foldl (λcs x=>match x with|(c,j)=>cs.setIfInBounds (i*sz+j) c) C) h3 (λf hf=>by
       rcases List.mem_or_eq_of_mem_set hf with hf|rfl;.exact hl f hf
       .exact hc1) (by rw[Ei _ _ C (by omega),sv hl i e pY hc1];exact hd.splice hv) hf' λp hp=>hk p (by simp[hp]);simp only[fj,Instr.fill,hsz,ne_eq,ti,rl,Bool.false_or]<;>grind
     grind
    grind
   grind
  grind
theorem sy{t e:TypeId}{n sz:Nat}{ps:Array (Nat×Operand)}{i:TypeInfo}{zv:Value}{C':Array Value}(ho:o.op=.buildSlice t n ps)(ht:P.underlying t=some (.slice e))(hi:P.info? e=some i)(Zz:i.size=sz)(hz:i.zero=some zv)(DJ:n*sz<=16777216)(hf:Instr.fill (λi=>some (i*sz,sz)) (madeCells zv.cells (n*sz)) (ps.toList.map λp=>(p.1,a.eval p.2))=some C'):(execOp a.eval o).run P X.w=.ok (.value (.slice (some ⟨X.w.heap.size,0,none⟩) n n)) (X.w.alloc (.cells C' e)):=by
 have hn:¬(16777216<n*sz):=by omega
 have key:(Instr.buildSlice t n (ps.map λ(x:Nat×Operand)=>(x.1,a.eval x.2))).run P X.w=.ok (.slice (some ⟨X.w.heap.size,0,none⟩) n n) (X.w.alloc (.cells C' e)):=by
  unfold madeCells at hf;by_cases h0:n*sz=0;.have e0:Array.range 0=#[]:=rfl;rw[h0,e0,Array.map_empty]at hf;simp[Instr.buildSlice,run_underlying ht,sizeOf,typeInfo,hi,Zz,h0,newRow,e0,hf]
  .simp[Instr.buildSlice,run_underlying ht,sizeOf,typeInfo,hi,Zz,hn,h0,zeroValue,hz,hf,newRow]
 simp[execOp,ho];simp[key]
end
end Go.bM
