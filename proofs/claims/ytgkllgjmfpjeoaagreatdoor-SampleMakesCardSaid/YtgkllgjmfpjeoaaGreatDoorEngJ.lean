/- A part of the proof: EngH, EngI, EngJ. -/
import Derived.Test.YtgkllgjmfpjeoaaGreatDoorEngG
import Derived.Laws.Append
import Derived.Laws.AppendOwn
import Derived.Laws.CopyOwn
set_option linter.unusedVariables false
set_option linter.unusedSimpArgs false
namespace Go.bJ
open Go Go.RowKit
def fy(X Y:Cx)(aO n n':Nat):Prop:=n<=n'/\∀v L,Y.ρ v=some L->X.ρ v=some L\/v=aO\/(n<=v/\v<n')
theorem mW{X:Cx}{C:Array Value}{e:TypeId}{v:Nat}{L:Loc}{n:Nat}:fy X (X.alloc C e v L) v n n:=⟨Nat.le_refl _,λu M h=>by grind[Cx.alloc]⟩
theorem fy.refl(X:Cx)(v n:Nat):fy X X v n n:=⟨Nat.le_refl _,λ_ _ h=>.inl h⟩
section
variable{X:Cx}{m:List (Tr bB)}{t:Tr Unit}
theorem rA(X:Cx)(C:Array Value)(e:TypeId)(v:Nat)(L:Loc):(X.alloc C e v L).w.heap[X.w.heap.size]?=some (.cells C e (0,0)):=heap_alloc_new _ _
theorem ve(X:Cx)(C:Array Value)(e:TypeId)(v:Nat)(L:Loc):(X.alloc C e v L).ρ v=some L:=if_pos rfl
theorem sW(h:aH X m t){C:Array Value}{e:TypeId}{v:Nat}{L:Loc}(hv:X.ρ v=none){k:Nat×Nat×Nat}{u:Nat}{M:Loc}(hk:Holds m t k u)(hu:(X.alloc C e v L).ρ u=some M)(hc:0<M.cap):M.b≠X.w.heap.size:=by obtain⟨M',kU,h2⟩:=h.dG hk<;>grind[Cx.alloc,Holds]
theorem Me(h:aH X m t){C:Array Value}{e:TypeId}{v:Nat}{cs:List AV}(lv sl:Nat)(hv:X.ρ v=none)(hc:aC (VC X) cs C.toList):aH (X.alloc C e v ⟨X.w.heap.size,0,C.size,1⟩) (ct m lv sl (some (.box v cs))) t:=by
 have hx:Ext X (X.alloc C e v ⟨X.w.heap.size,0,C.size,1⟩):=Ext.alloc h.oL h.low hv;refine(h.alloc hv).add (L:=⟨X.w.heap.size,0,C.size,1⟩) (ve _ _ _ _ _) ⟨rfl,⟨h.fresh,C,e,rA _ _ _ _ _,by rw[hc.length];simp⟩,λo ho=>?_,λj x hj=>?_⟩ λk u M hk _ hu hc _=>sW h hv hk hu hc;.exact Nat.lt_irrefl _ (h.oL _ _ ho)
 .obtain⟨u,hu,hr⟩:=hc.get _ _ hj;refine⟨u,?_,hr.ext hx⟩<;>simp_all[aC,VC,Cx.alloc]
theorem Fa(h:aH X m t){C:Array Value}{e:TypeId}{v:Nat}{els:List (List D)}{sz cap:Nat}{vs:List Value}(lv sl:Nat)(hv:X.ρ v=none)(hl:∀e∈els,e.length=sz)(hC:cap*sz<=C.size)(hle:els.length<=cap)(hvs:∀(j:Nat)(u:Value),vs[j]?=some u->C[j]?=some u)(hd:aC (DR X.w X.F) els.flatten vs):aH (X.alloc C e v ⟨X.w.heap.size,0,sz,cap⟩) (ct m lv sl (some (.row v els))) t:=by
 have hx:Ext X (X.alloc C e v ⟨X.w.heap.size,0,sz,cap⟩):=Ext.alloc h.oL h.low hv;refine(h.alloc hv).add (L:=⟨X.w.heap.size,0,sz,cap⟩) (ve _ _ _ _ _) ⟨hle,hl,λ_=>⟨⟨h.fresh,C,e,rA _ _ _ _ _,by simpa using hC⟩,λo ho=>?_⟩,λi f j x h1 h2=>?_⟩ λk u M hk _ hu hc _=>sW h hv hk hu hc;.exact Nat.lt_irrefl _ (h.oL _ _ ho)
 .have:=u9 (R:=λ_ _=>True) (o:=0) (rA X C e v ⟨X.w.heap.size,0,sz,cap⟩) hl (λj u hj=>by rw[Nat.zero_add];exact hvs j u hj) (hd.mono λ_ _=>DR.ext hx) (λ_ _=>trivial);grind[ei,aC,Cx.alloc]
theorem Mf(h:aH X m t){C:Array Value}{e:TypeId}{v:Nat}{els:List (List D)}{sz cap:Nat}{vs:List Value}(hv:X.ρ v=none)(hl:∀e∈els,e.length=sz)(hC:cap*sz<=C.size)(hle:els.length<=cap)(hvs:∀(j:Nat)(u:Value),vs[j]?=some u->C[j]?=some u)(hd:aC (DR X.w X.F) els.flatten vs):let Y:=(X.alloc C e v ⟨X.w.heap.size,0+els.length*sz,sz,cap-els.length⟩).more λb o=>b=X.w.heap.size/\o<els.length*sz;Ext X Y/\aH Y m (t.set v (some ()))/\ei Y.w Y.F Y.F els X.w.heap.size 0 sz/\fy X Y v 0 0:=by
 intro Y;let Z:=X.alloc C e v ⟨X.w.heap.size,0+els.length*sz,sz,cap-els.length⟩;have hz:Ext X Z:=Ext.alloc h.oL h.low hv;have hm:Ext Z Y:=Ext.more λb o hb=>by rw[hb.1];exact h.fresh
 have hmem:aH Y m t:=(h.alloc hv).more (λb o hb=>⟨by rw[hb.1];exact h.fresh,by rw[hb.1];show _<(X.w.alloc _).heap.size;rw[World.size_alloc];omega⟩) λk u M o hk hu hc hb=>sW (C:=C) (e:=e) (L:=⟨X.w.heap.size,0+els.length*sz,sz,cap-els.length⟩) h hv hk hu hc hb.1;refine⟨hz.trans hm,hmem.U9 (L:=⟨X.w.heap.size,0+els.length*sz,sz,cap-els.length⟩) (ve X C e v _) (λhc=>⟨⟨h.fresh,C,e,rA X C e v ⟨X.w.heap.size,0+els.length*sz,sz,cap-els.length⟩,?_⟩,λo ho hF=>?_⟩) (λk u M hk _ hu hc _=>sW (C:=C) (e:=e) (L:=⟨X.w.heap.size,0+els.length*sz,sz,cap-els.length⟩) h hv hk hu hc),?_,⟨Nat.le_refl _,λu M hu=>?_⟩⟩;.rw[Nat.zero_add,<-Nat.add_mul,Nat.add_sub_cancel' hle]<;>omega
 .rcases hF with hF|hF;.exact Nat.lt_irrefl _ (h.oL _ _ hF)
  grind
 .exact u9 (o:=0) (rA X C e v ⟨X.w.heap.size,0+els.length*sz,sz,cap-els.length⟩) hl (λj u hj=>by rw[Nat.zero_add];exact hvs j u hj) (hd.mono λ_ _=>DR.ext (hz.trans hm)) (λk hk=>.inr ⟨rfl,by omega⟩)
 .exact(mW (C:=C) (e:=e) (n:=0)).2 u M hu
def Cx.set(X:Cx)(g:Nat)(C:Array Value):Cx:={X with w:=X.w.setRow g C}
theorem jv{g:Nat}{C C':Array Value}{e:TypeId}(hg:X.w.heap[g]?=some (.cells C e (0,0))):(X.set g C').w.heap[g]?=some (.cells C' e (0,0)):=setRow_heap _ _ _ _ _ _ hg
theorem vf{g:Nat}{C C':Array Value}{e:TypeId}(hg:X.w.heap[g]?=some (.cells C e (0,0)))(hb:¬X.old g)(hF:∀o,X.F g o->C'[o]?=C[o]?):Ext X (X.set g C'):=by
 refine⟨rfl,(eo.refl _ _).setRow hb _,λ_ _ h=>h,λb o h=>?_,λ_ _ h=>h,λ_ _ h=>.inl h⟩;by_cases hbg:b=g;.subst hbg;rw[cell_of_row _ _ _ _ _ _ (jv hg),cell_of_row _ _ _ _ _ _ hg]<;>grind
 .have:=setRow_other X.w g b C' hbg;simp[World.cell?,Cx.set,this]
theorem zG(h:aH X m t){g:Nat}{C C':Array Value}{e:TypeId}(hg:X.w.heap[g]?=some (.cells C e (0,0)))(hb:¬X.old g)(hF:∀o,X.F g o->C'[o]?=C[o]?)(hk:∀k v L,Holds m t k v->X.ρ v=some L->0<L.cap->L.b≠g):aH (X.set g C') m t:=h.move (vf hg hb hF) (λk v L a b c=>setRow_other X.w g L.b C' (hk k v L a b c)) (λ_ _ _ _ _ _ _ h=>h) λb o hb=>by have:=h.oL b o hb<;>simp_all[Holds,Cx.set]
end
end Go.bJ
namespace Go.bJ
open Go Go.RowKit
def hU.val:hU->AV|.bW e=>e.val|.all v _ _ _=>v
def dh(P:Program)(X:Cx)(s:St)(a:Act)(o:Oper)(dst:Option Nat)(aO:Nat)(r:hU):Prop:=∀(K:Act->World->Prop)(Q:Exit->Act->World->Prop),(∀Y v,Ext X Y->VR Y r.val v->aH Y (s.app dst r).mem (s.app dst r).aI->fy X Y aO s.nv (s.app dst r).nv->K (a.put o.dst v) Y.w)->Oper.wp P o a X.w K Q
section
variable{P:Program}{X:Cx}{nt:Nat}{s:St}{a:Act}{o:Oper}{dst:Option Nat}{aO:Nat}
theorem dh.value{r:hU}{Y:Cx}{v:Value}(hrun:(execOp a.eval o).run P X.w=.ok (.value v) Y.w)(hx:Ext X Y)(hv:VR Y r.val v)(hm:aH Y (s.app dst r).mem (s.app dst r).aI)(hd:fy X Y aO s.nv (s.app dst r).nv):dh P X s a o dst aO r:=by intro K Q h;unfold Oper.wp;rw[hrun];exact h Y v hx hv hm hd
theorem dh.skip{r:hU}{Y:Cx}(hrun:(execOp a.eval o).run P X.w=.ok .skip Y.w)(hx:Ext X Y)(hv:VR Y r.val undef)(hm:aH Y (s.app dst r).mem (s.app dst r).aI)(hd:fy X Y aO s.nv (s.app dst r).nv):dh P X s a o dst aO r:=by intro K Q h;unfold Oper.wp;rw[hrun];exact h Y undef hx hv hm hd
theorem dh.quiet{val:AV}{rd:List (Nat×Nat×Nat)}(hs:fo X nt s a)(h:Quiet P X o a val):dh P X s a o dst aO (.bW {val,cV:=[],cD:=[],rd}):=by obtain⟨v,hrun,hv⟩:=h;exact .value hrun (Ext.refl X) hv hs.mem (fy.refl _ _ _)
theorem jg{t:TypeId}{z:List Value}(h:nu P t=some z):∃i v,P.info? t=some i/\i.zero=some v/\z=v.cells.toList:=by unfold nu at h;cases hi:P.info? t with|none=>grind|some i=>rw[hi]at h;cases hz:i.zero with|none=>grind|some v=>grind
theorem Dh(hs:fo X nt s a)(hv:X.ρ aO=none){d:Nat}{C:Array Value}{e:TypeId}{cs:List AV}{rd:List (Nat×Nat×Nat)}(hrun:(execOp a.eval o).run P X.w=.ok (.value (.pointer (some ⟨X.w.heap.size,0,none⟩))) (X.w.alloc (.cells C e)))(hc:aC (VC X) cs C.toList):dh P X s a o dst aO (.bW {val:=.ptr (s.mem.length-1) d aO 0 0,cV:=[(s.mem.length-1,d,some (.box aO cs))],cD:=[],rd}):=.value (Y:=X.alloc C e aO ⟨X.w.heap.size,0,C.size,1⟩) hrun (Ext.alloc hs.mem.oL hs.mem.low hv) ⟨_,ve _ _ _ _ _,by simp⟩ (Me hs.mem _ _ hv hc) mW
theorem Qt(hs:fo X nt s a)(hv:X.ρ aO=none){t:TypeId}{z:List Value}{cs:List AV}{d:Nat}{rd:List (Nat×Nat×Nat)}(ho:o.op=.alloc t)(hz:nu P t=some z)(hc:fu z=some cs):dh P X s a o dst aO (.bW {val:=.ptr (s.mem.length-1) d aO 0 0,cV:=[(s.mem.length-1,d,some (.box aO cs))],cD:=[],rd}):=by obtain⟨i,v,hi,Fb,rfl⟩:=jg hz;refine Dh hs hv (C:=v.cells) (e:=t) ?_ (lJ hc);simp[execOp,ho,Instr.alloc,zeroValue,typeInfo,hi,Fb,newVar,newRow]
theorem ZK(hs:fo X nt s a)(hv:X.ρ aO=none){t:TypeId}{x:Operand}{x':bT}{cs:List AV}{d:Nat}{rd:List (Nat×Nat×Nat)}(ho:o.op=.box t x)(hx:cU x=some x')(hc:cellsOf (x'.ev s.slots)=some cs):dh P X s a o dst aO (.bW {val:=.ptr (s.mem.length-1) d aO 0 0,cV:=[(s.mem.length-1,d,some (.box aO cs))],cD:=[],rd}):=by refine Dh hs hv (C:=(a.eval x).cells) (e:=t) ?_ (qa hc (bg hs hx));simp[execOp,ho,Instr.box,newVar,newRow]
theorem aC.one{X:Cx}:∀{cs:List AV}{vs:List Value},aC (VC X) cs vs->∀v∈vs,v.oneCell'=true
 |[],[],_,v,h=>by cases h|_::_,_::_,h,v,hv=>by
  rcases List.mem_cons.1 hv with rfl|hv;.exact VC.one h.1
  .exact aC.one h.2 v hv|[],_::_,h,_,_=>h.elim|_::_,[],h,_,_=>h.elim
theorem aC.Vk{w:World}{F:Nat->Nat->Prop}:∀{cs:List D}{vs:List Value},aC (DR w F) cs vs->∀v∈vs,v.oneCell'=true
 |[],[],_,v,h=>by cases h|_::_,_::_,h,v,hv=>by
  rcases List.mem_cons.1 hv with rfl|hv;.exact DR.one h.1
  .exact aC.Vk h.2 v hv|[],_::_,h,_,_=>h.elim|_::_,[],h,_,_=>h.elim
theorem mS{C:Array Value}{k:Nat}{vs:List Value}(h:k+vs.length<=C.size)(j:Nat):(C.toList.take k++vs++C.toList.drop (k+vs.length)).toArray[j]?=if k<=j/\j<k+vs.length then vs[j-k]?else C[j]?:=by grind
theorem NF{X:Cx}{m:List (Tr bB)}{t:Tr Unit}(h:aH X m t){lv sl ah:Nat}{cells:List AV}(hg:aK m lv sl=some (.box ah cells)):∃L C e,X.ρ ah=some L/\L.cap=1/\X.w.heap[L.b]?=some (.cells C e (0,0))/\¬X.old L.b/\L.o+cells.length<=C.size/\(∀o,¬X.F L.b o)/\(∀k v M,Holds (ct m lv sl none) t k v->X.ρ v=some M->0<M.cap->M.b≠L.b)/\∀j x,cells[j]?=some x->∃v,C[L.o+j]?=some v/\VC X x v:=by
 obtain⟨L,hL,h1,⟨h2,C,e,h3,h4⟩,h5,h6⟩:=h.fN _ _ _ hg;refine⟨L,C,e,hL,h1,h3,h2,h4,h5,λk v M hk hv hc=>?_,λj x hj=>?_⟩
 .have hh:Holds m t k v/\k≠cq lv sl:=by
   rcases hk with⟨cL,dU,e',rfl,he',kO⟩|⟨rfl,he'⟩;.rw[cx]at he';grind[bB.fz,VC,bB.ah,aK,cq,Holds]
   .exact⟨.inr ⟨rfl,he'⟩,λhq=>eX hq.symm⟩
  exact h.apart _ _ _ _ _ _ hh.1 (.inl ⟨lv,sl,_,rfl,hg,rfl,rfl⟩) hh.2 hv hL hc (by omega)
 .obtain⟨v,hv,hr⟩:=h6 j x hj;rw[cell_of_row _ _ _ _ _ _ h3]at hv<;>grind
theorem mX{X:Cx}{m:List (Tr bB)}{t:Tr Unit}(h:aH X m t){lv sl ah:Nat}{els:List (List D)}(hg:aK m lv sl=some (.row ah els)){L:Loc}(hL:X.ρ ah=some L)(hc0:0<L.cap):∃C e,X.w.heap[L.b]?=some (.cells C e (0,0))/\¬X.old L.b/\L.o+L.cap*L.sz<=C.size/\(∀o,¬X.F L.b o)/\els.length<=L.cap/\(∀e∈els,e.length=L.sz)/\(∀k v M,Holds (ct m lv sl none) t k v->X.ρ v=some M->0<M.cap->M.b≠L.b)/\∀i e j x,els[i]?=some e->e[j]?=some x->∃v,C[L.o+i*L.sz+j]?=some v/\DR X.w X.F x v:=by
 obtain⟨L',hL',h1,h2,h3,h4⟩:=h.fN _ _ _ hg;have:X.ρ ah=some L':=hL';rw[hL]at this;cases this;obtain⟨⟨h5,C,e,h6,h7⟩,h8⟩:=h3 hc0;refine⟨C,e,h6,h5,h7,h8,h1,h2,λk v M hk hv hc=>?_,λi f j x hi hj=>?_⟩
 .have hh:Holds m t k v/\k≠cq lv sl:=by
   rcases hk with⟨cL,dU,e',rfl,he',kO⟩|⟨rfl,he'⟩;.rw[cx]at he';grind[bB.fz,Block,bB.ah,aK,cq,Holds]
   .exact⟨.inr ⟨rfl,he'⟩,λhq=>eX hq.symm⟩
  exact h.apart _ _ _ _ _ _ hh.1 (.inl ⟨lv,sl,_,rfl,hg,rfl,rfl⟩) hh.2 hv hL hc hc0
 .obtain⟨v,hv,hr⟩:=h4 i f j x hi hj;rw[cell_of_row _ _ _ _ _ _ h6]at hv<;>grind
theorem aH.reset{X:Cx}{m:List (Tr bB)}{t:Tr Unit}{lv sl:Nat}{e:bB}{L:Loc}(h:aH X (ct m lv sl none) t)(hL:X.ρ e.ah=some L)(hE:ny X e L)(hap:∀k v M,Holds (ct m lv sl none) t k v->X.ρ v=some M->0<M.cap->0<L.cap->M.b≠L.b):aH X (ct m lv sl (some e)) t:=(h.add (lv:=lv) (sl:=sl) hL hE λk v M a _ b c d=>hap k v M a b c d).congr (λcL dU=>by rw[cx,cx,cx]<;>grind[Holds,ny,bB.ah,ct,aK]) λ_=>rfl
theorem Di{X:Cx}{m:List (Tr bB)}{t:Tr Unit}(h:aH X m t){lv sl ah off:Nat}{cells new:List AV}{vs:List Value}(hg:aK m lv sl=some (.box ah cells))(hoff:off+new.length<=cells.length)(hn:aC (VC X) new vs):∃L Y,X.ρ ah=some L/\Ext X Y/\Y.ρ=X.ρ/\aH Y (ct m lv sl (some (.box ah (splice cells off new)))) t/\(storeCells ⟨L.b,L.o+off,none⟩ vs).run P X.w=.ok () Y.w:=by
 obtain⟨L,C,e,hL,h1,h2,h3,h4,h5,h6,h7⟩:=NF h hg;have hlen:=hn.length;have hst:=run_storeCells_at P L.b (L.o+off) e vs 0 C X.w h2 (by omega) (aC.one hn);let C':=(C.toList.take (L.o+off)++vs++C.toList.drop (L.o+off+vs.length)).toArray;have rB:∀j,C'[j]?=if L.o+off<=j/\j<L.o+off+vs.length then vs[j-(L.o+off)]?else C[j]?:=mS (by omega);have hx:Ext X (X.set L.b C'):=vf h2 h3 λo ho=>absurd ho (h5 o);refine⟨L,X.set L.b C',hL,hx,rfl,?_,hst⟩;refine(zG (h.erase lv sl) h2 h3 (λo ho=>absurd ho (h5 o)) h6).reset (e:=.box ah (splice cells off new)) (L:=L) hL ⟨h1,⟨h3,C',e,jv h2,?_⟩,h5,λj x hj=>?_⟩ λk v M a b c _=>h6 k v M a b c
 .rw[j4 _ _ _ hoff];have hs:C'.size=C.size:=by show(C.toList.take (L.o+off)++vs++C.toList.drop (L.o+off+vs.length)).toArray.size=C.size;simp;omega
  omega
 .rw[dM _ _ _ hoff]at hj;rw[cell_of_row _ _ _ _ _ _ (jv h2),rB];by_cases hb:off<=j/\j<off+new.length;.rw[if_pos hb]at hj;obtain⟨v,hv,hr⟩:=hn.get _ _ hj;rw[if_pos (by omega),show L.o+j-(L.o+off)=j-off by omega];exact⟨v,hv,hr.ext hx⟩
  .rw[if_neg hb]at hj;obtain⟨v,hv,hr⟩:=h7 j x hj;rw[if_neg (by omega)];exact⟨v,hv,hr.ext hx⟩
theorem Dj{X:Cx}{m:List (Tr bB)}{t:Tr Unit}(h:aH X m t){lv sl ah k:Nat}{els els':List (List D)}{vs:List Value}{L:Loc}(hg:aK m lv sl=some (.row ah els))(hL:X.ρ ah=some L)(hc:0<L.cap)(hk:k+vs.length<=L.cap*L.sz)(hn:aC (DR X.w X.F) ((els'.flatten.drop k).take vs.length) vs)(hl':∀e∈els',e.length=L.sz)(hle:els'.length<=L.cap)(hold:∀j x,els'.flatten[j]?=some x->(k<=j/\j<k+vs.length)\/els.flatten[j]?=some x):∃Y,Ext X Y/\Y.ρ=X.ρ/\aH Y (ct m lv sl (some (.row ah els'))) t/\(storeCells ⟨L.b,L.o+k,none⟩ vs).run P X.w=.ok () Y.w:=by
 obtain⟨C,e,h2,h3,h4,h5,h8,h9,h6,h7⟩:=mX h hg hL hc;have hst:=run_storeCells_at P L.b (L.o+k) e vs 0 C X.w h2 (by omega) (aC.Vk hn);let C':=(C.toList.take (L.o+k)++vs++C.toList.drop (L.o+k+vs.length)).toArray;have rB:∀j,C'[j]?=if L.o+k<=j/\j<L.o+k+vs.length then vs[j-(L.o+k)]?else C[j]?:=mS (by omega);have hx:Ext X (X.set L.b C'):=vf h2 h3 λo ho=>absurd ho (h5 o);have hs:C'.size=C.size:=by show(C.toList.take (L.o+k)++vs++C.toList.drop (L.o+k+vs.length)).toArray.size=C.size;simp;omega
 refine⟨X.set L.b C',hx,rfl,?_,hst⟩;refine(zG (h.erase lv sl) h2 h3 (λo ho=>absurd ho (h5 o)) h6).reset (e:=.row ah els') (L:=L) hL ⟨hle,hl',λ_=>⟨⟨h3,C',e,jv h2,by omega⟩,h5⟩,λi f j x hi hj=>?_⟩ λk v M a b c _=>h6 k v M a b c;have E6:j<L.sz:=by rw[<-hl' f (List.mem_of_getElem? hi)];exact(List.getElem?_eq_some_iff.1 hj).1
 have hf:=fR hl' i j f hi E6;rw[hj]at hf;rw[cell_of_row _ _ _ _ _ _ (jv h2),rB];by_cases hb:k<=i*L.sz+j/\i*L.sz+j<k+vs.length
 .rw[if_pos (by omega)];have hq:((els'.flatten.drop k).take vs.length)[i*L.sz+j-k]?=some x:=by rw[List.getElem?_take,if_pos (by omega),List.getElem?_drop,show k+(i*L.sz+j-k)=i*L.sz+j by omega];exact hf
  obtain⟨v,hv,hr⟩:=hn.get _ _ hq;rw[show L.o+i*L.sz+j-(L.o+k)=i*L.sz+j-k by omega];exact⟨v,hv,hr.ext hx⟩
 .rw[if_neg (by omega)];have hq:=(hold _ _ hf).resolve_left hb;have hlt:i*L.sz+j<els.length*L.sz:=by rw[<-aX h9];exact(List.getElem?_eq_some_iff.1 hq).1
  have hi':i<els.length:=by
   rcases Nat.lt_or_ge i els.length with hi'|hi';.exact hi'
   .have:=Nat.mul_le_mul_right L.sz hi';omega
  have hg2:=fR h9 i j _ (List.getElem?_eq_getElem hi') E6;rw[hq]at hg2;obtain⟨v,hv,hr⟩:=h7 i _ j x (List.getElem?_eq_getElem hi') hg2.symm;exact⟨v,hv,hr.ext hx⟩
end
end Go.bJ
namespace Go.bJ
open Go Go.RowKit
theorem jD:∀(u v:List (Nat×Nat×Option bB))(m:List (Tr bB)),bw m (u++v)=bw (bw m u) v|[],_,_=>rfl|(lv,sl,e)::u,v,m=>by exact jD u v _
theorem o6{α:Type}(cs new:List α)(off:Nat)(h:off<=cs.length):((splice cs off new).drop off).take new.length=new:=by grind[splice]
theorem Qu{sz:Nat}{els:List (List D)}(hl:∀e∈els,e.length=sz){i off:Nat}{e ds:List D}(hi:els[i]?=some e)(ho:off+ds.length<=sz):(els.set i (splice e off ds)).flatten=splice els.flatten (i*sz+off) ds:=by
 have he:=hl e (List.mem_of_getElem? hi);have hlt:i<els.length:=(List.getElem?_eq_some_iff.1 hi).1;have hle:i*sz+sz<=els.flatten.length:=by rw[aX hl];have:=Nat.mul_le_mul_right sz (show i+1<=els.length from hlt);rw[Nat.add_mul]at this;omega
 have h1:(splice e off ds).length=sz:=by rw[j4 _ _ _ (by omega),he]
 rw[ry hl i _ hlt h1];apply List.ext_getElem?;intro j;have q1:=dM els.flatten (splice e off ds) (i*sz) (by omega) j;have q2:=dM els.flatten ds (i*sz+off) (by omega) j;have q3:=dM e ds off (by omega) (j-i*sz);rw[q1,q2,h1];by_cases hb:i*sz<=j/\j<i*sz+sz
 .rw[if_pos hb,q3];by_cases hc:off<=j-i*sz/\j-i*sz<off+ds.length;.rw[if_pos hc,if_pos (by omega),show j-i*sz-off=j-(i*sz+off)by omega]
  .rw[if_neg hc,if_neg (by omega)];have:=fR hl i (j-i*sz) e hi (by omega);rw[show i*sz+(j-i*sz)=j by omega]at this;exact this.symm
 .rw[if_neg hb,if_neg (by omega)]
section
variable{P:Program}{X:Cx}{nt:Nat}{s:St}{a:Act}{o:Oper}{dst:Option Nat}{aO:Nat}
theorem fy.G2{X Y:Cx}{v n:Nat}(h:Y.ρ=X.ρ):fy X Y v n n:=⟨Nat.le_refl _,λu L hu=>.inl (by grind)⟩
theorem Qv(hs:fo X nt s a){t:TypeId}{x v:Operand}{x' v':bT}{sz:Nat}{e:fH}(ho:o.op=.store t x v)(hsz:cY P t=some sz)(hx:cU x=some x')(hv:cU v=some v')(hr:p8 s.mem sz (x'.ev s.slots) (v'.ev s.slots)=some e):dh P X s a o dst aO (.bW e):=by
 obtain⟨i,hi,Qw⟩:=fh hsz;have hp:=bg hs hx;have hval:=bg hs hv;have run:∀(b off:Nat)(Y:Cx),a.eval x=.pointer (some ⟨b,off,none⟩)->(a.eval v).cells.size=sz->(storeCells ⟨b,off,none⟩ (a.eval v).cells.toList).run P X.w=.ok () Y.w->(execOp a.eval o).run P X.w=.ok .skip Y.w:=by intro b off Y h1 h2 h3;simp[execOp,ho,Instr.storeAt,h1,je,storeVar,sizeOf,typeInfo,hi,Qw,h2,h3]
 unfold p8 at hr;split at hr
 .rename_i lv sl ah j off new hq hc;rw[hq]at hp;obtain⟨L,hL,hp⟩:=hp;have hcells:=qa hc hval;split at hr
  .rename_i hlen;have hsize:(a.eval v).cells.size=sz:=by rw[<-hlen,hcells.length,Array.length_toList]
   split at hr
   .rename_i gB cs hg;split at hr
    .rename_i CK hj;split at hr;.rename_i hle;cases hr;have CK:=beq_true.1 CK;have hj:=beq_true.1 hj;subst CK;subst hj;obtain⟨L',Y,hL',hx',hρ,hm,hst⟩:=Di (P:=P) hs.mem hg (by rw[hlen];exact hle) hcells;rw[hL]at hL';cases hL';refine .skip (Y:=Y) (run L.b (L.o+off) Y (by rw[hp];simp) hsize hst) hx' nA hm (fy.G2 hρ)
     grind
    grind
   .rename_i gB els hg;split at hr
    .rename_i CK;split at hr
     .rename_i el ds ks hel hds;split at hr
      .rename_i hle;obtain⟨hle,hks⟩:=hle;cases hr;have CK:=beq_true.1 CK;subst CK;have JL:=E9 hs.mem (ks:=ks) hds hcells λp hp=>hp;have CL:=E8 hs.mem ks;have hx1:=qc hs.mem ks;have hg1:aK (bw s.mem (dV s.mem ks)) lv sl=some (.row gB els):=by rw[qb,if_neg hks,hg]
       have hlt:j<els.length:=(List.getElem?_eq_some_iff.1 hel).1;obtain⟨L',hL',hE⟩:=hs.mem.fN _ _ _ hg;have:X.ρ gB=some L':=hL';rw[hL]at this;cases this;obtain⟨e1,e2,_,_⟩:=hE;have hcap:0<L.cap:=by omega
       have Ai:=e2 el (List.mem_of_getElem? hel);have hlen':ds.length=(a.eval v).cells.toList.length:=JL.length;have apr:(a.eval v).cells.toList.length=sz:=by grind
       have hfl:=Qu (ds:=ds) e2 hel (off:=off) (by omega);have aiE:=aX e2;have hjl:j*L.sz+L.sz<=els.length*L.sz:=by have:=Nat.mul_le_mul_right L.sz (show j+1<=els.length from hlt)<;>grind
       have hjc:els.length*L.sz<=L.cap*L.sz:=Nat.mul_le_mul_right _ e1;obtain⟨Y,hx',hρ,hm,hst⟩:=Dj (P:=P) CL (k:=j*L.sz+off) (els':=els.set j (splice el off ds)) (vs:=(a.eval v).cells.toList) hg1 hL hcap (by omega) (by rw[hfl,<-hlen',o6 _ _ _ (by omega)];exact JL) (λf hf=>by
        rcases List.mem_or_eq_of_mem_set hf with hf|rfl;.exact e2 f hf
        .rw[j4 _ _ _ (by omega),Ai]) (by simpa using e1) (λq y hq=>by
        rw[hfl,dM _ _ _ (by omega)]at hq;split at hq;.exact .inl (by omega)
        .exact .inr hq);refine .skip (Y:=Y) (run L.b (L.o+j*L.sz+off) Y hp hsize (by rw[Nat.add_assoc];exact hst)) (hx1.trans hx') nA ?_ (fy.G2 hρ);show aH Y (bw s.mem (dV s.mem ks++_)) s.aI;rw[jD];exact hm
      grind
     grind
    grind
   .cases hr
   .cases hr
   grind
  grind
 grind
theorem NG{w:World}{F:Nat->Nat->Prop}{v:Value}{x:D}(h:tW v=some x):DR w F x v:=by cases v with
 |slice a n c=>
  simp[tW]at h;split at h;.rename_i hv;cases hv;cases h;exact .sl [] none 0 0 0 0 0 (λ_ _=>undef) rfl (Nat.le_refl _) (by simp) (λh=>absurd h (by simp)) (by simp) (by simp) (by simp)
  all_goals first|(cases h;done)|simp_all
 |agg cs=>simp[tW]at h|tuple cs=>simp[tW]at h|func fn first cap=>simp[tW]at h|_=>simp only[tW]at h;injection h with h;subst h;exact DR.sc _ rfl
theorem kV{w:World}{F:Nat->Nat->Prop}:∀{vs:List Value}{xs:List D},jd vs=some xs->aC (DR w F) xs vs
 |[],xs,h=>by grind[jd,aC]|v::r,xs,h=>by
  simp[jd]at h;split at h;.rename_i x xs' h1 h2;cases h;exact⟨NG h1,kV h2⟩
  grind
theorem iG{w:World}{F:Nat->Nat->Prop}{z:List D}{Z:Array Value}{sz:Nat}(hz:aC (DR w F) z Z.toList)(hl:z.length=sz)(h0:0<sz)(n k:Nat)(hk:n*sz<=k):aC (DR w F) (List.replicate n z).flatten ((madeCells Z k).toList.take (n*sz)):=by
 have hu:∀e∈List.replicate n z,e.length=sz:=λe he=>by rw[(List.mem_replicate.1 he).2];exact hl
 refine .tX (by rw[aX hu];simp[madeCells];omega) λi x v hx hv=>?_;have hi:i<n*sz:=by grind
 have hq:i/sz<n:=(Nat.div_lt_iff_lt_mul h0).2 hi;have hg:=fR hu (i/sz) (i%sz) z (by rw[List.getElem?_replicate,if_pos hq]) (Nat.mod_lt _ h0);rw[show i/sz*sz+i%sz=i by rw[Nat.mul_comm];exact Nat.div_add_mod i sz,hx]at hg;have hZ:Z.size=sz:=by rw[<-hl,hz.length,Array.length_toList]
 obtain⟨u,kK,hr⟩:=hz.get _ _ hg.symm;have:v=u:=by simp only[madeCells,Array.getElem?_toList,Array.getElem?_map]at hv<;>grind
 grind
theorem oM{Z:Array Value}{k:Nat}:(madeCells Z k).toList.take k=(madeCells Z k).toList:=List.take_of_length_le (by simp[madeCells])
theorem He(hs:fo X nt s a){sz:Nat}{K:List (Nat×Nat)}:∀(ps:List (Nat×Operand))(l:List (Nat×bT))(els els':List (List D))(ks:List (Nat×Nat))(C:Array Value),n6 ps=some l->(∀e∈els,e.length=sz)->aC (DR X.w (X.lU s.mem K).F) els.flatten C.toList->oY s.mem s.slots sz els l=some (els',ks)->(∀p∈ks,p∈K)->∃C',Instr.fill (λi=>some (i*sz,sz)) C (ps.map λp=>(p.1,a.eval p.2))=some C'/\aC (DR X.w (X.lU s.mem K).F) els'.flatten C'.toList/\(∀e∈els',e.length=sz)/\els'.length=els.length
 |[],l,els,els',ks,C,hp,hl,hd,hf,hk=>by cases hp;cases hf;exact⟨C,rfl,hd,hl,rfl⟩|(i,x)::ps,l,els,els',ks,C,hp,hl,hd,hf,hk=>by
  simp[n6]at hp;split at hp
  .rename_i y ys h2 h3;cases hp;simp[oY]at hf;split at hf
   .rename_i e k1 he;split at hf
    .rename_i hc;obtain⟨hc1,qO⟩:=hc;split at hf;.rename_i ZL k2 hf';injection hf with hf;injection hf with e1 e2;subst e1;subst e2;unfold C7 at he;cases hcs:cellsOf (y.ev s.slots)with|none=>grind|some cs=>
      rw[hcs]at he;have hv:=E9 hs.mem (ks:=K) he (qa hcs (bg hs h2)) λp hp=>hk p (by simp[hp]);have hsz:(a.eval x).cells.size=sz:=by rw[<-hc1,hv.length,Array.length_toList]
      have hC:C.size=els.length*sz:=by rw[<-aX hl,hd.length,Array.length_toList]
      have hle:i*sz+sz<=C.size:=by have:=Nat.mul_le_mul_right sz (show i+1<=els.length from qO)<;>grind
      obtain⟨C',h4,h5,h6,h7⟩:=He hs ps ys (els.set i e) ZL k2 ((a.eval x).cells.zipIdx.foldl (λcs x=>match x with|(c,j)=>cs.setIfInBounds (i*sz+j) c) C) h3 (λf hf=>by
       rcases List.mem_or_eq_of_mem_set hf with hf|rfl;.exact hl f hf
       .exact hc1) (by rw[Df _ _ C (by omega),ry hl i e qO hc1];exact hd.splice hv) hf' λp hp=>hk p (by simp[hp]);simp only[List.map_cons,Instr.fill,hsz,ne_eq,not_true_eq_false,decide_false,Bool.false_or]<;>grind
     grind
    grind
   grind
  grind
theorem rC{t e:TypeId}{n sz:Nat}{ps:Array (Nat×Operand)}{i:TypeInfo}{zv:Value}{C':Array Value}(ho:o.op=.buildSlice t n ps)(ht:P.underlying t=some (.slice e))(hi:P.info? e=some i)(Qw:i.size=sz)(hz:i.zero=some zv)(CC:n*sz<=16777216)(hf:Instr.fill (λi=>some (i*sz,sz)) (madeCells zv.cells (n*sz)) (ps.toList.map λp=>(p.1,a.eval p.2))=some C'):(execOp a.eval o).run P X.w=.ok (.value (.slice (some ⟨X.w.heap.size,0,none⟩) n n)) (X.w.alloc (.cells C' e)):=by
 have hn:¬(16777216<n*sz):=by omega
 have key:(Instr.buildSlice t n (ps.map λ(x:Nat×Operand)=>(x.1,a.eval x.2))).run P X.w=.ok (.slice (some ⟨X.w.heap.size,0,none⟩) n n) (X.w.alloc (.cells C' e)):=by
  unfold madeCells at hf;by_cases h0:n*sz=0;.have e0:Array.range 0=#[]:=rfl;rw[h0,e0,Array.map_empty]at hf;simp[Instr.buildSlice,run_underlying ht,sizeOf,typeInfo,hi,Qw,h0,newRow,e0,hf]
  .simp[Instr.buildSlice,run_underlying ht,sizeOf,typeInfo,hi,Qw,hn,h0,zeroValue,hz,hf,newRow]
 simp[execOp,ho];simp[key]
end
end Go.bJ
