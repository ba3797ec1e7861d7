/- Bytes as a string; maps from strings whose values are all true. -/
import Derived.Test.YtokjmkblnafppaaGreatDoorEngN
import Derived.Laws.BytesArg
import Derived.Laws.IdiomStrings
import Derived.MapKept
set_option linter.unusedVariables false
set_option linter.unusedSimpArgs false
namespace Go.bI
open Go Go.RowKit
theorem DA:∀ {els:List (List D)} {l:List UInt8},bytesOf els=some l→∃ xs:List Int,els=xs.map (fun n=>[.sc (.int .u8 n)])∧l=xs.map fun n=>UInt8.ofNat n.toNat:=by
 intro els
 induction els with
 |nil=>intro l h;simp only[bytesOf] at h;injection h with h;subst h;exact⟨[],rfl,rfl⟩
 | cons e r ih =>
  intro l h
  unfold bytesOf at h
  split at h
  ·rename_i hq;cases hq
  ·rename_i n r' hq
   injection hq with h1 h2
   subst h1 h2
   obtain⟨l',hl',rfl⟩:=Option.map_eq_some_iff.1 h
   obtain⟨xs,rfl,rfl⟩:=ih hl'
   exact⟨n :: xs,rfl,rfl⟩
  ·cases h
section
variable {P:Program} {X:Cx} {nt:Nat} {s:St} {a:Act} {o:Oper} {dst:Option Nat} {aR:Nat}
theorem U9 (hs:eL X nt s a) {src ds e:TypeId} {x:Operand} {x':bR} {els:List (List D)} {l:List UInt8} (ho:o.op=.convert src ds x) (h1:P.underlying src=some (.slice e)) (h2:P.underlying e=some (.int .u8)) (h3:P.underlying ds=some .string)
  (hx:cL x=some x') (he:dK s.mem (x'.ev s.slots)=some els) (hl:bytesOf els=some l):Quiet P X o a (kL (.string (js l))):=by
 obtain⟨xs,rfl,rfl⟩:=DA hl
 obtain⟨ad,cap,sz,b,off,hv,_,had,K5⟩:=pX hs.mem he (bw hs hx)
 refine⟨.string (js (xs.map fun n=>UInt8.ofNat n.toNat)),?_,.kL rfl⟩
 have key:(convert src ds (a.eval x)).run P X.w=.ok (.string (js (xs.map fun n=>UInt8.ofNat n.toNat))) X.w:=by
  rw[hv]
  by_cases h0:xs.length=0
  ·have Du : xs = [] := List.eq_nil_of_length_eq_zero h0
   subst Du
   rw[run_convert_bytes_string X.w src ds e ad _ cap h1 h2 h3]
   cases ad with
   |none=>simp[Conv.bytesToString,js];rfl
   |some ad=>
    rw[run_bytesToString X.w ad _ cap [] (by simp[loadCells,loadCellsFrom])]
    rfl
  ·have hlt : 0 < (xs.map (fun n => ([.sc (.int .u8 n)] : List D))).length := by simp; omega
   have:=had hlt
   subst this
   have hsz:sz=1:=by
    have:=K5.1 _ (List.getElem_mem hlt)
    simp at this
    omega
   subst hsz
   exact run_convert_bytes_arg X.w src e h1 h2 b off _ cap xs (by simp) (fun i hi=>by
    simp at hi
    obtain⟨_,v,hv,hd⟩:=K5.2 i [.sc (.int .u8 xs[i])] 0 (.sc (.int .u8 xs[i])) (by simp[List.getElem?_eq_getElem hi]) rfl
    cases hd
    simp only[Nat.mul_one,Nat.add_zero] at hv
    rw[hv]
    simp[List.getD,List.getElem?_eq_getElem hi]) ds h3
 simp[execOp,ho,key]
def Cx.qf (X:Cx) (ob:Obj) (v:Nat) (L:Loc):Cx:={ X with w:=X.w.alloc ob,ρ:=fun u=>if u=v then some L else X.ρ u }
theorem oC {ob:Obj} {v:Nat} {L:Loc} (hin:∀ b o,X.F b o→b<X.w.heap.size) (mb:∀ b,X.old b→b<X.w.heap.size) (hv:X.ρ v=none):Ext X (X.qf ob v L):=
 ⟨rfl, (dO.refl _ _).alloc mb _, fun _ _ h => h, fun b o h => sE (hin b o h), fun u M hu => by
  show (if u=v then some L else X.ρ u)=some M
  rw[if_neg (by rintro rfl;rw[hv] at hu;cases hu)]
  exact hu,fun _ _ h=>.inl h⟩
theorem zG {m:List (Tr bH)} {t:Tr Unit} {ob:Obj} {v:Nat} {L:Loc} (h:aB X m t) (hv:X.ρ v=none):aB (X.qf ob v L) m t:=
 h.move (oC h.mI h.low hv) (fun k u M hk hu hc=>by
   obtain⟨M',gG,h2⟩:=h.cR hk
   rw[hu] at gG;injection gG with gG;subst gG
   exact heap_alloc_old _ _ _ (h2 hc).1) (fun _ _ _ _ _ _ _ h=>h) (fun b o hb=>by
   have:=h.mI b o hb
   show b<(X.w.alloc _).heap.size
   rw[World.size_alloc];omega)
theorem zH {ob:Obj} {v:Nat} {L:Loc} {n:Nat} : eC X (X.qf ob v L) v n n:=
 ⟨Nat.le_refl _, fun u M h => by
  change (if u=v then some L else X.ρ u)=some M at h
  by_cases hu:u=v
  ·exact .inr (.inl hu)
  ·rw[if_neg hu] at h;exact .inl h⟩
theorem Va (hs:eL X nt s a) (hfr:X.ρ aR=none) {src ds e:TypeId} {x:Operand} {x':bR} {b:ByteArray} {rd:List (Nat×Nat×Nat)} (ho:o.op=.convert src ds x) (h1:P.underlying src=some .string) (h2:P.underlying ds=some (.slice e)) (h3:P.underlying e=some (.int .u8))
  (hx:cL x=some x') (he:x'.ev s.slots=.d (.sc (.string b))):cU P X s a o dst aR (.bS { val:=.d (.sl (b.data.toList.map fun c=>[.sc (.int .u8 c.toNat)])),cK:=[],cx:=[],rd }):=by
 have hv:=bw hs hx;rw[he] at hv;have hv:=hv.sc
 have hrun:=run_bytes_of_string (P:=P) X.w src ds e b h1 h2 h3
 have hcap:b.size≤grownCap X.w b.size 0 e:=grownCap_ge _ _ _ _
 generalize grownCap X.w b.size 0 e=cap at hrun hcap
 let ob:Obj:=.cells (bytesRow b cap) e ((bytesRow b cap).size,(bytesRow b cap).size+1)
 let X2:=X.drew.qf ob aR ⟨0,0,0,0⟩
 let X3:=X2.more fun b' q=>b'=X.w.heap.size∧q<b.size
 have m1:aB X.drew s.mem s.aE:=zi hs.mem
 have e2:Ext X.drew X2:=oC m1.mI m1.low hfr
 have m2:aB X2 s.mem s.aE:=zG m1 hfr
 have hsz:X2.w.heap.size=X.w.heap.size+1:=World.size_alloc _ _
 have e3:Ext X2 X3:=Ext.more fun b' q hq=>by rw[hq.1];exact hs.mem.fresh
 have m3:aB X3 s.mem s.aE:=m2.more (fun b' q hq=>by rw[hq.1];exact⟨hs.mem.fresh,by omega⟩) fun k u M q hk hu hc hq=>by
  obtain⟨M',gG,g⟩:=m1.cR hk
  have:X2.ρ u=some M':=e2.loc _ _ gG
  rw[hu] at this;injection this with this;subst this
  have h4:=(g hc).1
  have h5:X.drew.w.heap.size=X.w.heap.size:=rfl
  have h6:=hq.1
  omega
 have hheap:X3.w.heap[X.w.heap.size]?=some ob:=heap_alloc_new X.drew.w ob
 have hx3:Ext X X3:=(nC.trans e2).trans e3
 refine .value (Y:=X3) (v:=.slice (some ⟨X.w.heap.size,0,none⟩) b.size cap) ?_ hx3 ?_ m3 ⟨Nat.le_refl _,fun u M hu=>?_⟩
 ·simp [execOp, ho, hv, hrun]
  rfl
 ·refine DR.fL (b := X.w.heap.size) (o := 0) (sz := 1) ⟨fun f hf => ?_, fun i f j y hi hj => ?_⟩ (by simp) hcap fun _ => rfl
  ·obtain ⟨c, _, rfl⟩ := List.mem_map.1 hf
   rfl
  ·rw [List.getElem?_map] at hi
   obtain⟨c,hc,rfl⟩:=Option.map_eq_some_iff.1 hi
   have Fg:i<b.data.toList.length:=(List.getElem?_eq_some_iff.1 hc).1
   match j,hj with
   |0,hj=>
    simp at hj;subst hj
    refine⟨.inr ⟨rfl,by simpa using Fg⟩,.int .u8 c.toNat,?_,.sc _ rfl⟩
    simp only[World.cell?,hheap,ob,Nat.zero_add,Nat.mul_one,Nat.add_zero,Option.isSome_none,Bool.false_eq_true,if_false]
    unfold bytesRow
    rw[Array.getElem?_append_left (by simpa using Fg)]
    have yY:b.data[i]?=some c:=by simpa using hc
    simp[yY]
 ·rcases (zH (X := X.drew) (ob := ob) (v := aR) (L := ⟨0, 0, 0, 0⟩) (n := s.nv)).2 u M hu with q | q | q
  ·exact .inl q
  ·exact .inr (.inl q)
  ·omega
theorem Nv (hs:eL X nt s a) (hfr:X.ρ aR=none) {t:TypeId} {d:Nat} (ho:o.op=.makeMap t none) :
  cU P X s a o dst aR (.bS { val:=.mp (s.mem.length-1) d aR,cK:=[(s.mem.length-1,d,some (.mp aR []))],cx:=[],rd:=[] }):=by
 have hρ : (X.qf (.map #[] 0) aR ⟨X.w.heap.size,0,0,1⟩).ρ aR=some ⟨X.w.heap.size,0,0,1⟩:=if_pos rfl
 refine .value (Y:=X.qf (.map #[] 0) aR ⟨X.w.heap.size,0,0,1⟩) (v:=.map (some X.w.heap.size)) ?_ (oC hs.mem.mI hs.mem.low hfr) ⟨_,hρ,rfl⟩ ?_ zH
 ·simp[execOp,ho,Instr.makeMap,Cx.qf]
 ·refine (zG hs.mem hfr).add (e := .mp aR []) (L := ⟨X.w.heap.size, 0, 0, 1⟩) hρ ⟨rfl, hs.mem.fresh, fun o ho => Nat.lt_irrefl _ (hs.mem.mI _ _ ho), #[], 0, heap_alloc_new _ _, rfl⟩ fun k u M hk _ hu hc _ => ?_
  obtain⟨M',gG,h2⟩:=hs.mem.cR hk
  have:(X.qf (.map #[] 0) aR ⟨X.w.heap.size,0,0,1⟩).ρ u=some M':=(oC hs.mem.mI hs.mem.low hfr).loc _ _ gG
  rw[hu] at this;injection this with this;subst this
  have:=(h2 hc).1
  show M.b≠X.w.heap.size
  omega
theorem Fh {m:List (Tr bH)} {t:Tr Unit} (h:aB X m t) {lv sl af:Nat} {ks:List (List UInt8)} (hr:setAt m lv sl af=some ks) :
  ∃ L,X.ρ af=some L∧wv X (.mp af ks) L∧aN m lv sl=some (.mp af ks):=by
 unfold setAt at hr
 split at hr
 ·rename_i v ks' hg
  split at hr
  ·rename_i hv
   injection hr with hr;subst hr
   have hv:=beq_true.1 hv
   subst hv
   obtain⟨L,hL,hE⟩:=h.ec _ _ _ hg
   exact⟨L,hL,hE,hg⟩
  ·cases hr
 ·cases hr
theorem Nw (b:ByteArray) (l:List UInt8):(b==js l)=decide (b.data.toList=l):=by
 have hb:∀ x y:ByteArray,(x==y)=(x.data==y.data):=fun x y=>by cases x;cases y;rfl
 have hd:∀ x y:ByteArray,x.data=y.data↔x=y:=fun x y=>⟨fun h=>by cases x;cases y;simp_all,fun h=>by rw[h]⟩
 rw[hb,Bool.eq_iff_iff]
 simp only[decide_eq_true_eq,beq_iff_eq,hd]
 constructor
 ·rintro rfl;simp[js]
 ·rintro rfl;simp[js]
theorem zI {b:ByteArray} : ∀ {es:List MapEntry} {ks:List (List UInt8)} (i:Nat),es.map (fun e=>(e.key,e.val))=ks.map (fun l=>(Value.string (js l),Value.bool true))→
  (hasB ks b.data.toList=false∧Instr.findNow .string (.string b) es i=some none)∨
  (hasB ks b.data.toList=true∧∃ j e,es[j]?=some e∧e.key=.string b∧e.val=.bool true∧Instr.findNow .string (.string b) es i=some (some (i+j,.bool true)))
 |[],[],i,_=>.inl ⟨rfl,rfl⟩
 |[],_ :: _,i,h=>by simp at h
 |_ :: _,[],i,h=>by simp at h
 | e :: es, l :: ks, i, h => by
  simp only[List.map_cons,List.cons.injEq,Prod.mk.injEq] at h
  obtain⟨⟨hk,hv⟩,h⟩:=h
  have hsame:Instr.sameNow .string (.string b) e.key=some (decide (b.data.toList=l)):=by
   rw[hk]
   simp only[Instr.sameNow]
   rw[Nw]
  by_cases hq:b.data.toList=l
  ·refine .inr ⟨by simp [hasB, hq], 0, e, rfl, ?_, hv, ?_⟩
   ·rw[hk,←hq];simp[js]
   ·simp[Instr.findNow,hsame,hq,hv]
  ·rcases zI (b := b) (i + 1) h with ⟨h1, h2⟩ | ⟨h1, j, e', h2, h3, h4, h5⟩
   ·exact .inl ⟨by simpa[hasB,hq] using h1,by simp[Instr.findNow,hsame,hq,h2]⟩
   ·refine .inr ⟨by simpa [hasB, hq] using h1, j + 1, e', by simpa using h2, h3, h4, ?_⟩
    simp only[Instr.findNow,hsame,hq,decide_false,h5]
    congr 3
    omega
theorem Nx {w:World} {c:Bool} {k:TypeId} {b:ByteArray} (hk:P.underlying k=some .string):(Instr.checkKey c 10000 k (.string b)).run P w=.ok () w:=by
 rw[show (10000:Nat)=9999+1 from rfl,Instr.checkKey]
 simp[run_underlying hk]
theorem Ny {n:Nat} {b:ByteArray} : Instr.sameBits n (.string b) (.string b)=true:=by
 have h:(b==b)=true:=by
  have:=Nw b b.data.toList
  rw[show js b.data.toList=b from by simp[js]] at this
  simp[this]
 cases n<;>exact h
theorem Rm (hs:eL X nt s a) {t k e:TypeId} {m x:Operand} {m' x':bR} {lv sl af:Nat} {b:ByteArray} {ks:List (List UInt8)} (ho:o.op=.lookup t m x false) (ht:P.underlying t=some (.map k e)) (hk:P.underlying k=some .string) (hz:(P.info? e).bind (·.zero)=some (.bool false))
  (hm:cL m=some m') (hx:cL x=some x') (h1:m'.ev s.slots=.mp lv sl af) (h2:x'.ev s.slots=.d (.sc (.string b))) (h3:setAt s.mem lv sl af=some ks):Quiet P X o a (kL (.bool (hasB ks b.data.toList))):=by
 have g1:=bw hs hm;rw[h1] at g1
 have g2:=bw hs hx;rw[h2] at g2;have g2:=g2.sc
 obtain⟨L,hL,g1⟩:=g1
 obtain⟨L',hL',hE,_⟩:=Fh hs.mem h3
 rw[hL] at hL';injection hL' with hL';subst hL'
 obtain⟨_,_,_,es,clock,hb,hf⟩:=hE
 refine⟨.bool (hasB ks b.data.toList),?_,.kL rfl⟩
 obtain⟨i,hi,Bp⟩:=Option.bind_eq_some_iff.1 hz
 have hc:=Nx (P:=P) (w:=X.w) (c:=es.isEmpty) (b:=b) hk
 rcases zI (b:=b) 0 hf with⟨q1,q2⟩|⟨q1,j,e',q2,q3,q4,q5⟩
 ·simp[execOp,ho,g1,g2,Instr.lookup,run_underlying ht,MapKept.run_getObj_map hb,hc,Instr.findKey,run_underlying hk,q2,zeroValue,typeInfo,hi,Bp,q1]
 ·simp[execOp,ho,g1,g2,Instr.lookup,run_underlying ht,MapKept.run_getObj_map hb,hc,Instr.findKey,run_underlying hk,q5,q1]
def Cx.xS (X:Cx) (g:Nat) (ob:Obj):Cx:={ X with w:={ X.w with heap:=X.w.heap.setIfInBounds g ob } }
theorem Li {g:Nat} {ob ob':Obj} (hg:X.w.heap[g]?=some ob'):(X.xS g ob).w.heap[g]?=some ob:=by
 have hl:g<X.w.heap.size:=(Array.getElem?_eq_some_iff.1 hg).1
 simp[Cx.xS,hl]
theorem sJ {g b:Nat} {ob:Obj} (h:b≠g):(X.xS g ob).w.heap[b]?=X.w.heap[b]?:=by
 simp[Cx.xS,Ne.symm h]
theorem Fi {g:Nat} {ob:Obj} (hb:¬X.old g) (hF:∀ o,¬X.F g o):Ext X (X.xS g ob):=by
 refine⟨rfl,⟨rfl,rfl,rfl,by simp[Cx.xS],fun k hk=>sJ fun e=>hb (e ▸ hk)⟩,fun _ _ h=>h,fun b o h=>?_,fun _ _ h=>h,fun _ _ h=>.inl h⟩
 have hne:b≠g:=by rintro rfl;exact hF _ h
 simp[World.cell?,sJ hne]
theorem Rn (hs:eL X nt s a) {t k e:TypeId} {m x:Operand} {m' x':bR} {lv sl af:Nat} {b:ByteArray} {ks:List (List UInt8)} {rd:List (Nat×Nat×Nat)} (ho:o.op=.mapUpdate t m x (.const (.bool true))) (ht:P.underlying t=some (.map k e)) (hk:P.underlying k=some .string)
  (hm:cL m=some m') (hx:cL x=some x') (h1:m'.ev s.slots=.mp lv sl af) (h2:x'.ev s.slots=.d (.sc (.string b))) (h3:setAt s.mem lv sl af=some ks) :
  cU P X s a o dst aR (.bS { val:=jr,cK:=[(lv,sl,some (.mp af (pQ ks b.data.toList)))],cx:=[],rd }):=by
 have g1:=bw hs hm;rw[h1] at g1
 have g2:=bw hs hx;rw[h2] at g2;have g2:=g2.sc
 obtain⟨L,hL,g1⟩:=g1
 obtain⟨L',hL',hE,hg⟩:=Fh hs.mem h3
 rw[hL] at hL';injection hL' with hL';subst hL'
 obtain⟨c1,c2,c3,es,clock,hb,hf⟩:=hE
 have hc:=Nx (P:=P) (w:=X.w) (c:=false) (b:=b) hk
 have gt:a.eval (.const (.bool true))=.bool true:=rfl
 have fin : ∀ es' clock', (Instr.mapUpdate t (.map (some L.b)) (.string b) (.bool true)).run P X.w = .ok () (X.xS L.b (.map es' clock')).w → Dj es' (pQ ks b.data.toList) →
   cU P X s a o dst aR (.bS { val:=jr,cK:=[(lv,sl,some (.mp af (pQ ks b.data.toList)))],cx:=[],rd }):=by
  intro es' clock' hrun hfit
  refine .skip (Y:=X.xS L.b (.map es' clock')) ?_ (Fi c2 c3) l8 ?_ (eC.Dr rfl)
  ·simp[execOp,ho,g1,g2,gt,hrun]
  ·have hap : ∀ k w M, Holds (bN s.mem lv sl none) s.aE k w → X.ρ w = some M → 0 < M.cap → M.b ≠ L.b := by
    intro k' w M hk' hw tO
    have hold:Holds s.mem s.aE k' w∧k'≠cg lv sl:=by
     rcases hk' with⟨cl,cX,e',rfl,he',jd⟩|⟨rfl,he'⟩
     ·rw [bX] at he'
      split at he'
      ·cases he'
      ·rename_i hcc
       refine⟨.inl ⟨cl,cX,e',rfl,he',jd⟩,fun hq=>?_⟩
       obtain⟨rfl,rfl⟩:=kO hq
       apply hcc
       refine⟨rfl,rfl,?_⟩
       unfold aN at he'
       rcases Nat.lt_or_ge cl s.mem.length with hl|hl
       ·exact hl
       ·rw[List.getElem?_eq_none hl] at he';cases he'
     ·exact⟨.inr ⟨rfl,he'⟩,fun hq=>dI hq.symm⟩
    exact hs.mem.apart _ _ _ _ _ _ hold.1 (.inl ⟨lv,sl,_,rfl,hg,rfl,rfl⟩) hold.2 hw hL tO (by omega)
   have wu:aB (X.xS L.b (.map es' clock')) (bN s.mem lv sl none) s.aE:=
    (hs.mem.erase lv sl).move (Fi c2 c3) (fun k' w M hk' hw tO => sJ (hap k' w M hk' hw tO)) (fun _ _ _ _ _ _ _ h => h) fun b' o' hb' => by
     have:=hs.mem.mI b' o' hb'
     simpa[Cx.xS] using this
   exact wu.reset (e:=.mp af (pQ ks b.data.toList)) (L:=L) hL ⟨c1,c2,c3,es',clock',Li hb,hfit⟩ fun k' w M hk' hw tO _=>hap k' w M hk' hw tO
 rcases zI (b:=b) 0 hf with⟨q1,q2⟩|⟨q1,j,e',q2,q3,q4,q5⟩
 ·refine fin (es.push { key := .string b, val := .bool true, born := clock }) (clock + 1) ?_ ?_
  ·simp[Instr.mapUpdate,run_underlying ht,MapKept.run_getObj_map hb,hc,Instr.findKey,run_underlying hk,q2,MapKept.run_setObj_map _ hb,Cx.xS]
  ·unfold Dj pQ at *
   rw[q1]
   simp[hf,js]
 ·refine fin (es.modify j fun e => { e with key := .string b, val := .bool true }) clock ?_ ?_
  ·simp [Instr.mapUpdate, run_underlying ht, MapKept.run_getObj_map hb, hc, Instr.findKey, run_underlying hk, q5, MapKept.run_setObj_map _ hb, Cx.xS, Instr.keyThatStays]
   have hj:es[j]?=some e':=by simpa using q2
   intro hno
   rw[hj] at hno
   simp only[Option.map_some,Option.getD_some,q3,Ny] at hno
   cases hno
  ·unfold Dj pQ at *
   rw[q1,←hf]
   rw[Array.toList_modify]
   apply List.ext_getElem?
   intro q
   simp only[List.getElem?_map,List.getElem?_modify]
   by_cases hqj:j=q
   ·subst hqj
    rw[q2]
    simp[q3,q4]
   ·simp[hqj]
end
end Go.bI
