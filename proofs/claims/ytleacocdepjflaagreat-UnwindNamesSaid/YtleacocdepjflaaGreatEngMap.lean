/- Bytes as a string; maps from strings whose values are all true. -/
import Derived.Test.YtleacocdepjflaaGreatEngN
import Derived.Laws.BytesArg
import Derived.Laws.IdiomStrings
import Derived.MapKept
namespace Go.Eng
open Go Go.RowKit
theorem bytesOf_nums:∀ {els:List (List D)} {l:List UInt8},bytesOf els=some l→∃ xs:List Int,els=xs.map (fun n=>[.sc (.int .u8 n)])∧l=xs.map fun n=>UInt8.ofNat n.toNat:=by
 intro els
 induction els with
 |nil=>intro l h;simp only[bytesOf] at h;injection h with h;subst h;exact⟨[],rfl,rfl⟩
 | cons e r ih =>
  intro l h
  unfold bytesOf at h
  split at h
  ·rename_i hq;cases hq
  ·rename_i n r' hq
   injection hq with h1 h2
   subst h1 h2
   obtain⟨l',hl',rfl⟩:=Option.map_eq_some_iff.1 h
   obtain⟨xs,rfl,rfl⟩:=ih hl'
   exact⟨n :: xs,rfl,rfl⟩
  ·cases h
section
variable {P:Program} {X:Cx} {nt:NT} {s:St} {a:Act} {o:Oper} {dst:Option Nat} {nvi:Nat}
theorem b2s_ok (hs:Sim X nt s a) {src ds e:TypeId} {x:Operand} {x':Opd} {els:List (List D)} {l:List UInt8} (ho:o.op=.convert src ds x) (h1:P.underlying src=some (.slice e)) (h2:P.underlying e=some (.int .u8)) (h3:P.underlying ds=some .string)
  (hx:opd x=some x') (he:elsOf s.mem (x'.ev s.slots)=some els) (hl:bytesOf els=some l):Quiet P X o a (scA (.string (strOfB l))):=by
 obtain⟨xs,rfl,rfl⟩:=bytesOf_nums hl
 obtain⟨ad,cap,sz,b,off,hv,_,had,hli⟩:=elsOf_ok hs.mem he (opd_ok hs hx)
 refine⟨.string (strOfB (xs.map fun n=>UInt8.ofNat n.toNat)),?_,.scA rfl⟩
 have key:(convert src ds (a.eval x)).run P X.w=.ok (.string (strOfB (xs.map fun n=>UInt8.ofNat n.toNat))) X.w:=by
  rw[hv]
  by_cases h0:xs.length=0
  ·have hnil : xs = [] := List.eq_nil_of_length_eq_zero h0
   subst hnil
   rw[run_convert_bytes_string X.w src ds e ad _ cap h1 h2 h3]
   cases ad with
   |none=>simp[Conv.bytesToString,strOfB];rfl
   |some ad=>
    rw[run_bytesToString X.w ad _ cap [] (by simp[loadCells,loadCellsFrom])]
    rfl
  ·have hlt : 0 < (xs.map (fun n => ([.sc (.int .u8 n)] : List D))).length := by simp; omega
   have:=had hlt
   subst this
   have hsz:sz=1:=by
    have:=hli.1 _ (List.getElem_mem hlt)
    simp at this
    omega
   subst hsz
   exact run_convert_bytes_arg X.w src e h1 h2 b off _ cap xs (by simp) (fun i hi=>by
    simp at hi
    obtain⟨_,v,hv,hd⟩:=hli.2 i [.sc (.int .u8 xs[i])] 0 (.sc (.int .u8 xs[i])) (by simp[List.getElem?_eq_getElem hi]) rfl
    cases hd
    simp only[Nat.mul_one,Nat.add_zero] at hv
    rw[hv]
    simp[List.getD,List.getElem?_eq_getElem hi]) ds h3
 simp[execOp,ho,key]
def Cx.allocO (X:Cx) (ob:Obj) (v:Nat) (L:Loc):Cx:={ X with w:=X.w.alloc ob,ρ:=fun u=>if u=v then some L else X.ρ u }
theorem allocO_ext {ob:Obj} {v:Nat} {L:Loc} (hin:∀ b o,X.F b o→b<X.w.heap.size) (hlow:∀ b,X.old b→b<X.w.heap.size) (hv:X.ρ v=none):Ext X (X.allocO ob v L):=
 ⟨rfl, (Stays.refl _ _).alloc hlow _, fun _ _ h => h, fun b o h => cell_alloc (hin b o h), fun u M hu => by
  show (if u=v then some L else X.ρ u)=some M
  rw[if_neg (by rintro rfl;rw[hv] at hu;cases hu)]
  exact hu,fun _ _ h=>.inl h⟩
theorem allocO_mem {m:List (Tr Ent)} {t:Tr Unit} {ob:Obj} {v:Nat} {L:Loc} (h:MemOK X m t) (hv:X.ρ v=none):MemOK (X.allocO ob v L) m t:=
 h.move (allocO_ext h.inF h.low hv) (fun k u M hk hu hc=>by
   obtain⟨M',hM',h2⟩:=h.holds_ρ hk
   rw[hu] at hM';injection hM' with hM';subst hM'
   exact heap_alloc_old _ _ _ (h2 hc).1) (fun _ _ _ _ _ _ _ h=>h) (fun b o hb=>by
   have:=h.inF b o hb
   show b<(X.w.alloc _).heap.size
   rw[World.size_alloc];omega)
theorem allocO_dom {ob:Obj} {v:Nat} {L:Loc} {n:Nat} : DomOK X (X.allocO ob v L) v n n:=
 ⟨Nat.le_refl _, fun u M h => by
  change (if u=v then some L else X.ρ u)=some M at h
  by_cases hu:u=v
  ·exact .inr (.inl hu)
  ·rw[if_neg hu] at h;exact .inl h⟩
theorem s2b_ok (hs:Sim X nt s a) (hfr:X.ρ nvi=none) {src ds e:TypeId} {x:Operand} {x':Opd} {b:ByteArray} {rd:List (Nat×Nat×Nat)} (ho:o.op=.convert src ds x) (h1:P.underlying src=some .string) (h2:P.underlying ds=some (.slice e)) (h3:P.underlying e=some (.int .u8))
  (hx:opd x=some x') (he:x'.ev s.slots=.d (.sc (.string b))):After P X s a o dst nvi (.eff { val:=.d (.sl (b.data.toList.map fun c=>[.sc (.int .u8 c.toNat)])),upd:=[],tip:=[],rd }):=by
 have hv:=opd_ok hs hx;rw[he] at hv;have hv:=hv.sc
 have hrun:=run_bytes_of_string (P:=P) X.w src ds e b h1 h2 h3
 have hcap:b.size≤grownCap X.w b.size 0 e:=grownCap_ge _ _ _ _
 generalize grownCap X.w b.size 0 e=cap at hrun hcap
 let ob:Obj:=.cells (bytesRow b cap) e ((bytesRow b cap).size,(bytesRow b cap).size+1)
 let X2:=X.drew.allocO ob nvi ⟨0,0,0,0⟩
 let X3:=X2.more fun b' q=>b'=X.w.heap.size∧q<b.size
 have m1:MemOK X.drew s.mem s.tips:=drew_mem hs.mem
 have e2:Ext X.drew X2:=allocO_ext m1.inF m1.low hfr
 have m2:MemOK X2 s.mem s.tips:=allocO_mem m1 hfr
 have hsz:X2.w.heap.size=X.w.heap.size+1:=World.size_alloc _ _
 have e3:Ext X2 X3:=Ext.more fun b' q hq=>by rw[hq.1];exact hs.mem.fresh
 have m3:MemOK X3 s.mem s.tips:=m2.more (fun b' q hq=>by rw[hq.1];exact⟨hs.mem.fresh,by omega⟩) fun k u M q hk hu hc hq=>by
  obtain⟨M',hM',g⟩:=m1.holds_ρ hk
  have:X2.ρ u=some M':=e2.loc _ _ hM'
  rw[hu] at this;injection this with this;subst this
  have h4:=(g hc).1
  have h5:X.drew.w.heap.size=X.w.heap.size:=rfl
  have h6:=hq.1
  omega
 have hheap:X3.w.heap[X.w.heap.size]?=some ob:=heap_alloc_new X.drew.w ob
 have hx3:Ext X X3:=(drew_ext.trans e2).trans e3
 refine .value (Y:=X3) (v:=.slice (some ⟨X.w.heap.size,0,none⟩) b.size cap) ?_ hx3 ?_ m3 ⟨Nat.le_refl _,fun u M hu=>?_⟩
 ·simp [execOp, ho, hv, hrun]
  rfl
 ·refine DR.of_lies (b := X.w.heap.size) (o := 0) (sz := 1) ⟨fun f hf => ?_, fun i f j y hi hj => ?_⟩ (by simp) hcap fun _ => rfl
  ·obtain ⟨c, _, rfl⟩ := List.mem_map.1 hf
   rfl
  ·rw [List.getElem?_map] at hi
   obtain⟨c,hc,rfl⟩:=Option.map_eq_some_iff.1 hi
   have hil:i<b.data.toList.length:=(List.getElem?_eq_some_iff.1 hc).1
   match j,hj with
   |0,hj=>
    simp at hj;subst hj
    refine⟨.inr ⟨rfl,by simpa using hil⟩,.int .u8 c.toNat,?_,.sc _ rfl⟩
    simp only[World.cell?,hheap,ob,Nat.zero_add,Nat.mul_one,Nat.add_zero,Option.isSome_none,Bool.false_eq_true,if_false]
    unfold bytesRow
    rw[Array.getElem?_append_left (by simpa using hil)]
    have hc':b.data[i]?=some c:=by simpa using hc
    simp[hc']
 ·rcases (allocO_dom (X := X.drew) (ob := ob) (v := nvi) (L := ⟨0, 0, 0, 0⟩) (n := s.nv)).2 u M hu with q | q | q
  ·exact .inl q
  ·exact .inr (.inl q)
  ·omega
theorem mkSet_ok {lq:Nat} (hs:Sim X nt s a) (hfr:X.ρ nvi=none) {t:TypeId} {d:Nat} (ho:o.op=.makeMap t none) :
  After P X s a o dst nvi (.eff { val:=.mp lq d nvi,upd:=[(lq,d,some (.mp nvi []))],tip:=[],rd:=[] }):=by
 have hρ : (X.allocO (.map #[] 0) nvi ⟨X.w.heap.size,0,0,1⟩).ρ nvi=some ⟨X.w.heap.size,0,0,1⟩:=if_pos rfl
 refine .value (Y:=X.allocO (.map #[] 0) nvi ⟨X.w.heap.size,0,0,1⟩) (v:=.map (some X.w.heap.size)) ?_ (allocO_ext hs.mem.inF hs.mem.low hfr) ⟨_,hρ,rfl⟩ ?_ allocO_dom
 ·simp[execOp,ho,Instr.makeMap,Cx.allocO]
 ·refine (allocO_mem hs.mem hfr).add (e := .mp nvi []) (L := ⟨X.w.heap.size, 0, 0, 1⟩) hρ ⟨rfl, hs.mem.fresh, fun o ho => Nat.lt_irrefl _ (hs.mem.inF _ _ ho), #[], 0, heap_alloc_new _ _, rfl⟩ fun k u M hk _ hu hc _ => ?_
  obtain⟨M',hM',h2⟩:=hs.mem.holds_ρ hk
  have:(X.allocO (.map #[] 0) nvi ⟨X.w.heap.size,0,0,1⟩).ρ u=some M':=(allocO_ext hs.mem.inF hs.mem.low hfr).loc _ _ hM'
  rw[hu] at this;injection this with this;subst this
  have:=(h2 hc).1
  show M.b≠X.w.heap.size
  omega
theorem set_lies {m:List (Tr Ent)} {t:Tr Unit} (h:MemOK X m t) {lv sl ver:Nat} {ks:List (List UInt8)} (hr:setAt m lv sl ver=some ks) :
  ∃ L,X.ρ ver=some L∧EntOK X (.mp ver ks) L∧memGet m lv sl=some (.mp ver ks):=by
 unfold setAt at hr
 split at hr
 ·rename_i v ks' hg
  split at hr
  ·rename_i hv
   injection hr with hr;subst hr
   have hv:=beq_true.1 hv
   subst hv
   obtain⟨L,hL,hE⟩:=h.ents _ _ _ hg
   exact⟨L,hL,hE,hg⟩
  ·cases hr
 ·cases hr
theorem str_eq (b:ByteArray) (l:List UInt8):(b==strOfB l)=decide (b.data.toList=l):=by
 have hb:∀ x y:ByteArray,(x==y)=(x.data==y.data):=fun x y=>by cases x;cases y;rfl
 have hd:∀ x y:ByteArray,x.data=y.data↔x=y:=fun x y=>⟨fun h=>by cases x;cases y;simp_all,fun h=>by rw[h]⟩
 rw[hb,Bool.eq_iff_iff]
 simp only[decide_eq_true_eq,beq_iff_eq,hd]
 constructor
 ·rintro rfl;simp[strOfB]
 ·rintro rfl;simp[strOfB]
theorem find_set {b:ByteArray} : ∀ {es:List MapEntry} {ks:List (List UInt8)} (i:Nat),es.map (fun e=>(e.key,e.val))=ks.map (fun l=>(Value.string (strOfB l),Value.bool true))→
  (hasB ks b.data.toList=false∧Instr.findNow .string (.string b) es i=some none)∨
  (hasB ks b.data.toList=true∧∃ j e,es[j]?=some e∧e.key=.string b∧e.val=.bool true∧Instr.findNow .string (.string b) es i=some (some (i+j,.bool true)))
 |[],[],i,_=>.inl ⟨rfl,rfl⟩
 |[],_ :: _,i,h=>by simp at h
 |_ :: _,[],i,h=>by simp at h
 | e :: es, l :: ks, i, h => by
  simp only[List.map_cons,List.cons.injEq,Prod.mk.injEq] at h
  obtain⟨⟨hk,hv⟩,h⟩:=h
  have hsame:Instr.sameNow .string (.string b) e.key=some (decide (b.data.toList=l)):=by
   rw[hk]
   simp only[Instr.sameNow]
   rw[str_eq]
  by_cases hq:b.data.toList=l
  ·refine .inr ⟨by simp [hasB, hq], 0, e, rfl, ?_, hv, ?_⟩
   ·rw[hk,←hq];simp[strOfB]
   ·simp[Instr.findNow,hsame,hq,hv]
  ·rcases find_set (b := b) (i + 1) h with ⟨h1, h2⟩ | ⟨h1, j, e', h2, h3, h4, h5⟩
   ·exact .inl ⟨by simpa[hasB,hq] using h1,by simp[Instr.findNow,hsame,hq,h2]⟩
   ·refine .inr ⟨by simpa [hasB, hq] using h1, j + 1, e', by simpa using h2, h3, h4, ?_⟩
    simp only[Instr.findNow,hsame,hq,decide_false,h5]
    congr 3
    omega
theorem key_ok {w:World} {c:Bool} {k:TypeId} {b:ByteArray} (hk:P.underlying k=some .string):(Instr.checkKey c 10000 k (.string b)).run P w=.ok () w:=by
 rw[show (10000:Nat)=9999+1 from rfl,Instr.checkKey]
 simp[run_underlying hk]
theorem same_str {n:Nat} {b:ByteArray} : Instr.sameBits n (.string b) (.string b)=true:=by
 have h:(b==b)=true:=by
  have:=str_eq b b.data.toList
  rw[show strOfB b.data.toList=b from by simp[strOfB]] at this
  simp[this]
 cases n<;>exact h
theorem hasK_ok (hs:Sim X nt s a) {t k e:TypeId} {m x:Operand} {m' x':Opd} {lv sl ver:Nat} {b:ByteArray} {ks:List (List UInt8)} (ho:o.op=.lookup t m x false) (ht:P.underlying t=some (.map k e)) (hk:P.underlying k=some .string) (hz:(P.info? e).bind (·.zero)=some (.bool false))
  (hm:opd m=some m') (hx:opd x=some x') (h1:m'.ev s.slots=.mp lv sl ver) (h2:x'.ev s.slots=.d (.sc (.string b))) (h3:setAt s.mem lv sl ver=some ks):Quiet P X o a (scA (.bool (hasB ks b.data.toList))):=by
 have g1:=opd_ok hs hm;rw[h1] at g1
 have g2:=opd_ok hs hx;rw[h2] at g2;have g2:=g2.sc
 obtain⟨L,hL,g1⟩:=g1
 obtain⟨L',hL',hE,_⟩:=set_lies hs.mem h3
 rw[hL] at hL';injection hL' with hL';subst hL'
 obtain⟨_,_,_,es,clock,hb,hf⟩:=hE
 refine⟨.bool (hasB ks b.data.toList),?_,.scA rfl⟩
 obtain⟨i,hi,hiz⟩:=Option.bind_eq_some_iff.1 hz
 have hc:=key_ok (P:=P) (w:=X.w) (c:=es.isEmpty) (b:=b) hk
 rcases find_set (b:=b) 0 hf with⟨q1,q2⟩|⟨q1,j,e',q2,q3,q4,q5⟩
 ·simp[execOp,ho,g1,g2,Instr.lookup,run_underlying ht,MapKept.run_getObj_map hb,hc,Instr.findKey,run_underlying hk,q2,zeroValue,typeInfo,hi,hiz,q1]
 ·simp[execOp,ho,g1,g2,Instr.lookup,run_underlying ht,MapKept.run_getObj_map hb,hc,Instr.findKey,run_underlying hk,q5,q1]
def Cx.putO (X:Cx) (g:Nat) (ob:Obj):Cx:={ X with w:={ X.w with heap:=X.w.heap.setIfInBounds g ob } }
theorem putO_heap {g:Nat} {ob ob':Obj} (hg:X.w.heap[g]?=some ob'):(X.putO g ob).w.heap[g]?=some ob:=by
 have hl:g<X.w.heap.size:=(Array.getElem?_eq_some_iff.1 hg).1
 simp[Cx.putO,hl]
theorem putO_other {g b:Nat} {ob:Obj} (h:b≠g):(X.putO g ob).w.heap[b]?=X.w.heap[b]?:=by
 simp[Cx.putO,Ne.symm h]
theorem putO_ext {g:Nat} {ob:Obj} (hb:¬X.old g) (hF:∀ o,¬X.F g o):Ext X (X.putO g ob):=by
 refine⟨rfl,⟨rfl,rfl,rfl,by simp[Cx.putO],fun k hk=>putO_other fun e=>hb (e ▸ hk)⟩,fun _ _ h=>h,fun b o h=>?_,fun _ _ h=>h,fun _ _ h=>.inl h⟩
 have hne:b≠g:=by rintro rfl;exact hF _ h
 simp[World.cell?,putO_other hne]
theorem addK_ok (hs:Sim X nt s a) {t k e:TypeId} {m x:Operand} {m' x':Opd} {lv sl ver:Nat} {b:ByteArray} {ks:List (List UInt8)} {rd:List (Nat×Nat×Nat)} (ho:o.op=.mapUpdate t m x (.const (.bool true))) (ht:P.underlying t=some (.map k e)) (hk:P.underlying k=some .string)
  (hm:opd m=some m') (hx:opd x=some x') (h1:m'.ev s.slots=.mp lv sl ver) (h2:x'.ev s.slots=.d (.sc (.string b))) (h3:setAt s.mem lv sl ver=some ks) :
  After P X s a o dst nvi (.eff { val:=undefA,upd:=[(lv,sl,some (.mp ver (addB ks b.data.toList)))],tip:=[],rd }):=by
 have g1:=opd_ok hs hm;rw[h1] at g1
 have g2:=opd_ok hs hx;rw[h2] at g2;have g2:=g2.sc
 obtain⟨L,hL,g1⟩:=g1
 obtain⟨L',hL',hE,hg⟩:=set_lies hs.mem h3
 rw[hL] at hL';injection hL' with hL';subst hL'
 obtain⟨c1,c2,c3,es,clock,hb,hf⟩:=hE
 have hc:=key_ok (P:=P) (w:=X.w) (c:=false) (b:=b) hk
 have gt:a.eval (.const (.bool true))=.bool true:=rfl
 have fin : ∀ es' clock', (Instr.mapUpdate t (.map (some L.b)) (.string b) (.bool true)).run P X.w = .ok () (X.putO L.b (.map es' clock')).w → SetFit es' (addB ks b.data.toList) →
   After P X s a o dst nvi (.eff { val:=undefA,upd:=[(lv,sl,some (.mp ver (addB ks b.data.toList)))],tip:=[],rd }):=by
  intro es' clock' hrun hfit
  refine .skip (Y:=X.putO L.b (.map es' clock')) ?_ (putO_ext c2 c3) undef_ok ?_ (DomOK.of_ρ rfl)
  ·simp[execOp,ho,g1,g2,gt,hrun]
  ·have hap : ∀ k w M, Holds (memSet s.mem lv sl none) s.tips k w → X.ρ w = some M → 0 < M.cap → M.b ≠ L.b := by
    intro k' w M hk' hw hMc
    have hold:Holds s.mem s.tips k' w∧k'≠keyE lv sl:=by
     rcases hk' with⟨lv',sl',e',rfl,he',hv'⟩|⟨rfl,he'⟩
     ·rw [memGet_set] at he'
      split at he'
      ·cases he'
      ·rename_i hcc
       refine⟨.inl ⟨lv',sl',e',rfl,he',hv'⟩,fun hq=>?_⟩
       obtain⟨rfl,rfl⟩:=keyE_inj hq
       apply hcc
       refine⟨rfl,rfl,?_⟩
       unfold memGet at he'
       rcases Nat.lt_or_ge lv' s.mem.length with hl|hl
       ·exact hl
       ·rw[List.getElem?_eq_none hl] at he';cases he'
     ·exact⟨.inr ⟨rfl,he'⟩,fun hq=>keyE_ne_keyT hq.symm⟩
    exact hs.mem.apart _ _ _ _ _ _ hold.1 (.inl ⟨lv,sl,_,rfl,hg,rfl,rfl⟩) hold.2 hw hL hMc (by omega)
   have hm1:MemOK (X.putO L.b (.map es' clock')) (memSet s.mem lv sl none) s.tips:=
    (hs.mem.erase lv sl).move (putO_ext c2 c3) (fun k' w M hk' hw hMc => putO_other (hap k' w M hk' hw hMc)) (fun _ _ _ _ _ _ _ h => h) fun b' o' hb' => by
     have:=hs.mem.inF b' o' hb'
     simpa[Cx.putO] using this
   exact hm1.reset (e:=.mp ver (addB ks b.data.toList)) (L:=L) hL ⟨c1,c2,c3,es',clock',putO_heap hb,hfit⟩ fun k' w M hk' hw hMc _=>hap k' w M hk' hw hMc
 rcases find_set (b:=b) 0 hf with⟨q1,q2⟩|⟨q1,j,e',q2,q3,q4,q5⟩
 ·refine fin (es.push { key := .string b, val := .bool true, born := clock }) (clock + 1) ?_ ?_
  ·simp[Instr.mapUpdate,run_underlying ht,MapKept.run_getObj_map hb,hc,Instr.findKey,run_underlying hk,q2,MapKept.run_setObj_map _ hb,Cx.putO]
  ·unfold SetFit addB at *
   rw[q1]
   simp[hf,strOfB]
 ·refine fin (es.modify j fun e => { e with key := .string b, val := .bool true }) clock ?_ ?_
  ·simp [Instr.mapUpdate, run_underlying ht, MapKept.run_getObj_map hb, hc, Instr.findKey, run_underlying hk, q5, MapKept.run_setObj_map _ hb, Cx.putO, Instr.keyThatStays]
   have hj:es[j]?=some e':=by simpa using q2
   intro hno
   rw[hj] at hno
   simp only[Option.map_some,Option.getD_some,q3,same_str] at hno
   cases hno
  ·unfold SetFit addB at *
   rw[q1,←hf]
   rw[Array.toList_modify]
   apply List.ext_getElem?
   intro q
   simp only[List.getElem?_map,List.getElem?_modify]
   by_cases hqj:j=q
   ·subst hqj
    rw[q2]
    simp[q3,q4]
   ·simp[hqj]
end
end Go.Eng
