/- A part of the proof: EngP, EngQ, EngR, EngS. -/
import Derived.Test.YtjejefeomeddhaaGreatEngO
set_option linter.unusedVariables false
set_option linter.unusedSimpArgs false
variable [Go.Eng.Rho]
set_option linter.unusedSectionVars false
namespace Go.Eng
open Go Go.RowKit
structure SortW (w w':World) (b off:Nat) (zs:List Int):Prop where
 os:w'.os=w.os
 tape:w'.tape=w.tape
 output:w'.output=w.output
 size:w.heap.size≤w'.heap.size
 other:∀ k,k<w.heap.size→k≠b→w'.heap[k]?=w.heap[k]?
 row:∀ C e,w.heap[b]?=some (.cells C e (0,0))→∃ C',w'.heap[b]?=some (.cells C' e (0,0))∧C'.size=C.size∧∀ j z,zs[j]?=some z→C'[off+j]?=some (.int .i64 z)
structure IsSort (P:Program) (f:Nat):Prop where
 fn:∃ fn,P.funcs[f]?=some fn∧fn.body.isSome=true∧(fn.name == "runtime.NumGoroutine")=false
 empty:∀ p cap w,Calls P f #[.slice p 0 cap] w fun e w'=>e=.returned (.tuple #[])∧w'=w
 rows:∀ b off cap zs w C e,w.heap[b]?=some (.cells C e (0,0))→(∀ (j:Nat) z,zs[j]?=some z→C[off+j]?=some (.int .i64 z))→0<zs.length→zs.length<4611686018427387904→
  Calls P f #[.slice (some ⟨b,off,none⟩) zs.length cap] w fun e w'=>e=.returned (.tuple #[])∧SortW w w' b off (sortI zs)
structure IsCompact (P:Program) (f:Nat):Prop where
 fn:∃ fn,P.funcs[f]?=some fn∧fn.body.isSome=true∧(fn.name == "runtime.NumGoroutine")=false
 empty:∀ p cap w,Calls P f #[.slice p 0 cap] w fun e w'=>e=.returned (.slice p 0 cap)∧w'=w
 rows:∀ b off cap zs w C e,w.heap[b]?=some (.cells C e (0,0))→(∀ (j:Nat) z,zs[j]?=some z→C[off+j]?=some (.int .i64 z))→0<zs.length→zs.length<4611686018427387904→zs.length≤cap→
  Calls P f #[.slice (some ⟨b,off,none⟩) zs.length cap] w fun e w'=>e=.returned (.slice (some ⟨b,off,none⟩) (compI zs).length cap)∧SortW w w' b off (compI zs)
structure IsLib (P:Program) (f T:Nat):Prop where
 clone:T≠1000000→T≠1000001→IsClone P f T
 sort:T=1000000→IsSort P f
 compact:T=1000001→IsCompact P f
theorem intsOf_some:∀ {els:List (List D)} {zs:List Int},intsOf els=some zs→els=intsL zs
 |[],zs,h=>by cases h;rfl
 | e :: r, zs, h => by
  unfold intsOf at h
  split at h
  ·grind
  ·rename_i z r' h1
   cases h1
   obtain⟨y,hy,rfl⟩:=Option.map_eq_some_iff.1 h
   rw[intsOf_some hy]
   rfl
  grind
theorem insI_length (x:Int):∀ l,(insI x l).length=l.length+1
 |[]=>rfl
 |y :: r=>by
  unfold insI
  split
  ·rfl
  ·rw[List.length_cons,insI_length x r];rfl
theorem sortI_length:∀ l,(sortI l).length=l.length
 |[]=>rfl
 |x :: r=>by rw[sortI,insI_length,sortI_length r];rfl
section
variable {P:Program} {X:Cx} {nt:NT} {s:St} {a:Act} {o:Oper} {dst:Option Nat} {nvi:Nat}
theorem sortW_ext (hm:MemOK X s.mem s.tips) {w':World} {b off:Nat} {zs:List Int} (h:SortW X.w w' b off zs) (hb:¬X.old b) (hF:∀ o,¬X.F b o):Ext X { X with w:=w' }:=by
 have hlow:=hm.low
 refine⟨rfl,⟨h.os,h.tape,h.output,h.size,fun k hk=>h.other k (hlow k hk) fun e=>hb (e ▸ hk)⟩,fun _ _ h=>h,fun c o hc=>?_,fun _ _ h=>h,fun _ _ h=>.inl h⟩
 have hne:c≠b:=by grind
 simp[World.cell?,h.other c (hm.inF c o hc) hne]
theorem sort_after (hs:Sim X nt s a) {f:Nat} {x:Operand} {x':Opd} {_ts:Array TypeId} {E:Eff} (hc:IsSort P f) (hrun:(execOp a.eval o).run P X.w=.ok (.enter f #[a.eval x]) X.w)
  (hx:opd x=some x') (hr:sortA s (x'.ev s.slots)=some E):After P X s a o dst nvi (.eff E):=by
 have hv:=opd_ok hs hx
 intro K Q hK
 unfold Oper.wp
 rw[hrun]
 have hu:∀ Y:Cx,VR Y undefA (.tuple #[]):=fun Y=>⟨#[],rfl,trivial⟩
 unfold sortA at hr
 split at hr
 ·rename_i he
  cases hr
  rw[he] at hv
  obtain⟨ad,b,off,sz,hxe,_⟩:=hv
  rw[hxe]
  refine Calls.mono (hc.empty ad 0 X.w) ?_
  rintro en w' ⟨rfl,rfl⟩
  exact hK X _ (Ext.refl X) (hu X) hs.mem ⟨Nat.le_refl _,fun v L h=>.inl h⟩
 ·rename_i lv sl ver off len sz he
  split at hr
  ·rename_i els hrow
   obtain⟨zs,hz,hr2⟩:=Option.bind_eq_some_iff.1 hr
   split at hr2
   ·rename_i hcnd
    obtain⟨rfl,rfl,rfl,hlt⟩:=hcnd
    cases hr2
    rw[he] at hv
    have hels:=intsOf_some hz
    have hlen:els.length=zs.length:=by rw[hels];simp[intsL]
    obtain⟨L,hL,hE,hg⟩:=row_lies hs.mem hrow
    obtain⟨L1,ad,cap,hL1,h1,hxe,h3,h4⟩:=hv
    rw[hL] at hL1;cases hL1
    rw[hxe]
    by_cases h0:els.length=0
    ·have hz0 : zs = [] := List.eq_nil_of_length_eq_zero (by omega)
     subst hz0
     rw[h0]
     refine Calls.mono (hc.empty ad cap X.w) ?_
     rintro en w' ⟨rfl,rfl⟩
     refine hK X _ (Ext.refl X) (hu X) ?_ ⟨Nat.le_refl _,fun v L h=>.inl h⟩
     show MemOK X (memSet s.mem lv sl (some (.row ver []))) s.tips
     refine hs.mem.congr (fun lv' sl'=>?_) fun _=>rfl
     rw[memGet_set]<;>grind
    ·obtain ⟨rfl, h5⟩ := h4 (by omega)
     have hc0:0<L.cap:=by omega
     obtain⟨C,ce,hb2,hb1,hb3,hb4,hb5,hb6,hap,hcont⟩:=row_block hs.mem hg hL hc0
     have hC:∀ (j:Nat) z,zs[j]?=some z→C[L.o+j]?=some (.int .i64 z):=by
      intro j z hj
      have hq:els[j]?=some [.sc (.int .i64 z)]:=by rw[hels];simp[intsL,hj]
      obtain⟨v,hv,hd⟩:=hcont j _ 0 _ hq rfl
      rw[h1,Nat.mul_one,Nat.add_zero] at hv
      rw[hv]
      cases hd with
      |sc v _=>rfl
     have hcall:=hc.rows L.b L.o cap zs X.w C ce hb2 hC (by omega) (by omega)
     rw[←hlen] at hcall
     refine Calls.mono hcall ?_
     rintro en w' ⟨rfl,hw⟩
     have hx:=sortW_ext hs.mem hw hb1 hb4
     refine hK { X with w:=w' } _ hx (hu _) ?_ ⟨Nat.le_refl _,fun v L h=>.inl h⟩
     obtain⟨C',hq1,hq2,hq3⟩:=hw.row C ce hb2
     have hmm:MemOK { X with w:=w' } (memSet s.mem lv sl none) s.tips:=(hs.mem.erase lv sl).move hx (fun k v M a b c=>by
       obtain⟨M',hM',h2⟩:=(hs.mem.erase lv sl).holds_ρ a
       rw[b] at hM';injection hM' with hM';subst hM'
       exact hw.other M.b (h2 c).1 (hap k v M a b c)) (fun _ _ _ _ _ _ _ h=>h) (fun b o hb=>by
       have:=hs.mem.inF b o hb
       have:=hw.size
       show b<w'.heap.size
       omega)
     have hsl:(sortI zs).length=zs.length:=sortI_length zs
     refine hmm.reset (e:=.row ver (intsL (sortI zs))) (L:=L) hL ⟨by simp only[intsL,List.length_map];omega,fun e he=>?_,fun _=>⟨⟨hb1,C',ce,hq1,by rw[hq2];exact hb3⟩,hb4⟩,fun q f j x hq hj=>?_⟩ fun k v M a b c _=>hap k v M a b c
     ·simp[intsL,List.mem_map] at he<;>grind
     ·simp [intsL, List.getElem?_map, Option.map_eq_some_iff] at hq
      obtain⟨z,hz',rfl⟩:=hq
      have hj0:j=0∧x=.sc (.int .i64 z):=by
       grind
      obtain⟨rfl,rfl⟩:=hj0
      refine⟨.int .i64 z,?_,.sc _ rfl⟩
      rw[cell_of_row _ _ _ _ _ _ hq1,h1,Nat.mul_one]<;>grind
   grind
  grind
 grind
theorem compI_length:∀ l,(compI l).length≤l.length
 |[]=>Nat.le_refl _
 | x :: r => by
  unfold compI
  split
  ·simp
  ·split
   ·exact Nat.le_succ_of_le (compI_length _)
   ·exact Nat.succ_le_succ (compI_length _)
theorem compact_after (hs : Sim X nt s a) (hfr : X.ρ nvi = none) {f : Nat} {x : Operand} {x' : Opd} {_ts : Array TypeId} {E : Eff} (hc : IsCompact P f) (hrun : (execOp a.eval o).run P X.w = .ok (.enter f #[a.eval x]) X.w)
  (hx:opd x=some x') (hr:compactA s nvi (x'.ev s.slots)=some E):After P X s a o dst nvi (.eff E):=by
 have hv:=opd_ok hs hx
 intro K Q hK
 unfold Oper.wp
 rw[hrun]
 unfold compactA at hr
 split at hr
 ·rename_i he
  cases hr
  rw[he] at hv
  have hv':=hv
  obtain⟨ad,b,off,sz,hxe,_⟩:=hv
  rw[hxe] at hv' ⊢
  refine Calls.mono (hc.empty ad 0 X.w) ?_
  rintro en w' ⟨rfl,rfl⟩
  exact hK X _ (Ext.refl X) hv' hs.mem ⟨Nat.le_refl _,fun v L h=>.inl h⟩
 ·rename_i lv sl ver off len sz he
  split at hr
  ·rename_i els hrow
   obtain⟨zs,hz,hr2⟩:=Option.bind_eq_some_iff.1 hr
   split at hr2
   ·rename_i hcnd
    obtain⟨rfl,rfl,rfl,hlt⟩:=hcnd
    cases hr2
    rw[he] at hv
    have hv':=hv
    have hels:=intsOf_some hz
    have hlen:els.length=zs.length:=by rw[hels];simp[intsL]
    obtain⟨L,hL,hE,hg⟩:=row_lies hs.mem hrow
    obtain⟨L1,ad,cap,hL1,h1,hxe,h3,h4⟩:=hv
    rw[hL] at hL1;cases hL1
    rw[hxe] at hv' ⊢
    by_cases h0:els.length=0
    ·have hz0 : zs = [] := List.eq_nil_of_length_eq_zero (by omega)
     subst hz0
     obtain⟨Y,hw,g1,g2,g3,g4⟩:=cut_ref (n:=s.nv) hs.mem hfr (l:=0) (h':=0) hv' hrow (Nat.le_refl _) (Nat.zero_le _) (by omega)
     rw[h0]
     refine Calls.mono (hc.empty ad cap X.w) ?_
     rintro en w' ⟨rfl,rfl⟩
     rw[←hw]
     refine hK Y _ g1 ?_ ?_ g4
     ·have e : (if cap = 0 then ad else ad.map (·.add (0 * 1))) = ad := by
       split
       ·rfl
       ·rw [(h4 (by omega)).1]
        simp[Addr.add_lit]
      rw[e] at g2
      exact g2
     ·exact g3
    ·obtain ⟨rfl, h5⟩ := h4 (by omega)
     have hc0:0<L.cap:=by omega
     obtain⟨C,ce,hb2,hb1,hb3,hb4,hb5,hb6,hap,hcont⟩:=row_block hs.mem hg hL hc0
     have hC:∀ (j:Nat) z,zs[j]?=some z→C[L.o+j]?=some (.int .i64 z):=by
      intro j z hj
      have hq:els[j]?=some [.sc (.int .i64 z)]:=by rw[hels];simp[intsL,hj]
      obtain⟨v,hv,hd⟩:=hcont j _ 0 _ hq rfl
      rw[h1,Nat.mul_one,Nat.add_zero] at hv
      rw[hv]
      cases hd with
      |sc v _=>rfl
     have hcall:=hc.rows L.b L.o cap zs X.w C ce hb2 hC (by omega) (by omega) (by omega)
     rw[←hlen] at hcall
     refine Calls.mono hcall ?_
     rintro en w' ⟨rfl,hw⟩
     have hx:=sortW_ext hs.mem hw hb1 hb4
     let L':Loc:=⟨L.b,L.o,1,cap⟩
     have hfr':({ X with w:=w' } : Cx).ρ nvi=none:=hfr
     have hxn:Ext { X with w:=w' } (({ X with w:=w' } : Cx).name nvi L'):=name_ext hfr'
     have hsl:=compI_length zs
     refine hK (({ X with w:=w' } : Cx).name nvi L') _ (hx.trans hxn) ⟨L',_,cap,name_ρ,rfl,rfl,by omega,fun _=>⟨by simp[L'],by simp[L']⟩⟩ ?_ ⟨Nat.le_refl _,fun v M hw=>by
      rcases (name_dom (X:={ X with w:=w' }) (v:=nvi) (n:=0) (L:=L')).2 v M hw with hq|hq|hq
      ·exact .inl hq
      ·exact .inr (.inl hq)
      ·omega⟩
     obtain⟨C',hq1,hq2,hq3⟩:=hw.row C ce hb2
     have hmm:MemOK { X with w:=w' } (memSet s.mem lv sl none) s.tips:=(hs.mem.erase lv sl).move hx (fun k v M a b c=>by
       obtain⟨M',hM',h2⟩:=(hs.mem.erase lv sl).holds_ρ a
       rw[b] at hM';injection hM' with hM';subst hM'
       exact hw.other M.b (h2 c).1 (hap k v M a b c)) (fun _ _ _ _ _ _ _ h=>h) (fun b o hb=>by
       have:=hs.mem.inF b o hb
       have:=hw.size
       show b<w'.heap.size
       omega)
     refine (name_mem hmm hfr').reset (e:=.row nvi (intsL (compI zs))) (L:=L') name_ρ ⟨by simp only[intsL,List.length_map,L'];omega,fun e he=>?_,fun _=>⟨⟨hb1,C',ce,hq1,?_⟩,hb4⟩,fun q f j x hq hj=>?_⟩ fun k v M a b c _=>?_
     ·simp [intsL, List.mem_map] at he
      obtain⟨z,_,rfl⟩:=he
      rfl
     ·show L.o + cap * 1 ≤ C'.size
      rw[h1] at hb3
      omega
     ·simp [intsL, List.getElem?_map, Option.map_eq_some_iff] at hq
      obtain⟨z,hz',rfl⟩:=hq
      have hj0:j=0∧x=.sc (.int .i64 z):=by
       cases j with
       |zero=>simp at hj;exact⟨rfl,hj.symm⟩
       |succ j=>simp at hj
      obtain⟨rfl,rfl⟩:=hj0
      refine⟨.int .i64 z,?_,.sc _ rfl⟩
      show World.cell? w' ⟨L.b,L.o+q*1+0,none⟩=_
      rw[cell_of_row _ _ _ _ _ _ hq1,Nat.mul_one]
      exact hq3 q z hz'
     ·obtain ⟨M', hM', _⟩ := (hs.mem.erase lv sl).holds_ρ a
      have h9:(({ X with w:=w' } : Cx).name nvi L').ρ v=some M':=hxn.loc _ _ hM'
      rw[b] at h9;cases h9
      exact hap k v M a hM' c
   grind
  grind
 grind
theorem mov_after {lq:Nat} (hs:Sim X nt s a) (hfr:X.ρ nvi=none) {x:Operand} {x':Opd} {row d:Nat} (hrun:(execOp a.eval o).run P X.w=.ok (.value (a.eval x)) X.w) (hx:opd x=some x') :
  After P X s a o dst nvi (.eff (movA row lq d nvi (x'.ev s.slots))):=by
 have hv:=opd_ok hs hx
 unfold movA
 split
 ·rename_i he
  rw[he] at hv
  obtain⟨ad,b,off,sz,hxe,_⟩:=hv
  refine .value (Y:=X.name nvi ⟨0,0,row / 65536,0⟩) (by rw[hrun,hxe];rfl) (name_ext hfr) ⟨⟨0,0,row / 65536,0⟩,ad,0,name_ρ,rfl,rfl,Nat.le_refl _,fun hq=>absurd hq (by simp)⟩ ?_ name_dom
  exact (name_mem hs.mem hfr).add (e:=.row nvi []) (L:=⟨0,0,row / 65536,0⟩) name_ρ ⟨by simp,by simp,fun hq=>absurd hq (by simp),by simp⟩ fun _ _ _ _ _ _ _ hq=>absurd hq (by simp)
 ·exact .quiet hs ⟨a.eval x,hrun,hv⟩
theorem move_after {lq:Nat} (hs:Sim X nt s a) (hfr:X.ρ nvi=none) {x:Operand} {x':Opd} {d:Nat} {E:Eff} (hrun:(execOp a.eval o).run P X.w=.ok (.value (a.eval x)) X.w) (hx:opd x=some x') (hr:moveA s lq d nvi (x'.ev s.slots)=some E):After P X s a o dst nvi (.eff E):=by
 have hv:=opd_ok hs hx
 unfold moveA at hr
 split at hr
 ·rename_i lv' sl' ver off len sz he
  rw[he] at hv
  split at hr
  ·rename_i els hrow
   split at hr
   ·rename_i hle
    have hle:=Nat.le_of_ble_eq_true hle
    injection hr with hr;subst hr
    obtain⟨Y,hw,g1,g2,g3,g4⟩:=move_ref (n:=s.nv) (lv2:=lq) (sl2:=d) hs.mem hfr hv hrow hle
    exact .value (Y:=Y) (by rw[hw];exact hrun) g1 g2 g3 g4
   grind
  grind
 grind
theorem movs_after {call:Go.Eng.Call} {sh:Nat→Bool} (hs:Sim X nt s a) (hfr:X.ρ nvi=none) {x:Operand} {x':Opd} {row d:Nat} {r:Res} (hrun:(execOp a.eval o).run P X.w=.ok (.value (a.eval x)) X.w) (hx:opd x=some x')
  (hr:AOp.run call sh s row d nvi (.mov x')=some r):After P X s a o dst nvi r:=by
 simp[AOp.run] at hr
 split at hr
 ·obtain ⟨E, hE, rfl⟩ := Option.map_eq_some_iff.1 hr
  exact move_after hs hfr hrun hx hE
 ·cases hr
  exact mov_after hs hfr hrun hx
end
end Go.Eng
set_option linter.unusedSectionVars false
namespace Go.Eng
open Go Go.RowKit
def CallOK (P:Program) (call:Go.Eng.Call):Prop:=
 ∀ f args mem tips nv r mem' tips' nv',call f args mem tips nv=some (r,mem',tips',nv')→∀ (X:Cx) (vargs:Array Value),MemOK X mem tips→(∀ v,nv≤v→X.ρ v=none)→All2 (V1 X) args vargs.toList→
  (∃ fn,P.funcs[f]?=some fn∧fn.body.isSome=true∧(fn.name == "runtime.NumGoroutine")=false)∧
  Calls P f vargs X.w fun e w'=>∃ Y v,e=.returned v∧Y.w=w'∧Ext X Y∧VR Y r v∧MemOK Y mem' tips'∧nv≤nv'∧∀ u L,Y.ρ u=some L→X.ρ u=some L∨(nv≤u∧u<nv')
theorem DR.mono {w:World} {F G:Nat→Nat→Prop} (h:∀ b o,F b o→G b o) {x:D} {v:Value} (hd:DR w F x v):DR w G x v:=by
 induction hd with
 |sc v h1=>exact .sc v h1
 |er v h1=>exact .er v h1
 |rg k e=>exact .rg k e
 |sl els a n cap sz b o g hn hcap hsz ha hF hc _ ih=>exact .sl els a n cap sz b o g hn hcap hsz ha (fun i e j x h1 h2=>h _ _ (hF i e j x h1 h2)) hc ih
theorem Lies.mono {w:World} {F G R S:Nat→Nat→Prop} (h:∀ b o,F b o→G b o) {els:List (List D)} {b o sz:Nat} (hrs:∀ q,(∃ v,w.cell? ⟨b,q,none⟩=some v)→R b q→S b q) (hl:Lies w F R els b o sz):Lies w G S els b o sz:=
 ⟨hl.1, fun i e j x h1 h2 => by
  obtain⟨hF,v,hv,hd⟩:=hl.2 i e j x h1 h2
  exact⟨hrs _ ⟨v,hv⟩ hF,v,hv,hd.mono h⟩⟩
theorem cell_lt {w:World} {b o:Nat} (h:∃ v,w.cell? ⟨b,o,none⟩=some v):b<w.heap.size:=by
 obtain⟨v,hv⟩:=h
 exact World.block_lt_of_cell? w ⟨b,o,none⟩ hv
def Cx.inner (X:Cx):Cx:={ w:=X.w,F:=X.F,ρ:=fun _=>none,old:=fun b=>b<X.w.heap.size }
theorem clo_nil {X Y:Cx} {f:Nat} {v:Value} (h:VC X (.clo f []) v):VC Y (.clo f []) v:=by
 grind[VC0,All2,VC]
section
variable {X:Cx} {m:List (Tr Ent)} {t:Tr Unit}
theorem lendCell_ok (h:MemOK X m t) (ks:List (Nat×Nat)) {x y:AV} {v:Value} (hx:lendCell m x=some y) (hv:VC X x v):VC (X.frz m ks).inner y v:=by
 have hex:=frz_ext h ks
 have hsub:∀ b o,X.F b o→(X.frz m ks).F b o:=fun _ _=>.inl
 have data:∀ {els a cap sz b o},v=.slice a els.length cap→els.length≤cap→(0<els.length→a=some ⟨b,o,none⟩)→Lies X.w X.F X.F els b o sz→VC (X.frz m ks).inner (.d (.sl els)) v:=by
  rintro els a cap sz b o rfl h2 h3 h4
  exact DR.of_lies (h4.ext hex) rfl h2 h3
 have lent:∀ {els a cap sz b o} {R:Nat→Nat→Prop},v=.slice a els.length cap→els.length≤cap→(0<els.length→a=some ⟨b,o,none⟩)→Lies X.w X.F R els b o sz→VC (X.frz m ks).inner (.own els .bor) v:=by
  rintro els a cap sz b o R rfl h2 h3 h4
  exact⟨a,b,o,sz,cap,rfl,h2,h3,h4.mono hsub fun q hq _=>cell_lt hq⟩
 cases x with
 |d x=>cases hx;exact DR.ext hex hv
 | own els ow =>
  cases ow with
  |full=>
   cases hx
   obtain⟨a,b,o,sz,h1,h2,h3⟩:=hv
   exact data h1 (Nat.le_refl _) h2 h3
  |tip ver tz=>
   cases hx
   obtain⟨a,b,o,sz,cap,h1,h2,h3,h4,_⟩:=hv
   exact data h1 h2 (fun h=>h3 (by omega)) h4
  |bor=>
   cases hx
   obtain⟨a,b,o,sz,cap,h1,h2,h3,h4⟩:=hv
   exact lent h1 h2 h3 h4
 | ref lv sl ver off len sz =>
  simp only[lendCell] at hx
  cases he:elsOf m (.ref lv sl ver off len sz) with
  |none=>grind
  |some els=>
   rw[he] at hx
   cases hx
   obtain⟨a,cap,sz',b,o,h1,h2,h3,h4⟩:=elsOf_ok h he (.of_VC hv)
   exact lent h1 h2 h3 h4
 |clo f c=>
  cases c with
  |nil=>cases hx;exact clo_nil hv
  |cons=>cases hx
 |_=>cases hx
theorem giveCell_ok (h:MemOK X m t) {ks k:List (Nat×Nat)} {x y:AV} {v:Value} (hx:giveCell m x=some (y,k)) (hv:VC X x v) (hk:∀ p∈k,p∈ks):VC (X.frz m ks).inner y v:=by
 have viaD:∀ {x},(toD m x).map (fun p=>(AV.d p.1,p.2))=some (y,k)→VC X x v→VC (X.frz m ks).inner y v:=by
  intro x hx hv
  cases hd:toD m x with
  |none=>rw[hd] at hx;cases hx
  |some p=>
   rw[hd] at hx
   injection hx with hx;injection hx with h1 h2;subst h1
   exact toD_ok h (ks:=ks) hd hv fun q hq=>hk q (by rw[←h2];exact hq)
 unfold giveCell at hx
 split at hx
 ·cases hx
  exact lendCell_ok h ks rfl hv
 ·cases hx
  exact lendCell_ok h ks rfl hv
 ·exact viaD hx hv
theorem giveCells_ok (h:MemOK X m t) {ks:List (Nat×Nat)} : ∀ {xs ys:List AV} {k:List (Nat×Nat)} {vs:List Value},giveCells m xs=some (ys,k)→All2 (VC X) xs vs→(∀ p∈k,p∈ks)→All2 (VC (X.frz m ks).inner) ys vs
 |[],ys,k,[],hx,_,_=>by cases hx;trivial
 | x :: xs, ys, k, v :: vs, hx, hv, hk => by
  simp[giveCells] at hx
  split at hx
  ·rename_i y k1 ys' k2 h1 h2
   cases hx
   exact⟨giveCell_ok h h1 hv.1 fun p hp=>hk p (by simp[hp]),giveCells_ok h h2 hv.2 fun p hp=>hk p (by simp[hp])⟩
  grind
 |[],_,_,_ :: _,_,hv,_=>hv.elim
 |_ :: _,_,_,[],_,hv,_=>hv.elim
theorem lend_ok (h:MemOK X m t) {ks k:List (Nat×Nat)} {x y:AV} {v:Value} (hx:lend m x=some (y,k)) (hv:VR X x v) (hk:∀ p∈k,p∈ks):V1 (X.frz m ks).inner y v:=by
 have one:∀ {x:AV},(lendCell m x).map (fun y=>(y,([]:List (Nat×Nat))))=some (y,k)→VC X x v→V1 (X.frz m ks).inner y v:=by
  intro x hx hv
  cases hd:lendCell m x with
  |none=>grind
  |some y'=>
   rw[hd] at hx
   cases hx
   exact .of_VC (lendCell_ok h ks hd hv)
 cases x with
 | agg cs =>
  simp only[lend] at hx
  cases hd:giveCells m cs with
  |none=>grind
  |some p=>
   rw[hd] at hx
   injection hx with hx;injection hx with h1 h2;subst h1
   obtain⟨vs,rfl,h3⟩:=hv
   exact⟨vs,rfl,giveCells_ok h (k:=p.2) hd h3 fun q hq=>hk q (by rw[←h2];exact hq)⟩
 |tup cs=>simp[lend,lendCell] at hx
 |_=>simp only[lend] at hx;exact one hx hv
theorem lends_ok (h:MemOK X m t) {ks:List (Nat×Nat)} : ∀ {xs ys:List AV} {k:List (Nat×Nat)} {vs:List Value},lends m xs=some (ys,k)→All2 (VR X) xs vs→(∀ p∈k,p∈ks)→All2 (V1 (X.frz m ks).inner) ys vs
 |[],ys,k,[],hx,_,_=>by cases hx;trivial
 | x :: xs, ys, k, v :: vs, hx, hv, hk => by
  simp[lends] at hx
  split at hx
  ·rename_i y k1 ys' k2 h1 h2
   cases hx
   exact⟨lend_ok h h1 hv.1 fun p hp=>hk p (by simp[hp]),lends_ok h h2 hv.2 fun p hp=>hk p (by simp[hp])⟩
  grind
 |[],_,_,_ :: _,_,hv,_=>hv.elim
 |_ :: _,_,_,[],_,hv,_=>hv.elim
theorem give_ok (h:MemOK X m t) {ks k:List (Nat×Nat)} {x y:AV} {v:Value} (hx:give m x=some (y,k)) (hv:VR X x v) (hk:∀ p∈k,p∈ks):V1 (X.frz m ks).inner y v:=by
 cases x with
 |agg cs=>exact lend_ok h (x:=.agg cs) hx hv hk
 |tup cs=>simp[give,giveCell,toD] at hx
 |_=>simp only[give] at hx;exact .of_VC (giveCell_ok h hx hv hk)
theorem gives_ok (h:MemOK X m t) {ks:List (Nat×Nat)} : ∀ {xs ys:List AV} {k:List (Nat×Nat)} {vs:List Value},gives m xs=some (ys,k)→All2 (VR X) xs vs→(∀ p∈k,p∈ks)→All2 (V1 (X.frz m ks).inner) ys vs
 |[],ys,k,[],hx,_,_=>by cases hx;trivial
 | x :: xs, ys, k, v :: vs, hx, hv, hk => by
  simp[gives] at hx
  split at hx
  ·rename_i y k1 ys' k2 h1 h2
   cases hx
   exact⟨give_ok h h1 hv.1 fun p hp=>hk p (List.mem_append.2 (.inl hp)),gives_ok h h2 hv.2 fun p hp=>hk p (List.mem_append.2 (.inr hp))⟩
  grind
 |[],_,_,_ :: _,_,hv,_=>hv.elim
 |_ :: _,_,_,[],_,hv,_=>hv.elim
theorem lendCs_ok (h:MemOK X m t) (ks:List (Nat×Nat)):∀ {xs ys:List AV} {vs:List Value},lendCs m xs=some ys→All2 (VC X) xs vs→All2 (VC (X.frz m ks).inner) ys vs
 |[],ys,[],hx,_=>by cases hx;trivial
 | x :: xs, ys, v :: vs, hx, hv => by
  simp[lendCs] at hx
  split at hx
  ·rename_i y ys' h1 h2
   cases hx
   exact⟨lendCell_ok h ks h1 hv.1,lendCs_ok h ks h2 hv.2⟩
  grind
 |[],_,_ :: _,_,hv=>hv.elim
 |_ :: _,_,[],_,hv=>hv.elim
theorem lendS_ok (h:MemOK X m t) (ks:List (Nat×Nat)) {x y:AV} {v:Value} (hx:lendS m x=some y) (hv:VR X x v):V1 (X.frz m ks).inner y v:=by
 cases x with
 | agg cs =>
  simp only[lendS] at hx
  cases h1:lendCs m cs with
  |none=>grind
  |some z=>
   rw[h1] at hx
   cases hx
   obtain⟨vs,rfl,h3⟩:=hv
   exact⟨vs,rfl,lendCs_ok h ks h1 h3⟩
 |tup cs=>simp[lendS,lendCell] at hx
 |_=>simp only[lendS] at hx;exact .of_VC (lendCell_ok h ks hx hv)
theorem lendSs_ok (h:MemOK X m t) (ks:List (Nat×Nat)):∀ {xs ys:List AV} {vs:List Value},lendSs m xs=some ys→All2 (VR X) xs vs→All2 (V1 (X.frz m ks).inner) ys vs
 |[],ys,[],hx,_=>by cases hx;trivial
 | x :: xs, ys, v :: vs, hx, hv => by
  simp[lendSs] at hx
  split at hx
  ·rename_i y ys' h1 h2
   cases hx
   exact⟨lendS_ok h ks h1 hv.1,lendSs_ok h ks h2 hv.2⟩
  grind
 |[],_,_ :: _,_,hv=>hv.elim
 |_ :: _,_,[],_,hv=>hv.elim
theorem inner_mem (h:MemOK X m t):MemOK X.inner [.lf] .lf:=by
 refine⟨fun lv sl e he=>?_,fun v hv=>by simp at hv,fun k k' v v' L L' _ _ _ hv _ _ _=>?_,h.inF,fun _ h=>h,fun b hb=>h.low b (h.lows.gb b hb),h.lows.gk⟩
 ·unfold memGet at he
  grind[Tr.get?,EntOK,Ent.ver,Cx.inner]
 ·cases hv
end
structure Picked (Z:Cx) (top:Nat) (cm:List (Tr Ent)) (els:List (List D)) (len sz:Nat) (v:Value):Prop where
 row:∃ L off a cap,v=.slice a len cap∧len≤cap∧els.length=len∧(∀ e∈els,e.length=sz)∧(0<cap→(∃ lv' sl' e,top≤lv'∧(memGet cm lv' sl'=some e∧e.fz=false)∧Z.ρ e.ver=some L)∧a=some ⟨L.b,L.o+off*sz,none⟩∧off+cap≤L.cap∧L.sz=sz∧0<L.cap∧
  Block Z L.b (L.o+L.cap*L.sz)∧(∀ o,¬Z.F L.b o)∧∀ i e j x,els[i]?=some e→e[j]?=some x→∃ u,Z.w.cell? ⟨L.b,L.o+off*sz+i*sz+j,none⟩=some u∧DR Z.w Z.F x u)
section
variable {Z Y:Cx} {cm:List (Tr Ent)} {ts:Tr Unit}
theorem impCell_ok (h : MemOK Z cm ts) {top pk k lv sl ver : Nat} (hw : Y.w = Z.w) (hF : ∀ b o, Z.F b o → Y.F b o) (hρ : 0 < top → ∀ v L, Z.ρ v = some L → Y.ρ v = some L)
  (hfz:pk=0→∀ lv' sl' e L,top≤lv'→memGet cm lv' sl'=some e→e.fz=false→Z.ρ e.ver=some L→0<L.cap→∀ o,Y.F L.b o) {x y:AV} {us:List (List (List D))} {v:Value} (hx:impCell cm top pk k lv sl ver x=some (y,us)) (hv:VC Z x v) :
  (us=[]∧VC Y y v)∨∃ els len sz,us=[els]∧y=.ref lv sl ver 0 len sz∧pk≠0∧Picked Z top cm els len sz v:=by
 have data:∀ {els a cap sz b o},v=.slice a els.length cap→els.length≤cap→(0<els.length→a=some ⟨b,o,none⟩)→Lies Z.w Z.F Z.F els b o sz→VC Y (.d (.sl els)) v:=by
  rintro els a cap sz b o rfl h2 h3 h4
  refine DR.of_lies (b:=b) (o:=o) (sz:=sz) ?_ rfl h2 h3
  rw[hw]
  exact h4.mono hF fun q _ hq=>hF _ _ hq
 cases x with
 |d x=>
  injection hx with hx;injection hx with h1 h2;subst h1
  refine .inl ⟨h2.symm,?_⟩
  show DR Y.w Y.F x v
  rw[hw]
  exact DR.mono hF hv
 | own els ow =>
  cases ow with
  | full =>
   simp[impCell] at hx
   obtain⟨a,b,o,sz,g1,g2,g3⟩:=hv
   split at hx
   ·rename_i hq
    injection hx with hx;injection hx with h1 h2;subst h1
    have hpk:pk≠0:=by
     intro e
     subst e
     simp at hq
    exact .inr ⟨[],0,pk / 65536,h2.symm,rfl,hpk,⟨⟨0,0,0,0⟩,0,a,0,g1,Nat.le_refl _,rfl,fun _ h=>(by cases h),fun h=>absurd h (by omega)⟩⟩
   ·split at hx
    ·injection hx with hx; injection hx with h1 h2; subst h1
     refine .inl ⟨h2.symm,a,b,o,sz,g1,g2,?_⟩
     rw[hw]
     exact g3.mono hF fun q _ hq=>hF _ _ hq
    grind
  | tip ver tz =>
   simp[impCell] at hx
   obtain⟨a,b,o,sz,cap,g1,g2,g3,g4,g5,g6⟩:=hv
   split at hx
   ·rename_i hk
    injection hx with hx;injection hx with h1 h2;subst h1
    have ht:0<top:=by
     have:=(Bool.and_eq_true_iff.1 hk).2
     rcases Nat.eq_zero_or_pos top with e|e
     ·rw[e] at this;cases this
     ·exact e
    refine .inl ⟨h2.symm,a,b,o,sz,cap,g1,g2,g3,?_,hρ ht _ _ g5,g6⟩
    rw[hw]
    exact g4.mono hF fun q _ hq=>hF _ _ hq
   grind
  |bor=>cases hx
 | ref lv' sl' ver' off len sz =>
  simp[impCell] at hx
  cases hb:Nat.ble top lv' with
  | false =>
   rw[hb] at hx
   injection hx with hx;injection hx with h1 h2;subst h1
   have ht:0<top:=by
    have:¬top≤lv':=fun hle=>by rw[Nat.ble_eq_true_of_le hle] at hb;cases hb
    omega
   obtain⟨L,a,cap,g1,g2⟩:=hv
   exact .inl ⟨h2.symm,L,a,cap,hρ ht _ _ g1,g2⟩
  | true =>
   rw[hb] at hx
   have hle:top≤lv':=Nat.le_of_ble_eq_true hb
   cases he:elsOf cm (.ref lv' sl' ver' off len sz) with
   |none=>grind
   | some els =>
    rw[he] at hx
    simp at hx
    obtain⟨L',a,cap,hL',g1,rfl,g3,g4⟩:=hv
    simp[elsOf] at he
    cases hr:rowRd cm lv' sl' ver' with
    |none=>grind
    | some els' =>
     rw[hr] at he
     simp only[Option.bind_some] at he
     split at he
     ·cases he
      obtain⟨L,hL,hE1,hE⟩:=rowRd_ok h hr
      rw[hL] at hL';injection hL' with hL';subst hL'
      have hlen:((els'.drop off).take len).length=len:=by grind
      have hsz:∀ e∈(els'.drop off).take len,e.length=sz:=fun f hf=>by rw[hE.1 f (List.mem_of_mem_drop (List.mem_of_mem_take hf)),g1]
      split at hx
      ·rename_i hpk
       injection hx with hx;injection hx with h1 h2;subst h1
       refine .inl ⟨h2.symm,?_⟩
       have hpk:=beq_true.1 hpk
       have hl:=(hE.region (S:=Y.F) fun b o hq=>hq.elim (hF b o) fun hq=>by
        obtain⟨e,M,q1,q2,q3,rfl,q5⟩:=blockOf_some hq
        exact hfz hpk lv' sl' e M hle q1 q5 q2 q3 o).sub off len
       refine DR.of_lies (b:=L.b) (o:=L.o+off*L.sz) (sz:=L.sz) ?_ hlen g3 fun h0=>by rw[(g4 (by omega)).1,g1]
       rw[hw]
       exact hl.mono hF fun q _ hq=>hq
      ·rename_i hpk
       have hpk:=beq_false.1 hpk
       split at hx
       ·split at hx
        ·rename_i els2 hr2
         injection hx with hx;injection hx with h1 h2;subst h1
         obtain⟨L2,hL2,hE2,hg⟩:=row_lies h hr2
         have hels:els2=els':=by
          have hr':=hr
          unfold rowRd at hr'<;>grind
         subst hels
         rw[hL] at hL2;cases hL2
         refine .inr ⟨_,len,sz,h2.symm,rfl,hpk,⟨L,off,a,cap,rfl,g3,hlen,hsz,fun hc=>?_⟩⟩
         obtain⟨k1,k2⟩:=g4 hc
         have hc0:0<L.cap:=by omega
         refine⟨⟨lv',sl',_,hle,⟨hg,rfl⟩,hL⟩,k1,k2,g1,hc0,(hE2.2.2.1 hc0).1,(hE2.2.2.1 hc0).2,fun i e j x hi hj=>?_⟩
         obtain⟨u,hu,hd⟩:=hE2.2.2.2 (off+i) e j x (getElem?_drop_take hi).1 hj<;>grind
        grind
       ·split at hx
        ·cases hx
        ·rename_i hr2
         injection hx with hx;injection hx with h1 h2;subst h1
         refine .inl ⟨h2.symm,?_⟩
         have hl:=(hE.region (S:=Y.F) fun b o hq=>hq.elim (hF b o) fun hq=>by
          exfalso
          obtain⟨e,M,q1,q2,q3,rfl,q5⟩:=blockOf_some hq
          have q1:memGet cm lv' sl'=some e:=q1
          unfold rowRd at hr
          unfold rowAt at hr2
          rw[q1] at hr hr2
          cases e with
          |row v els=>simp only at hr hr2;rw[hr] at hr2;cases hr2
          |box v cs=>cases hr
          |mp v ks=>cases hr
          |fro v els=>cases q5).sub off len
         refine DR.of_lies (b:=L.b) (o:=L.o+off*L.sz) (sz:=L.sz) ?_ hlen g3 fun h0=>by rw[(g4 (by omega)).1,g1]
         rw[hw]
         exact hl.mono hF fun q _ hq=>hq
     grind
 | ptr lv' sl' ver' i off =>
  simp[impCell] at hx
  cases hb:Nat.ble top lv' with
  | false =>
   rw[hb] at hx
   injection hx with hx;injection hx with h1 h2;subst h1
   have ht:0<top:=by
    have:¬top≤lv':=fun hle=>by rw[Nat.ble_eq_true_of_le hle] at hb;cases hb
    omega
   obtain⟨L,g1,g2⟩:=hv
   exact .inl ⟨h2.symm,L,hρ ht _ _ g1,g2⟩
  |true=>
   rw[hb] at hx
   cases hx
 |clo f c=>
  cases c with
  |nil=>injection hx with hx;injection hx with h1 h2;subst h1;exact .inl ⟨h2.symm,clo_nil hv⟩
  |cons=>cases hx
 | bref lv' sl' ver' off n sz =>
  simp only[impCell] at hx
  cases hb:Nat.ble top lv' with
  | false =>
   rw[hb] at hx
   injection hx with hx;injection hx with h1 h2;subst h1
   have ht:0<top:=by
    have:¬top≤lv':=fun hle=>by rw[Nat.ble_eq_true_of_le hle] at hb;cases hb
    omega
   obtain⟨L,cap,g1,g2⟩:=hv
   exact .inl ⟨h2.symm,L,cap,hρ ht _ _ g1,g2⟩
  |true=>rw[hb] at hx;cases hx
 |_=>cases hx
end
end Go.Eng
set_option linter.unusedSectionVars false
namespace Go.Eng
open Go Go.RowKit
structure Good (Z:Cx) (cm:List (Tr Ent)) (top pk:Nat) (Y:Cx):Prop where
 w:Y.w=Z.w
 F:∀ b o,Z.F b o→Y.F b o
 ρ : 0<top→∀ v L,Z.ρ v=some L→Y.ρ v=some L
 fz:pk=0→∀ lv' sl' e L,top≤lv'→memGet cm lv' sl'=some e→e.fz=false→Z.ρ e.ver=some L→0<L.cap→∀ o,Y.F L.b o
def Brought {α : Type} (Z:Cx) (cm:List (Tr Ent)) (top pk lv sl ver:Nat) (R:Cx→α→Prop) (y : α) (us:List (List (List D))):Prop:=
 (us=[]∧∀ Y,Good Z cm top pk Y→R Y y)∨
 (∃ els len sz v',us=[els]∧(pk≠0∧Picked Z top cm els len sz v')∧∀ Y,Good Z cm top pk Y→VC Y (.ref lv sl ver 0 len sz) v'→R Y y)∨2≤us.length
theorem Brought.map {α β : Type} {Z:Cx} {cm:List (Tr Ent)} {top pk lv sl ver:Nat} {R:Cx→α→Prop} {S:Cx→β→Prop} {y : α} {z : β} {us:List (List (List D))} (h:Brought Z cm top pk lv sl ver R y us) (hrs:∀ Y,R Y y→S Y z):Brought Z cm top pk lv sl ver S z us:=by
 grind[Brought]
theorem Brought.pair {α β γ : Type} {Z:Cx} {cm:List (Tr Ent)} {top pk lv sl ver:Nat} {R:Cx→α→Prop} {S:Cx→β→Prop} {T:Cx→γ→Prop} {y : α} {z : β} {x : γ} {us vs:List (List (List D))} (h:Brought Z cm top pk lv sl ver R y us) (k:Brought Z cm top pk lv sl ver S z vs)
  (hrs:∀ Y,R Y y→S Y z→T Y x):Brought Z cm top pk lv sl ver T x (us++vs):=by
 grind[Brought]
section
variable {Z:Cx} {cm:List (Tr Ent)} {ts:Tr Unit} {top pk lv sl ver:Nat}
theorem impCell_b (h:MemOK Z cm ts) {k:Nat} {x y:AV} {us:List (List (List D))} {v:Value} (hx:impCell cm top pk k lv sl ver x=some (y,us)) (hv:VC Z x v):Brought Z cm top pk lv sl ver (fun Y y=>VC Y y v) y us:=by
 by_cases hu:us=[]
 ·refine .inl ⟨hu, fun Y hY => ?_⟩
  rcases impCell_ok h hY.w hY.F hY.ρ hY.fz hx hv with⟨_,h⟩|⟨_,_,_,h,_⟩<;>grind
 ·rcases impCell_ok (Y:={ Z with F:=fun _ _=>True }) h rfl (fun _ _ _=>trivial) (fun _ _ _ h=>h) (fun _ _ _ _ _ _ _ _ _ _ _=>trivial) hx hv with⟨h,_⟩|⟨els,len,sz,h1,rfl,h2,h3⟩<;>grind[impCell,VC,Brought]
theorem impCells_b (h:MemOK Z cm ts):∀ {k:Nat} {xs ys:List AV} {us:List (List (List D))} {vs:List Value},impCells cm top pk lv sl ver k xs=some (ys,us)→All2 (VC Z) xs vs→Brought Z cm top pk lv sl ver (fun Y ys=>All2 (VC Y) ys vs) ys us
 |k,[],ys,us,[],hx,_=>by grind[impCells,VC,All2,Brought]
 | k, x :: xs, ys, us, v :: vs, hx, hv => by
  simp[impCells] at hx
  split at hx
  ·rename_i y u ys' us' h1 h2
   cases hx
   exact (impCell_b h h1 hv.1).pair (impCells_b h h2 hv.2) fun Y a b=>⟨a,b⟩
  grind
 |_,[],_,_,_ :: _,_,hv=>hv.elim
 |_,_ :: _,_,_,[],_,hv=>hv.elim
theorem imp1_b (h:MemOK Z cm ts) {k:Nat} {x y:AV} {us:List (List (List D))} {v:Value} (hx:imp1 cm top pk lv sl ver k x=some (y,us)) (hv:V1 Z x v):Brought Z cm top pk lv sl ver (fun Y y=>V1 Y y v) y us:=by
 cases x with
 | agg cs =>
  simp only[imp1] at hx
  cases hd:impCells cm top pk lv sl ver k cs with
  |none=>grind
  |some p=>
   rw[hd] at hx
   cases hx
   obtain⟨vs,rfl,h3⟩:=hv
   exact (impCells_b h (us:=p.2) hd h3).map fun Y h=>⟨vs,rfl,h⟩
 |tup cs=>cases hx
 |_=>simp only[imp1] at hx;exact (impCell_b h hx hv).map fun Y h=>.of_VC h
theorem impTup_b (h:MemOK Z cm ts):∀ {k:Nat} {xs ys:List AV} {us:List (List (List D))} {vs:List Value},impTup cm top pk lv sl ver k xs=some (ys,us)→All2 (V1 Z) xs vs→Brought Z cm top pk lv sl ver (fun Y ys=>All2 (V1 Y) ys vs) ys us
 |k,[],ys,us,[],hx,_=>by grind[impTup,V1,All2,Brought]
 | k, x :: xs, ys, us, v :: vs, hx, hv => by
  simp[impTup] at hx
  split at hx
  ·rename_i y u ys' us' h1 h2
   cases hx
   exact (imp1_b h h1 hv.1).pair (impTup_b h h2 hv.2) fun Y a b=>⟨a,b⟩
  grind
 |_,[],_,_,_ :: _,_,hv=>hv.elim
 |_,_ :: _,_,_,[],_,hv=>hv.elim
theorem impR_b (h:MemOK Z cm ts) {x y:AV} {us:List (List (List D))} {v:Value} (hx:impR cm top pk lv sl ver x=some (y,us)) (hv:VR Z x v):Brought Z cm top pk lv sl ver (fun Y y=>VR Y y v) y us:=by
 cases x with
 | tup cs =>
  simp only[impR] at hx
  cases hd:impTup cm top pk lv sl ver 1 cs with
  |none=>grind
  |some p=>
   rw[hd] at hx
   cases hx
   obtain⟨vs,rfl,h3⟩:=hv
   exact (impTup_b h (us:=p.2) hd h3).map fun Y h=>⟨vs,rfl,h⟩
 |_=>simp only[impR] at hx;exact (imp1_b h hx hv).map fun Y h=>.of_V1 h
theorem picked_row {Y:Cx} {m:List (Tr Ent)} {t:Tr Unit} {els:List (List D)} {len sz off cap:Nat} {a:Option Addr} {L:Loc} (hm:MemOK Y m t) (hw:Y.w=Z.w) (hF:∀ b o,Z.F b o→Y.F b o) (hb:∀ b,Y.old b→Z.old b) (hfr:Y.ρ ver=none)
  (h1 : len ≤ cap) (h2 : els.length = len) (h3 : ∀ e ∈ els, e.length = sz) (h4 : 0 < cap → a = some ⟨L.b, L.o + off * sz, none⟩ ∧ off + cap ≤ L.cap ∧ L.sz = sz ∧ 0 < L.cap ∧
   Block Z L.b (L.o+L.cap*L.sz)∧(∀ o,¬Z.F L.b o)∧∀ i e j x,els[i]?=some e→e[j]?=some x→∃ u,Z.w.cell? ⟨L.b,L.o+off*sz+i*sz+j,none⟩=some u∧DR Z.w Z.F x u)
  (hno:0<cap→(∀ o,¬Y.F L.b o)∧∀ k u M,Holds m t k u→Y.ρ u=some M→0<M.cap→M.b≠L.b) :
  ∃ W:Cx,W.w=Y.w∧W.F=Y.F∧W.old=Y.old∧(∀ u M,Y.ρ u=some M→W.ρ u=some M)∧(∀ u M,W.ρ u=some M→Y.ρ u=some M∨u=ver)∧MemOK W (memSet m lv sl (some (.row ver els))) t∧VC W (.ref lv sl ver 0 len sz) (.slice a len cap):=by
 let L':Loc:=⟨L.b,L.o+off*sz,sz,cap⟩
 refine⟨Y.name ver L',rfl,rfl,rfl,(name_ext hfr).loc,fun u M hu=>?_,?_,L',a,cap,name_ρ,rfl,rfl,h1,fun hc=>⟨by rw[(h4 hc).1];simp[L'],by simp[L']⟩⟩
 ·grind[Cx.name,Holds,Block]
 ·refine (name_mem hm hfr).add (e := .row ver els) (L := L') name_ρ ⟨by rw [h2]; exact h1, h3, fun hc => ?_, fun i e j x hi hj => ?_⟩ fun k u M hk _ hu hMc hc => ?_
  ·obtain ⟨g1, g2, g3, g4, ⟨g5, C, ce, g6, g7⟩, g8, _⟩ := h4 hc
   refine⟨⟨fun q=>g5 (hb _ q),C,ce,by show Y.w.heap[L.b]?=_;rw[hw];exact g6,?_⟩,(hno hc).1⟩
   have:=Nat.mul_le_mul_right sz g2<;>grind
  ·have hi' : i < els.length := (List.getElem?_eq_some_iff.1 hi).1
   obtain⟨u,hu,hd⟩:=(h4 (by omega)).2.2.2.2.2.2 i e j x hi hj
   refine⟨u,?_,?_⟩
   ·grind[Holds,Block,Cx.name]
   ·show DR Y.w Y.F x u
    rw[hw];exact hd.mono hF
  ·obtain⟨M',hM',_⟩:=hm.holds_ρ hk<;>grind[Cx.name,keyE,Holds,Block]
end
theorem memGet_take (m:List (Tr Ent)) (k lv sl:Nat):memGet (m.take k) lv sl=if lv<k then memGet m lv sl else none:=by
 grind[memGet]
section
variable {P:Program} {X:Cx} {nt:NT} {s:St} {a:Act} {o:Oper} {dst:Option Nat} {nvi:Nat}
theorem call_iso {call:Go.Eng.Call} (hcall:CallOK P call) (hs:Sim X nt s a) (hfr:X.ρ nvi=none) {f pk lv sl:Nat} {vargs:Array Value} {aSz:List AV} {ks:List (Nat×Nat)} {r val:AV} {cm:List (Tr Ent)} {ts:Tr Unit} {n':Nat} {us:List (List (List D))} {u:List (Nat×Nat×Option Ent)} {rd:List (Nat×Nat×Nat)}
  (hV:All2 (V1 (X.frz s.mem ks).inner) aSz vargs.toList) (hc:call f aSz [.lf] .lf 0=some (r,cm,ts,n')) (hi:impR cm 0 pk lv sl nvi r=some (val,us)) (hu:rowUpd lv sl nvi us=some u)
  (hrun:(∃ fn,P.funcs[f]?=some fn∧fn.body.isSome=true∧(fn.name == "runtime.NumGoroutine")=false)→(execOp a.eval o).run P X.w=.ok (.enter f vargs) X.w) :
  After P X s a o dst nvi (.eff { val,upd:=frees s.mem ks++u,tip:=[],rd }):=by
 intro K Q hK
 have hm1:=frz_mem hs.mem ks
 have hx1:=frz_ext hs.mem ks
 obtain⟨hfn,hcalls⟩:=hcall f aSz [.lf] .lf 0 r cm ts n' hc (X.frz s.mem ks).inner vargs (inner_mem hm1) (fun _ _=>rfl) hV
 unfold Oper.wp
 rw[hrun hfn]
 refine Calls.mono hcalls ?_
 rintro e w' ⟨Z,v,rfl,rfl,hxZ,hvZ,hmZ,_,_⟩
 have hblk:∀ b,b<X.w.heap.size→Z.w.heap[b]?=X.w.heap[b]?:=fun b hb=>hxZ.below.block b hb
 have hZbase:Z.old=fun b=>b<X.w.heap.size:=hxZ.base
 have hZF:∀ b o,Z.F b o→(X.frz s.mem ks).F b o∨X.w.heap.size≤b:=fun b o h=>(hxZ.new b o h).imp id fun h=>Nat.le_of_not_lt h
 have mk:∀ (p:Option Nat),∃ Y:Cx,Y.w=Z.w∧Y.old=X.old∧Y.ρ = X.ρ∧(∀ b o,Y.F b o↔Z.F b o∨(X.w.heap.size≤b∧b<Z.w.heap.size∧some b≠p))∧Ext X Y∧MemOK Y (applyUpd s.mem (frees s.mem ks)) s.tips:=by
  intro p
  let Y:Cx:={ w:=Z.w,F:=fun b o=>Z.F b o∨(X.w.heap.size≤b∧b<Z.w.heap.size∧some b≠p),ρ:=X.ρ,old:=X.old }
  have hx:Ext (X.frz s.mem ks) Y:=by
   refine⟨rfl,hxZ.below.mono hs.mem.low,fun b o h=>.inl (hxZ.reg b o h),fun b o h=>?_,fun _ _ h=>h,fun b o h=>?_⟩
   ·exact hxZ.keep b o h
   ·rcases h with h | h
    ·exact (hZF b o h).imp id fun h q=>Nat.lt_irrefl _ (Nat.lt_of_lt_of_le (hs.mem.low _ q) h)
    ·exact .inr fun q=>Nat.lt_irrefl _ (Nat.lt_of_lt_of_le (hs.mem.low _ q) h.1)
  refine⟨Y,rfl,rfl,rfl,fun _ _=>Iff.rfl,hx1.trans hx,hm1.move hx (fun k v L hk hv hc=>?_) (fun k v L o hk hv hc h=>?_) fun b o h=>?_⟩
  ·obtain ⟨M, hM, h2⟩ := hm1.holds_ρ hk
   rw[hv] at hM;cases hM
   exact hblk _ (h2 hc).1
  ·obtain ⟨M, hM, h2⟩ := hm1.holds_ρ hk
   rw[hv] at hM;cases hM
   have:=(h2 hc).1
   have this:L.b<X.w.heap.size:=this<;>grind
  ·rcases h with h | h
   ·exact hmZ.inF b o h
   grind
 rcases impR_b hmZ hi hvZ with⟨rfl,hb⟩|⟨els,len,sz,v',rfl,⟨hpk,⟨L,off,ad,cap,g3,g4,g5,g6,g7'⟩⟩,hb⟩|hlen
 ·cases hu
  obtain⟨Y,y1,y2,y3,y4,y5,y6⟩:=mk none
  rw[←y1]
  refine hK Y v y5 (hb Y ⟨y1,fun b o h=>(y4 b o).2 (.inl h),fun h=>absurd h (by omega),fun _ lv' sl' e L _ hg hz hL hc o=>?_⟩) ?_ ?_
  ·obtain⟨M,hM,h2⟩:=hmZ.holds_ρ (.inl ⟨lv',sl',e,rfl,hg,rfl,hz⟩)<;>grind
  ·rw [List.append_nil]
   exact y6
  ·exact DomOK.of_ρ y3
 ·cases hu
  subst g3
  have g7:=fun hc=>(g7' hc).2
  obtain⟨Y,y1,y2,y3,y4,y5,y6⟩:=mk (some L.b)
  have hLb:0<cap→X.w.heap.size≤L.b:=fun hc=>by
   have:=(g7 hc).2.2.2.2.1.1
   rw[hZbase] at this
   exact Nat.le_of_not_lt this
  obtain⟨W,w1,w2,w3,w4,w5,w6,w7⟩:=picked_row (Z:=Z) (lv:=lv) (sl:=sl) (ver:=nvi) y6 y1 (fun b o h=>(y4 b o).2 (.inl h)) (by rw[y2,hZbase];exact hs.mem.low) (by rw[y3];exact hfr) g4 g5 g6 g7 fun hc=>⟨fun o h=>by
    rcases (y4 _ _).1 h with h|h
    ·exact (g7 hc).2.2.2.2.2.1 o h
    ·exact h.2.2 rfl,fun k u M hk hM hMc=>by
    obtain⟨M',hM',h2⟩:=hm1.holds_ρ hk
    rw[y3] at hM
    have hM':X.ρ u=some M':=hM'
    rw[hM] at hM';injection hM' with hM';subst hM'
    have:M.b<X.w.heap.size:=(h2 hMc).1
    have:=hLb hc
    omega⟩
  have hxW:Ext Y W:=⟨w3,by rw[w1];exact Stays.refl _ _,fun b o h=>by rw[w2];exact h,fun b o _=>by rw[w1],w4,fun b o h=>by rw[w2] at h;exact .inl h⟩
  rw[←y1,←w1]
  refine hK W v (y5.trans hxW) (hb W ⟨w1.trans y1,fun b o h=>by rw[w2];exact (y4 b o).2 (.inl h),fun h=>absurd h (by omega),fun h=>absurd h hpk⟩ w7) ?_ ?_
  ·show MemOK W (applyUpd s.mem (frees s.mem ks ++ _)) s.tips
   rw[applyUpd_append]
   exact w6
  ·refine⟨Nat.le_refl _,fun u M hM=>?_⟩<;>grind
 ·match us, hlen with
  |_ :: _ :: _,_=>simp[rowUpd] at hu
end
end Go.Eng
set_option linter.unusedSectionVars false
namespace Go.Eng
open Go Go.RowKit
theorem opt_map {α β : Type} {x:Option α} {f : α→β} {y : β} (h:x.map f=some y):∃ z,x=some z∧f z=y:=by
 simp_all
theorem opt_bind {α β : Type} {x:Option α} {f : α→Option β} {y : β} (h:x.bind f=some y):∃ z,x=some z∧f z=some y:=by
 cases x with
 |none=>cases h
 |some z=>grind
theorem pure_eq {v:AV} {r:Res} (h:Eff.pure v=some r):r=.eff { val:=v,upd:=[],tip:=[],rd:=[] }:=by
 grind[Eff.pure]
theorem V1.of_notTup {X:Cx} {x:AV} {v:Value} (h:notTup x=true) (hv:VR X x v):V1 X x v:=by
 cases x with
 |tup=>cases h
 |_=>exact hv
theorem All2.notTup {X:Cx} : ∀ {xs:List AV} {vs:List Value},xs.all Go.Eng.notTup=true→All2 (VR X) xs vs→All2 (V1 X) xs vs
 |[],[],_,_=>trivial
 |x :: xs,v :: vs,h,hv=>by
  simp only[List.all_cons,Bool.and_eq_true] at h
  exact⟨V1.of_notTup h.1 hv.1,All2.notTup h.2 hv.2⟩
 |[],_ :: _,_,hv=>hv.elim
 |_ :: _,[],_,hv=>hv.elim
theorem memGet_append_lf (m:List (Tr Ent)) (lv sl:Nat):memGet (m++[.lf]) lv sl=memGet m lv sl:=by
 unfold memGet
 grind[Tr.get?]
section
variable {P:Program} {X:Cx} {nt:NT} {s:St} {a:Act} {o:Oper} {dst:Option Nat} {nvi:Nat}
theorem call_shared0 {call:Go.Eng.Call} (hcall:CallOK P call) (hsm:MemOK X s.mem s.tips) (hfr:X.ρ nvi=none) (hnv:nvi<s.nv) (hdom:∀ v,s.nv≤v→X.ρ v=none) {f pk lv sl:Nat} {args:List AV} {vargs:Array Value} {r val:AV} {cm:List (Tr Ent)} {ts:Tr Unit} {n':Nat} {us:List (List (List D))} {u:List (Nat×Nat×Option Ent)}
  (hargs:All2 (VR X) args vargs.toList) (hnt:args.all notTup=true) (hc:call f args (s.mem++[.lf]) s.tips s.nv=some (r,cm,ts,n')) (hi:impR cm s.mem.length pk lv sl nvi r=some (val,us)) (hu:rowUpd lv sl nvi us=some u)
  (hrun:(∃ fn,P.funcs[f]?=some fn∧fn.body.isSome=true∧(fn.name == "runtime.NumGoroutine")=false)→(execOp a.eval o).run P X.w=.ok (.enter f vargs) X.w) :
  After P X s a o dst nvi (.all val (applyUpd (cm.take s.mem.length) u) ts n' [] []):=by
 intro K Q hK
 have hm0:MemOK X (s.mem++[.lf]) s.tips:=hsm.congr (fun lv sl=>memGet_append_lf _ _ _) fun _=>rfl
 obtain⟨hfn,hcalls⟩:=hcall f args (s.mem++[.lf]) s.tips s.nv r cm ts n' hc X vargs hm0 hdom (All2.notTup hnt hargs)
 unfold Oper.wp
 rw[hrun hfn]
 refine Calls.mono hcalls ?_
 rintro e w' ⟨Z,v,rfl,rfl,hxZ,hvZ,hmZ,hn,hdZ⟩
 have hρnvi:Z.ρ nvi=none:=by
  cases hz:Z.ρ nvi with
  |none=>rfl
  |some L=>
   grind
 have hless:MemOK Z (cm.take s.mem.length) ts:=hmZ.less (fun lv sl e he=>by
  rw[memGet_take] at he
  split at he
  ·exact he
  ·cases he) fun _ h=>h
 have key_low:∀ {k:Nat×Nat×Nat} {v:Nat},Holds (cm.take s.mem.length) ts k v→Holds cm ts k v∧∀ lv' sl',s.mem.length≤lv'→k≠keyE lv' sl':=by
  rintro k v (⟨lv',sl',e',rfl,he',hv'⟩|⟨rfl,he'⟩)
  ·rw [memGet_take] at he'
   split at he'
   ·refine ⟨.inl ⟨lv', sl', e', rfl, he', hv'⟩, fun lv'' sl'' hle hq => ?_⟩
    have:=(keyE_inj hq).1<;>omega
   grind
  ·exact⟨.inr ⟨rfl,he'⟩,fun _ _ _ hq=>keyE_ne_keyT hq.symm⟩
 let G:Option Nat→Nat→Nat→Prop:=fun p b _=>some b≠p∧∃ lv' sl' e L,s.mem.length≤lv'∧memGet cm lv' sl'=some e∧e.fz=false∧Z.ρ e.ver=some L∧0<L.cap∧L.b=b
 have mk:∀ p,Ext Z (Z.more (G p))∧MemOK (Z.more (G p)) (cm.take s.mem.length) ts:=by
  intro p
  have hin:∀ b o,G p b o→¬Z.old b∧b<Z.w.heap.size:=by
   rintro b o ⟨_,lv',sl',e,L,_,hg,hz,hL,hc,rfl⟩
   obtain⟨M,hM,h2⟩:=hmZ.holds_ρ (.inl ⟨lv',sl',e,rfl,hg,rfl,hz⟩)<;>grind
  refine⟨Ext.more fun b o h=>(hin b o h).1,hless.more hin ?_⟩
  rintro k v M o hk hv hMc ⟨_,lv',sl',e,L,hle,hg,hz,hL,hc,hb⟩
  obtain⟨h1,h2⟩:=key_low hk
  exact hmZ.apart _ _ _ _ _ _ h1 (.inl ⟨lv',sl',e,rfl,hg,rfl,hz⟩) (h2 lv' sl' hle) hv hL hMc hc hb.symm
 rcases impR_b hmZ hi hvZ with⟨rfl,hb⟩|⟨els,len,sz,v',rfl,⟨hpk,⟨L,off,ad,cap,g3,g4,g5,g6,g7'⟩⟩,hb⟩|hlen
 ·cases hu
  obtain⟨y5,y6⟩:=mk none
  refine hK (Z.more (G none)) v (hxZ.trans y5) (hb (Z.more (G none)) ⟨rfl,fun b o h=>.inl h,fun _ _ _ h=>h,fun _ lv' sl' e L hle hg hz hL hc o=>.inr ⟨by simp,lv',sl',e,L,hle,hg,hz,hL,hc,rfl⟩⟩) y6 ⟨hn,fun u L hL=>?_⟩
  rcases hdZ u L hL with h|h
  ·grind
  ·exact .inr (.inr h)
 ·cases hu
  subst g3
  have g7:=fun hc=>(g7' hc).2
  obtain⟨y5,y6⟩:=mk (some L.b)
  obtain⟨W,w1,w2,w3,w4,w5,w6,w7⟩:=picked_row (Z:=Z) (Y:=Z.more (G (some L.b))) (lv:=lv) (sl:=sl) (ver:=nvi) y6 rfl (fun b o h=>.inl h) (fun _ h=>h) hρnvi g4 g5 g6 g7 fun hc=>⟨fun o h=>by
    rcases h with h|h
    ·exact (g7 hc).2.2.2.2.2.1 o h
    ·exact h.1 rfl,fun k u M hk hM hMc=>by
    obtain⟨h1,h2⟩:=key_low hk
    obtain⟨lv',sl',e,g0,g1,g2⟩:=(g7' hc).1
    exact hmZ.apart _ _ _ _ _ _ h1 (.inl ⟨lv',sl',e,rfl,g1.1,rfl,g1.2⟩) (h2 lv' sl' g0) hM g2 hMc (g7 hc).2.2.2.1⟩
  have hxW:Ext (Z.more (G (some L.b))) W:=⟨w3,by rw[w1];exact Stays.refl _ _,fun b o h=>by rw[w2];exact h,fun b o _=>by rw[w1],w4,fun b o h=>by rw[w2] at h;exact .inl h⟩
  rw[show Z.w=W.w from w1.symm]
  refine hK W v ((hxZ.trans y5).trans hxW) (hb W ⟨w1,fun b o h=>by rw[w2];exact .inl h,fun _ u M hM=>w4 u M hM,fun h=>absurd h hpk⟩ w7) w6 ⟨hn,fun u M hM=>?_⟩
  rcases w5 u M hM with h|h
  ·rcases hdZ u M h with h | h
   ·exact .inl h
   ·exact .inr (.inr h)
  omega
 ·match us, hlen with
  |_ :: _ :: _,_=>simp[rowUpd] at hu
theorem call_shared {call:Go.Eng.Call} (hcall:CallOK P call) (hs:Sim X nt s a) (hfr:X.ρ nvi=none) (hnv:nvi<s.nv) (hdom:∀ v,s.nv≤v→X.ρ v=none) {f pk lv sl:Nat} {args:List AV} {vargs:Array Value} {r val:AV} {cm:List (Tr Ent)} {ts:Tr Unit} {n':Nat} {us:List (List (List D))} {u:List (Nat×Nat×Option Ent)}
  (hargs:All2 (VR X) args vargs.toList) (hnt:args.all notTup=true) (hc:call f args (s.mem++[.lf]) s.tips s.nv=some (r,cm,ts,n')) (hi:impR cm s.mem.length pk lv sl nvi r=some (val,us)) (hu:rowUpd lv sl nvi us=some u)
  (hrun:(∃ fn,P.funcs[f]?=some fn∧fn.body.isSome=true∧(fn.name == "runtime.NumGoroutine")=false)→(execOp a.eval o).run P X.w=.ok (.enter f vargs) X.w) :
  After P X s a o dst nvi (.all val (applyUpd (cm.take s.mem.length) u) ts n' [] []):=
 call_shared0 hcall hs.mem hfr hnv hdom hargs hnt hc hi hu hrun
theorem doKeep_ok {call:Go.Eng.Call} (hcall:CallOK P call) (hs:Sim X nt s a) (hdom:∀ v,s.nv≤v→X.ρ v=none) {f:Nat} {args:List AV} {vargs:Array Value} {r:Res} (hargs:All2 (VR X) args vargs.toList) (hr:doKeep call s f args=some r)
  (hrun:(∃ fn,P.funcs[f]?=some fn∧fn.body.isSome=true∧(fn.name == "runtime.NumGoroutine")=false)→(execOp a.eval o).run P X.w=.ok (.enter f vargs) X.w):After P X s a o dst nvi r:=by
 unfold doKeep at hr
 split at hr
 ·cases hr
 ·rename_i hnt
  split at hr
  ·cases hr
  ·rename_i r' cm ts n' hc
   cases hr
   intro K Q hK
   have hm0:MemOK X (s.mem++[.lf]) s.tips:=hs.mem.congr (fun lv sl=>memGet_append_lf _ _ _) fun _=>rfl
   obtain⟨hfn,hcalls⟩:=hcall f args (s.mem++[.lf]) s.tips s.nv r' cm ts n' hc X vargs hm0 hdom (All2.notTup hnt hargs)
   unfold Oper.wp
   rw[hrun hfn]
   refine Calls.mono hcalls ?_
   rintro e w' ⟨Z,v,rfl,rfl,hxZ,hvZ,hmZ,hn,hdZ⟩
   exact hK Z v hxZ hvZ hmZ ⟨hn,fun u L hL=>(hdZ u L hL).imp id .inr⟩
theorem doGive_ok {call:Go.Eng.Call} (hcall:CallOK P call) (hs:Sim X nt s a) (hfr:X.ρ nvi=none) {f:Nat} {args:List AV} {vargs:Array Value} {r:Res} (hargs:All2 (VR X) args vargs.toList) (hr:doGive call s nvi f args=some r)
  (hrun:(∃ fn,P.funcs[f]?=some fn∧fn.body.isSome=true∧(fn.name == "runtime.NumGoroutine")=false)→(execOp a.eval o).run P X.w=.ok (.enter f vargs) X.w):After P X s a o dst nvi r:=by
 unfold doGive at hr
 split at hr
 ·cases hr
 ·rename_i aSz ks hl
  split at hr
  ·cases hr
  ·rename_i r' cm ts n' hc
   split at hr
   ·rename_i v hi
    have hV:=gives_ok hs.mem (ks:=ks) hl hargs fun p hp=>hp
    have:=call_iso (dst:=dst) hcall hs hfr (pk:=0) (lv:=0) (sl:=0) (rd:=args.flatMap keysIn) hV hc hi (u:=[]) rfl hrun<;>grind
   grind
def Cx.all (X:Cx):Cx:={ w:=X.w,F:=fun b _=>b<X.w.heap.size,ρ:=fun _=>none,old:=fun b=>b<X.w.heap.size }
theorem doLend_ok {call:Go.Eng.Call} (hcall:CallOK P call) (hs:Sim X nt s a) (hfr:X.ρ nvi=none) {f:Nat} {args:List AV} {vargs:Array Value} {r:Res} (hargs:All2 (VR X) args vargs.toList) (hr:doLend call s nvi f args=some r)
  (hrun:(∃ fn,P.funcs[f]?=some fn∧fn.body.isSome=true∧(fn.name == "runtime.NumGoroutine")=false)→(execOp a.eval o).run P X.w=.ok (.enter f vargs) X.w):After P X s a o dst nvi r:=by
 unfold doLend at hr
 split at hr
 ·cases hr
 ·rename_i aSz hl
  split at hr
  ·cases hr
  ·rename_i r' cm ts n' hc
   split at hr
   ·rename_i v hi
    cases hr
    have hV:=lendSs_ok hs.mem [] hl hargs
    have:=call_iso (dst:=dst) hcall hs hfr (pk:=0) (lv:=0) (sl:=0) (rd:=args.flatMap keysIn) hV hc hi (ks:=[]) (u:=[]) rfl hrun
    exact this
   grind
theorem all_mem (X:Cx) (hl:Low X):MemOK X.all [.lf] .lf:=by
 refine⟨fun lv sl e he=>?_,fun v hv=>by simp at hv,fun k k' v v' L L' _ _ _ hv _ _ _=>?_,fun _ _ h=>h,fun _ h=>h,fun b hb=>hl.lt b (hl.gb b hb),hl.gk⟩
 ·unfold memGet at he
  grind[Tr.get?,EntOK,Ent.ver,Cx.all]
 ·cases hv
theorem cellF_ok {m:List (Tr Ent)} {t:Tr Unit} (h:MemOK X m t) {x:AV} {y:D} {v:Value} (hx:cellF m x=some y) (hv:VC X x v):DR X.w X.all.F y v:=by
 have hsub:∀ b o,X.F b o→X.all.F b o:=fun b o hb=>h.inF b o hb
 have lent:∀ {els a cap sz b o} {R:Nat→Nat→Prop},v=.slice a els.length cap→els.length≤cap→(0<els.length→a=some ⟨b,o,none⟩)→Lies X.w X.F R els b o sz→DR X.w X.all.F (.sl els) v:=by
  rintro els a cap sz b o R rfl h2 h3 h4
  exact DR.of_lies (h4.mono hsub fun q hq _=>cell_lt hq) rfl h2 h3
 cases x with
 |d x=>cases hx;exact DR.mono hsub hv
 |own els ow=>
  cases hx
  cases ow with
  |full=>obtain⟨a,b,o,sz,h1,h2,h3⟩:=hv<;>grind
  |tip ver tz=>obtain⟨a,b,o,sz,cap,h1,h2,h3,h4,_⟩:=hv<;>grind
  |bor=>obtain⟨a,b,o,sz,cap,h1,h2,h3,h4⟩:=hv<;>grind
 | ref lv sl ver off len sz =>
  simp[cellF] at hx
  cases he:elsOf m (.ref lv sl ver off len sz) with
  |none=>grind
  |some els=>
   obtain⟨a,cap,sz',b,o,h1,h2,h3,h4⟩:=elsOf_ok h he (.of_VC hv)<;>grind
 |_=>cases hx
theorem chunk_get {α : Type} {sz:Nat} : ∀ {n:Nat} {l:List α},l.length=n*sz→(chunk sz n l).length=n∧(∀ e∈chunk sz n l,e.length=sz)∧∀ (i j:Nat) e x,(chunk sz n l)[i]?=some e→e[j]?=some x→j<sz∧i<n∧l[i*sz+j]?=some x
 |0,l,h=>⟨rfl,fun e he=>(by cases he),fun i j e x h1 _=>by simp[chunk] at h1⟩
 | n + 1, l, h => by
  have hl:(l.drop sz).length=n*sz:=by rw[List.length_drop,h,Nat.succ_mul];omega
  obtain⟨h1,h2,h3⟩:=chunk_get (sz:=sz) hl
  have ht:(l.take sz).length=sz:=by rw[List.length_take,h,Nat.succ_mul];omega
  refine⟨by simp[chunk,h1],fun e he=>?_,fun i j e x he hx=>?_⟩
  ·simp [chunk, List.mem_cons] at he
   rcases he with rfl|he
   ·exact ht
   ·exact h2 e he
  ·cases i with
   | zero =>
    cases he
    have hj:j<sz:=by
     have:=(List.getElem?_eq_some_iff.1 hx).1
     omega
    rw[List.getElem?_take,if_pos hj] at hx
    exact⟨hj,by omega,by rw[Nat.zero_mul,Nat.zero_add];exact hx⟩
   |succ i=>
    obtain⟨g1,g2,g3⟩:=h3 i j e x he hx
    refine⟨g1,by omega,?_⟩
    simp at g3
    rw[Nat.succ_mul,show i*sz+sz+j=sz+(i*sz+j) by omega]
    exact g3
theorem cellsG_at {f:AV→Option D} : ∀ {xs:List AV} {ys:List D},cellsG f xs=some ys→ys.length=xs.length∧∀ (k:Nat) (y:D),ys[k]?=some y→∃ a,xs[k]?=some a∧f a=some y
 |[],ys,h=>by grind[cellsG]
 | a :: xs, ys, h => by
  simp[cellsG] at h
  split at h
  ·rename_i z zs h1 h2
   cases h
   obtain⟨g1,g2⟩:=cellsG_at h2<;>grind
  grind
theorem deepF_ok {m:List (Tr Ent)} {t:Tr Unit} (h:MemOK X m t):∀ (k:Nat) {x:AV} {y:D} {v:Value},deepF m k x=some y→VC X x v→DR X.w X.all.F y v
 |0,_,_,_,hx,hv=>cellF_ok h hx hv
 | k + 1, x, y, v, hx, hv => by
  unfold deepF at hx
  split at hx
  ·rename_i lv sl ver off n sz
   split at hx
   ·rename_i cs hb
    split at hx
    ·rename_i hoff
     obtain⟨ds,hd,rfl⟩:=opt_map hx
     obtain⟨L,cap0,hL,rfl,hcap,hn,_⟩:=hv
     obtain⟨L',hL',hE⟩:=h.ents lv sl _ (boxAt_mem hb)
     have hL':X.ρ ver=some L':=hL'
     rw[hL] at hL';injection hL' with hL';subst hL'
     obtain⟨_,hblk,hno,hcell⟩:=hE
     obtain⟨hdl,cell⟩:=cellsG_at hd
     have hdl:ds.length=n*sz:=by rw[hdl,List.length_take,List.length_drop];omega
     obtain⟨c1,c2,c3⟩:=chunk_get hdl
     refine DR.of_lies (b:=L.b) (o:=L.o+off) (sz:=sz) ⟨c2,fun i e j x h1 h2=>?_⟩ c1 hcap fun _=>rfl
     obtain⟨g1,g2,g3⟩:=c3 i j e x h1 h2
     refine⟨hblk.lt,?_⟩
     obtain⟨a,ha,hca⟩:=cell _ _ g3
     rw[List.getElem?_take] at ha
     split at ha
     ·rw [List.getElem?_drop] at ha
      obtain⟨u,hu,hvc⟩:=hcell _ _ ha
      refine⟨u,?_,deepF_ok h k hca hvc⟩
      rw[show L.o+off+i*sz+j=L.o+(off+(i*sz+j)) by omega]
      exact hu
     ·cases ha
    grind
   grind
  ·exact cellF_ok h hx hv
theorem deepFs_ok {m:List (Tr Ent)} {t:Tr Unit} (h:MemOK X m t) {k:Nat} : ∀ {xs:List AV} {ys:List D} {vs:List Value},cellsG (deepF m k) xs=some ys→All2 (VC X) xs vs→All2 (DR X.w X.all.F) ys vs
 |[],ys,[],hx,_=>by cases hx;trivial
 | x :: xs, ys, v :: vs, hx, hv => by
  simp[cellsG] at hx
  split at hx
  ·rename_i y ys' h1 h2
   cases hx
   exact⟨deepF_ok h k h1 hv.1,deepFs_ok h h2 hv.2⟩
  grind
 |[],_,_ :: _,_,hv=>hv.elim
 |_ :: _,_,[],_,hv=>hv.elim
theorem argF_ok {m:List (Tr Ent)} {t:Tr Unit} (h:MemOK X m t) {x y:AV} {v:Value} (hx:argF m x=some y) (hv:VR X x v):V1 X.all y v:=by
 have one:∀ {x:AV},(deepF m 2 x).map AV.d=some y→VC X x v→V1 X.all y v:=by
  intro x hx hv
  obtain⟨d,hd,rfl⟩:=opt_map hx
  exact .of_VC (deepF_ok h 2 hd hv)
 cases x with
 |agg cs=>
  obtain⟨ds,hd,rfl⟩:=opt_map hx
  obtain⟨vs,rfl,h3⟩:=hv
  exact⟨vs,rfl,(deepFs_ok h hd h3).mapD (X:=X.all)⟩
 |clo f c=>
  cases c with
  |nil=>simp only[argF] at hx;injection hx with hx;subst hx;exact .of_VC (clo_nil hv)
  |cons=>simp[argF,deepF,cellF] at hx
 |tup cs=>simp[argF,deepF,cellF] at hx
 |dptr e off=>
  simp only[argF] at hx;injection hx with hx;subst hx
  obtain⟨b,o,rfl,hc⟩:=hv
  refine⟨b,o,rfl,fun j x hj=>?_⟩
  obtain⟨hF,u,hu,hd⟩:=hc j x hj
  refine⟨.inl ?_,u,hu,DR.mono (fun b o hb=>h.inF b o hb) hd⟩
  rcases hF with hF|hF
  ·exact h.inF _ _ hF
  ·exact h.low _ hF
 | ptr lv sl ver i off =>
  simp only[argF] at hx
  split at hx
  ·rename_i cs hb hi
   obtain⟨ds,hd,rfl⟩:=opt_map hx
   have hi:=Nat.eq_of_beq_eq_true hi
   subst hi
   obtain⟨L,hL,rfl⟩:=hv
   obtain⟨L',hL',hE⟩:=h.ents lv sl _ (boxAt_mem hb)
   have hL':X.ρ ver=some L':=hL'
   rw[hL] at hL';injection hL' with hL';subst hL'
   obtain⟨_,hblk,hno,hcell⟩:=hE
   obtain⟨_,cell⟩:=cellsG_at hd
   refine⟨L.b,L.o,by rw[Nat.zero_mul,Nat.add_zero],fun j x hj=>⟨.inl hblk.lt,?_⟩⟩
   obtain⟨a,ha,hca⟩:=cell _ _ hj
   obtain⟨u,hu,hvc⟩:=hcell _ _ ha
   exact⟨u,hu,deepF_ok h 2 hca hvc⟩
  ·cases hx
 |_=>simp only[argF] at hx;exact one hx hv
theorem argsF_ok {m:List (Tr Ent)} {t:Tr Unit} (h:MemOK X m t):∀ {xs ys:List AV} {vs:List Value},argsF m xs=some ys→All2 (VR X) xs vs→All2 (V1 X.all) ys vs
 |[],ys,[],hx,_=>by cases hx;trivial
 | x :: xs, ys, v :: vs, hx, hv => by
  simp[argsF] at hx
  split at hx
  ·rename_i y ys' h1 h2
   cases hx
   exact⟨argF_ok h h1 hv.1,argsF_ok h h2 hv.2⟩
  grind
 |[],_,_ :: _,_,hv=>hv.elim
 |_ :: _,_,[],_,hv=>hv.elim
theorem flatC_move {A B:Cx} {x:AV} {v:Value} (h:flatC x=true) (hv:VC A x v):VC B x v:=by
 unfold flatC at h
 split at h
 ·cases hv with
  |sc v h1=>exact DR.sc v h1
 ·cases hv with
  |rg k e=>exact DR.rg _ _
 ·cases hv with
  |sl els a n cap sz b o g hn hcap hsz ha hF hc hr=>exact DR.sl [] a n cap sz b o g hn hcap (fun _ h=>by cases h) ha (fun _ _ _ _ h=>by cases h) (fun _ _ _ _ h=>by cases h) (fun _ _ _ _ h=>by cases h)
 grind
theorem flatCs_move {A B:Cx} : ∀ {xs:List AV} {vs:List Value},xs.all flatC=true→All2 (VC A) xs vs→All2 (VC B) xs vs
 |[],[],_,_=>trivial
 |x :: xs,v :: vs,h,hv=>by
  rw[List.all_cons,Bool.and_eq_true] at h
  exact⟨flatC_move h.1 hv.1,flatCs_move h.2 hv.2⟩
 |[],_ :: _,_,hv=>hv.elim
 |_ :: _,[],_,hv=>hv.elim
theorem flat1_move {A B:Cx} {x:AV} {v:Value} (h:flat1 x=true) (hv:V1 A x v):V1 B x v:=by
 cases x with
 |agg cs=>obtain⟨vs,rfl,h3⟩:=hv;exact⟨vs,rfl,flatCs_move h h3⟩
 |d x=>exact .of_VC (flatC_move (A:=A) h hv)
 |_=>cases h
theorem flat1s_move {A B:Cx} : ∀ {xs:List AV} {vs:List Value},xs.all flat1=true→All2 (V1 A) xs vs→All2 (V1 B) xs vs
 |[],[],_,_=>trivial
 |x :: xs,v :: vs,h,hv=>by
  rw[List.all_cons,Bool.and_eq_true] at h
  exact⟨flat1_move h.1 hv.1,flat1s_move h.2 hv.2⟩
 |[],_ :: _,_,hv=>hv.elim
 |_ :: _,[],_,hv=>hv.elim
theorem flatR_move {A B:Cx} {x:AV} {v:Value} (h:flatR x=true) (hv:VR A x v):VR B x v:=by
 cases x with
 |tup cs=>obtain⟨vs,rfl,h3⟩:=hv;exact⟨vs,rfl,flat1s_move h h3⟩
 |agg cs=>exact .of_V1 (flat1_move (A:=A) h hv)
 |d x=>exact .of_V1 (flat1_move (A:=A) h hv)
 |_=>cases h
theorem doFlat_ok {call:Go.Eng.Call} (hcall:CallOK P call) (hs:Sim X nt s a) {f:Nat} {args:List AV} {vargs:Array Value} {r:Res}
  (hargs:All2 (VR X) args vargs.toList) (hr:doFlat call s f args=some r)
  (hrun:(∃ fn,P.funcs[f]?=some fn∧fn.body.isSome=true∧(fn.name == "runtime.NumGoroutine")=false)→(execOp a.eval o).run P X.w=.ok (.enter f vargs) X.w):After P X s a o dst nvi r:=by
 unfold doFlat at hr
 split at hr
 ·cases hr
 ·rename_i aSz hl
  split at hr
  ·cases hr
  ·rename_i r' cm ts n' hc
   split at hr
   case h_2=>cases hr
   rename_i v hi
   split at hr
   case h_2=>cases hr
   rename_i hfl
   cases hr
   intro K Q hK
   have hV:=argsF_ok hs.mem hl hargs
   obtain⟨hfn,hcalls⟩:=hcall f aSz [.lf] .lf 0 r' cm ts n' hc X.all vargs (all_mem X hs.mem.lows) (fun _ _=>rfl) hV
   unfold Oper.wp
   rw[hrun hfn]
   refine Calls.mono hcalls ?_
   rintro e w' ⟨Z,v',rfl,rfl,hxZ,hvZ,hmZ,_,_⟩
   have hblk:∀ b,b<X.w.heap.size→Z.w.heap[b]?=X.w.heap[b]?:=fun b hb=>hxZ.below.block b hb
   let Y:Cx:={ w:=Z.w,F:=X.F,ρ:=X.ρ,old:=X.old }
   have hx:Ext X Y:=⟨rfl,hxZ.below.mono hs.mem.low,fun _ _ h=>h,fun b o h=>hxZ.keep b o (hs.mem.inF b o h),fun _ _ h=>h,fun _ _ h=>.inl h⟩
   have hm:MemOK Y s.mem s.tips:=hs.mem.move hx (fun k v L hk hv hc=>by
     obtain⟨M,hM,h2⟩:=hs.mem.holds_ρ hk
     rw[hv] at hM;injection hM with hM;subst hM
     exact hblk _ (h2 hc).1) (fun _ _ _ _ _ _ _ h=>h) fun b o h=>Nat.lt_of_lt_of_le (hs.mem.inF b o h) hxZ.below.size
   have hvr:VR Y v v':=by
    rcases impR_b hmZ hi hvZ with⟨_,hb⟩|⟨_,_,_,_,h,_⟩|h
    ·exact flatR_move hfl (hb { Z with F:=fun _ _=>True } ⟨rfl,fun _ _ _=>trivial,fun h=>absurd h (by omega),fun _ _ _ _ _ _ _ _ _ _ _=>trivial⟩)
    ·cases h
    ·simp at h
   refine hK Y v' hx hvr ?_ (DomOK.of_ρ rfl)
   exact hm
theorem doCall_ok {call:Go.Eng.Call} (hcall:CallOK P call) (hs:Sim X nt s a) (hfr:X.ρ nvi=none) (hnv:nvi<s.nv) (hdom:∀ v,s.nv≤v→X.ρ v=none) {shared:Bool} {f pk lv sl:Nat} {args:List AV} {vargs:Array Value} {r:Res}
  (hargs:All2 (VR X) args vargs.toList) (hr:doCall call shared pk s lv sl nvi f args=some r)
  (hrun:(∃ fn,P.funcs[f]?=some fn∧fn.body.isSome=true∧(fn.name == "runtime.NumGoroutine")=false)→(execOp a.eval o).run P X.w=.ok (.enter f vargs) X.w):After P X s a o dst nvi r:=by
 unfold doCall at hr
 split at hr
 ·split at hr
  ·cases hr
  ·rename_i aSz ks hl
   split at hr
   ·cases hr
   ·rename_i r' cm ts n' hc
    split at hr
    ·cases hr
    ·rename_i v us hi
     split at hr
     ·cases hr
     ·rename_i u hu
      cases hr
      exact call_iso hcall hs hfr (lends_ok hs.mem (ks:=ks) hl hargs fun p hp=>hp) hc hi hu hrun
 ·split at hr
  ·cases hr
  ·rename_i hnt
   split at hr
   ·cases hr
   ·rename_i r' cm ts n' hc
    split at hr
    ·cases hr
    ·rename_i v us hi
     split at hr
     ·cases hr
     ·rename_i u hu
      cases hr
      exact call_shared hcall hs hfr hnv hdom hargs hnt hc hi hu hrun
end
end Go.Eng
