/- slices.Sort of whole numbers: met by what it does. -/
import Derived.Test.YtleacocdepjflaaGreatEngO
namespace Go.Eng
open Go Go.RowKit
structure SortW (w w':World) (b off:Nat) (zs:List Int):Prop where
 os:w'.os=w.os
 tape:w'.tape=w.tape
 output:w'.output=w.output
 size:w.heap.size≤w'.heap.size
 other:∀ k,k<w.heap.size→k≠b→w'.heap[k]?=w.heap[k]?
 row:∀ C e,w.heap[b]?=some (.cells C e (0,0))→∃ C',w'.heap[b]?=some (.cells C' e (0,0))∧C'.size=C.size∧∀ j z,zs[j]?=some z→C'[off+j]?=some (.int .i64 z)
structure IsSort (P:Program) (f:Nat):Prop where
 fn:∃ fn,P.funcs[f]?=some fn∧fn.body.isSome=true∧(fn.name == "runtime.NumGoroutine")=false
 empty:∀ p cap w,Calls P f #[.slice p 0 cap] w fun e w'=>e=.returned (.tuple #[])∧w'=w
 rows:∀ b off cap zs w C e,w.heap[b]?=some (.cells C e (0,0))→(∀ (j:Nat) z,zs[j]?=some z→C[off+j]?=some (.int .i64 z))→0<zs.length→zs.length<4611686018427387904→
  Calls P f #[.slice (some ⟨b,off,none⟩) zs.length cap] w fun e w'=>e=.returned (.tuple #[])∧SortW w w' b off (sortI zs)
structure IsCompact (P:Program) (f:Nat):Prop where
 fn:∃ fn,P.funcs[f]?=some fn∧fn.body.isSome=true∧(fn.name == "runtime.NumGoroutine")=false
 empty:∀ p cap w,Calls P f #[.slice p 0 cap] w fun e w'=>e=.returned (.slice p 0 cap)∧w'=w
 rows:∀ b off cap zs w C e,w.heap[b]?=some (.cells C e (0,0))→(∀ (j:Nat) z,zs[j]?=some z→C[off+j]?=some (.int .i64 z))→0<zs.length→zs.length<4611686018427387904→zs.length≤cap→
  Calls P f #[.slice (some ⟨b,off,none⟩) zs.length cap] w fun e w'=>e=.returned (.slice (some ⟨b,off,none⟩) (compI zs).length cap)∧SortW w w' b off (compI zs)
structure IsLib (P:Program) (f T:Nat):Prop where
 clone:T≠1000000→T≠1000001→IsClone P f T
 sort:T=1000000→IsSort P f
 compact:T=1000001→IsCompact P f
theorem intsOf_some:∀ {els:List (List D)} {zs:List Int},intsOf els=some zs→els=intsL zs
 |[],zs,h=>by injection h with h;subst h;rfl
 | e :: r, zs, h => by
  unfold intsOf at h
  split at h
  ·rename_i h1;cases h1
  ·rename_i z r' h1
   injection h1 with h1 h2
   subst h1 h2
   obtain⟨y,hy,rfl⟩:=Option.map_eq_some_iff.1 h
   rw[intsOf_some hy]
   rfl
  ·cases h
theorem insI_length (x:Int):∀ l,(insI x l).length=l.length+1
 |[]=>rfl
 |y :: r=>by
  unfold insI
  split
  ·rfl
  ·rw[List.length_cons,insI_length x r];rfl
theorem sortI_length:∀ l,(sortI l).length=l.length
 |[]=>rfl
 |x :: r=>by rw[sortI,insI_length,sortI_length r];rfl
section
variable {P:Program} {X:Cx} {nt:NT} {s:St} {a:Act} {o:Oper} {dst:Option Nat} {nvi:Nat}
theorem sortW_ext (hm:MemOK X s.mem s.tips) {w':World} {b off:Nat} {zs:List Int} (h:SortW X.w w' b off zs) (hb:¬X.old b) (hF:∀ o,¬X.F b o):Ext X { X with w:=w' }:=by
 have hlow:=hm.low
 refine⟨rfl,⟨h.os,h.tape,h.output,h.size,fun k hk=>h.other k (hlow k hk) fun e=>hb (e ▸ hk)⟩,fun _ _ h=>h,fun c o hc=>?_,fun _ _ h=>h,fun _ _ h=>.inl h⟩
 have hne:c≠b:=by rintro rfl;exact hF o hc
 simp[World.cell?,h.other c (hm.inF c o hc) hne]
theorem sort_after (hs:Sim X nt s a) {f:Nat} {x:Operand} {x':Opd} {_ts:Array TypeId} {E:Eff} (hc:IsSort P f) (hrun:(execOp a.eval o).run P X.w=.ok (.enter f #[a.eval x]) X.w)
  (hx:opd x=some x') (hr:sortA s (x'.ev s.slots)=some E):After P X s a o dst nvi (.eff E):=by
 have hv:=opd_ok hs hx
 intro K Q hK
 unfold Oper.wp
 rw[hrun,Oper.upon_enter]
 have hu:∀ Y:Cx,VR Y undefA (.tuple #[]):=fun Y=>⟨#[],rfl,trivial⟩
 unfold sortA at hr
 split at hr
 ·rename_i he
  injection hr with hr;subst hr
  rw[he] at hv
  obtain⟨ad,b,off,sz,hxe,_⟩:=hv
  rw[hxe]
  refine Calls.mono (hc.empty ad 0 X.w) ?_
  rintro en w' ⟨rfl,rfl⟩
  exact hK X _ (Ext.refl X) (hu X) hs.mem ⟨Nat.le_refl _,fun v L h=>.inl h⟩
 ·rename_i lv sl ver off len sz he
  split at hr
  ·rename_i els hrow
   obtain⟨zs,hz,hr2⟩:=Option.bind_eq_some_iff.1 hr
   clear hr
   split at hr2
   ·rename_i hcnd
    obtain⟨rfl,rfl,rfl,hlt⟩:=hcnd
    injection hr2 with hr2;subst hr2
    rw[he] at hv
    have hels:=intsOf_some hz
    have hlen:els.length=zs.length:=by rw[hels];simp[intsL]
    obtain⟨L,hL,hE,hg⟩:=row_lies hs.mem hrow
    obtain⟨L1,ad,cap,hL1,h1,hxe,h3,h4⟩:=hv
    rw[hL] at hL1;injection hL1 with hL1;subst hL1
    rw[hxe]
    by_cases h0:els.length=0
    ·have hz0 : zs = [] := List.eq_nil_of_length_eq_zero (by omega)
     have he0:els=[]:=List.eq_nil_of_length_eq_zero h0
     subst hz0
     rw[h0]
     refine Calls.mono (hc.empty ad cap X.w) ?_
     rintro en w' ⟨rfl,rfl⟩
     refine hK X _ (Ext.refl X) (hu X) ?_ ⟨Nat.le_refl _,fun v L h=>.inl h⟩
     show MemOK X (memSet s.mem lv sl (some (.row ver []))) s.tips
     refine hs.mem.congr (fun lv' sl'=>?_) fun _=>rfl
     rw[memGet_set]
     split
     ·rename_i hcc
      obtain⟨q1,q2,_⟩:=hcc
      subst q1 q2
      rw[hg,he0]
     ·rfl
    ·obtain ⟨rfl, h5⟩ := h4 (by omega)
     have hc0:0<L.cap:=by omega
     obtain⟨C,ce,hb2,hb1,hb3,hb4,hb5,hb6,hap,hcont⟩:=row_block hs.mem hg hL hc0
     have hC:∀ (j:Nat) z,zs[j]?=some z→C[L.o+j]?=some (.int .i64 z):=by
      intro j z hj
      have hq:els[j]?=some [.sc (.int .i64 z)]:=by rw[hels];simp[intsL,hj]
      obtain⟨v,hv,hd⟩:=hcont j _ 0 _ hq rfl
      rw[h1,Nat.mul_one,Nat.add_zero] at hv
      rw[hv]
      cases hd with
      |sc v _=>rfl
     have hcall:=hc.rows L.b L.o cap zs X.w C ce hb2 hC (by omega) (by omega)
     rw[←hlen] at hcall
     rw[show L.o+0*1=L.o from by omega]
     refine Calls.mono hcall ?_
     rintro en w' ⟨rfl,hw⟩
     have hx:=sortW_ext hs.mem hw hb1 hb4
     refine hK { X with w:=w' } _ hx (hu _) ?_ ⟨Nat.le_refl _,fun v L h=>.inl h⟩
     show MemOK _ (memSet s.mem lv sl (some (.row ver (intsL (sortI zs))))) s.tips
     obtain⟨C',hq1,hq2,hq3⟩:=hw.row C ce hb2
     have hmm:MemOK { X with w:=w' } (memSet s.mem lv sl none) s.tips:=(hs.mem.erase lv sl).move hx (fun k v M a b c=>by
       obtain⟨M',hM',h2⟩:=(hs.mem.erase lv sl).holds_ρ a
       rw[b] at hM';injection hM' with hM';subst hM'
       exact hw.other M.b (h2 c).1 (hap k v M a b c)) (fun _ _ _ _ _ _ _ h=>h) (fun b o hb=>by
       have:=hs.mem.inF b o hb
       have:=hw.size
       show b<w'.heap.size
       omega)
     have hsl:(sortI zs).length=zs.length:=sortI_length zs
     refine hmm.reset (e:=.row ver (intsL (sortI zs))) (L:=L) hL ⟨by simp only[intsL,List.length_map];omega,fun e he=>?_,fun _=>⟨⟨hb1,C',ce,hq1,by rw[hq2];exact hb3⟩,hb4⟩,fun q f j x hq hj=>?_⟩ fun k v M a b c _=>hap k v M a b c
     ·simp only [intsL, List.mem_map] at he
      obtain⟨z,_,rfl⟩:=he
      rw[h1];rfl
     ·simp only [intsL, List.getElem?_map, Option.map_eq_some_iff] at hq
      obtain⟨z,hz',rfl⟩:=hq
      have hj0:j=0∧x=.sc (.int .i64 z):=by
       cases j with
       |zero=>simp at hj;exact⟨rfl,hj.symm⟩
       |succ j=>simp at hj
      obtain⟨rfl,rfl⟩:=hj0
      refine⟨.int .i64 z,?_,.sc _ rfl⟩
      show World.cell? w' ⟨L.b,L.o+q*L.sz+0,none⟩=_
      rw[cell_of_row _ _ _ _ _ _ hq1,h1,Nat.mul_one,Nat.add_zero]
      exact hq3 q z hz'
   ·cases hr2
  ·cases hr
 ·cases hr
theorem compI_length:∀ l,(compI l).length≤l.length
 |[]=>Nat.le_refl _
 | x :: r => by
  unfold compI
  split
  ·simp
  ·split
   ·exact Nat.le_succ_of_le (compI_length _)
   ·rw [List.length_cons, List.length_cons]
    exact Nat.succ_le_succ (compI_length _)
theorem compact_after (hs : Sim X nt s a) (hfr : X.ρ nvi = none) {f : Nat} {x : Operand} {x' : Opd} {_ts : Array TypeId} {E : Eff} (hc : IsCompact P f) (hrun : (execOp a.eval o).run P X.w = .ok (.enter f #[a.eval x]) X.w)
  (hx:opd x=some x') (hr:compactA s nvi (x'.ev s.slots)=some E):After P X s a o dst nvi (.eff E):=by
 have hv:=opd_ok hs hx
 intro K Q hK
 unfold Oper.wp
 rw[hrun,Oper.upon_enter]
 unfold compactA at hr
 split at hr
 ·rename_i he
  injection hr with hr;subst hr
  rw[he] at hv
  have hv':=hv
  obtain⟨ad,b,off,sz,hxe,_⟩:=hv
  rw[hxe] at hv' ⊢
  refine Calls.mono (hc.empty ad 0 X.w) ?_
  rintro en w' ⟨rfl,rfl⟩
  exact hK X _ (Ext.refl X) hv' hs.mem ⟨Nat.le_refl _,fun v L h=>.inl h⟩
 ·rename_i lv sl ver off len sz he
  split at hr
  ·rename_i els hrow
   obtain⟨zs,hz,hr2⟩:=Option.bind_eq_some_iff.1 hr
   clear hr
   split at hr2
   ·rename_i hcnd
    obtain⟨rfl,rfl,rfl,hlt⟩:=hcnd
    injection hr2 with hr2;subst hr2
    rw[he] at hv
    have hv':=hv
    have hels:=intsOf_some hz
    have hlen:els.length=zs.length:=by rw[hels];simp[intsL]
    obtain⟨L,hL,hE,hg⟩:=row_lies hs.mem hrow
    obtain⟨L1,ad,cap,hL1,h1,hxe,h3,h4⟩:=hv
    rw[hL] at hL1;injection hL1 with hL1;subst hL1
    rw[hxe] at hv' ⊢
    by_cases h0:els.length=0
    ·have hz0 : zs = [] := List.eq_nil_of_length_eq_zero (by omega)
     have he0:els=[]:=List.eq_nil_of_length_eq_zero h0
     subst hz0
     obtain⟨Y,hw,g1,g2,g3,g4⟩:=cut_ref (n:=s.nv) hs.mem hfr (l:=0) (h':=0) hv' hrow (Nat.le_refl _) (Nat.zero_le _) (by omega)
     rw[h0]
     refine Calls.mono (hc.empty ad cap X.w) ?_
     rintro en w' ⟨rfl,rfl⟩
     rw[←hw]
     refine hK Y _ g1 ?_ ?_ g4
     ·have e : (if cap = 0 then ad else ad.map (·.add (0 * 1))) = ad := by
       split
       ·rfl
       ·rw [(h4 (by omega)).1]
        simp[Addr.add_lit]
      rw[e] at g2
      exact g2
     ·exact g3
    ·obtain ⟨rfl, h5⟩ := h4 (by omega)
     have hc0:0<L.cap:=by omega
     obtain⟨C,ce,hb2,hb1,hb3,hb4,hb5,hb6,hap,hcont⟩:=row_block hs.mem hg hL hc0
     have hC:∀ (j:Nat) z,zs[j]?=some z→C[L.o+j]?=some (.int .i64 z):=by
      intro j z hj
      have hq:els[j]?=some [.sc (.int .i64 z)]:=by rw[hels];simp[intsL,hj]
      obtain⟨v,hv,hd⟩:=hcont j _ 0 _ hq rfl
      rw[h1,Nat.mul_one,Nat.add_zero] at hv
      rw[hv]
      cases hd with
      |sc v _=>rfl
     have hcall:=hc.rows L.b L.o cap zs X.w C ce hb2 hC (by omega) (by omega) (by omega)
     rw[←hlen] at hcall
     rw[show L.o+0*1=L.o from by omega]
     refine Calls.mono hcall ?_
     rintro en w' ⟨rfl,hw⟩
     have hx:=sortW_ext hs.mem hw hb1 hb4
     let L':Loc:=⟨L.b,L.o,1,cap⟩
     have hfr':({ X with w:=w' } : Cx).ρ nvi=none:=hfr
     have hxn:Ext { X with w:=w' } (({ X with w:=w' } : Cx).name nvi L'):=name_ext hfr'
     have hsl:=compI_length zs
     refine hK (({ X with w:=w' } : Cx).name nvi L') _ (hx.trans hxn) ⟨L',_,cap,name_ρ,rfl,rfl,by omega,fun _=>⟨by simp[L'],by simp[L']⟩⟩ ?_ ⟨Nat.le_refl _,fun v M hw=>by
      rcases (name_dom (X:={ X with w:=w' }) (v:=nvi) (n:=0) (L:=L')).2 v M hw with hq|hq|hq
      ·exact .inl hq
      ·exact .inr (.inl hq)
      ·omega⟩
     show MemOK _ (memSet s.mem lv sl (some (.row nvi (intsL (compI zs))))) s.tips
     obtain⟨C',hq1,hq2,hq3⟩:=hw.row C ce hb2
     have hmm:MemOK { X with w:=w' } (memSet s.mem lv sl none) s.tips:=(hs.mem.erase lv sl).move hx (fun k v M a b c=>by
       obtain⟨M',hM',h2⟩:=(hs.mem.erase lv sl).holds_ρ a
       rw[b] at hM';injection hM' with hM';subst hM'
       exact hw.other M.b (h2 c).1 (hap k v M a b c)) (fun _ _ _ _ _ _ _ h=>h) (fun b o hb=>by
       have:=hs.mem.inF b o hb
       have:=hw.size
       show b<w'.heap.size
       omega)
     refine (name_mem hmm hfr').reset (e:=.row nvi (intsL (compI zs))) (L:=L') name_ρ ⟨by simp only[intsL,List.length_map,L'];omega,fun e he=>?_,fun _=>⟨⟨hb1,C',ce,hq1,?_⟩,hb4⟩,fun q f j x hq hj=>?_⟩ fun k v M a b c _=>?_
     ·simp only [intsL, List.mem_map] at he
      obtain⟨z,_,rfl⟩:=he
      rfl
     ·show L.o + cap * 1 ≤ C'.size
      rw[hq2]
      rw[h1] at hb3
      omega
     ·simp only [intsL, List.getElem?_map, Option.map_eq_some_iff] at hq
      obtain⟨z,hz',rfl⟩:=hq
      have hj0:j=0∧x=.sc (.int .i64 z):=by
       cases j with
       |zero=>simp at hj;exact⟨rfl,hj.symm⟩
       |succ j=>simp at hj
      obtain⟨rfl,rfl⟩:=hj0
      refine⟨.int .i64 z,?_,.sc _ rfl⟩
      show World.cell? w' ⟨L.b,L.o+q*1+0,none⟩=_
      rw[cell_of_row _ _ _ _ _ _ hq1,Nat.mul_one,Nat.add_zero]
      exact hq3 q z hz'
     ·obtain ⟨M', hM', _⟩ := (hs.mem.erase lv sl).holds_ρ a
      have h9:(({ X with w:=w' } : Cx).name nvi L').ρ v=some M':=hxn.loc _ _ hM'
      rw[b] at h9;injection h9 with h9;subst h9
      exact hap k v M a hM' c
   ·cases hr2
  ·cases hr
 ·cases hr
theorem mov_after {lq:Nat} (hs:Sim X nt s a) (hfr:X.ρ nvi=none) {x:Operand} {x':Opd} {row d:Nat} (hrun:(execOp a.eval o).run P X.w=.ok (.value (a.eval x)) X.w) (hx:opd x=some x') :
  After P X s a o dst nvi (.eff (movA row lq d nvi (x'.ev s.slots))):=by
 have hv:=opd_ok hs hx
 unfold movA
 split
 ·rename_i he
  rw[he] at hv
  obtain⟨ad,b,off,sz,hxe,_⟩:=hv
  refine .value (Y:=X.name nvi ⟨0,0,row / 65536,0⟩) (by rw[hrun,hxe];rfl) (name_ext hfr) ⟨⟨0,0,row / 65536,0⟩,ad,0,name_ρ,rfl,rfl,Nat.le_refl _,fun hq=>absurd hq (by simp)⟩ ?_ name_dom
  exact (name_mem hs.mem hfr).add (e:=.row nvi []) (L:=⟨0,0,row / 65536,0⟩) name_ρ ⟨by simp,by simp,fun hq=>absurd hq (by simp),by simp⟩ fun _ _ _ _ _ _ _ hq=>absurd hq (by simp)
 ·exact .quiet hs ⟨a.eval x,hrun,hv⟩
theorem move_after {lq:Nat} (hs:Sim X nt s a) (hfr:X.ρ nvi=none) {x:Operand} {x':Opd} {d:Nat} {E:Eff} (hrun:(execOp a.eval o).run P X.w=.ok (.value (a.eval x)) X.w) (hx:opd x=some x') (hr:moveA s lq d nvi (x'.ev s.slots)=some E):After P X s a o dst nvi (.eff E):=by
 have hv:=opd_ok hs hx
 unfold moveA at hr
 split at hr
 ·rename_i lv' sl' ver off len sz he
  rw[he] at hv
  split at hr
  ·rename_i els hrow
   split at hr
   ·rename_i hle
    have hle:=Nat.le_of_ble_eq_true hle
    injection hr with hr;subst hr
    obtain⟨Y,hw,g1,g2,g3,g4⟩:=move_ref (n:=s.nv) (lv2:=lq) (sl2:=d) hs.mem hfr hv hrow hle
    exact .value (Y:=Y) (by rw[hw];exact hrun) g1 g2 g3 g4
   ·cases hr
  ·cases hr
 ·cases hr
theorem movs_after {call:Go.Eng.Call} {sh:Nat→Bool} (hs:Sim X nt s a) (hfr:X.ρ nvi=none) {x:Operand} {x':Opd} {row d:Nat} {r:Res} (hrun:(execOp a.eval o).run P X.w=.ok (.value (a.eval x)) X.w) (hx:opd x=some x')
  (hr:AOp.run call sh s row d nvi (.mov x')=some r):After P X s a o dst nvi r:=by
 simp only[AOp.run] at hr
 split at hr
 ·obtain ⟨E, hE, rfl⟩ := Option.map_eq_some_iff.1 hr
  exact move_after hs hfr hrun hx hE
 ·injection hr with hr; subst hr
  exact mov_after hs hfr hrun hx
end
end Go.Eng
