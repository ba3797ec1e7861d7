/- A part of the proof: EngP, EngQ. -/
import Derived.Test.YthphehfgekjooaaGreatDoorEngO
set_option linter.unusedVariables false
set_option linter.unusedSimpArgs false
namespace Go.bq
open Go Go.RowKit
structure L9 (w w':World) (b off:Nat) (zs:List Int):Prop where
 os:w'.os=w.os
 tape:w'.tape=w.tape
 output:w'.output=w.output
 size:w.heap.size≤w'.heap.size
 other:∀ k,k<w.heap.size→k≠b→w'.heap[k]?=w.heap[k]?
 row:∀ C e,w.heap[b]?=some (.cells C e (0,0))→∃ C',w'.heap[b]?=some (.cells C' e (0,0))∧C'.size=C.size∧∀ j z,zs[j]?=some z→C'[off+j]?=some (.int .i64 z)
structure JS (P:Program) (f:Nat):Prop where
 fn:∃ fn,P.funcs[f]?=some fn∧fn.body.isSome=true∧(fn.name == "runtime.NumGoroutine")=false
 empty:∀ p cap w,Calls P f #[.slice p 0 cap] w fun e w'=>e=.returned (.tuple #[])∧w'=w
 rows:∀ b off cap zs w C e,w.heap[b]?=some (.cells C e (0,0))→(∀ (j:Nat) z,zs[j]?=some z→C[off+j]?=some (.int .i64 z))→0<zs.length→zs.length<4611686018427387904→
  Calls P f #[.slice (some ⟨b,off,none⟩) zs.length cap] w fun e w'=>e=.returned (.tuple #[])∧L9 w w' b off (jm zs)
structure v8 (P:Program) (f:Nat):Prop where
 fn:∃ fn,P.funcs[f]?=some fn∧fn.body.isSome=true∧(fn.name == "runtime.NumGoroutine")=false
 empty:∀ p cap w,Calls P f #[.slice p 0 cap] w fun e w'=>e=.returned (.slice p 0 cap)∧w'=w
 rows:∀ b off cap zs w C e,w.heap[b]?=some (.cells C e (0,0))→(∀ (j:Nat) z,zs[j]?=some z→C[off+j]?=some (.int .i64 z))→0<zs.length→zs.length<4611686018427387904→zs.length≤cap→
  Calls P f #[.slice (some ⟨b,off,none⟩) zs.length cap] w fun e w'=>e=.returned (.slice (some ⟨b,off,none⟩) (gH zs).length cap)∧L9 w w' b off (gH zs)
structure kf (P:Program) (f T:Nat):Prop where
 clone:T≠1000000→T≠1000001→EF P f T
 sort:T=1000000→JS P f
 compact:T=1000001→v8 P f
theorem qT:∀ {els:List (List D)} {zs:List Int},qG els=some zs→els=gG zs
 |[],zs,h=>by cases h;rfl
 | e :: r, zs, h => by
  unfold qG at h
  split at h
  ·grind
  ·rename_i z r' h1
   cases h1
   obtain⟨y,hy,rfl⟩:=Option.map_eq_some_iff.1 h
   rw[qT hy]
   rfl
  grind
theorem xk (x:Int):∀ l,(yC x l).length=l.length+1
 |[]=>rfl
 |y :: r=>by
  unfold yC
  split
  ·rfl
  ·rw[List.length_cons,xk x r];rfl
theorem mA:∀ l,(jm l).length=l.length
 |[]=>rfl
 |x :: r=>by rw[jm,xk,mA r];rfl
section
variable {P:Program} {X:Cx} {nt:Nat} {s:St} {a:Act} {o:Oper} {dst:Option Nat} {aH:Nat}
theorem CT (hm:aA X s.mem s.aB) {w':World} {b off:Nat} {zs:List Int} (h:L9 X.w w' b off zs) (hb:¬X.old b) (hF:∀ o,¬X.F b o):Ext X { X with w:=w' }:=by
 have mw:=hm.low
 refine⟨rfl,⟨h.os,h.tape,h.output,h.size,fun k hk=>h.other k (mw k hk) fun e=>hb (e ▸ hk)⟩,fun _ _ h=>h,fun c o hc=>?_,fun _ _ h=>h,fun _ _ h=>.inl h⟩
 have hne:c≠b:=by grind
 simp[World.cell?,h.other c (hm.ni c o hc) hne]
theorem JT (hs:eC X nt s a) {f:Nat} {x:Operand} {x':bA} {_ts:Array TypeId} {E:eU} (hc:JS P f) (hrun:(execOp a.eval o).run P X.w=.ok (.enter f #[a.eval x]) X.w)
  (hx:cr x=some x') (hr:xg s (x'.ev s.slots)=some E):cD P X s a o dst aH (.bC E):=by
 have hv:=aU hs hx
 intro K Q hK
 unfold Oper.wp
 rw[hrun]
 have hu:∀ Y:Cx,VR Y je (.tuple #[]):=fun Y=>⟨#[],rfl,trivial⟩
 unfold xg at hr
 split at hr
 ·rename_i he
  cases hr
  rw[he] at hv
  obtain⟨ad,b,off,sz,Gj,_⟩:=hv
  rw[Gj]
  refine Calls.mono (hc.empty ad 0 X.w) ?_
  rintro en w' ⟨rfl,rfl⟩
  exact hK X _ (Ext.refl X) (hu X) hs.mem ⟨Nat.le_refl _,fun v L h=>.inl h⟩
 ·rename_i lv sl aa off len sz he
  split at hr
  ·rename_i els hrow
   obtain⟨zs,hz,hr2⟩:=Option.bind_eq_some_iff.1 hr
   split at hr2
   ·rename_i Zf
    obtain⟨rfl,rfl,rfl,hlt⟩:=Zf
    cases hr2
    rw[he] at hv
    have zL:=qT hz
    have hlen:els.length=zs.length:=by rw[zL];simp[gG]
    obtain⟨L,hL,hE,hg⟩:=lD hs.mem hrow
    obtain⟨L1,ad,cap,L6,h1,Gj,h3,h4⟩:=hv
    rw[hL] at L6;cases L6
    rw[Gj]
    by_cases h0:els.length=0
    ·have hz0 : zs = [] := List.eq_nil_of_length_eq_zero (by omega)
     subst hz0
     rw[h0]
     refine Calls.mono (hc.empty ad cap X.w) ?_
     rintro en w' ⟨rfl,rfl⟩
     refine hK X _ (Ext.refl X) (hu X) ?_ ⟨Nat.le_refl _,fun v L h=>.inl h⟩
     show aA X (bF s.mem lv sl (some (.row aa []))) s.aB
     refine hs.mem.congr (fun bV cS=>?_) fun _=>rfl
     rw[bM]<;>grind
    ·obtain ⟨rfl, h5⟩ := h4 (by omega)
     have hc0:0<L.cap:=by omega
     obtain⟨C,ce,vZ,qJ,W8,hb4,hb5,hb6,hap,zO⟩:=mG hs.mem hg hL hc0
     have hC:∀ (j:Nat) z,zs[j]?=some z→C[L.o+j]?=some (.int .i64 z):=by
      intro j z hj
      have hq:els[j]?=some [.sc (.int .i64 z)]:=by rw[zL];simp[gG,hj]
      obtain⟨v,hv,hd⟩:=zO j _ 0 _ hq rfl
      rw[h1,Nat.mul_one,Nat.add_zero] at hv
      rw[hv]
      cases hd with
      |sc v _=>rfl
     have cc:=hc.rows L.b L.o cap zs X.w C ce vZ hC (by omega) (by omega)
     rw[←hlen] at cc
     refine Calls.mono cc ?_
     rintro en w' ⟨rfl,hw⟩
     have hx:=CT hs.mem hw qJ hb4
     refine hK { X with w:=w' } _ hx (hu _) ?_ ⟨Nat.le_refl _,fun v L h=>.inl h⟩
     obtain⟨C',hq1,we,PB⟩:=hw.row C ce vZ
     have Zg:aA { X with w:=w' } (bF s.mem lv sl none) s.aB:=(hs.mem.erase lv sl).move hx (fun k v M a b c=>by
       obtain⟨M',jx,h2⟩:=(hs.mem.erase lv sl).cz a
       rw[b] at jx;injection jx with jx;subst jx
       exact hw.other M.b (h2 c).1 (hap k v M a b c)) (fun _ _ _ _ _ _ _ h=>h) (fun b o hb=>by
       have:=hs.mem.ni b o hb
       have:=hw.size
       show b<w'.heap.size
       omega)
     have bI:(jm zs).length=zs.length:=mA zs
     refine Zg.reset (e:=.row aa (gG (jm zs))) (L:=L) hL ⟨by simp only[gG,List.length_map];omega,fun e he=>?_,fun _=>⟨⟨qJ,C',ce,hq1,by rw[we];exact W8⟩,hb4⟩,fun q f j x hq hj=>?_⟩ fun k v M a b c _=>hap k v M a b c
     ·simp[gG,List.mem_map] at he<;>grind
     ·simp [gG, List.getElem?_map, Option.map_eq_some_iff] at hq
      obtain⟨z,JM,rfl⟩:=hq
      have hj0:j=0∧x=.sc (.int .i64 z):=by
       grind
      obtain⟨rfl,rfl⟩:=hj0
      refine⟨.int .i64 z,?_,.sc _ rfl⟩
      rw[cell_of_row _ _ _ _ _ _ hq1,h1,Nat.mul_one]<;>grind
   grind
  grind
 grind
theorem mB:∀ l,(gH l).length≤l.length
 |[]=>Nat.le_refl _
 | x :: r => by
  unfold gH
  split
  ·simp
  ·split
   ·exact Nat.le_succ_of_le (mB _)
   ·exact Nat.succ_le_succ (mB _)
theorem Cm (hs : eC X nt s a) (hfr : X.ρ aH = none) {f : Nat} {x : Operand} {x' : bA} {_ts : Array TypeId} {E : eU} (hc : v8 P f) (hrun : (execOp a.eval o).run P X.w = .ok (.enter f #[a.eval x]) X.w)
  (hx:cr x=some x') (hr:lB s aH (x'.ev s.slots)=some E):cD P X s a o dst aH (.bC E):=by
 have hv:=aU hs hx
 intro K Q hK
 unfold Oper.wp
 rw[hrun]
 unfold lB at hr
 split at hr
 ·rename_i he
  cases hr
  rw[he] at hv
  have lU:=hv
  obtain⟨ad,b,off,sz,Gj,_⟩:=hv
  rw[Gj] at lU ⊢
  refine Calls.mono (hc.empty ad 0 X.w) ?_
  rintro en w' ⟨rfl,rfl⟩
  exact hK X _ (Ext.refl X) lU hs.mem ⟨Nat.le_refl _,fun v L h=>.inl h⟩
 ·rename_i lv sl aa off len sz he
  split at hr
  ·rename_i els hrow
   obtain⟨zs,hz,hr2⟩:=Option.bind_eq_some_iff.1 hr
   split at hr2
   ·rename_i Zf
    obtain⟨rfl,rfl,rfl,hlt⟩:=Zf
    cases hr2
    rw[he] at hv
    have lU:=hv
    have zL:=qT hz
    have hlen:els.length=zs.length:=by rw[zL];simp[gG]
    obtain⟨L,hL,hE,hg⟩:=lD hs.mem hrow
    obtain⟨L1,ad,cap,L6,h1,Gj,h3,h4⟩:=hv
    rw[hL] at L6;cases L6
    rw[Gj] at lU ⊢
    by_cases h0:els.length=0
    ·have hz0 : zs = [] := List.eq_nil_of_length_eq_zero (by omega)
     subst hz0
     obtain⟨Y,hw,g1,g2,g3,g4⟩:=L8 (n:=s.nv) hs.mem hfr (l:=0) (h':=0) lU hrow (Nat.le_refl _) (Nat.zero_le _) (by omega)
     rw[h0]
     refine Calls.mono (hc.empty ad cap X.w) ?_
     rintro en w' ⟨rfl,rfl⟩
     rw[←hw]
     refine hK Y _ g1 ?_ ?_ g4
     ·have e : (if cap = 0 then ad else ad.map (·.add (0 * 1))) = ad := by
       split
       ·rfl
       ·rw [(h4 (by omega)).1]
        simp[Addr.add_lit]
      rw[e] at g2
      exact g2
     ·exact g3
    ·obtain ⟨rfl, h5⟩ := h4 (by omega)
     have hc0:0<L.cap:=by omega
     obtain⟨C,ce,vZ,qJ,W8,hb4,hb5,hb6,hap,zO⟩:=mG hs.mem hg hL hc0
     have hC:∀ (j:Nat) z,zs[j]?=some z→C[L.o+j]?=some (.int .i64 z):=by
      intro j z hj
      have hq:els[j]?=some [.sc (.int .i64 z)]:=by rw[zL];simp[gG,hj]
      obtain⟨v,hv,hd⟩:=zO j _ 0 _ hq rfl
      rw[h1,Nat.mul_one,Nat.add_zero] at hv
      rw[hv]
      cases hd with
      |sc v _=>rfl
     have cc:=hc.rows L.b L.o cap zs X.w C ce vZ hC (by omega) (by omega) (by omega)
     rw[←hlen] at cc
     refine Calls.mono cc ?_
     rintro en w' ⟨rfl,hw⟩
     have hx:=CT hs.mem hw qJ hb4
     let L':Loc:=⟨L.b,L.o,1,cap⟩
     have acW:({ X with w:=w' } : Cx).ρ aH=none:=hfr
     have hxn:Ext { X with w:=w' } (({ X with w:=w' } : Cx).name aH L'):=dn acW
     have bI:=mB zs
     refine hK (({ X with w:=w' } : Cx).name aH L') _ (hx.trans hxn) ⟨L',_,cap,dL,rfl,rfl,by omega,fun _=>⟨by simp[L'],by simp[L']⟩⟩ ?_ ⟨Nat.le_refl _,fun v M hw=>by
      rcases (gx (X:={ X with w:=w' }) (v:=aH) (n:=0) (L:=L')).2 v M hw with hq|hq|hq
      ·exact .inl hq
      ·exact .inr (.inl hq)
      ·omega⟩
     obtain⟨C',hq1,we,PB⟩:=hw.row C ce vZ
     have Zg:aA { X with w:=w' } (bF s.mem lv sl none) s.aB:=(hs.mem.erase lv sl).move hx (fun k v M a b c=>by
       obtain⟨M',jx,h2⟩:=(hs.mem.erase lv sl).cz a
       rw[b] at jx;injection jx with jx;subst jx
       exact hw.other M.b (h2 c).1 (hap k v M a b c)) (fun _ _ _ _ _ _ _ h=>h) (fun b o hb=>by
       have:=hs.mem.ni b o hb
       have:=hw.size
       show b<w'.heap.size
       omega)
     refine (fG Zg acW).reset (e:=.row aH (gG (gH zs))) (L:=L') dL ⟨by simp only[gG,List.length_map,L'];omega,fun e he=>?_,fun _=>⟨⟨qJ,C',ce,hq1,?_⟩,hb4⟩,fun q f j x hq hj=>?_⟩ fun k v M a b c _=>?_
     ·simp [gG, List.mem_map] at he
      obtain⟨z,_,rfl⟩:=he
      rfl
     ·show L.o + cap * 1 ≤ C'.size
      rw[h1] at W8
      omega
     ·simp [gG, List.getElem?_map, Option.map_eq_some_iff] at hq
      obtain⟨z,JM,rfl⟩:=hq
      have hj0:j=0∧x=.sc (.int .i64 z):=by
       cases j with
       |zero=>simp at hj;exact⟨rfl,hj.symm⟩
       |succ j=>simp at hj
      obtain⟨rfl,rfl⟩:=hj0
      refine⟨.int .i64 z,?_,.sc _ rfl⟩
      show World.cell? w' ⟨L.b,L.o+q*1+0,none⟩=_
      rw[cell_of_row _ _ _ _ _ _ hq1,Nat.mul_one]
      exact PB q z JM
     ·obtain ⟨M', jx, _⟩ := (hs.mem.erase lv sl).cz a
      have h9:(({ X with w:=w' } : Cx).name aH L').ρ v=some M':=hxn.loc _ _ jx
      rw[b] at h9;cases h9
      exact hap k v M a jx c
   grind
  grind
 grind
theorem Ns (hs:eC X nt s a) (hfr:X.ρ aH=none) {x:Operand} {x':bA} {row d:Nat} (hrun:(execOp a.eval o).run P X.w=.ok (.value (a.eval x)) X.w) (hx:cr x=some x') :
  cD P X s a o dst aH (.bC (yD row (s.mem.length-1) d aH (x'.ev s.slots))):=by
 have hv:=aU hs hx
 unfold yD
 split
 ·rename_i he
  rw[he] at hv
  obtain⟨ad,b,off,sz,Gj,_⟩:=hv
  refine .value (Y:=X.name aH ⟨0,0,row / 65536,0⟩) (by rw[hrun,Gj];rfl) (dn hfr) ⟨⟨0,0,row / 65536,0⟩,ad,0,dL,rfl,rfl,Nat.le_refl _,fun hq=>absurd hq (by simp)⟩ ?_ gx
  exact (fG hs.mem hfr).add (e:=.row aH []) (L:=⟨0,0,row / 65536,0⟩) dL ⟨by simp,by simp,fun hq=>absurd hq (by simp),by simp⟩ fun _ _ _ _ _ _ _ hq=>absurd hq (by simp)
 ·exact .quiet hs ⟨a.eval x,hrun,hv⟩
theorem JU (hs:eC X nt s a) (hfr:X.ρ aH=none) {x:Operand} {x':bA} {d:Nat} {E:eU} (hrun:(execOp a.eval o).run P X.w=.ok (.value (a.eval x)) X.w) (hx:cr x=some x') (hr:GD s (s.mem.length-1) d aH (x'.ev s.slots)=some E):cD P X s a o dst aH (.bC E):=by
 have hv:=aU hs hx
 unfold GD at hr
 split at hr
 ·rename_i bV cS aa off len sz he
  rw[he] at hv
  split at hr
  ·rename_i els hrow
   split at hr
   ·rename_i hle
    have hle:=Nat.le_of_ble_eq_true hle
    cases hr
    obtain⟨Y,hw,g1,g2,g3,g4⟩:=Qa (n:=s.nv) (lv2:=s.mem.length-1) (sl2:=d) hs.mem hfr hv hrow hle
    exact .value (Y:=Y) (by rw[hw];exact hrun) g1 g2 g3 g4
   grind
  grind
 grind
theorem zV {call:Go.bq.Call} {sh:Nat→Bool} (hs:eC X nt s a) (hfr:X.ρ aH=none) {x:Operand} {x':bA} {row d:Nat} {r:cR} (hrun:(execOp a.eval o).run P X.w=.ok (.value (a.eval x)) X.w) (hx:cr x=some x')
  (hr:bL.run call sh s row d aH (.Gv x')=some r):cD P X s a o dst aH r:=by
 simp[bL.run] at hr
 split at hr
 ·obtain ⟨E, hE, rfl⟩ := Option.map_eq_some_iff.1 hr
  exact JU hs hfr hrun hx hE
 ·cases hr
  exact Ns hs hfr hrun hx
end
end Go.bq
namespace Go.bq
open Go Go.RowKit
def bX (P:Program) (call:Go.bq.Call):Prop:=
 ∀ f args mem aB nv r mem' qm Ma,call f args mem aB nv=some (r,mem',qm,Ma)→∀ (X:Cx) (bu:Array Value),aA X mem aB→(∀ v,nv≤v→X.ρ v=none)→aq (V1 X) args bu.toList→
  (∃ fn,P.funcs[f]?=some fn∧fn.body.isSome=true∧(fn.name == "runtime.NumGoroutine")=false)∧
  Calls P f bu X.w fun e w'=>∃ Y v,e=.returned v∧Y.w=w'∧Ext X Y∧VR Y r v∧aA Y mem' qm∧nv≤Ma∧∀ u L,Y.ρ u=some L→X.ρ u=some L∨(nv≤u∧u<Ma)
theorem DR.mono {w:World} {F G:Nat→Nat→Prop} (h:∀ b o,F b o→G b o) {x:D} {v:Value} (hd:DR w F x v):DR w G x v:=by
 induction hd with
 |sc v h1=>exact .sc v h1
 |er v h1=>exact .er v h1
 |sl els a n cap sz b o g hn hcap hsz ha hF hc _ ih=>exact .sl els a n cap sz b o g hn hcap hsz ha (fun i e j x h1 h2=>h _ _ (hF i e j x h1 h2)) hc ih
theorem dH.mono {w:World} {F G R S:Nat→Nat→Prop} (h:∀ b o,F b o→G b o) {els:List (List D)} {b o sz:Nat} (hrs:∀ q,(∃ v,w.cell? ⟨b,q,none⟩=some v)→R b q→S b q) (hl:dH w F R els b o sz):dH w G S els b o sz:=
 ⟨hl.1, fun i e j x h1 h2 => by
  obtain⟨hF,v,hv,hd⟩:=hl.2 i e j x h1 h2
  exact⟨hrs _ ⟨v,hv⟩ hF,v,hv,hd.mono h⟩⟩
theorem Mb {w:World} {b o:Nat} (h:∃ v,w.cell? ⟨b,o,none⟩=some v):b<w.heap.size:=by
 obtain⟨v,hv⟩:=h
 exact World.block_lt_of_cell? w ⟨b,o,none⟩ hv
def Cx.inner (X:Cx):Cx:={ w:=X.w,F:=X.F,ρ:=fun _=>none,old:=fun b=>b<X.w.heap.size }
theorem EG {X Y:Cx} {f:Nat} {v:Value} (h:VC X (.fB f []) v):VC Y (.fB f []) v:=by
 grind[JG,aq,VC]
section
variable {X:Cx} {m:List (Tr aZ)} {t:Tr Unit}
theorem lE (h:aA X m t) (ks:List (Nat×Nat)) {x y:AV} {v:Value} (hx:cy m x=some y) (hv:VC X x v):VC (X.lz m ks).inner y v:=by
 have hex:=pG h ks
 have hsub:∀ b o,X.F b o→(X.lz m ks).F b o:=fun _ _=>.inl
 have data:∀ {els a cap sz b o},v=.slice a els.length cap→els.length≤cap→(0<els.length→a=some ⟨b,o,none⟩)→dH X.w X.F X.F els b o sz→VC (X.lz m ks).inner (.d (.sl els)) v:=by
  rintro els a cap sz b o rfl h2 h3 h4
  exact DR.fD (h4.ext hex) rfl h2 h3
 have Qi:∀ {els a cap sz b o} {R:Nat→Nat→Prop},v=.slice a els.length cap→els.length≤cap→(0<els.length→a=some ⟨b,o,none⟩)→dH X.w X.F R els b o sz→VC (X.lz m ks).inner (.own els .bB) v:=by
  rintro els a cap sz b o R rfl h2 h3 h4
  exact⟨a,b,o,sz,cap,rfl,h2,h3,h4.mono hsub fun q hq _=>Mb hq⟩
 cases x with
 |d x=>cases hx;exact DR.ext hex hv
 | own els ow =>
  cases ow with
  |full=>
   cases hx
   obtain⟨a,b,o,sz,h1,h2,h3⟩:=hv
   exact data h1 (Nat.le_refl _) h2 h3
  |bR aa tz=>
   cases hx
   obtain⟨a,b,o,sz,cap,h1,h2,h3,h4,_⟩:=hv
   exact data h1 h2 (fun h=>h3 (by omega)) h4
  |bB=>
   cases hx
   obtain⟨a,b,o,sz,cap,h1,h2,h3,h4⟩:=hv
   exact Qi h1 h2 h3 h4
 | ref lv sl aa off len sz =>
  simp only[cy] at hx
  cases he:cH m (.ref lv sl aa off len sz) with
  |none=>grind
  |some els=>
   rw[he] at hx
   cases hx
   obtain⟨a,cap,sz',b,o,h1,h2,h3,h4⟩:=qM h he (.eL hv)
   exact Qi h1 h2 h3 h4
 |fB f c=>
  cases c with
  |nil=>cases hx;exact EG hv
  |cons=>cases hx
 |_=>cases hx
theorem xl (h:aA X m t) {ks k:List (Nat×Nat)} {x y:AV} {v:Value} (hx:dJ m x=some (y,k)) (hv:VC X x v) (hk:∀ p∈k,p∈ks):VC (X.lz m ks).inner y v:=by
 have ag8:∀ {x},(yB m x).map (fun p=>(AV.d p.1,p.2))=some (y,k)→VC X x v→VC (X.lz m ks).inner y v:=by
  intro x hx hv
  cases hd:yB m x with
  |none=>rw[hd] at hx;cases hx
  |some p=>
   rw[hd] at hx
   injection hx with hx;injection hx with h1 h2;subst h1
   exact P0 h (ks:=ks) hd hv fun q hq=>hk q (by rw[←h2];exact hq)
 unfold dJ at hx
 split at hx
 ·cases hx
  exact lE h ks rfl hv
 ·cases hx
  exact lE h ks rfl hv
 ·exact ag8 hx hv
theorem uJ (h:aA X m t) {ks:List (Nat×Nat)} : ∀ {xs ys:List AV} {k:List (Nat×Nat)} {vs:List Value},eB m xs=some (ys,k)→aq (VC X) xs vs→(∀ p∈k,p∈ks)→aq (VC (X.lz m ks).inner) ys vs
 |[],ys,k,[],hx,_,_=>by cases hx;trivial
 | x :: xs, ys, k, v :: vs, hx, hv, hk => by
  simp[eB] at hx
  split at hx
  ·rename_i y k1 ys' k2 h1 h2
   cases hx
   exact⟨xl h h1 hv.1 fun p hp=>hk p (by simp[hp]),uJ h h2 hv.2 fun p hp=>hk p (by simp[hp])⟩
  grind
 |[],_,_,_ :: _,_,hv,_=>hv.elim
 |_ :: _,_,_,[],_,hv,_=>hv.elim
theorem Mc (h:aA X m t) {ks k:List (Nat×Nat)} {x y:AV} {v:Value} (hx:vU m x=some (y,k)) (hv:VR X x v) (hk:∀ p∈k,p∈ks):V1 (X.lz m ks).inner y v:=by
 have one:∀ {x:AV},(cy m x).map (fun y=>(y,([]:List (Nat×Nat))))=some (y,k)→VC X x v→V1 (X.lz m ks).inner y v:=by
  intro x hx hv
  cases hd:cy m x with
  |none=>grind
  |some y'=>
   rw[hd] at hx
   cases hx
   exact .eL (lE h ks hd hv)
 cases x with
 | agg cs =>
  simp only[vU] at hx
  cases hd:eB m cs with
  |none=>grind
  |some p=>
   rw[hd] at hx
   injection hx with hx;injection hx with h1 h2;subst h1
   obtain⟨vs,rfl,h3⟩:=hv
   exact⟨vs,rfl,uJ h (k:=p.2) hd h3 fun q hq=>hk q (by rw[←h2];exact hq)⟩
 |gN cs=>simp[vU,cy] at hx
 |_=>simp only[vU] at hx;exact one hx hv
theorem GW (h:aA X m t) {ks:List (Nat×Nat)} : ∀ {xs ys:List AV} {k:List (Nat×Nat)} {vs:List Value},n7 m xs=some (ys,k)→aq (VR X) xs vs→(∀ p∈k,p∈ks)→aq (V1 (X.lz m ks).inner) ys vs
 |[],ys,k,[],hx,_,_=>by cases hx;trivial
 | x :: xs, ys, k, v :: vs, hx, hv, hk => by
  simp[n7] at hx
  split at hx
  ·rename_i y k1 ys' k2 h1 h2
   cases hx
   exact⟨Mc h h1 hv.1 fun p hp=>hk p (by simp[hp]),GW h h2 hv.2 fun p hp=>hk p (by simp[hp])⟩
  grind
 |[],_,_,_ :: _,_,hv,_=>hv.elim
 |_ :: _,_,_,[],_,hv,_=>hv.elim
theorem Uj (h:aA X m t) {ks k:List (Nat×Nat)} {x y:AV} {v:Value} (hx:vW m x=some (y,k)) (hv:VR X x v) (hk:∀ p∈k,p∈ks):V1 (X.lz m ks).inner y v:=by
 cases x with
 |agg cs=>exact Mc h (x:=.agg cs) hx hv hk
 |gN cs=>simp[vW,dJ,yB] at hx
 |_=>simp only[vW] at hx;exact .eL (xl h hx hv hk)
theorem GX (h:aA X m t) {ks:List (Nat×Nat)} : ∀ {xs ys:List AV} {k:List (Nat×Nat)} {vs:List Value},qk m xs=some (ys,k)→aq (VR X) xs vs→(∀ p∈k,p∈ks)→aq (V1 (X.lz m ks).inner) ys vs
 |[],ys,k,[],hx,_,_=>by cases hx;trivial
 | x :: xs, ys, k, v :: vs, hx, hv, hk => by
  simp[qk] at hx
  split at hx
  ·rename_i y k1 ys' k2 h1 h2
   cases hx
   exact⟨Uj h h1 hv.1 fun p hp=>hk p (List.mem_append.2 (.inl hp)),GX h h2 hv.2 fun p hp=>hk p (List.mem_append.2 (.inr hp))⟩
  grind
 |[],_,_,_ :: _,_,hv,_=>hv.elim
 |_ :: _,_,_,[],_,hv,_=>hv.elim
theorem CU (h:aA X m t) (ks:List (Nat×Nat)):∀ {xs ys:List AV} {vs:List Value},qF m xs=some ys→aq (VC X) xs vs→aq (VC (X.lz m ks).inner) ys vs
 |[],ys,[],hx,_=>by cases hx;trivial
 | x :: xs, ys, v :: vs, hx, hv => by
  simp[qF] at hx
  split at hx
  ·rename_i y ys' h1 h2
   cases hx
   exact⟨lE h ks h1 hv.1,CU h ks h2 hv.2⟩
  grind
 |[],_,_ :: _,_,hv=>hv.elim
 |_ :: _,_,[],_,hv=>hv.elim
theorem Qj (h:aA X m t) (ks:List (Nat×Nat)) {x y:AV} {v:Value} (hx:uq m x=some y) (hv:VR X x v):V1 (X.lz m ks).inner y v:=by
 cases x with
 | agg cs =>
  simp only[uq] at hx
  cases h1:qF m cs with
  |none=>grind
  |some z=>
   rw[h1] at hx
   cases hx
   obtain⟨vs,rfl,h3⟩:=hv
   exact⟨vs,rfl,CU h ks h1 h3⟩
 |gN cs=>simp[uq,cy] at hx
 |_=>simp only[uq] at hx;exact .eL (lE h ks hx hv)
theorem CV (h:aA X m t) (ks:List (Nat×Nat)):∀ {xs ys:List AV} {vs:List Value},tj m xs=some ys→aq (VR X) xs vs→aq (V1 (X.lz m ks).inner) ys vs
 |[],ys,[],hx,_=>by cases hx;trivial
 | x :: xs, ys, v :: vs, hx, hv => by
  simp[tj] at hx
  split at hx
  ·rename_i y ys' h1 h2
   cases hx
   exact⟨Qj h ks h1 hv.1,CV h ks h2 hv.2⟩
  grind
 |[],_,_ :: _,_,hv=>hv.elim
 |_ :: _,_,[],_,hv=>hv.elim
theorem Nt (h:aA X m t):aA X.inner [.lf] .lf:=by
 refine⟨fun lv sl e he=>?_,fun v hv=>by simp at hv,fun k k' v v' L L' _ _ _ hv _ _ _=>?_,h.ni,fun _ h=>h,fun b hb=>h.low b (h.pz.gb b hb),h.pz.gk⟩
 ·unfold aC at he
  grind[Tr.get?,l7,aZ.aa,Cx.inner]
 ·cases hv
end
structure Qk (Z:Cx) (top:Nat) (cm:List (Tr aZ)) (els:List (List D)) (len sz:Nat) (v:Value):Prop where
 row:∃ L off a cap,v=.slice a len cap∧len≤cap∧els.length=len∧(∀ e∈els,e.length=sz)∧(0<cap→(∃ bV cS e,top≤bV∧(aC cm bV cS=some e∧e.fz=false)∧Z.ρ e.aa=some L)∧a=some ⟨L.b,L.o+off*sz,none⟩∧off+cap≤L.cap∧L.sz=sz∧0<L.cap∧
  Block Z L.b (L.o+L.cap*L.sz)∧(∀ o,¬Z.F L.b o)∧∀ i e j x,els[i]?=some e→e[j]?=some x→∃ u,Z.w.cell? ⟨L.b,L.o+off*sz+i*sz+j,none⟩=some u∧DR Z.w Z.F x u)
section
variable {Z Y:Cx} {cm:List (Tr aZ)} {ts:Tr Unit}
theorem zW (h : aA Z cm ts) {top pk k lv sl aa : Nat} (hw : Y.w = Z.w) (hF : ∀ b o, Z.F b o → Y.F b o) (hρ : 0 < top → ∀ v L, Z.ρ v = some L → Y.ρ v = some L)
  (hfz:pk=0→∀ bV cS e L,top≤bV→aC cm bV cS=some e→e.fz=false→Z.ρ e.aa=some L→0<L.cap→∀ o,Y.F L.b o) {x y:AV} {us:List (List (List D))} {v:Value} (hx:aW cm top pk k lv sl aa x=some (y,us)) (hv:VC Z x v) :
  (us=[]∧VC Y y v)∨∃ els len sz,us=[els]∧y=.ref lv sl aa 0 len sz∧pk≠0∧Qk Z top cm els len sz v:=by
 have data:∀ {els a cap sz b o},v=.slice a els.length cap→els.length≤cap→(0<els.length→a=some ⟨b,o,none⟩)→dH Z.w Z.F Z.F els b o sz→VC Y (.d (.sl els)) v:=by
  rintro els a cap sz b o rfl h2 h3 h4
  refine DR.fD (b:=b) (o:=o) (sz:=sz) ?_ rfl h2 h3
  rw[hw]
  exact h4.mono hF fun q _ hq=>hF _ _ hq
 cases x with
 |d x=>
  injection hx with hx;injection hx with h1 h2;subst h1
  refine .inl ⟨h2.symm,?_⟩
  show DR Y.w Y.F x v
  rw[hw]
  exact DR.mono hF hv
 | own els ow =>
  cases ow with
  | full =>
   simp[aW] at hx
   obtain⟨a,b,o,sz,g1,g2,g3⟩:=hv
   split at hx
   ·rename_i hq
    injection hx with hx;injection hx with h1 h2;subst h1
    have hpk:pk≠0:=by
     intro e
     subst e
     simp at hq
    exact .inr ⟨[],0,pk / 65536,h2.symm,rfl,hpk,⟨⟨0,0,0,0⟩,0,a,0,g1,Nat.le_refl _,rfl,fun _ h=>(by cases h),fun h=>absurd h (by omega)⟩⟩
   ·split at hx
    ·injection hx with hx; injection hx with h1 h2; subst h1
     refine .inl ⟨h2.symm,a,b,o,sz,g1,g2,?_⟩
     rw[hw]
     exact g3.mono hF fun q _ hq=>hF _ _ hq
    grind
  | bR aa tz =>
   simp[aW] at hx
   obtain⟨a,b,o,sz,cap,g1,g2,g3,g4,g5,g6⟩:=hv
   split at hx
   ·rename_i hk
    injection hx with hx;injection hx with h1 h2;subst h1
    have ht:0<top:=by
     have:=(Bool.and_eq_true_iff.1 hk).2
     rcases Nat.eq_zero_or_pos top with e|e
     ·rw[e] at this;cases this
     ·exact e
    refine .inl ⟨h2.symm,a,b,o,sz,cap,g1,g2,g3,?_,hρ ht _ _ g5,g6⟩
    rw[hw]
    exact g4.mono hF fun q _ hq=>hF _ _ hq
   grind
  |bB=>cases hx
 | ref bV cS fN off len sz =>
  simp[aW] at hx
  cases hb:Nat.ble top bV with
  | false =>
   rw[hb] at hx
   injection hx with hx;injection hx with h1 h2;subst h1
   have ht:0<top:=by
    have:¬top≤bV:=fun hle=>by rw[Nat.ble_eq_true_of_le hle] at hb;cases hb
    omega
   obtain⟨L,a,cap,g1,g2⟩:=hv
   exact .inl ⟨h2.symm,L,a,cap,hρ ht _ _ g1,g2⟩
  | true =>
   rw[hb] at hx
   have hle:top≤bV:=Nat.le_of_ble_eq_true hb
   cases he:cH cm (.ref bV cS fN off len sz) with
   |none=>grind
   | some els =>
    rw[he] at hx
    simp at hx
    obtain⟨L',a,cap,hL',g1,rfl,g3,g4⟩:=hv
    simp[cH] at he
    cases hr:qj cm bV cS fN with
    |none=>grind
    | some els' =>
     rw[hr] at he
     simp only[Option.bind_some] at he
     split at he
     ·cases he
      obtain⟨L,hL,hE1,hE⟩:=zK h hr
      rw[hL] at hL';injection hL' with hL';subst hL'
      have hlen:((els'.drop off).take len).length=len:=by grind
      have hsz:∀ e∈(els'.drop off).take len,e.length=sz:=fun f hf=>by rw[hE.1 f (List.mem_of_mem_drop (List.mem_of_mem_take hf)),g1]
      split at hx
      ·rename_i hpk
       injection hx with hx;injection hx with h1 h2;subst h1
       refine .inl ⟨h2.symm,?_⟩
       have hpk:=beq_true.1 hpk
       have hl:=(hE.region (S:=Y.F) fun b o hq=>hq.elim (hF b o) fun hq=>by
        obtain⟨e,M,q1,q2,q3,rfl,q5⟩:=jE hq
        exact hfz hpk bV cS e M hle q1 q5 q2 q3 o).sub off len
       refine DR.fD (b:=L.b) (o:=L.o+off*L.sz) (sz:=L.sz) ?_ hlen g3 fun h0=>by rw[(g4 (by omega)).1,g1]
       rw[hw]
       exact hl.mono hF fun q _ hq=>hq
      ·rename_i hpk
       have hpk:=beq_false.1 hpk
       split at hx
       ·split at hx
        ·rename_i wg hr2
         injection hx with hx;injection hx with h1 h2;subst h1
         obtain⟨L2,Zh,hE2,hg⟩:=lD h hr2
         have zL:wg=els':=by
          have hr':=hr
          unfold qj at hr'<;>grind
         subst zL
         rw[hL] at Zh;cases Zh
         refine .inr ⟨_,len,sz,h2.symm,rfl,hpk,⟨L,off,a,cap,rfl,g3,hlen,hsz,fun hc=>?_⟩⟩
         obtain⟨k1,k2⟩:=g4 hc
         have hc0:0<L.cap:=by omega
         refine⟨⟨bV,cS,_,hle,⟨hg,rfl⟩,hL⟩,k1,k2,g1,hc0,(hE2.2.2.1 hc0).1,(hE2.2.2.1 hc0).2,fun i e j x hi hj=>?_⟩
         obtain⟨u,hu,hd⟩:=hE2.2.2.2 (off+i) e j x (dB hi).1 hj<;>grind
        grind
       ·split at hx
        ·cases hx
        ·rename_i hr2
         injection hx with hx;injection hx with h1 h2;subst h1
         refine .inl ⟨h2.symm,?_⟩
         have hl:=(hE.region (S:=Y.F) fun b o hq=>hq.elim (hF b o) fun hq=>by
          exfalso
          obtain⟨e,M,q1,q2,q3,rfl,q5⟩:=jE hq
          have q1:aC cm bV cS=some e:=q1
          unfold qj at hr
          unfold rowAt at hr2
          rw[q1] at hr hr2
          cases e with
          |row v els=>simp only at hr hr2;rw[hr] at hr2;cases hr2
          |box v cs=>cases hr
          |mp v ks=>cases hr
          |Nd v els=>cases q5).sub off len
         refine DR.fD (b:=L.b) (o:=L.o+off*L.sz) (sz:=L.sz) ?_ hlen g3 fun h0=>by rw[(g4 (by omega)).1,g1]
         rw[hw]
         exact hl.mono hF fun q _ hq=>hq
     grind
 |fB f c=>
  cases c with
  |nil=>injection hx with hx;injection hx with h1 h2;subst h1;exact .inl ⟨h2.symm,EG hv⟩
  |cons=>cases hx
 |_=>cases hx
end
end Go.bq
