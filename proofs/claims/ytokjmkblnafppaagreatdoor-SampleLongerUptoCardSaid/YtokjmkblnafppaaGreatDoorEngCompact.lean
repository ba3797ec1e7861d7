/- A part of the proof: EngP, EngSort, EngCompact. -/
import Derived.Test.YtokjmkblnafppaaGreatDoorEngO
import Derived.Shelf.Sort.Plain
import Derived.Shelf.Slices.In.SortNone
import Derived.Shelf.Slices.CompactI
set_option linter.unusedVariables false
set_option linter.unusedSimpArgs false
namespace Go.bI
open Go Go.RowKit
structure JQ (w w':World) (b off:Nat) (zs:List Int):Prop where
 os:w'.os=w.os
 tape:w'.tape=w.tape
 output:w'.output=w.output
 size:w.heap.size≤w'.heap.size
 other:∀ k,k<w.heap.size→k≠b→w'.heap[k]?=w.heap[k]?
 row:∀ C e,w.heap[b]?=some (.cells C e (0,0))→∃ C',w'.heap[b]?=some (.cells C' e (0,0))∧C'.size=C.size∧∀ j z,zs[j]?=some z→C'[off+j]?=some (.int .i64 z)
structure HR (P:Program) (f:Nat):Prop where
 fn:∃ fn,P.funcs[f]?=some fn∧fn.body.isSome=true∧(fn.name == "runtime.NumGoroutine")=false
 empty:∀ p cap w,Calls P f #[.slice p 0 cap] w fun e w'=>e=.returned (.tuple #[])∧w'=w
 rows:∀ b off cap zs w C e,w.heap[b]?=some (.cells C e (0,0))→(∀ (j:Nat) z,zs[j]?=some z→C[off+j]?=some (.int .i64 z))→0<zs.length→zs.length<4611686018427387904→
  Calls P f #[.slice (some ⟨b,off,none⟩) zs.length cap] w fun e w'=>e=.returned (.tuple #[])∧JQ w w' b off (jc zs)
structure vm (P:Program) (f:Nat):Prop where
 fn:∃ fn,P.funcs[f]?=some fn∧fn.body.isSome=true∧(fn.name == "runtime.NumGoroutine")=false
 empty:∀ p cap w,Calls P f #[.slice p 0 cap] w fun e w'=>e=.returned (.slice p 0 cap)∧w'=w
 rows:∀ b off cap zs w C e,w.heap[b]?=some (.cells C e (0,0))→(∀ (j:Nat) z,zs[j]?=some z→C[off+j]?=some (.int .i64 z))→0<zs.length→zs.length<4611686018427387904→zs.length≤cap→
  Calls P f #[.slice (some ⟨b,off,none⟩) zs.length cap] w fun e w'=>e=.returned (.slice (some ⟨b,off,none⟩) (gT zs).length cap)∧JQ w w' b off (gT zs)
structure j3 (P:Program) (f T:Nat):Prop where
 clone:T≠1000000→T≠1000001→Dv P f T
 sort:T=1000000→HR P f
 compact:T=1000001→vm P f
theorem qd:∀ {els:List (List D)} {zs:List Int},sw els=some zs→els=gH zs
 |[],zs,h=>by injection h with h;subst h;rfl
 | e :: r, zs, h => by
  unfold sw at h
  split at h
  ·rename_i h1;cases h1
  ·rename_i z r' h1
   injection h1 with h1 h2
   subst h1 h2
   obtain⟨y,hy,rfl⟩:=Option.map_eq_some_iff.1 h
   rw[qd hy]
   rfl
  ·cases h
theorem wB (x:Int):∀ l,(xN x l).length=l.length+1
 |[]=>rfl
 |y :: r=>by
  unfold xN
  split
  ·rfl
  ·rw[List.length_cons,wB x r];rfl
theorem lS:∀ l,(jc l).length=l.length
 |[]=>rfl
 |x :: r=>by rw[jc,wB,lS r];rfl
section
variable {P:Program} {X:Cx} {nt:Nat} {s:St} {a:Act} {o:Oper} {dst:Option Nat} {aR:Nat}
theorem B6 (hm:aB X s.mem s.aE) {w':World} {b off:Nat} {zs:List Int} (h:JQ X.w w' b off zs) (hb:¬X.old b) (hF:∀ o,¬X.F b o):Ext X { X with w:=w' }:=by
 have mb:=hm.low
 refine⟨rfl,⟨h.os,h.tape,h.output,h.size,fun k hk=>h.other k (mb k hk) fun e=>hb (e ▸ hk)⟩,fun _ _ h=>h,fun c o hc=>?_,fun _ _ h=>h,fun _ _ h=>.inl h⟩
 have hne:c≠b:=by rintro rfl;exact hF o hc
 simp[World.cell?,h.other c (hm.mI c o hc) hne]
theorem HS (hs:eL X nt s a) {f:Nat} {x:Operand} {x':bR} {_ts:Array TypeId} {E:eX} (hc:HR P f) (hrun:(execOp a.eval o).run P X.w=.ok (.enter f #[a.eval x]) X.w)
  (hx:cL x=some x') (hr:wq s (x'.ev s.slots)=some E):cU P X s a o dst aR (.bS E):=by
 have hv:=bw hs hx
 intro K Q hK
 unfold Oper.wp
 rw[hrun,Oper.upon_enter]
 have hu:∀ Y:Cx,VR Y jr (.tuple #[]):=fun Y=>⟨#[],rfl,trivial⟩
 unfold wq at hr
 split at hr
 ·rename_i he
  injection hr with hr;subst hr
  rw[he] at hv
  obtain⟨ad,b,off,sz,Hz,_⟩:=hv
  rw[Hz]
  refine Calls.mono (hc.empty ad 0 X.w) ?_
  rintro en w' ⟨rfl,rfl⟩
  exact hK X _ (Ext.refl X) (hu X) hs.mem ⟨Nat.le_refl _,fun v L h=>.inl h⟩
 ·rename_i lv sl af off len sz he
  split at hr
  ·rename_i els hrow
   obtain⟨zs,hz,hr2⟩:=Option.bind_eq_some_iff.1 hr
   clear hr
   split at hr2
   ·rename_i U5
    obtain⟨rfl,rfl,rfl,hlt⟩:=U5
    injection hr2 with hr2;subst hr2
    rw[he] at hv
    have zh:=qd hz
    have hlen:els.length=zs.length:=by rw[zh];simp[gH]
    obtain⟨L,hL,hE,hg⟩:=kP hs.mem hrow
    obtain⟨L1,ad,cap,yj,h1,Hz,h3,h4⟩:=hv
    rw[hL] at yj;injection yj with yj;subst yj
    rw[Hz]
    by_cases h0:els.length=0
    ·have hz0 : zs = [] := List.eq_nil_of_length_eq_zero (by omega)
     have MP:els=[]:=List.eq_nil_of_length_eq_zero h0
     subst hz0
     rw[h0]
     refine Calls.mono (hc.empty ad cap X.w) ?_
     rintro en w' ⟨rfl,rfl⟩
     refine hK X _ (Ext.refl X) (hu X) ?_ ⟨Nat.le_refl _,fun v L h=>.inl h⟩
     show aB X (bN s.mem lv sl (some (.row af []))) s.aE
     refine hs.mem.congr (fun cl cX=>?_) fun _=>rfl
     rw[bX]
     split
     ·rename_i hcc
      obtain⟨q1,q2,_⟩:=hcc
      subst q1 q2
      rw[hg,MP]
     ·rfl
    ·obtain ⟨rfl, h5⟩ := h4 (by omega)
     have hc0:0<L.cap:=by omega
     obtain⟨C,ce,xQ,sD,T8,hb4,hb5,hb6,hap,zk⟩:=lW hs.mem hg hL hc0
     have hC:∀ (j:Nat) z,zs[j]?=some z→C[L.o+j]?=some (.int .i64 z):=by
      intro j z hj
      have hq:els[j]?=some [.sc (.int .i64 z)]:=by rw[zh];simp[gH,hj]
      obtain⟨v,hv,hd⟩:=zk j _ 0 _ hq rfl
      rw[h1,Nat.mul_one,Nat.add_zero] at hv
      rw[hv]
      cases hd with
      |sc v _=>rfl
     have cE:=hc.rows L.b L.o cap zs X.w C ce xQ hC (by omega) (by omega)
     rw[←hlen] at cE
     rw[show L.o+0*1=L.o from by omega]
     refine Calls.mono cE ?_
     rintro en w' ⟨rfl,hw⟩
     have hx:=B6 hs.mem hw sD hb4
     refine hK { X with w:=w' } _ hx (hu _) ?_ ⟨Nat.le_refl _,fun v L h=>.inl h⟩
     show aB _ (bN s.mem lv sl (some (.row af (gH (jc zs))))) s.aE
     obtain⟨C',hq1,tV,K6⟩:=hw.row C ce xQ
     have U6:aB { X with w:=w' } (bN s.mem lv sl none) s.aE:=(hs.mem.erase lv sl).move hx (fun k v M a b c=>by
       obtain⟨M',gG,h2⟩:=(hs.mem.erase lv sl).cR a
       rw[b] at gG;injection gG with gG;subst gG
       exact hw.other M.b (h2 c).1 (hap k v M a b c)) (fun _ _ _ _ _ _ _ h=>h) (fun b o hb=>by
       have:=hs.mem.mI b o hb
       have:=hw.size
       show b<w'.heap.size
       omega)
     have bV:(jc zs).length=zs.length:=lS zs
     refine U6.reset (e:=.row af (gH (jc zs))) (L:=L) hL ⟨by simp only[gH,List.length_map];omega,fun e he=>?_,fun _=>⟨⟨sD,C',ce,hq1,by rw[tV];exact T8⟩,hb4⟩,fun q f j x hq hj=>?_⟩ fun k v M a b c _=>hap k v M a b c
     ·simp only [gH, List.mem_map] at he
      obtain⟨z,_,rfl⟩:=he
      rw[h1];rfl
     ·simp only [gH, List.getElem?_map, Option.map_eq_some_iff] at hq
      obtain⟨z,Hy,rfl⟩:=hq
      have hj0:j=0∧x=.sc (.int .i64 z):=by
       cases j with
       |zero=>simp at hj;exact⟨rfl,hj.symm⟩
       |succ j=>simp at hj
      obtain⟨rfl,rfl⟩:=hj0
      refine⟨.int .i64 z,?_,.sc _ rfl⟩
      show World.cell? w' ⟨L.b,L.o+q*L.sz+0,none⟩=_
      rw[cell_of_row _ _ _ _ _ _ hq1,h1,Nat.mul_one,Nat.add_zero]
      exact K6 q z Hy
   ·cases hr2
  ·cases hr
 ·cases hr
theorem lT:∀ l,(gT l).length≤l.length
 |[]=>Nat.le_refl _
 | x :: r => by
  unfold gT
  split
  ·simp
  ·split
   ·exact Nat.le_succ_of_le (lT _)
   ·rw [List.length_cons, List.length_cons]
    exact Nat.succ_le_succ (lT _)
theorem By (hs : eL X nt s a) (hfr : X.ρ aR = none) {f : Nat} {x : Operand} {x' : bR} {_ts : Array TypeId} {E : eX} (hc : vm P f) (hrun : (execOp a.eval o).run P X.w = .ok (.enter f #[a.eval x]) X.w)
  (hx:cL x=some x') (hr:kM s aR (x'.ev s.slots)=some E):cU P X s a o dst aR (.bS E):=by
 have hv:=bw hs hx
 intro K Q hK
 unfold Oper.wp
 rw[hrun,Oper.upon_enter]
 unfold kM at hr
 split at hr
 ·rename_i he
  injection hr with hr;subst hr
  rw[he] at hv
  have jd:=hv
  obtain⟨ad,b,off,sz,Hz,_⟩:=hv
  rw[Hz] at jd ⊢
  refine Calls.mono (hc.empty ad 0 X.w) ?_
  rintro en w' ⟨rfl,rfl⟩
  exact hK X _ (Ext.refl X) jd hs.mem ⟨Nat.le_refl _,fun v L h=>.inl h⟩
 ·rename_i lv sl af off len sz he
  split at hr
  ·rename_i els hrow
   obtain⟨zs,hz,hr2⟩:=Option.bind_eq_some_iff.1 hr
   clear hr
   split at hr2
   ·rename_i U5
    obtain⟨rfl,rfl,rfl,hlt⟩:=U5
    injection hr2 with hr2;subst hr2
    rw[he] at hv
    have jd:=hv
    have zh:=qd hz
    have hlen:els.length=zs.length:=by rw[zh];simp[gH]
    obtain⟨L,hL,hE,hg⟩:=kP hs.mem hrow
    obtain⟨L1,ad,cap,yj,h1,Hz,h3,h4⟩:=hv
    rw[hL] at yj;injection yj with yj;subst yj
    rw[Hz] at jd ⊢
    by_cases h0:els.length=0
    ·have hz0 : zs = [] := List.eq_nil_of_length_eq_zero (by omega)
     have MP:els=[]:=List.eq_nil_of_length_eq_zero h0
     subst hz0
     obtain⟨Y,hw,g1,g2,g3,g4⟩:=JP (n:=s.nv) hs.mem hfr (l:=0) (h':=0) jd hrow (Nat.le_refl _) (Nat.zero_le _) (by omega)
     rw[h0]
     refine Calls.mono (hc.empty ad cap X.w) ?_
     rintro en w' ⟨rfl,rfl⟩
     rw[←hw]
     refine hK Y _ g1 ?_ ?_ g4
     ·have e : (if cap = 0 then ad else ad.map (·.add (0 * 1))) = ad := by
       split
       ·rfl
       ·rw [(h4 (by omega)).1]
        simp[Addr.add_lit]
      rw[e] at g2
      exact g2
     ·exact g3
    ·obtain ⟨rfl, h5⟩ := h4 (by omega)
     have hc0:0<L.cap:=by omega
     obtain⟨C,ce,xQ,sD,T8,hb4,hb5,hb6,hap,zk⟩:=lW hs.mem hg hL hc0
     have hC:∀ (j:Nat) z,zs[j]?=some z→C[L.o+j]?=some (.int .i64 z):=by
      intro j z hj
      have hq:els[j]?=some [.sc (.int .i64 z)]:=by rw[zh];simp[gH,hj]
      obtain⟨v,hv,hd⟩:=zk j _ 0 _ hq rfl
      rw[h1,Nat.mul_one,Nat.add_zero] at hv
      rw[hv]
      cases hd with
      |sc v _=>rfl
     have cE:=hc.rows L.b L.o cap zs X.w C ce xQ hC (by omega) (by omega) (by omega)
     rw[←hlen] at cE
     rw[show L.o+0*1=L.o from by omega]
     refine Calls.mono cE ?_
     rintro en w' ⟨rfl,hw⟩
     have hx:=B6 hs.mem hw sD hb4
     let L':Loc:=⟨L.b,L.o,1,cap⟩
     have ZI:({ X with w:=w' } : Cx).ρ aR=none:=hfr
     have hxn:Ext { X with w:=w' } (({ X with w:=w' } : Cx).name aR L'):=cZ ZI
     have bV:=lT zs
     refine hK (({ X with w:=w' } : Cx).name aR L') _ (hx.trans hxn) ⟨L',_,cap,dP,rfl,rfl,by omega,fun _=>⟨by simp[L'],by simp[L']⟩⟩ ?_ ⟨Nat.le_refl _,fun v M hw=>by
      rcases (fS (X:={ X with w:=w' }) (v:=aR) (n:=0) (L:=L')).2 v M hw with hq|hq|hq
      ·exact .inl hq
      ·exact .inr (.inl hq)
      ·omega⟩
     show aB _ (bN s.mem lv sl (some (.row aR (gH (gT zs))))) s.aE
     obtain⟨C',hq1,tV,K6⟩:=hw.row C ce xQ
     have U6:aB { X with w:=w' } (bN s.mem lv sl none) s.aE:=(hs.mem.erase lv sl).move hx (fun k v M a b c=>by
       obtain⟨M',gG,h2⟩:=(hs.mem.erase lv sl).cR a
       rw[b] at gG;injection gG with gG;subst gG
       exact hw.other M.b (h2 c).1 (hap k v M a b c)) (fun _ _ _ _ _ _ _ h=>h) (fun b o hb=>by
       have:=hs.mem.mI b o hb
       have:=hw.size
       show b<w'.heap.size
       omega)
     refine (fR U6 ZI).reset (e:=.row aR (gH (gT zs))) (L:=L') dP ⟨by simp only[gH,List.length_map,L'];omega,fun e he=>?_,fun _=>⟨⟨sD,C',ce,hq1,?_⟩,hb4⟩,fun q f j x hq hj=>?_⟩ fun k v M a b c _=>?_
     ·simp only [gH, List.mem_map] at he
      obtain⟨z,_,rfl⟩:=he
      rfl
     ·show L.o + cap * 1 ≤ C'.size
      rw[tV]
      rw[h1] at T8
      omega
     ·simp only [gH, List.getElem?_map, Option.map_eq_some_iff] at hq
      obtain⟨z,Hy,rfl⟩:=hq
      have hj0:j=0∧x=.sc (.int .i64 z):=by
       cases j with
       |zero=>simp at hj;exact⟨rfl,hj.symm⟩
       |succ j=>simp at hj
      obtain⟨rfl,rfl⟩:=hj0
      refine⟨.int .i64 z,?_,.sc _ rfl⟩
      show World.cell? w' ⟨L.b,L.o+q*1+0,none⟩=_
      rw[cell_of_row _ _ _ _ _ _ hq1,Nat.mul_one,Nat.add_zero]
      exact K6 q z Hy
     ·obtain ⟨M', gG, _⟩ := (hs.mem.erase lv sl).cR a
      have h9:(({ X with w:=w' } : Cx).name aR L').ρ v=some M':=hxn.loc _ _ gG
      rw[b] at h9;injection h9 with h9;subst h9
      exact hap k v M a gG c
   ·cases hr2
  ·cases hr
 ·cases hr
theorem K7 (hs:eL X nt s a) (hfr:X.ρ aR=none) {x:Operand} {x':bR} {row d:Nat} (hrun:(execOp a.eval o).run P X.w=.ok (.value (a.eval x)) X.w) (hx:cL x=some x') :
  cU P X s a o dst aR (.bS (xO row (s.mem.length-1) d aR (x'.ev s.slots))):=by
 have hv:=bw hs hx
 unfold xO
 split
 ·rename_i he
  rw[he] at hv
  obtain⟨ad,b,off,sz,Hz,_⟩:=hv
  refine .value (Y:=X.name aR ⟨0,0,row / 65536,0⟩) (by rw[hrun,Hz];rfl) (cZ hfr) ⟨⟨0,0,row / 65536,0⟩,ad,0,dP,rfl,rfl,Nat.le_refl _,fun hq=>absurd hq (by simp)⟩ ?_ fS
  exact (fR hs.mem hfr).add (e:=.row aR []) (L:=⟨0,0,row / 65536,0⟩) dP ⟨by simp,by simp,fun hq=>absurd hq (by simp),by simp⟩ fun _ _ _ _ _ _ _ hq=>absurd hq (by simp)
 ·exact .quiet hs ⟨a.eval x,hrun,hv⟩
theorem HT (hs:eL X nt s a) (hfr:X.ρ aR=none) {x:Operand} {x':bR} {d:Nat} {E:eX} (hrun:(execOp a.eval o).run P X.w=.ok (.value (a.eval x)) X.w) (hx:cL x=some x') (hr:EJ s (s.mem.length-1) d aR (x'.ev s.slots)=some E):cU P X s a o dst aR (.bS E):=by
 have hv:=bw hs hx
 unfold EJ at hr
 split at hr
 ·rename_i cl cX af off len sz he
  rw[he] at hv
  split at hr
  ·rename_i els hrow
   split at hr
   ·rename_i hle
    have hle:=Nat.le_of_ble_eq_true hle
    injection hr with hr;subst hr
    obtain⟨Y,hw,g1,g2,g3,g4⟩:=Nl (n:=s.nv) (YO:=s.mem.length-1) (YP:=d) hs.mem hfr hv hrow hle
    exact .value (Y:=Y) (by rw[hw];exact hrun) g1 g2 g3 g4
   ·cases hr
  ·cases hr
 ·cases hr
theorem zp {call:Go.bI.Call} {sh:Nat→Bool} (hs:eL X nt s a) (hfr:X.ρ aR=none) {x:Operand} {x':bR} {row d:Nat} {r:fW} (hrun:(execOp a.eval o).run P X.w=.ok (.value (a.eval x)) X.w) (hx:cL x=some x')
  (hr:bM.run call sh s row d aR (.ED x')=some r):cU P X s a o dst aR r:=by
 simp only[bM.run] at hr
 split at hr
 ·obtain ⟨E, hE, rfl⟩ := Option.map_eq_some_iff.1 hr
  exact HT hs hfr hrun hx hE
 ·injection hr with hr; subst hr
  exact K7 hs hfr hrun hx
end
end Go.bI
namespace Go.bI
open Go Go.RowKit Go.Sort
theorem vn (x:Int):∀ l,(xN x l).Perm (x :: l)
 |[]=>List.Perm.refl _
 |y :: r=>by
  unfold xN
  split
  ·exact List.Perm.refl _
  ·exact ((vn x r).cons y).trans (List.Perm.swap x y r)
theorem zq:∀ l,(jc l).Perm l
 |[]=>List.Perm.refl _
 |x :: r=>by
  rw[jc]
  exact (vn x _).trans ((zq r).cons x)
theorem wC (x:Int):∀ l:List Int,l.Pairwise (·≤·)→(xN x l).Pairwise (·≤·)
 |[],_=>by simp[xN]
 | y :: r, h => by
  rw[List.pairwise_cons] at h
  unfold xN
  split
  ·rename_i hc
   have hc:=of_decide_eq_true hc
   rw[List.pairwise_cons]
   refine⟨fun z hz=>?_,List.pairwise_cons.2 h⟩
   rcases List.mem_cons.1 hz with rfl|hz
   ·exact hc
   ·exact Int.le_trans hc (h.1 z hz)
  ·rename_i hc
   have hc:=of_decide_eq_false hc
   rw[List.pairwise_cons]
   refine⟨fun z hz=>?_,wC x r h.2⟩
   rcases List.mem_cons.1 ((vn x r).mem_iff.1 hz) with rfl|hz
   ·omega
   ·exact h.1 z hz
theorem tW:∀ l:List Int,(jc l).Pairwise (·≤·)
 |[]=>List.Pairwise.nil
 |x :: r=>wC x _ (tW r)
theorem Dw (l:List Int):(l.mergeSort fun x y=>decide (x≤y))=jc l:=by
 refine List.Perm.eq_of_pairwise (le:=fun a b=>a≤b) (fun a b _ _ h1 h2=>Int.le_antisymm h1 h2) ?_ (tW l) ((List.mergeSort_perm _ _).trans (zq l).symm)
 have:=List.pairwise_mergeSort (le:=fun x y:Int=>decide (x≤y)) (fun a b c h1 h2=>by simp only[decide_eq_true_eq] at *;omega) (fun a b=>by simp only[Bool.or_eq_true,decide_eq_true_eq];omega) l
 exact this.imp fun h=>of_decide_eq_true h
theorem E9 {w:World} {b off n:Nat} {zs:List Int} {os:Array Obj} (hz:∀ C e,w.heap[b]?=some (.cells C e (0,0))→off+zs.length≤C.size) (hb:b<w.heap.size):JQ w (grow (putRow (Value.int .i64) (Go.Sort.ahead w n) b off zs.toArray) os) b off zs:=by
 refine⟨rfl,rfl,rfl,?_,fun k hk hne=>?_,fun C e hC=>?_⟩
 ·simp[grow,putRow,mapBlock,Go.Sort.ahead]
 ·simp only [grow, putRow, mapBlock, Go.Sort.ahead]
  rw[Array.getElem?_append_left (by simpa using hk),Array.getElem?_modify,if_neg (Ne.symm hne)]
 ·refine ⟨putCells (Value.int .i64) off zs.toArray C, ?_, by simp [putCells], fun j z hj => ?_⟩
  ·simp only [grow, putRow, mapBlock, Go.Sort.ahead]
   rw[Array.getElem?_append_left (by simpa using hb),Array.getElem?_modify,if_pos rfl,hC]
   rfl
  ·have hlt := (List.getElem?_eq_some_iff.1 hj).1
   have hs:=hz C e hC
   have hlt2:off+j<C.size:=by omega
   simp only[putCells]
   rw[Array.getElem?_mapIdx,Array.getElem?_eq_getElem hlt2]
   simp only[Option.map_some]
   rw[if_pos ⟨by omega,by simpa using hlt⟩]
   rw[show off+j-off=j by omega]
   have:zs.toArray[j]! = z:=by
    rw[getElem!_pos zs.toArray j (by simpa using hlt)]
    have:=(List.getElem?_eq_some_iff.1 hj).2
    simpa using this
   rw[this]
theorem K8 {P:Program} {ρ : Go.Shelf.Ren} (L:Go.Proofs.Lays.n189 P ρ) (hf:∃ fn,P.funcs[ρ.f 189]?=some fn∧fn.body.isSome=true∧(fn.name == "runtime.NumGoroutine")=false):HR P (ρ.f 189):=by
 refine⟨hf,fun p cap w=>Go.Proofs.Any.slices_Sort_int_none L p cap w,fun b off cap zs w C e hC hz h0 hlt=>?_⟩
 have hb:b<w.heap.size:=(Array.getElem?_eq_some_iff.1 hC).1
 have hH:Go.Sort.Holds (Value.int .i64) w b off zs.toArray:=by
  intro j hj
  have hj:j<zs.length:=by simpa using hj
  have h1:=hz j zs[j] (List.getElem?_eq_getElem hj)
  refine⟨?_,?_⟩
  ·rw [getElem!_pos zs.toArray j (by simpa using hj)]
   simp[World.cell?,hC,h1]
  ·simp[World.frozen?,hC]
 refine Calls.mono (Go.Proofs.Any.slices_Sort_int L b off cap zs w hH hb hlt) ?_
 rintro en w' ⟨rfl,n,os,rfl⟩
 refine⟨rfl,?_⟩
 rw[Dw]
 refine E9 (fun C' e' K9=>?_) hb
 rw[hC] at K9
 injection K9 with K9
 injection K9 with K9 _ _
 subst K9
 rw[lS]
 have:=hz (zs.length-1) zs[zs.length-1] (List.getElem?_eq_getElem (by omega))
 have:=(Array.getElem?_eq_some_iff.1 this).1
 omega
end Go.bI
namespace Go.bI
open Go Go.RowKit Go.Sort
def jy (x:Int):List Int→List Int
 |[]=>[]
 |y :: r=>if y≠x then y :: jy y r else jy y r
theorem sG (x:Int):∀ r,gT (x :: r)=x :: jy x r
 |[]=>rfl
 | y :: r => by
  rw[gT]
  by_cases h:x=y
  ·subst h
   rw[decide_eq_true rfl,sG x r,jy,if_neg (by simp)]
  ·rw[decide_eq_false h,sG y r,jy,if_pos (Ne.symm h)]
theorem zu:∀ (r:List Int) (x:Int),((List.range r.length).filter fun j=>Lib.keeps (x :: r).toArray (j+1)).map (fun j=>(x :: r).toArray[j+1]!)=jy x r
 |[],_=>rfl
 | y :: r, x => by
  have ih:=zu r y
  have h0:Lib.keeps (x :: y :: r).toArray (0+1)=decide (y≠x):=by simp[Lib.keeps]
  have hs:∀ j,Lib.keeps (x :: y :: r).toArray (j+1+1)=Lib.keeps (y :: r).toArray (j+1):=by
   intro j
   simp[Lib.keeps]
  have hg:∀ j,(x :: y :: r).toArray[j+1+1]! = (y :: r).toArray[j+1]!:=by intro j;simp
  have zw:(((List.range r.length).map Nat.succ).filter fun j=>Lib.keeps (x :: y :: r).toArray (j+1)).map (fun j=>(x :: y :: r).toArray[j+1]!)=jy y r:=by
   rw[List.filter_map,List.map_map,←ih]
   have e1:((fun j=>Lib.keeps (x :: y :: r).toArray (j+1)) ∘ Nat.succ)=fun j=>Lib.keeps (y :: r).toArray (j+1):=funext fun j=>hs j
   have e2:((fun j=>(x :: y :: r).toArray[j+1]!) ∘ Nat.succ)=fun j=>(y :: r).toArray[j+1]!:=funext fun j=>hg j
   rw[e1,e2]
  rw[List.length_cons,List.range_succ_eq_map,List.filter_cons]
  rw[h0,jy]
  by_cases h:y≠x
  ·rw [if_pos h, if_pos (decide_eq_true h), List.map_cons, zw]
   simp
  ·rw[if_neg h,if_neg (by simpa using h),zw]
theorem HU:∀ zs:List Int,Lib.compact zs=gT zs
 |[]=>rfl
 |x :: r=>by
  rw[sG,←zu r x]
  unfold Lib.compact Lib.compactUpTo
  rw[List.length_cons,List.range_succ_eq_map,List.filter_cons]
  rw[if_pos (by simp[Lib.keeps])]
  rw[List.map_cons,List.filter_map,List.map_map]
  rfl
theorem Dx {P:Program} {ρ : Go.Shelf.Ren} (L:Go.Proofs.Lays2.n20 P ρ) (hf:∃ fn,P.funcs[ρ.f 20]?=some fn∧fn.body.isSome=true∧(fn.name == "runtime.NumGoroutine")=false):vm P (ρ.f 20):=by
 refine⟨hf,fun p cap w=>Go.Proofs.Any.slices_Compact_int_empty L p cap w,fun b off cap zs w C e hC hz h0 hlt hcap=>?_⟩
 have hb:b<w.heap.size:=(Array.getElem?_eq_some_iff.1 hC).1
 have hH:Go.Sort.Holds (Value.int .i64) w b off zs.toArray:=by
  intro j hj
  have hj:j<zs.length:=by simpa using hj
  have h1:=hz j zs[j] (List.getElem?_eq_getElem hj)
  refine⟨?_,?_⟩
  ·rw [getElem!_pos zs.toArray j (by simpa using hj)]
   simp[World.cell?,hC,h1]
  ·simp[World.frozen?,hC]
 refine Calls.mono (Go.Proofs.Any.slices_Compact_int L b off cap zs w hH (by omega) hcap) ?_
 rintro en w' ⟨rfl,q,rfl⟩
 rw[HU]
 refine⟨rfl,?_⟩
 have hle:=lT zs
 have:=E9 (w:=w) (b:=b) (off:=off) (n:=q) (zs:=gT zs++List.replicate (zs.length-(gT zs).length) 0) (os:=#[]) (fun C' e' K9=>by
  rw[hC] at K9
  injection K9 with K9
  injection K9 with K9 _ _
  subst K9
  have h2:=hz (zs.length-1) zs[zs.length-1] (List.getElem?_eq_getElem (by omega))
  have h2:=(Array.getElem?_eq_some_iff.1 h2).1
  simp only[List.length_append,List.length_replicate]
  omega) hb
 rw[grow_empty] at this
 refine⟨this.os,this.tape,this.output,this.size,this.other,fun C e hC=>?_⟩
 obtain⟨C',h1,h2,h3⟩:=this.row C e hC
 refine⟨C',h1,h2,fun j z hj=>h3 j z ?_⟩
 rw[List.getElem?_append_left (List.getElem?_eq_some_iff.1 hj).1]
 exact hj
end Go.bI
