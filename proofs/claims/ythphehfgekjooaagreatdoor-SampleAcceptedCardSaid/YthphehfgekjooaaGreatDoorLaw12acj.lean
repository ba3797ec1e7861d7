/- A part of the proof: Law12aci, Law12acj. -/
import Derived.Test.YthphehfgekjooaaGreatDoorLaw12ach
set_option linter.unusedVariables false
set_option linter.unusedSimpArgs false
namespace Go.Proofs.YthphehfgekjooaaGreatDoor
open Go Go.bq Go.Sym
open Classical
theorem yg {n i:Nat} {t:aI} (h:cX n i t):t.1=1∨t.1=2∨t.1=3∨t.1=4∨t.1=5∨t.1=6∨t.1=7:=by
 unfold cX at h
 split at h
 ·omega
 ·split at h
  ·omega
  ·split at h
   ·omega
   ·split at h
    ·omega
    ·exact h.elim
theorem Lc {N:Nat} {l:List aI} (hN:1100<N) (hl:l.length≤100) (ht:La l):Oq N l=some (iY 1048576 l l.length):=by
 have h0:decide (0≤(l.length:Int))=true:=decide_eq_true (by omega)
 have hr:(decide (Int.toNat (l.length:Int)≤Int.toNat (l.length:Int))&&room (Int.toNat (l.length:Int)) 16)=true:=by
  rw[decide_eq_true (Nat.le_refl _),Int.toNat_natCast,az (by omega) (by omega)];rfl
 rw[Oq.eq_1,h0,aj,aj,hr,aj,Int.toNat_natCast]
 have key := vr (n := l.length) (Lf := fun k i => f144.cB N k (l, (l.length : Int), i, iY 1048576 l i.toNat ++ List.replicate (l.length - i.toNat) (0, 0))) (g := fun _ => some (iY 1048576 l l.length)) (fun k => by
   simp only[f144.cB.eq_2,bp,ai,Int.toNat_natCast,Nat.sub_self,List.replicate_zero,List.append_nil]) (fun k i hi ih=>by
   have e:idx l (i:Int)=some (jv l i):=jY _ hi
   have ht':=ht i hi
   have hff:=ht'.fields
   have hE:=FK (C:=1048576) (by omega) (by omega) ht i (by omega)
   have hol:=BE 1048576 l i
   have hnl:(iY 1048576 l i++List.replicate (l.length-i) ((0:Int),(0:Int))).length=l.length:=by simp[hol];omega
   have Sp:∀ v:Ex,(iY 1048576 l i++List.replicate (l.length-i) (0,0)).set i v=(iY 1048576 l i++[v])++List.replicate (l.length-(i+1)) (0,0):=fun v=>abi hol hi
   obtain⟨w,hw⟩:=DO (l:=iY 1048576 l i++List.replicate (l.length-i) ((0:Int),(0:Int))) (i:=i) (by omega)
   simp only[Int.toNat_natCast] at ih ⊢
   rw[iY] at ih
   have fin:∀ v:Ex,v=BD 1048576 (iY 1048576 l i) (jv l i)→f144.cB N k (l,(l.length:Int),((i+1:Nat):Int),(iY 1048576 l i++[v])++List.replicate (l.length-(i+1)) (0,0))=some (iY 1048576 l l.length):=by
    rintro _ rfl;exact ih
   have hin:jf (i:Int) (iY 1048576 l i++List.replicate (l.length-i) ((0:Int),(0:Int))).length=true:=by rw[hnl];exact dD hi
   simp only[f144.cB.eq_2,bg hi,av,e,Option.bind_some,Int.toNat_natCast,hin,hw,Sp,aj,aE (show i<9223372036854775807 by omega),jW]
   unfold BD at fin
   rcases yg ht' with h|h|h|h|h|h|h
   ·rw[h];exact fin _ (by rw[if_pos h])
   ·rw[h];exact fin _ (by rw[h];rfl)
   ·rw[h];exact fin _ (by rw[h];rfl)
   ·rw[h];exact fin _ (by rw[h];rfl)
   ·rw [h] at fin ⊢
    have:=abh (N:=N) (b:=List.replicate (l.length-i) (0,0)) hN hE (fs:=(jv l i).2.2.2) (by omega) (fun f hf=>by rw[hol];exact hff.2.2 f hf)
    have hq:(Option.bind (KM N (iY 1048576 l i++List.replicate (l.length-i) (0,0),(jv l i).2.2.2)) fun y12=>
      f144.cB N k (l,(l.length:Int),((i+1:Nat):Int),(iY 1048576 l i++[y12.2])++List.replicate (l.length-(i+1)) (0,0)))=some (iY 1048576 l l.length):=by
     rw[this,Option.bind_some];exact fin _ rfl
    exact hq
   ·have hp := ht'.arr h
    have ha:=hE.get (by omega) (jv l i).2.1
    have hm:=IQ hp.2 ha.2 (by omega)
    have hx:(iY 1048576 l i++List.replicate (l.length-i) ((0:Int),(0:Int)))[(jv l i).2.1.toNat]?=some (rY (iY 1048576 l i) (jv l i).2.1):=by
     have:=(AH (FJ (x:=iY 1048576 l i++List.replicate (l.length-i) ((0:Int),(0:Int))) (i:=(jv l i).2.1) (by rw[hnl];omega))).2
     rw[this,MP (by rw[hol];exact hp.1)]
    have hq:(aM (jf (jv l i).2.1 (iY 1048576 l i++List.replicate (l.length-i) ((0:Int),(0:Int))).length) (Option.bind ((iY 1048576 l i++List.replicate (l.length-i) ((0:Int),(0:Int)))[(Int.toNat (jv l i).2.1)]?) fun x10=>
      f144.cB N k (l,(l.length:Int),((i+1:Nat):Int),(iY 1048576 l i++[((min (1048576:Int) (ah ((jv l i).2.2.1*x10.1))),x10.2)])++List.replicate (l.length-(i+1)) (0,0))))=some (iY 1048576 l l.length):=by
     rw[p6 (by rw[hnl];omega),aj,hx,Option.bind_some]
     refine fin _ ?_
     rw[bn (by omega),h];rfl
    rw[h];exact hq
   ·rw[h];exact fin _ (by rw[h];rfl)) N 0 (by omega) (by omega)
 have:f144.cB N N (l,(l.length:Int),(0:Int),List.replicate l.length (0,0))=some (iY 1048576 l l.length):=by simpa[iY] using key
 rw[this];rfl
noncomputable def Rel (a b:Ex):Prop:=(a.1=b.1∨(256<a.1∧256<b.1))∧a.2=b.2
noncomputable def exs (l:List aI):List Ex:=iY 1048576 l l.length
noncomputable def MQ (l:List aI):Prop:=∀ i:Nat,i<l.length→(rY (exs l) i).1≤256
theorem Wh (l:List aI):(exs l).length=l.length:=BE _ _ _
theorem Wi {N:Nat} {l:List aI} (hN:1300<N) (hl:Sq l) (ht:p7 l) {i:Int} (hi:0≤i∧i<l.length) :
  F54 N (l,i)=some (if (rY (exs l) i).1≤256 then ((rY (exs l) i).1,(rY (exs l) i).2,0) else (0,0,16)):=by
 have e:idx (exs l) i=some (rY (exs l) i):=FJ (by rw[Wh];exact hi)
 rw[F54.eq_1,F92.eq_1,DV hN hl,if_pos ht,Option.bind_some,iM,ai,decide_eq_false (show ¬i<0 by omega),ai,Option.bind_some,decide_eq_false (show ¬i≥(l.length:Int) by omega),ai,Lc (by omega) hl.1 ht.2.1,Option.bind_some,show iY 1048576 l l.length=exs l from rfl,e,Option.bind_some]
 by_cases h:(rY (exs l) i).1≤256
 ·rw [if_pos h, decide_eq_false (show ¬ (rY (exs l) i).1 > 256 by omega), ai, Option.bind_some]
  simp only
  rw[iM,ai,e];rfl
 ·rw[if_neg h,decide_eq_true (show (rY (exs l) i).1>256 by omega),av];rfl
end Go.Proofs.YthphehfgekjooaaGreatDoor
namespace Go.Proofs.YthphehfgekjooaaGreatDoor
open Go Go.bq Go.Sym
open Classical
noncomputable def Ld (l:List Field) (n:Nat):Prop:=∀ f,f∈l→0≤f.2∧f.2<n
noncomputable def jZ (n:Nat) (f:Func):Prop:=
 nP f.1=true∧f.2.2.2.1.length≤16∧dy f.2.2.2.1∧(0≤f.2.1∧f.2.1≤f.2.2.2.1.length)∧(-1≤f.2.2.1∧f.2.2.1<n)∧Ld f.2.2.2.1 n∧
 (1≤f.2.2.2.2.1.length∧f.2.2.2.2.1.length≤200)∧(∀ x,x∈f.2.2.2.2.1→fk x=true)∧bO f.2.2.2.2.2.1 f.2.2.2.2.1.length∧bO f.2.2.2.2.2.2 f.2.2.2.2.1.length
noncomputable def r6 (f:Func):Prop:=f.2.2.2.1.length≤300∧f.2.2.2.2.1.length≤1000∧f.2.2.2.2.2.1.length≤1000∧f.2.2.2.2.2.2.length≤1000∧(∀ x,x∈f.2.2.2.2.1→JB x)∧nY f.2.2.2.2.2.1∧nY f.2.2.2.2.2.2
theorem Sw {N:Nat} {l:List Field} {ts:List aI} (hN:l.length<N) (hl:l.length≤1000) (a:List UInt8) (b c:Int) (d:List Field) (e:List Instr) (f g:List cI) :
  f55.bz N N (ts,l,(l.length:Int),(0:Int),a,b,c,d,e,f,g)=some (if Ld l ts.length then .inr (a,b,c,d,e,f,g) else .inl false):=by
 have key:=rV (l:=l) (a:=(.inr (a,b,c,d,e,f,g):Bool⊕(List UInt8×Int×Int×List Field×List Instr×List cI×List cI))) (b:=.inl false) (p:=fun x=>!decide (0≤x.2∧x.2<(ts.length:Int)))
  (Lf := fun k i => f55.bz N k (ts, l, (l.length : Int), i, a, b, c, d, e, f, g)) (fun k _ => by
   simp only[f55.bz.eq_2,bp,ai]) (fun k i x hx hm=>by
   simp only[f55.bz.eq_2,bg (aN hx),av,aT hx,Option.bind_some,aE (show i<9223372036854775807 by have:=aN hx;omega),jW]
   by_cases h:0≤x.2∧x.2<(ts.length:Int)
   ·rw[dc h,cu (show ¬x.2<0 by omega),cu (show ¬x.2≥(ts.length:Int) by omega)];rfl
   ·rw [cu h]
    by_cases h1:x.2<0
    ·rw[dc h1];rfl
    ·rw[dc (show x.2≥(ts.length:Int) by omega),Bool.or_true];rfl) (k:=N) hN
 rw[key,zq]
 simp only[decide_eq_true_eq]
 exact congrArg some (Wa Iff.rfl)
theorem Wj {N:Nat} {l:List Instr} (hN:l.length<N) (hl:l.length≤1000) (a:List UInt8) (b c:Int) (d:List Field) (e:List Instr) (f g:List cI) :
  f55.me N N (l,(l.length:Int),(0:Int),a,b,c,d,e,f,g)=some (if ∀ x,x∈l→fk x=true then .inr (a,b,c,d,e,f,g) else .inl false):=by
 have key:=rV (l:=l) (a:=(.inr (a,b,c,d,e,f,g):Bool⊕(List UInt8×Int×Int×List Field×List Instr×List cI×List cI))) (b:=.inl false) (p:=fun x=>!fk x)
  (Lf := fun k i => f55.me N k (l, (l.length : Int), i, a, b, c, d, e, f, g)) (fun k _ => by
   simp only[f55.me.eq_2,bp,ai]) (fun k i x hx hm=>by
   simp only[f55.me.eq_2,bg (aN hx),av,aT hx,Option.bind_some,aE (show i<9223372036854775807 by have:=aN hx;omega),oP]
   by_cases h:fk x=true
   ·simp[h]
   ·simp[h]) (k:=N) hN
 rw[key,zq]
theorem IS {N:Nat} {ts:List aI} {f:Func} (hN:1300<N) (hf:r6 f):F55 N (ts,f.1,f.2.1,f.2.2.1,f.2.2.2.1,f.2.2.2.2.1,f.2.2.2.2.2.1,f.2.2.2.2.2.2)=some (decide (jZ ts.length f)):=by
 obtain⟨nm,pa,re,sl,co,si,li⟩:=f
 obtain⟨g1,g2,g3,g4,g5,g6,g7⟩:=hf
 simp only at g1 g2 g3 g4 g5 g6 g7 ⊢
 rw[F55.eq_1,Bx (by omega),IK (by omega) (by omega)]
 simp only[Option.bind_some,jW]
 have no:∀ {p:Prop},(jZ ts.length (nm,pa,re,sl,co,si,li)→p)→¬p→decide (jZ ts.length (nm,pa,re,sl,co,si,li))=false:=fun h hp=>cu fun h'=>hp (h h')
 by_cases hA:nP nm=true∧sl.length≤16∧dy sl∧(0≤pa∧pa≤sl.length)∧-1≤re∧re<ts.length
 ·obtain ⟨a1, a2, a3, a4, a5, a6⟩ := hA
  rw[a1,cu (show ¬(sl.length:Int)>16 by omega),dc a3,cu (show ¬pa<0 by omega),cu (show ¬pa>(sl.length:Int) by omega),cu (show ¬re < -1 by omega),cu (show ¬re≥(ts.length:Int) by omega),show (!true||(false||(!true||(false||(false||(false||false))))))=false from rfl,ai,Sw (by omega) (by omega),Option.bind_some]
  by_cases hr:Ld sl ts.length
  ·rw [if_pos hr]
   simp only
   rw[Wj (by omega) (by omega),Option.bind_some]
   by_cases hc:∀ x,x∈co→fk x=true
   ·rw [if_pos hc]
    simp only
    rw[wT (by omega) (by omega),wT (by omega) (by omega),Option.bind_some,Option.bind_some]
    by_cases hn:co.length<1∨co.length>200
    ·rw[if_pos hn,no (p:=1≤co.length∧co.length≤200) (fun h=>h.2.2.2.2.2.2.1) (by omega)];rfl
    ·rw [if_neg hn, if_neg hn]
     by_cases hs:bO si co.length
     ·rw [if_pos hs]
      by_cases hv:bO li co.length
      ·rw[if_pos hv,dc (show jZ ts.length (nm,pa,re,sl,co,si,li) from⟨a1,a2,a3,a4,⟨a5,a6⟩,hr,by simp only;omega,hc,hs,hv⟩)];rfl
      ·rw[if_neg hv,no (fun h=>h.2.2.2.2.2.2.2.2.2) hv];rfl
     ·rw[if_neg hs,no (fun h=>h.2.2.2.2.2.2.2.2.1) hs];rfl
   ·rw[if_neg hc,no (fun h=>h.2.2.2.2.2.2.2.1) hc]
  ·rw[if_neg hr,no (fun h=>h.2.2.2.2.2.1) hr]
 ·rw [no (fun h => ⟨h.1, h.2.1, h.2.2.1, h.2.2.2.1, h.2.2.2.2.1.1, h.2.2.2.2.1.2⟩) hA]
  have:(!nP nm||(decide ((sl.length:Int)>16)||(!decide (dy sl)||(decide (pa<0)||(decide (pa>(sl.length:Int))||(decide (re < -1)||decide (re≥(ts.length:Int))))))))=true:=by
   false_or_by_contra
   rename_i h
   apply hA
   simp only[Bool.not_eq_true,Bool.or_eq_false_iff,Bool.not_eq_false',decide_eq_false_iff_not,decide_eq_true_eq] at h
   obtain⟨k1,k2,k3,k4,k5,k6,k7⟩:=h
   exact⟨k1,by omega,k3,by omega,by omega,by omega⟩
  rw[this,av]
noncomputable def fn0:Func:=([],0,0,[],[],[],[])
noncomputable def p8 (l:List Func) (i:Nat):Func:=l.getD i fn0
noncomputable def IT (l:List Func) (i:Nat):Prop:=∃ j,j<i∧(p8 l j).1=(p8 l i).1
noncomputable def Cu (n:Nat) (l:List Func) (i:Nat):Bool:=decide (jZ n (p8 l i)) && !decide (IT l i)
noncomputable def cG (ts:List aI) (xs:List (List UInt8)) (fs:List Func):Prop:=
 p7 ts∧xs.length≤32∧(1≤fs.length∧fs.length≤32)∧MQ ts∧(∀ s,s∈xs→s.length≤64)∧∀ i,i<fs.length→Cu ts.length fs i=true
noncomputable def Sx (ts:List aI) (xs:List (List UInt8)) (fs:List Func):Prop:=Sq ts∧xs.length≤50∧(∀ s,s∈xs→s.length≤1000)∧fs.length≤50∧∀ f,f∈fs→r6 f
theorem BF {l:List Func} {i:Nat} (hi:i<l.length):hasB ((l.take i).map (·.1)) (p8 l i).1=decide (IT l i):=by
 unfold hasB
 by_cases h:IT l i
 ·rw [decide_eq_true h, List.any_eq_true]
  obtain⟨j,h1,h2⟩:=h
  refine⟨(p8 l j).1,List.mem_map.2 ⟨p8 l j,?_,rfl⟩,decide_eq_true h2.symm⟩
  rw[p8,List.getD_eq_getElem?_getD,List.getElem?_eq_getElem (by omega)]
  exact List.mem_take_iff_getElem.2 ⟨j,by omega,rfl⟩
 ·rw [decide_eq_false h]
  cases ha:((l.take i).map (·.1)).any fun q=>decide ((p8 l i).1=q) with
  |false=>rfl
  |true=>
   exfalso
   obtain⟨q,h1,h2⟩:=List.any_eq_true.1 ha
   obtain⟨f,h3,rfl⟩:=List.mem_map.1 h1
   obtain⟨j,h4,rfl⟩:=List.mem_take_iff_getElem.1 h3
   refine h ⟨j,by omega,?_⟩
   rw[of_decide_eq_true h2]
   rw[p8,List.getD_eq_getElem?_getD,List.getElem?_eq_getElem (by omega)];rfl
theorem Wl {l:List Func} {i:Nat} (hi:i<l.length):l[i]?=some (p8 l i):=by
 rw[p8,List.getD_eq_getElem?_getD,List.getElem?_eq_getElem hi];rfl
theorem Le {l:List Func} {i:Nat} (hi:i<l.length) (h:¬IT l i):qB ((l.take i).map (·.1)) (p8 l i).1=(l.take (i+1)).map (·.1):=by
 unfold qB
 rw[BF hi,decide_eq_false h,take_succ (Wl hi),List.map_append]
 rfl
theorem vF {N:Nat} {ts:List aI} {xs:List (List UInt8)} {fs:List Func} (hN:1300<N) (hm:Sx ts xs fs):TN N (ts,xs,fs)=some (decide (cG ts xs fs)):=by
 obtain⟨m1,m2,m3,m4,m5⟩:=hm
 have no:∀ {p:Prop},(cG ts xs fs→p)→¬p→decide (cG ts xs fs)=false:=fun h hp=>cu fun h'=>hp (h h')
 have htl:=m1.1
 rw[TN.eq_1,DV hN m1]
 simp only[Option.bind_some,jW]
 by_cases hA:p7 ts∧xs.length≤32∧1≤fs.length∧fs.length≤32
 ·obtain ⟨a1, a2, a3, a4⟩ := hA
  rw[if_pos a1,iM,cu (show ¬(xs.length:Int)>32 by omega),zp (show ¬fs.length=0 by omega),cu (show ¬(fs.length:Int)>32 by omega),show (false||(false||(false||false)))=false from rfl,ai]
  have key:=mY (n:=ts.length) (a:=(.inr (ts,xs,fs):Bool⊕(List aI×List (List UInt8)×List Func))) (b:=.inl false) (q:=fun i=>!decide ((rY (exs ts) i).1≤256)) (Lf:=fun k i=>f28.bz N k ((ts.length:Int),i,ts,xs,fs)) (fun k _=>by
    simp only[f28.bz.eq_2,bp,ai]) (fun k i hi _=>by
    simp only[f28.bz.eq_2,bg hi,av,Wi hN m1 a1 (show 0≤(i:Int)∧(i:Int)<ts.length by omega),Option.bind_some,aE (show i<9223372036854775807 by omega)]
    by_cases h:(rY (exs ts) i).1≤256
    ·rw[if_pos h,dc h];rfl
    ·rw[if_neg h,cu h];rfl) (k:=N) (by omega)
  rw[key,Bw,Option.bind_some]
  by_cases hs:MQ ts
  ·rw [if_pos fun i hi => dc (hs i hi)]
   simp only
   have abg:=rV (l:=xs) (a:=(.inr (ts,xs,fs):Bool⊕(List aI×List (List UInt8)×List Func))) (b:=.inl false) (p:=fun s=>!decide (s.length≤64)) (Lf:=fun k i=>f28.mg N k (xs,(xs.length:Int),i,ts,xs,fs)) (fun k _=>by
     simp only[f28.mg.eq_2,bp,ai]) (fun k i x hx hm=>by
     simp only[f28.mg.eq_2,bg (aN hx),av,aT hx,Option.bind_some,aE (show i<9223372036854775807 by have:=aN hx;omega)]
     by_cases h:x.length≤64
     ·rw[dc h,cu (show ¬(x.length:Int)>64 by omega)];rfl
     ·rw[cu h,dc (show (x.length:Int)>64 by omega)];rfl) (k:=N) (by omega)
   rw[abg,zq,Option.bind_some]
   by_cases hx:∀ s,s∈xs→s.length≤64
   ·rw [if_pos fun s h => dc (hx s h)]
    simp only
    have aeZ:=mY (n:=fs.length) (a:=(.inr ():Bool⊕Unit)) (b:=.inl false) (q:=fun i=>!Cu ts.length fs i) (Lf:=fun k i=>f28.mc N k (fs,(fs.length:Int),i,ts,xs,fs,(fs.take i.toNat).map (·.1))) (fun k _=>by
      simp only[f28.mc.eq_2,bp,ai]) (fun k i hi _=>by
      have e:idx fs (i:Int)=some (p8 fs i):=jY _ hi
      simp only[f28.mc.eq_2,bg hi,av,e,Option.bind_some,Int.toNat_natCast,BF hi,aE (show i<9223372036854775807 by omega)]
      have hfk:=IS (ts:=ts) hN (m5 _ (rX fn0 hi))
      rw[show fs.getD i fn0=p8 fs i from rfl] at hfk
      rw[hfk,Option.bind_some]
      unfold Cu
      by_cases hd:IT fs i
      ·rw[dc hd,Bool.not_true,Bool.and_false];rfl
      ·rw [Le hi hd, cu hd]
       by_cases hk:jZ ts.length (p8 fs i)
       ·rw[dc hk];rfl
       ·rw[cu hk];rfl) (k:=N) (by omega)
    rw[show (0:Int).toNat=0 from rfl,List.take_zero,List.map_nil] at aeZ
    rw[aeZ,Bw,Option.bind_some]
    by_cases hf:∀ i,i<fs.length→Cu ts.length fs i=true
    ·rw[if_pos hf,dc (show cG ts xs fs from⟨a1,a2,⟨a3,a4⟩,hs,hx,hf⟩)]
    ·rw[if_neg hf,no (fun h=>h.2.2.2.2.2) hf]
   ·rw[if_neg fun h=>hx fun s hs=>of_decide_eq_true (h s hs),no (fun h=>h.2.2.2.2.1) hx]
  ·rw[if_neg fun h=>hs fun i hi=>of_decide_eq_true (h i hi),no (fun h=>h.2.2.2.1) hs]
 ·rw [no (fun h => ⟨h.1, h.2.1, h.2.2.1⟩) hA]
  have:(((if p7 ts then (0:Int) else 8) != 0)||(decide ((xs.length:Int)>32)||(((fs.length:Int)==0)||decide ((fs.length:Int)>32))))=true:=by
   false_or_by_contra
   rename_i h
   apply hA
   simp only[Bool.not_eq_true,Bool.or_eq_false_iff,decide_eq_false_iff_not,We] at h
   obtain⟨k1,k2,k3,k4⟩:=h
   refine⟨?_,by omega,by omega,by omega⟩
   false_or_by_contra
   rename_i h
   rw[if_neg h] at k1
   cases k1
  rw[this,av]
end Go.Proofs.YthphehfgekjooaaGreatDoor
