/- A part of the proof: Law12acac5, Law12acn, Law12acy1, Law12acac6. -/
import Derived.Test.YthphehfgekjooaaGreatDoorLaw12acac4
import Derived.Test.YthphehfgekjooaaGreatDoorLaw12acl7b
import Derived.Test.YthphehfgekjooaaGreatDoorLaw12acc
import Derived.Test.YthphehfgekjooaaGreatDoorLaw12acx4
set_option linter.unusedVariables false
set_option linter.unusedSimpArgs false
namespace Go.Proofs.YthphehfgekjooaaGreatDoor
open Go Go.bq Go.Sym
open Classical
noncomputable def abH:List Nat:=[0,1,3,7,15,31,63,191,255]
noncomputable def SM (k:Nat):Nat:=abH.getD k 511
noncomputable def n4 (k:Nat):Instr:=yS.getD k (0,0,0,0)
theorem Tj:((List.range 9).all fun k=>SM (k+1)==(SM k ||| SS (n4 k))&&(bP ue (n4 k)).all fun s=>decide (0≤s)&&(SM k).testBit s.toNat)=true:=by decide +kernel
theorem WL:(base.all fun x=>decide (JD x<512)&&(bP ue x).all fun s=>decide (0≤s)&&Nat.testBit 511 s.toNat)=true:=by decide +kernel
theorem afg:((List.range 200).all fun t:Nat=>decide (JD (23,1,(t:Int),0)<512)&&(bP ue (23,1,(t:Int),0)).all fun s=>decide (0≤s)&&Nat.testBit 511 s.toNat)=true:=by decide +kernel
theorem LG {k:Nat} (h:9≤k):SM k=511:=by
 unfold SM
 rw[List.getD_eq_getElem?_getD,List.getElem?_eq_none (by simpa[abH] using h)];rfl
variable {l:List Instr}
theorem Good.us (h:Good l) {x:Instr} (hx:x∈l):JD x<512∧∀ s,s∈bP ue x→0≤s∧Nat.testBit 511 s.toNat=true:=by
 have:(decide (JD x<512)&&(bP ue x).all fun s=>decide (0≤s)&&Nat.testBit 511 s.toNat)=true:=by
  rcases h.inst200 hx with h|⟨t,ht,rfl⟩
  ·exact List.all_eq_true.1 WL x h
  ·exact List.all_eq_true.1 afg t (List.mem_range.2 ht)
 rw[Bool.and_eq_true] at this
 refine⟨of_decide_eq_true this.1,fun s hs=>?_⟩
 have:=List.all_eq_true.1 this.2 s hs
 rw[Bool.and_eq_true] at this
 exact⟨of_decide_eq_true this.1,this.2⟩
theorem Good.first (h:Good l) {k:Nat} (hk:k<9):l[k]?=some (n4 k):=by
 obtain⟨r,rfl,_⟩:=h.pro
 rw[List.getElem?_append_left (by show k<9;exact hk)]
 unfold n4
 rw[List.getD_eq_getElem?_getD,List.getElem?_eq_getElem (show k<yS.length from hk)];rfl
theorem Good.sol (h:Good l):Sol l 0 SM:=by
 refine⟨by intro k hk;simp[SM,abH] at hk,fun i hi k hk=>?_⟩
 have Jy:=hi.lt (zw h.valid)
 obtain⟨x,s',hx,_,dY⟩:=(h.at Jy).ex
 by_cases h9:i<9
 ·have hf := h.first h9
  have hs:n4 i∈gK:=by
   have:((List.range 9).all fun k=>gK.contains (n4 k))=true:=by decide +kernel
   exact List.contains_iff_mem.1 (List.all_eq_true.1 this i (List.mem_range.2 h9))
  have ho:=wX _ hs
  rw[j5 hf ⟨ho.1,ho.2.1,ho.2.2.1,ho.2.2.2.1,ho.2.2.2.2.1⟩,List.mem_singleton] at hk
  subst hk
  have:=List.all_eq_true.1 Tj i (List.mem_range.2 h9)
  rw[Bool.and_eq_true,beq_iff_eq] at this
  rw[this.1,Lp hf]
  exact lS _
 ·have := (dY k hk).2.1
  rw[LG (k:=k) (by omega),LG (k:=i) (by omega)]
  exact r7 _ _
theorem Pd (h:Good l):BL l 0 9=0:=by
 have:j0 l (9:Int).toNat=true:=by
  unfold j0
  rw[Bool.not_eq_true',List.any_eq_false]
  intro x hx
  have:=(h.us hx).1
  simp only[decide_eq_true_eq,not_not]
  exact this
 unfold BL
 rw[if_neg (by omega),if_pos this]
theorem LH {N:Nat} (hN:14000000<N) (h:Good l):∃ ms:List Nat,RX N (l,0,9)=some (cN ms,0)∧ms.length=l.length∧∀ k x,l[k]?=some x→O ms k<2 ^ 64∧∀ s,s∈bP ue x→0≤s∧(O ms k).testBit s.toNat=true:=by
 have key:=SX (N:=N) hN (l:=l) (by have:=h.len;omega) (fun _=>h.len) 0 9
 rw[if_pos h.valid,if_pos (Pd h)] at key
 obtain⟨G,hVM,hG,he⟩:=key
 refine⟨ym l G,he,wV _ _,fun k x hx=>?_⟩
 have Jz:=aN hx
 have hmem:=bD hx
 rw[wW Jz]
 have hb:=hG.SV k
 have hlt:G k<2 ^ 64:=by
  have:=hVM.lt hb
  omega
 by_cases hk:k=l.length-1
 ·rw [if_neg (fun h' => h'.2 hk)]
  refine⟨by omega,fun s hs=>?_⟩
  have hr:x=gu:=by
   have:=h.last
   simp only[nc,List.getD_eq_getElem?_getD,←hk,hx] at this
   exact this
  subst hr
  rw[show bP ue gu=[] by decide +kernel] at hs
  cases hs
 ·rw [if_pos ⟨h.reach Jz, hk⟩]
  refine⟨hlt,fun s hs=>?_⟩
  have hm:=hG.most SM h.sol k (h.reach Jz)
  by_cases h9:k<9
  ·have hf := h.first h9
   rw[hx] at hf
   injection hf with hf;subst hf
   have:=List.all_eq_true.1 Tj k (List.mem_range.2 h9)
   rw[Bool.and_eq_true] at this
   have:=List.all_eq_true.1 this.2 s hs
   rw[Bool.and_eq_true] at this
   exact⟨of_decide_eq_true this.1,hm _ this.2⟩
  ·obtain ⟨h0, h1⟩ := (h.us hmem).2 s hs
   rw[LG (by omega)] at hm
   exact⟨h0,hm _ h1⟩
theorem abI {m:Nat} {s:Int} (hm:m<2 ^ 64) (h0:0≤s) (hs:s≤15) (hb:m.testBit s.toNat=true):((qv .u64 (Int.fdiv (m:Int) (2 ^ min (Int.toNat s) 64)) 1)==0)=false:=by
 rw[Nat.min_eq_left (by omega),show ((2:Int) ^ s.toNat)=((2 ^ s.toNat:Nat):Int) by rw[Int.natCast_pow];rfl,vA,show (1:Int)=((1:Nat):Int) from rfl,IY (Nat.lt_of_le_of_lt (Nat.div_le_self _ _) hm) (by omega),Nat.and_one_is_mod]
 rw[Nat.testBit_eq_decide_div_mod_eq,decide_eq_true_eq] at hb
 rw[hb];rfl
structure abJ {ι : Type} (N:Nat) (ts:List aI) (xs:List (List UInt8)) (c : ι→List Func) (nm:List UInt8) (pa re:Int) (sl:List Field) (l:List Instr) (si li : ι→List cI):Prop where
 here:WE N ts xs c nm pa re sl l si li
 reach:(Go.Proofs.YthphehfgekjooaaGreatDoor.iN l).set (l.length-1) true=List.replicate l.length true
 near:∀ x,x∈l→∀ q,TO N (ts,xs,c q,nm,pa,re,sl,l,si q,li q,x.1,x.2.1,x.2.2.1,x.2.2.2)=some 0
 typed:∀ x,x∈l→∀ q,KU N (ts,xs,c q,nm,pa,re,sl,l,si q,li q,x.1,x.2.1,x.2.2.1,x.2.2.2)=some true
 aM:∀ x,x∈l→fk x=true
 main:decide (pa>0)=false∧decide (re≥0)=false
 masks:∃ ms:List Nat,RX N (l,pa,(sl.length:Int))=some (cN ms,0)∧ms.length=l.length∧∀ k x,l[k]?=some x→O ms k<2 ^ 64∧∀ s,s∈bP ue x→0≤s∧(O ms k).testBit s.toNat=true
section
variable {ι : Type} {ts:List aI} {xs:List (List UInt8)} {c : ι→List Func} {nm:List UInt8} {pa re:Int} {sl:List Field} {si li : ι→List cI}
theorem Je {N:Nat} (hN:14000000<N) (h:abJ N ts xs c nm pa re sl l si li) {f:Int} (hf:∀ q,idx (c q) f=some (nm,pa,re,sl,l,si q,li q)):∃ S L,(∀ q,IC N (ts,xs,c q,f)=some (S,L,0,0))∧(S.length≤200∧L.length≤200)∧(nY S∧nY L)∧bO S (l.length:Int)∧bO L (l.length:Int):=by
 have hle:=h.here.len
 have hpos:=h.here.pos
 have hR:F79 N l=some (List.replicate l.length true,0):=by rw[abm (by omega) (by omega),if_pos h.here.valid,h.reach]
 obtain⟨sz,hsz,aiT,aiU⟩:=Lt h.here (by omega)
 obtain⟨ms,W6,aiV,EP⟩:=h.masks
 have e1:=fun q : ι=>(jX (l:=l) (g:=fun _:Unit=>(.inr (l,0,0,ts,xs,c q,nm,pa,re,sl,l,si q,li q):(Int×Int)⊕_)) (Inv:=fun _ _=>True)
  (Lf:=fun k i _=>f49.Bo N k (l,List.replicate l.length true,l,(l.length:Int),i,0,0,ts,xs,c q,nm,pa,re,sl,l,si q,li q))
  (fun k _ _=>by simp only[f49.Bo.eq_2,bp,ai])
  (fun k i x _ hx _ => by
   have hi:=aN hx
   have hin:=bD hx
   have qP:(List.replicate l.length true)[i]?=some true:=by rw[List.getElem?_replicate,if_pos hi]
   refine⟨(),trivial,?_⟩
   simp only[f49.Bo.eq_2,bg hi,av,aT hx,Option.bind_some,h.near x hin q,show ((0:Int) != 0)=false from rfl,ai,aT qP,Bool.not_true,h.typed x hin q,aE (show i<9223372036854775807 by omega)])
  (k:=N) (s:=()) trivial (by omega)).elim fun _ h=>h.2
 have e2:∀ (k i:Nat) (x:Instr),l[i]?=some x→∀ (r:List Int) (j:Nat) (n:Nat),bP ue x=r→j≤r.length→r.length-j<n→f49.DM k n (sz,cN ms,(i:Int),0,l,(l.length:Int),(i:Int),r,(r.length:Int),(j:Int),0,0)=some (.inr (sz,cN ms,l,(l.length:Int),(i:Int),0,0)):=by
  intro k i x hx r j n hr hj hn
  induction n generalizing j with
  |zero=>omega
  | succ n ih =>
   rw[f49.DM.eq_2]
   by_cases hjr:j=r.length
   ·subst hjr;rw[bp,ai]
   ·have hlt : j < r.length := by omega
    have hg:=List.getElem?_eq_getElem hlt
    have hs:r[j]∈bP ue x:=by rw[hr];exact List.getElem_mem hlt
    obtain⟨h0,hb⟩:=(EP i x hx).2 _ hs
    have h15:=((BK (h.aM x (bD hx))).1 _ hs).2
    have aiW:(cN ms)[i]?=some ((O ms i:Nat):Int):=j4 (by have:=aN hx;omega)
    have hrl:=qc ue x
    rw[hr] at hrl
    simp only[bg hlt,av,aT hg,Option.bind_some,show ((0:Int) != 0)=false from rfl,ai,aT aiW,show (!decide (r[j]<0))=true by simp;omega,aj,abI (EP i x hx).1 h0 h15 hb,aE (show j<9223372036854775807 by omega)]
    exact ih (j+1) (by omega) (by omega)
 obtain⟨_,_,e3⟩:=jX (l:=l) (g:=fun _:Unit=>(.inr (sz,cN ms,0,0):(Int×Int)⊕_)) (Inv:=fun _ _=>True)
  (Lf:=fun k i _=>f49.Bp N k (sz,cN ms,l,(l.length:Int),i,0,0))
  (fun k _ _=>by simp only[f49.Bp.eq_2,bp,ai])
  (fun k i x _ hx _ => by
   have hi:=aN hx
   have bI:=qc ue x
   have h46:=e2 N i x hx (bP ue x) 0 N rfl (by omega) (by omega)
   rw[show ((0:Nat):Int)=0 from rfl] at h46
   refine⟨(),trivial,?_⟩
   simp only[f49.Bp.eq_2,bg hi,av,aT hx,Option.bind_some,Lg,(h.aM x (bD hx)),h46,aE (show i<9223372036854775807 by omega)])
  (k:=N) (s:=()) trivial (by omega)
 obtain⟨r1,t1,q1,w1,u1⟩:=BQ (N:=N) (v:=sz) (by omega) (by omega) (by omega)
 obtain⟨r2,t2,q2,w2,u2⟩:=BQ (N:=N) (v:=cN ms) (by omega) (by rw[cq];omega) (by rw[cq];omega)
 have hmb:∀ y,y∈cN ms→0≤y∧y≤18446744073709551615:=fun y hy=>by
  obtain⟨k,hk,rfl⟩:=List.mem_iff_getElem.1 hy
  have Jz:k<l.length:=by rw[cq] at hk;omega
  have:=(EP k _ (List.getElem?_eq_getElem Jz)).1
  have e:=j4 (o:=ms) (k:=k) (by omega)
  rw[List.getElem?_eq_getElem hk] at e
  injection e with e
  rw[e];omega
 rw[aiT] at u1
 rw[cq,aiV] at u2
 refine⟨r1,r2,fun q=>?_,⟨q1,q2⟩,⟨fun x hx=>aiU _ (w1 x hx),fun x hx=>hmb _ (w2 x hx)⟩,u1,u2⟩
 rw[IC.eq_1]
 simp only[hf q,Option.bind_some,hR,show ((0:Int) != 0)=false from rfl,ai,h.main.1,h.main.2,e1 q,hsz q,Bool.not_true,W6,e3,t1,t2]
 cases (f==(0:Int))<;>simp
end
theorem Good.abK (h:Good l) {N:Nat} (hN:14000000<N):abJ (ι:=RQ) (N+60) iO iP (fun Q=>qe Q l) nQ 0 (-1) MV l (fun Q=>(Q 0).1) fun Q=>(Q 0).2:=
 ⟨h.here N,h.iN,fun x hx q=>WB (h.inst200 hx),fun x hx q=>S6 (h.inst200 hx),fun x hx=>(h.aM hx).1,⟨rfl,rfl⟩,LH (by omega) h⟩
theorem Pe {N:Nat} (hN:14000000<N) (h:Good l):∃ S L,(∀ Q:RQ,IC (N+60) (iO,iP,qe Q l,0)=some (S,L,0,0))∧(S.length≤200∧L.length≤200)∧(nY S∧nY L)∧bO S (l.length:Int)∧bO L (l.length:Int):=
 Je (by omega) (h.abK hN) fun _=>rfl
noncomputable def l0:List Instr:=yS++[gu]
theorem vP {n:Nat} (h:1≤n):bO [(0,0)] (n:Int):=by
 refine⟨by simp,rfl,fun i hi=>by simp at hi,fun i hi=>?_⟩
 simp only[List.length_singleton] at hi
 have:i=0:=by omega
 subst this
 show (0:Int)<n
 omega
noncomputable def sj (l:List Instr):List Nat:=[l.length,10,7,5,2,2,2,3]
noncomputable def abL (Q:RQ):Prop:=∀ i,i<8→((Q i).1.length≤200∧(Q i).2.length≤200)∧(nY (Q i).1∧nY (Q i).2)
noncomputable def QOK (Q:RQ) (l:List Instr):Prop:=∀ i,i<8→((Q i).1.length≤200∧(Q i).2.length≤200)∧(nY (Q i).1∧nY (Q i).2)∧bO (Q i).1 (((sj l).getD i 0:Nat):Int)∧bO (Q i).2 (((sj l).getD i 0:Nat):Int)
theorem QOK.fit {Q:RQ} (h:QOK Q l):abL Q:=fun i hi=>⟨(h i hi).1,(h i hi).2.1⟩
theorem Jf (h:1≤l.length):∀ i,i<8→1≤(sj l).getD i 0
 |0,_=>h
 |1,_|2,_|3,_|4,_|5,_|6,_|7,_=>by simp[sj]
 |n+8,h=>by omega
theorem Pf:nY [(0,0)]:=by unfold nY;decide
theorem YS (h:1≤l.length):QOK Q0 l:=fun i hi=>⟨by simp[Q0],⟨Pf,Pf⟩,vP (Jf h i hi),vP (Jf h i hi)⟩
theorem nh (Q:RQ):∀ i,i<7→(fJ Q)[i]?=some ((p8 (fJ Q0) i).1,(p8 (fJ Q0) i).2.1,(p8 (fJ Q0) i).2.2.1,(p8 (fJ Q0) i).2.2.2.1,(p8 (fJ Q0) i).2.2.2.2.1,(Q (i+1)).1,(Q (i+1)).2)∧(p8 (fJ Q0) i).2.2.2.2.1.length=(sj []).getD (i+1) 0
 |0,_=>⟨rfl,rfl⟩
 |1,_=>⟨rfl,rfl⟩
 |2,_=>⟨rfl,rfl⟩
 |3,_=>⟨rfl,rfl⟩
 |4,_=>⟨rfl,rfl⟩
 |5,_=>⟨rfl,rfl⟩
 |6,_=>⟨rfl,rfl⟩
 |n+7,h=>by omega
theorem YT:∀ i,i<7→r6 (p8 (fJ Q0) i)∧i64 (p8 (fJ Q0) i).2.2.1:=by
 have hr:∀ f,f∈fJ Q0→r6 f∧i64 f.2.2.1:=by
  intro f hf
  simp only[fJ,List.mem_cons,List.not_mem_nil,or_false] at hf
  rcases hf with rfl|rfl|rfl|rfl|rfl|rfl|rfl<;>(unfold r6 JB nY i64;decide +kernel)
 intro i hi
 refine hr _ ?_
 unfold p8
 rw[List.getD_eq_getElem?_getD,List.getElem?_eq_getElem (show i<(fJ Q0).length from hi)]
 exact List.getElem_mem _
theorem M6 (h:Good l) {Q:RQ} (hQ:abL Q):mh iO iP (qe Q l):=by
 have hr:∀ f,f∈fJ Q→r6 f∧i64 f.2.2.1:=by
  intro f hf
  obtain⟨i,hi,rfl⟩:=List.mem_iff_getElem.1 hf
  have hi:i<7:=hi
  obtain⟨e,_⟩:=nh Q i hi
  rw[List.getElem?_eq_getElem (show i<(fJ Q).length from hi)] at e
  rw[Option.some.inj e]
  obtain⟨⟨g1,g2,_,_,g5,_,_⟩,g8⟩:=YT i hi
  obtain⟨⟨q1,q2⟩,q3,q4⟩:=hQ (i+1) (by omega)
  exact⟨⟨g1,g2,by show (Q (i+1)).1.length≤1000;omega,by show (Q (i+1)).2.length≤1000;omega,g5,q3,q4⟩,g8⟩
 have hm:r6 (S3 Q l)∧i64 (S3 Q l).2.2.1:=by
  have:=h.len
  obtain⟨⟨q1,q2⟩,q3,q4⟩:=hQ 0 (by omega)
  exact⟨⟨by show MV.length≤300;decide,by show l.length≤1000;omega,by show (Q 0).1.length≤1000;omega,by show (Q 0).2.length≤1000;omega,fun x hx=>(h.aM hx).2,q3,q4⟩,by show i64 (-1);unfold i64;decide⟩
 refine⟨⟨⟨by decide,?_⟩,by decide,by decide,by show 8≤50;decide,fun f hf=>?_⟩,fun f hf=>?_⟩
 ·unfold i64 jv;decide +kernel
 ·rcases List.mem_cons.1 hf with rfl | hf
  ·exact hm.1
  ·exact (hr f hf).1
 ·rcases List.mem_cons.1 hf with rfl | hf
  ·exact hm.2
  ·exact (hr f hf).2
theorem YU:Good l0:=by
 refine⟨?_,by decide,[gu],rfl,by decide⟩
 have hs:∀ k,k<9→n4 k∈gK:=by
  have:((List.range 9).all fun k=>gK.contains (n4 k))=true:=by decide +kernel
  exact fun k hk=>List.contains_iff_mem.1 (List.all_eq_true.1 this k (List.mem_range.2 hk))
 exact .one (hs 0 (by omega)) (.one (hs 1 (by omega)) (.one (hs 2 (by omega)) (.one (hs 3 (by omega)) (.one (hs 4 (by omega)) (.one (hs 5 (by omega)) (.one (hs 6 (by omega)) (.one (hs 7 (by omega)) (.one (hs 8 (by omega)) .fin))))))))
theorem Pg {t:List Instr} (h:Code 9 t):Code 0 (yS++t):=by
 have hs:∀ k,k<9→n4 k∈gK:=by
  have:((List.range 9).all fun k=>gK.contains (n4 k))=true:=by decide +kernel
  exact fun k hk=>List.contains_iff_mem.1 (List.all_eq_true.1 this k (List.mem_range.2 hk))
 exact .one (hs 0 (by omega)) (.one (hs 1 (by omega)) (.one (hs 2 (by omega)) (.one (hs 3 (by omega)) (.one (hs 4 (by omega)) (.one (hs 5 (by omega)) (.one (hs 6 (by omega)) (.one (hs 7 (by omega)) (.one (hs 8 (by omega)) h))))))))
theorem afh:cG iO iP (qe Q0 l0):=by
 have h:=vF (N:=1400) (by omega) (M6 YU (YS (l:=l0) (by decide)).fit).1
 have k:TN 1400 (iO,iP,qe Q0 l0)=some true:=by kernel_rfl
 rw[k] at h
 injection h with h
 exact of_decide_eq_true h.symm
theorem Tk (Q:RQ) (l:List Instr):∀ j,(p8 (qe Q l) j).1=(p8 (qe Q0 l0) j).1
 |0|1|2|3|4|5|6|7=>rfl
 |n+8=>rfl
theorem BZ (Q:RQ) (l:List Instr) {i:Nat} (hi:i<7):p8 (qe Q l) (i+1)=((p8 (fJ Q0) i).1,(p8 (fJ Q0) i).2.1,(p8 (fJ Q0) i).2.2.1,(p8 (fJ Q0) i).2.2.2.1,(p8 (fJ Q0) i).2.2.2.2.1,(Q (i+1)).1,(Q (i+1)).2):=by
 have:=(nh Q i hi).1
 unfold p8 at this ⊢
 rw[List.getD_eq_getElem?_getD,show (qe Q l)[i+1]?=(fJ Q)[i]? from rfl,this];rfl
theorem Tl (h:Good l) {Q:RQ} (hQ:QOK Q l):cG iO iP (qe Q l):=by
 obtain⟨h1,h2,h3,h4,h5,h6⟩:=afh
 refine⟨h1,h2,h3,h4,h5,fun i hi=>?_⟩
 have hi:i<8:=hi
 have h7:=h6 i hi
 unfold Cu at h7 ⊢
 rw[Bool.and_eq_true,decide_eq_true_eq] at h7 ⊢
 have hd:IT (qe Q l) i↔IT (qe Q0 l0) i:=by
  unfold IT
  simp only[Tk Q l]
 obtain⟨_,_,q5,q6⟩:=hQ i hi
 refine⟨?_,by rw[Bool.not_eq_true',decide_eq_false_iff_not] at h7 ⊢;rw[hd];exact h7.2⟩
 cases i with
 |succ i=>
  have h7:=h7.1
  rw[BZ Q l (by omega)]
  rw[BZ Q0 l0 (by omega)] at h7
  obtain⟨g1,g2,g3,g4,g5,g6,g7,g8,_,_⟩:=h7
  have e:=(nh Q i (by omega)).2
  have e2:(sj l).getD (i+1) 0=(sj []).getD (i+1) 0:=rfl
  rw[e2,←e] at q5 q6
  exact⟨g1,g2,g3,g4,g5,g6,g7,g8,q5,q6⟩
 |zero=>
  obtain⟨g1,g2,g3,g4,g5,g6,_⟩:=h7.1
  have:=h.len
  have:=h.pos
  exact⟨g1,g2,g3,g4,g5,g6,⟨by show 1≤l.length;omega,h.len⟩,fun x hx=>(h.aM hx).1,q5,q6⟩
theorem Ga:∀ l:List Instr,(l.flatMap encI).length≤31*l.length
 |[]=>by simp
 |x :: r=>by
  have:=rW x
  have:=Ga r
  simp only[List.flatMap_cons,List.length_append,List.length_cons]
  omega
theorem Tm:(V iO.length++(iO.flatMap mZ++(V iP.length++(iP.flatMap said++V 8)))).length+(said nQ).length+(V 0).length+(V (Ce (-1))).length+(iE MV).length≤1000:=by decide +kernel
theorem Ph:((List.range 7).all fun i=>decide ((lR (p8 (fJ Q0) i)).length≤400))=true:=by decide +kernel
theorem Jg {N:Nat} (hN:1300<N) (h:Good l) (hl:l.length≤130) {Q:RQ} (hQ:QOK Q l):RH N (iO,iP,qe Q l)=some 0∧(fA iO iP (qe Q l)).length≤20000:=by
 have hlen:(fA iO iP (qe Q l)).length≤20000:=by
  have h1:=Ga l
  have h3:=cO l.length
  have h4:=Tm
  obtain⟨_,_,q5,q6⟩:=hQ 0 (by omega)
  have r1:=gy q5
  have r2:=gy q6
  have r3:=gD (Q 0).1
  have r4:=gD (Q 0).2
  have e0:(sj l).getD 0 0=l.length:=rfl
  rw[e0] at r1 r2
  have h5:((fJ Q).flatMap lR).length≤(fJ Q).length*820:=fm fun f hf=>by
   obtain⟨i,hi,rfl⟩:=List.mem_iff_getElem.1 hf
   have hi:i<7:=hi
   have e:=(nh Q i hi).1
   rw[List.getElem?_eq_getElem (show i<(fJ Q).length from hi)] at e
   rw[Option.some.inj e]
   obtain⟨_,_,q5,q6⟩:=hQ (i+1) (by omega)
   have hn:(sj l).getD (i+1) 0≤10:=by
    have:∀ j,j<7→([10,7,5,2,2,2,3]:List Nat).getD j 0≤10:=by decide
    exact this i hi
   have r1:=gy q5
   have r2:=gy q6
   have r3:=gD (Q (i+1)).1
   have r4:=gD (Q (i+1)).2
   have:=of_decide_eq_true (List.all_eq_true.1 Ph i (List.mem_range.2 hi))
   unfold lR at this ⊢
   simp only[List.length_append] at this ⊢
   omega
  have e7:(fJ Q).length=7:=rfl
  have e:fA iO iP (qe Q l)=V iO.length++(iO.flatMap mZ++(V iP.length++(iP.flatMap said++(V 8++((said nQ++(V 0++(V (Ce (-1))++(iE MV++(V l.length++(l.flatMap encI++(ju (Q 0).1++ju (Q 0).2)))))))++(fJ Q).flatMap lR))))):=rfl
  rw[e]
  simp only[List.length_append] at h4 ⊢
  omega
 refine⟨?_,hlen⟩
 rw[BG hN (M6 h hQ.fit)]
 congr 1
 unfold yL
 rw[if_pos (Tl h hQ),if_pos hlen]
end Go.Proofs.YthphehfgekjooaaGreatDoor
namespace Go.Proofs.YthphehfgekjooaaGreatDoor
open Go Go.bq Go.Sym
open Classical
theorem M7 {d:eS} {r:List eS} (h:Xo (d :: r)):d.t.ok d.v∧Xo r:=Sd.1 h
section
variable {N:Nat} {ts:List aI} {xs:List (List UInt8)} {fs:List Func}
end
end Go.Proofs.YthphehfgekjooaaGreatDoor
namespace Go.Proofs.YthphehfgekjooaaGreatDoor
open Go Go.bq Go.Sym
open Classical
theorem nq.app {a b:List Int} (ha:nq a) (hb:nq b):nq (a++b):=fun x hx=>(List.mem_append.1 hx).elim (ha x) (hb x)
theorem nq.flat {α : Type} {e : α→List Int} {l:List α} (h:∀ x,x∈l→nq (e x)):nq (l.flatMap e):=fun y hy=>by
 obtain⟨x,hx,hxy⟩:=List.mem_flatMap.1 hy
 exact h x hx y hxy
theorem Jh:∀ k n:Nat,n<2*128 ^ k→nq (qx k n)
 |0,n,h=>fun x hx=>by rw[List.mem_singleton.1 hx];omega
 | k + 1, n, h => by
  unfold qx
  split
  ·intro x hx;rw[List.mem_singleton.1 hx];omega
  ·intro x hx
   rcases List.mem_cons.1 hx with rfl|hx
   ·omega
   ·exact Jh k (n / 128) (by rw[Nat.pow_succ] at h;omega) x hx
theorem lT {n:Nat} (h:n<18446744073709551616):nq (V n):=Jh 9 n (by omega)
theorem LI (s:List UInt8):nq (bx s):=fun x hx=>by
 obtain⟨c,_,rfl⟩:=List.mem_map.1 hx
 have:=c.toNat_lt
 omega
theorem B0 {s:List UInt8} (h:s.length≤1000000):nq (said s):=(lT (by omega)).app (LI s)
theorem B1 {l:List Field} (h:FW l):nq (iE l):=
 (lT (by have := h.1; omega)).app (nq.flat fun f hf => by
  have:=h.2 f hf
  have:=iD this.1
  exact (B0 (by omega)).app (lT (by omega)))
theorem Tn {n i:Nat} {t:aI} (h:cX n i t) (hn:n≤32) (hi:i≤32):nq (mZ t):=by
 have hk:=yg h
 refine nq.app (fun x hx=>by rw[List.mem_singleton.1 hx];omega) ?_
 split
 ·rename_i h1
  have:=h.ptr h1
  exact lT (by omega)
 ·split
  ·rename_i h1
   have:=h.arr h1
   exact (lT (by omega)).app (lT (by omega))
  ·split
   ·rename_i h1
    exact B1 (h.FW hi h1)
   ·exact fun x hx=>by cases hx
theorem B2 {c:UInt8} {v:Int} (h:fits c v=true):nq (nj c v):=by
 have hv:=r8 h
 unfold i64 at hv
 unfold nj
 split
 ·exact fun x hx=>by cases hx
 ·split
  ·exact lT (FD hv)
  ·exact lT (by omega)
theorem instr_byt {x:Instr} (h:fk x=true):nq (encI x):=by
 obtain⟨a,b,c,hs,h1,h2,h3⟩:=FG h
 unfold encI
 rw[hs]
 intro y hy
 rcases List.mem_cons.1 hy with rfl|hy
 ·rcases DN x.1 with h' | ne
  ·omega
  ·rw[MM ne] at hs;cases hs
 ·exact ((B2 h1).app ((B2 h2).app (B2 h3))) y hy
theorem Ji:∀ (was:Int) (l:List cI),Inc was l→0≤was→nq (Bv was l)
 |_,[],_,_=>fun x hx=>by cases hx
 |was,x :: r,h,hw=>by
  obtain⟨h1,h2,h3,h4⟩:=h
  exact (lT (by omega)).app ((lT (by omega)).app (Ji x.1 r h4 (by omega)))
theorem Jj {l:List cI} {n:Nat} (h:bO l n) (hn:n≤200) (hr:nY l):nq (ju l):=
 (lT (by have:=gy h;omega)).app (Ji 0 l (h.inc (by omega) hr) (by omega))
theorem To {n:Nat} {f:Func} (h:jZ n f) (hn:n≤32) (hr:nY f.2.2.2.2.2.1∧nY f.2.2.2.2.2.2):nq (lR f):=by
 have hw:=h.FW hn
 obtain⟨h1,h2,h3,h4,h5,h6,h7,h8,h9,h10⟩:=h
 have:=iD h1
 exact (B0 (by omega)).app ((lT (by omega)).app ((lT (FD (by omega))).app ((B1 hw).app ((lT (by omega)).app ((nq.flat fun x hx=>instr_byt (h8 x hx)).app ((Jj h9 h7.2 hr.1).app (Jj h10 h7.2 hr.2)))))))
section
variable {N:Nat} {ts:List aI} {xs:List (List UInt8)} {fs:List Func}
theorem sO (hm:mh ts xs fs):∀ f,f∈fs→nY f.2.2.2.2.2.1∧nY f.2.2.2.2.2.2:=fun f hf=>(hm.1.2.2.2.2 f hf).2.2.2.2.2
theorem WM (h:cG ts xs fs) (hm:mh ts xs fs):nq (fA ts xs fs):=by
 have hr:=sO hm
 obtain⟨⟨t1,t2,_⟩,h2,h3,_,h5,h6⟩:=h
 refine (lT (by omega)).app ((nq.flat fun t ht=>?_).app ((lT (by omega)).app ((nq.flat fun s hs=>B0 (by have:=h5 s hs;omega)).app ((lT (by omega)).app (nq.flat fun f hf=>?_)))))
 ·obtain ⟨i, hi, rfl⟩ := iX ty0 ht
  exact Tn (t2 i hi) t1 (by omega)
 ·have hm := hr f hf
  obtain⟨i,hi,rfl⟩:=iX fn0 hf
  have:=h6 i hi
  unfold Cu at this
  rw[Bool.and_eq_true,decide_eq_true_eq] at this
  exact To this.1 t1 hm
theorem WN (h:cG ts xs fs) (hm:mh ts xs fs):BY (fA ts xs fs)=((ts,xs,fs),0):=by
 have:=r9 kT h (sO hm) []
 rw[List.append_nil] at this
 unfold BY
 rw[this]
 exact if_pos ⟨rfl,h⟩
theorem Pj {b:List Int} (hb:nq b):(BY b=(([],[],[]),12)∧∀ ts xs fs r,mh ts xs fs→cG ts xs fs→b=fA ts xs fs++r→r≠[])∨
  ∃ ts xs fs,BY b=((ts,xs,fs),0)∧cG ts xs fs∧mh ts xs fs∧b=fA ts xs fs:=by
 unfold BY
 cases hp:O2 mE b with
 |none=>
  refine .inl ⟨rfl,fun ts xs fs r hm hf he=>?_⟩
  have:=r9 kT hf (sO hm) r
  rw[←he,hp] at this
  cases this
 | some x =>
  obtain⟨⟨ts,xs,fs⟩,r⟩:=x
  simp only
  have hi:=(BW kT.ok).bwd b _ _ hb hp
  by_cases hc:r=[]∧cG ts xs fs
  ·rw [if_pos hc]
   refine .inr ⟨ts,xs,fs,rfl,hc.2,Jd hi.1,?_⟩
   have:=hi.2
   rw[hc.1,List.append_nil] at this
   exact this
  ·rw [if_neg hc]
   refine .inl ⟨rfl,fun ts' xs' fs' r' hm hf he hr=>?_⟩
   have:=r9 kT hf (sO hm) r'
   rw[←he,hp] at this
   injection this with this
   simp only[Prod.mk.injEq] at this
   obtain⟨⟨rfl,rfl,rfl⟩,rfl⟩:=this
   exact hc ⟨hr,hf⟩
theorem yw (h:cG ts xs fs) (hl:(fA ts xs fs).length≤20000):yL ts xs fs=0:=by
 unfold yL
 rw[if_pos h,if_pos hl]
end
section
variable {N:Nat} {ts:List aI} {xs:List (List UInt8)} {fs:List Func}
theorem acI (h:cG ts xs fs) (hm:mh ts xs fs) {b r:List Int} (hb:nq b) (he:fA ts xs fs=b++r) (hr:r≠[]):BY b=(([],[],[]),12):=by
 rcases Pj hb with⟨h1,_⟩|⟨ts',xs',fs',h1,h2,h3,h4⟩
 ·exact h1
 ·exfalso
  have e1:=r9 kT h2 (sO h3) r
  have e2:=r9 kT h (sO hm) []
  rw[List.append_nil,he,h4,e1] at e2
  injection e2 with e2
  simp only[Prod.mk.injEq] at e2
  exact hr e2.2
end
end Go.Proofs.YthphehfgekjooaaGreatDoor
namespace Go.Proofs.YthphehfgekjooaaGreatDoor
open Go Go.bq Go.Sym
open Classical
variable {l:List Instr}
noncomputable def Qd (S L:List cI):RQ:=fun i=>if i=0 then (S,L) else ((sS i).1,(sS i).2.1)
theorem Tp:((List.range' 1 7).all fun i=>decide ((sS i).1.length≤200∧(sS i).2.1.length≤200)&&((sS i).1.all fun x=>decide (0≤x.2∧x.2≤100000))&&((sS i).2.1.all fun x=>decide (0≤x.2∧x.2≤100000)))=true:=by kernel_rfl
theorem WO {i:Nat} (h1:1≤i) (h2:i<8):((sS i).1.length≤200∧(sS i).2.1.length≤200)∧(nY (sS i).1∧nY (sS i).2.1):=by
 have:=List.all_eq_true.1 Tp i (List.mem_range'.2 ⟨i-1,by omega,by omega⟩)
 simp only[Bool.and_eq_true,decide_eq_true_eq,List.all_eq_true] at this
 obtain⟨⟨g1,g2⟩,g3⟩:=this
 exact⟨g1,fun x hx=>by have:=g2 x hx;omega,fun x hx=>by have:=g3 x hx;omega⟩
theorem Tq {S L:List cI} (hS:(S.length≤200∧L.length≤200)∧nY S∧nY L):abL (Qd S L):=fun i hi=>by
 by_cases h0:i=0
 ·subst h0;exact hS
 ·unfold Qd
  rw[if_neg h0]
  exact WO (by omega) hi
theorem afi:cG iO iP (qe (Qd [(0,0)] [(0,0)]) l0):=by
 have h:=vF (N:=1400) (by omega) (M6 YU (Tq (S:=[(0,0)]) (L:=[(0,0)]) ⟨by decide,Pf,Pf⟩)).1
 have k:TN 1400 (iO,iP,qe (Qd [(0,0)] [(0,0)]) l0)=some true:=by kernel_rfl
 rw[k] at h
 injection h with h
 exact of_decide_eq_true h.symm
theorem afj {S L:List cI} (hS:(S.length≤200∧L.length≤200)∧nY S∧nY L) (h1:bO S (l.length:Int)) (h2:bO L (l.length:Int)):QOK (Qd S L) l:=fun i hi=>by
 cases i with
 |zero=>exact⟨hS.1,hS.2,h1,h2⟩
 |succ i=>
  have hf:=Tq hS (i+1) hi
  refine⟨hf.1,hf.2,?_⟩
  have h6:=afi.2.2.2.2.2 (i+1) hi
  unfold Cu at h6
  rw[Bool.and_eq_true,decide_eq_true_eq,BZ _ _ (by omega)] at h6
  obtain⟨_,_,_,_,_,_,_,_,g9,g10⟩:=h6.1
  have e:=(nh (Qd S L) i (by omega)).2
  have e2:(sj l).getD (i+1) 0=(sj []).getD (i+1) 0:=rfl
  rw[e2,←e]
  exact⟨g9,g10⟩
theorem LJ {N i:Nat} (Q:RQ) (l:List Instr) (hi:i∈others):IC (N+400) (iO,iP,qe Q l,(i:Int))=some ((sS i).1,(sS i).2.1,(sS i).2.2.1,0):=by
 have h1:=List.map_inj_left.1 (OQ N Q l) i hi
 have h2:=List.all_eq_true.1 OR i hi
 rw[beq_iff_eq] at h2
 rw[h1]
 generalize sS i=r at h2 ⊢
 obtain⟨a,b,c,d⟩:=r
 have h2:d=0:=h2
 rw[h2]
theorem LK {i:Nat} (h1:1≤i) (h2:i<8):i∈others:=by simp only[others,List.mem_cons,List.not_mem_nil,or_false];omega
theorem B3 {N i:Nat} {ts:List aI} {xs:List (List UInt8)} {fs:List Func} {f:Func} {S L:List cI} {q:Int} (hc:RH N (ts,xs,fs)=some 0) (hf:fs[i]?=some f) (h1:f.2.2.2.1.length≤1000) (h2:f.2.2.2.2.1.length≤1000) (hl:IC N (ts,xs,fs,(i:Int))=some (S,L,q,0)) :
  F26 N (ts,xs,fs,(i:Int))=some (f.1,f.2.1,f.2.2.1,f.2.2.2.1,f.2.2.2.2.1,S,L,0):=by
 have hi:=aN hf
 have hw:F48 N (fs,(i:Int))=some true:=by
  rw[F48.eq_1]
  have e1:decide ((i:Int)≥0)=true:=decide_eq_true (by omega)
  have e2:decide ((i:Int)<(fs.length:Int))=true:=decide_eq_true (by omega)
  simp only[e1,e2,av,Option.bind_some]
 rw[F26.eq_1,hc]
 simp only[Option.bind_some,show ((0:Int) != 0)=false from rfl,ai,hw,Bool.not_true,hl,aT hf,az (show f.2.2.2.1.length≤10000000 by omega) (show 24≤1000 by omega),az (show f.2.2.2.2.1.length≤10000000 by omega) (show 32≤1000 by omega),aj]
theorem Ea {N:Nat} {ts:List aI} {xs:List (List UInt8)} {fs D:List Func} (hN:500<N) (hlen:D.length=fs.length) (h32:fs.length≤100)
  (hT:∀ (i:Nat) (x:Func),D[i]?=some x→F26 N (ts,xs,fs,(i:Int))=some (x.1,x.2.1,x.2.2.1,x.2.2.2.1,x.2.2.2.2.1,x.2.2.2.2.2.1,x.2.2.2.2.2.2,0)):Yt N (ts,xs,fs)=some (ts,xs,D,0):=by
 obtain⟨s,⟨h1,h2⟩,he⟩:=jX (l:=D) (g:=fun s:List Func=>(.inr (ts,xs,fs,s):Int⊕_)) (Inv:=fun i s=>s.length=D.length∧∀ j,j<i→s[j]?=D[j]?)
  (Lf:=fun k i s=>f13.cB N k ((D.length:Int),i,ts,xs,fs,s))
  (fun k s _=>by simp only[f13.cB.eq_2,bp,ai])
  (fun k i x s hx ⟨h1, h2⟩ => by
   have hi:=aN hx
   have P6:i<s.length:=by omega
   refine⟨s.set i x,⟨by simp[h1],fun j hj=>?_⟩,?_⟩
   ·rw [List.getElem?_set]
    split
    ·rename_i e;subst e;simp only[hx]
    ·exact h2 j (by omega)
   ·simp only[f13.cB.eq_2,bg hi,av,hT i x hx,Option.bind_some,show ((0:Int) != 0)=false from rfl,ai,dD P6,aj,Int.toNat_natCast,List.getElem?_eq_getElem P6,aE (show i<9223372036854775807 by omega)])
  (k:=N) (s:=List.replicate fs.length (([]:List UInt8),(0:Int),(0:Int),[],[],[],[])) ⟨by simp[hlen],fun j hj=>by omega⟩ (by omega)
 have e:s=D:=List.ext_getElem? fun j=>by
  by_cases hj:j<D.length
  ·exact h2 j hj
  ·rw[List.getElem?_eq_none (by omega),List.getElem?_eq_none (by omega)]
 subst e
 rw[Yt.eq_1]
 rw[hlen] at he
 simp only[Int.toNat_natCast,show decide ((0:Int)≤(fs.length:Int))=true by simp,aj,Nat.le_refl,decide_true,Bool.true_and,az (show fs.length≤10000000 by omega) (show 128≤1000 by omega),he,Option.bind_some]
theorem Tt {N:Nat} (hN:500<N) (a:List cI) (ha:a.length≤200):F68 N (a,a)=some true:=by
 rw[F68.eq_1]
 simp only[show (((a.length:Int) != (a.length:Int))=false) by simp,ai]
 have:=A4 (l:=a) (a:=(.inr ():Bool⊕Unit)) (b:=.inl false) (p:=fun _=>false) (Lf:=fun k i=>f68.bz N k (a,a,(a.length:Int),i))
  (fun k => by simp only [f68.bz.eq_2, bp, ai]) (fun k i x hx hi => by
   have:=aN hi
   simp only[f68.bz.eq_2,bg this,av,aT hi,Option.bind_some,aE (show i<9223372036854775807 by omega)]
   simp) N (by omega)
 rw[this]
 simp
theorem accepted {N:Nat} {ts:List aI} {xs:List (List UInt8)} {fs:List Func} (hN:1300<N) (hm:mh ts xs fs) (hf:cG ts xs fs) (hlen:(fA ts xs fs).length≤20000) (h2:∀ f,f∈fs→f.2.2.2.2.2.1.length≤200∧f.2.2.2.2.2.2.length≤200)
  (hl:∀ (i:Nat) f,fs[i]?=some f→∃ q,IC N (ts,xs,fs,(i:Int))=some (f.2.2.2.2.2.1,f.2.2.2.2.2.2,q,0)):F7 N (ts,xs,fs)=some true:=by
 have hc:=yw hf hlen
 have h50:=hm.1.2.2.2.1
 have e1:RH N (ts,xs,fs)=some 0:=by rw[BG hN hm,hc]
 obtain⟨_,_,e2⟩:=jX (l:=fs) (g:=fun _:Unit=>(.inr ():(Int×Int×Int)⊕Unit)) (Inv:=fun _ _=>True)
  (Lf:=fun k i _=>f37.ct N k (fs,(fs.length:Int),i,ts,xs,fs))
  (fun k _ _=>by simp only[f37.ct.eq_2,bp,ai])
  (fun k i f _ hx _ => by
   have hi:=aN hx
   obtain⟨q,hq⟩:=hl i f hx
   obtain⟨g1,g2⟩:=h2 f (bD hx)
   refine⟨(),trivial,?_⟩
   simp only[f37.ct.eq_2,bg hi,av,aT hx,Option.bind_some,hq,show ((0:Int)==0)=true from rfl,Tt (show 500<N by omega) _ g1,Tt (show 500<N by omega) _ g2,Bool.not_true,ai,show ((0:Int) != 0)=false from rfl,aE (show i<9223372036854775807 by omega)])
  (k:=N) (s:=()) trivial (by omega)
 have e3:F18 N (ts,xs,fs)=some 0:=by
  rw[F18.eq_1,F37.eq_1,e1]
  simp only[Option.bind_some,show ((0:Int) != 0)=false from rfl,ai,e2]
 have e4:=Wp (N:=N) hN (ts':=ts) (xs':=xs) (fs':=fs) hm
 rw[decide_eq_true ⟨rfl,rfl,rfl⟩] at e4
 rw[F7.eq_1,DZ hN hm,hc,if_pos rfl]
 simp only[Option.bind_some]
 rw[Pc hN (WM hf hm) hlen,WN hf hm]
 simp only[Option.bind_some,e3,show ((0:Int)==0)=true from rfl,av,e4]
theorem WQ {N:Nat} {p:List Int} {b:List Instr} (hp:p.length≤60) (h:Bs N yS p b):Good (b++[gu])∧b.length≤129:=by
 obtain⟨r,rfl,hl,hc⟩:=h.pre
 have h9:(yS++r).length=9+r.length:=by rw[List.length_append];rfl
 refine⟨⟨?_,by rw[List.length_append,h9,List.length_singleton];omega,r++[gu],by rw[List.append_assoc],by simp⟩,by omega⟩
 rw[List.append_assoc]
 exact Pg (hc [gu] (by omega) .fin)
theorem Tu {N:Nat} (hN:14000000<N) {b:List Instr} (hg:Good (b++[gu])) (hb:b.length≤129):∃ ts xs fs,F7 (N+400) (ts,xs,fs)=some true∧∀ p:List Int,p.length≤60→Bs (N+400) yS p b→F5 (N+400) p=some (ts,xs,fs,0):=by
 have YV:(b++[gu]).length≤130:=by rw[List.length_append,List.length_singleton];omega
 obtain⟨S,L,hl,hS1,hS2,hS3,hS4⟩:=Pe (N:=N+340) (by omega) hg
 have hl:∀ Q:RQ,IC (N+400) (iO,iP,qe Q (b++[gu]),0)=some (S,L,0,0):=hl
 have hQ:QOK (Qd S L) (b++[gu]):=afj ⟨hS1,hS2⟩ hS3 hS4
 have hfit:=M6 hg hQ.fit
 have Jk:∀ (Q:RQ) (i:Nat),i<8→∃ q,IC (N+400) (iO,iP,qe Q (b++[gu]),(i:Int))=some ((Qd S L i).1,(Qd S L i).2,q,0):=fun Q i hi=>by
  cases i with
  |zero=>exact⟨0,hl Q⟩
  |succ i=>exact⟨_,LJ (N:=N) Q _ (LK (by omega) hi)⟩
 have od:∀ (Q:RQ) (i:Nat),i<8→∃ a b' c d e,(qe Q (b++[gu]))[i]?=some (a,b',c,d,e,(Q i).1,(Q i).2)∧(d.length≤1000∧e.length≤1000)∧∀ Q':RQ,(qe Q' (b++[gu]))[i]?=some (a,b',c,d,e,(Q' i).1,(Q' i).2):=fun Q i hi=>by
  cases i with
  |zero=>exact⟨_,_,_,_,_,rfl,⟨by decide,by omega⟩,fun _=>rfl⟩
  |succ i=>
   obtain⟨⟨g1,g2,_⟩,_⟩:=YT i (by omega)
   exact⟨_,_,_,_,_,(nh Q i (by omega)).1,⟨by omega,g2⟩,fun Q'=>(nh Q' i (by omega)).1⟩
 have YW:∀ Q:RQ,(qe Q (b++[gu])).length=8:=fun _=>rfl
 refine⟨iO,iP,qe (Qd S L) (b++[gu]),accepted (by omega) hfit (Tl hg hQ) (Jg (N:=N+400) (by omega) hg YV hQ).2 (fun f hf=>?_) (fun i f hf=>?_),fun p hp h=>?_⟩
 ·obtain ⟨i, PC, rfl⟩ := List.mem_iff_getElem.1 hf
  have hi:i<8:=PC
  obtain⟨a,b',c,d,e,h1,_⟩:=od (Qd S L) i hi
  have e1:=List.getElem?_eq_getElem PC
  rw[h1] at e1
  rw[←Option.some.inj e1]
  exact (hQ i hi).1
 ·have hi : i < 8 := by have := aN hf; rw [YW] at this; exact this
  obtain⟨a,b',c,d,e,h1,_⟩:=od (Qd S L) i hi
  rw[h1] at hf
  rw[←Option.some.inj hf]
  exact Jk _ i hi
 ·have Jl := D3 hp (N + 400) 0 yS b (by omega) (by omega) (by show 9 ≤ 9; omega) h
  have abN:=(Jg (N:=N+400) (by omega) hg YV (YS (by rw[List.length_append,List.length_singleton];omega))).1
  have abO:=Ea (N:=N+400) (ts:=iO) (xs:=iP) (fs:=qe Q0 (b++[gu])) (D:=qe (Qd S L) (b++[gu])) (by omega) rfl (by show 8≤100;omega) (fun i x hx=>by
   have hi:i<8:=by have:=aN hx;rw[YW] at this;exact this
   obtain⟨a,b',c,d,e,h1,h2,h3⟩:=od Q0 i hi
   obtain⟨q,hq⟩:=Jk Q0 i hi
   rw[h3 (Qd S L)] at hx
   have:=B3 abN h1 h2.1 h2.2 hq
   rw[this,←Option.some.inj hx])
  have e:=WC (N+340) p
  rw[show N+340+60=N+400 from rfl] at e
  rw[show ((0:Nat):Int)=0 from rfl] at Jl
  have hd:decide ((p.length:Int)>60)=false:=decide_eq_false (by omega)
  rw[e,hd,ai,Jl,Option.bind_some,az (by simp only[List.length_singleton];omega) (by omega),aj,abO]
  rfl
end Go.Proofs.YthphehfgekjooaaGreatDoor
