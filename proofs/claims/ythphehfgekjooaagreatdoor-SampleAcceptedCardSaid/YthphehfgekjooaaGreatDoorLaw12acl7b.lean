/- A part of the proof: Law12ack, Law12acl, Law12acm, Law12acl7b. -/
import Derived.Test.YthphehfgekjooaaGreatDoorLaw12acj
set_option linter.unusedVariables false
set_option linter.unusedSimpArgs false
namespace Go.Proofs.YthphehfgekjooaaGreatDoor
open Go Go.bq Go.Sym
open Classical
noncomputable def l6 (f:Field):List Int:=said f.1++V f.2.toNat
noncomputable def iE (l:List Field):List Int:=V l.length++l.flatMap l6
noncomputable def mZ (t:aI):List Int:=
 [t.1]++if t.1=4∨t.1=7 then V t.2.1.toNat else if t.1=6 then V t.2.1.toNat++V t.2.2.1.toNat else if t.1=5 then iE t.2.2.2 else []
noncomputable def lR (f:Func):List Int:=
 said f.1++(V f.2.1.toNat++(V (Ce f.2.2.1)++(iE f.2.2.2.1++(V f.2.2.2.2.1.length++(f.2.2.2.2.1.flatMap encI++(ju f.2.2.2.2.2.1++ju f.2.2.2.2.2.2))))))
noncomputable def fA (ts:List aI) (xs:List (List UInt8)) (fs:List Func):List Int:=
 V ts.length++(ts.flatMap mZ++(V xs.length++(xs.flatMap said++(V fs.length++fs.flatMap lR))))
theorem iZ {N n:Nat} (hN:20<N) (hn:n≤1000000):oM N (cg (n:Int))=some (V n):=by
 rw[iW (by omega),vC hN (by omega)]
theorem p9 {f:Field} (h:nP f.1=true):(l6 f).length≤40:=by
 have:=iD h;have:=vD f.1;have:=cO f.2.toNat
 rw[l6,List.length_append];omega
noncomputable def FW (l:List Field):Prop:=l.length≤16∧∀ f,f∈l→nP f.1=true∧0≤f.2∧f.2≤1000
theorem qa {l:List Field} (h:dy l):∀ f,f∈l→nP f.1=true:=fun f hf=>by
 obtain⟨i,hi,rfl⟩:=iX ([],0) hf
 have:=h i hi
 unfold okF at this
 rw[Bool.and_eq_true] at this
 exact this.1
theorem yh {l:List Field} (h:FW l):(iE l).length≤700:=by
 have:=cO l.length
 have:=fm (l:=l) (enc:=l6) (m:=40) fun f hf=>p9 (h.2 f hf).1
 have:=h.1
 rw[iE,List.length_append];omega
theorem cX.FW {n i:Nat} {t:aI} (h:cX n i t) (hi:i≤32) (h5:t.1=5):FW t.2.2.2:=by
 have hf:=h.fields
 unfold cX at h
 rw[if_neg (by omega),if_neg (by omega),if_neg (by omega),if_pos h5] at h
 have hn:=qa h.2.2.2.1
 exact⟨by omega,fun f hm=>⟨hn f hm,by have:=hf.2.2 f hm;omega⟩⟩
theorem DW {n i:Nat} {t:aI} (h:cX n i t) (hi:i≤32):(mZ t).length≤800:=by
 have:=cO t.2.1.toNat;have:=cO t.2.2.1.toNat
 unfold mZ
 rw[List.length_append,List.length_singleton]
 split
 ·omega
 ·split
  ·rw[List.length_append];omega
  ·split
   ·have:=yh (h.FW hi ‹_›);omega
   ·simp
theorem jZ.FW {n:Nat} {f:Func} (h:jZ n f) (hn:n≤32):FW f.2.2.2.1:=
 ⟨h.2.1,fun g hg=>⟨qa h.2.2.1 g hg,by have:=h.2.2.2.2.2.1 g hg;omega⟩⟩
theorem DX {n:Nat} {f:Func} (h:jZ n f) (hn:n≤32) (hf:r6 f):(lR f).length≤30000:=by
 have:=cO f.2.1.toNat;have:=cO (Ce f.2.2.1);have:=cO f.2.2.2.2.1.length
 have:=yh (h.FW hn)
 have:=vD f.1;have:=iD h.1
 have Sy:=h.2.2.2.2.2.2.1
 have:=fm (l:=f.2.2.2.2.1) (enc:=encI) (m:=31) fun x _=>rW x
 have:=gD f.2.2.2.2.2.1;have:=gD f.2.2.2.2.2.2
 have:=gy h.2.2.2.2.2.2.2.2.1;have:=gy h.2.2.2.2.2.2.2.2.2
 simp only[lR,List.length_append];omega
section
variable {N:Nat}
theorem OD (hN:1300<N) {l:List Field} (hl:FW l) {s:List Int} (hs:s.length≤4000000) (a:List aI) (b:List (List UInt8)) (c:List Func) :
  f16.cL N N (l,(l.length:Int),(0:Int),s,a,b,c)=some (s++l.flatMap l6,a,b,c):=by
 have h16:=hl.1
 refine oQ (l:=l) (enc:=l6) (g:=fun s=>(s,a,b,c)) (B:=5000000) (m:=40) (Lf:=fun k i s=>f16.cL N k (l,(l.length:Int),i,s,a,b,c)) (fun k s=>by
  simp only[f16.cL.eq_2,bp,ai]) (fun k i x s hx hm hB=>?_) (fun x hx=>p9 (hl.2 x hx).1) (by omega) (by omega)
 have hx2:=hl.2 x hm
 have hnl:=iD hx2.1
 have v1:=cO x.1.length
 have v2:=cO x.2.toNat
 simp only[f16.cL.eq_2,bg (aN hx),av,aT hx,Option.bind_some,iZ (show 20<N by omega) (show x.1.length≤1000000 by omega),lQ (show 20<N by omega) (show 0≤x.2∧x.2≤9223372036854775807 by omega),
  az (show s.length+(V x.1.length).length≤10000000 by omega) (show 1≤1000 by omega),az (show (s++V x.1.length).length+(bx x.1).length≤10000000 by rw[List.length_append,cl];omega) (show 1≤1000 by omega),az (show ((s++V x.1.length)++bx x.1).length+(V x.2.toNat).length≤10000000 by rw[List.length_append,List.length_append,cl];omega) (show 1≤1000 by omega),aj,aE (show i<9223372036854775807 by have:=aN hx;omega)]
 simp only[l6,said,List.append_assoc]
theorem Sz (hN:1300<N) {l:List Field} (hl:FW l) {s:List Int} (hs:s.length≤4000000) (nm:List UInt8) (pa re:Int) (sl:List Field) (co:List Instr) (si li:List cI) :
  f16.cM N N (l,(l.length:Int),(0:Int),s,nm,pa,re,sl,co,si,li)=some (s++l.flatMap l6,nm,pa,re,sl,co,si,li):=by
 have h16:=hl.1
 refine oQ (l:=l) (enc:=l6) (g:=fun s=>(s,nm,pa,re,sl,co,si,li)) (B:=5000000) (m:=40) (Lf:=fun k i s=>f16.cM N k (l,(l.length:Int),i,s,nm,pa,re,sl,co,si,li)) (fun k s=>by
  simp only[f16.cM.eq_2,bp,ai]) (fun k i x s hx hm hB=>?_) (fun x hx=>p9 (hl.2 x hx).1) (by omega) (by omega)
 have hx2:=hl.2 x hm
 have hnl:=iD hx2.1
 have v1:=cO x.1.length
 have v2:=cO x.2.toNat
 simp only[f16.cM.eq_2,bg (aN hx),av,aT hx,Option.bind_some,iZ (show 20<N by omega) (show x.1.length≤1000000 by omega),lQ (show 20<N by omega) (show 0≤x.2∧x.2≤9223372036854775807 by omega),
  az (show s.length+(V x.1.length).length≤10000000 by omega) (show 1≤1000 by omega),az (show (s++V x.1.length).length+(bx x.1).length≤10000000 by rw[List.length_append,cl];omega) (show 1≤1000 by omega),az (show ((s++V x.1.length)++bx x.1).length+(V x.2.toNat).length≤10000000 by rw[List.length_append,List.length_append,cl];omega) (show 1≤1000 by omega),aj,aE (show i<9223372036854775807 by have:=aN hx;omega)]
 simp only[l6,said,List.append_assoc]
noncomputable def TW (ts:List aI):Prop:=ts.length≤32∧∀ t,t∈ts→∃ n i,i≤32∧n≤32∧cX n i t
theorem p7.TW {ts:List aI} (h:p7 ts):TW ts:=⟨h.1,fun t ht=>by
 obtain⟨i,hi,rfl⟩:=iX ty0 ht
 exact⟨ts.length,i,by have:=h.1;omega,h.1,h.2.1 i hi⟩⟩
theorem SA (hN:1300<N) {l:List aI} (hl:TW l) {s:List Int} (hs:s.length≤1000000) (a:List aI) (b:List (List UInt8)) (c:List Func) :
  f16.eO N N (l,(l.length:Int),(0:Int),s,a,b,c)=some (a,b,c,s++l.flatMap mZ):=by
 have h16:=hl.1
 refine oQ (l:=l) (enc:=mZ) (g:=fun s=>(a,b,c,s)) (B:=2000000) (m:=800) (Lf:=fun k i s=>f16.eO N k (l,(l.length:Int),i,s,a,b,c)) (fun k s=>by
  simp only[f16.eO.eq_2,bp,ai]) (fun k i t s hx hm hB=>?_) (fun x hx=>by
  obtain⟨n,i,hi,_,ht⟩:=hl.2 x hx
  exact DW ht hi) (by omega) (by omega)
 obtain⟨n,j,hj,hn,ht⟩:=hl.2 t hm
 have v1:=cO t.2.1.toNat
 have v2:=cO t.2.2.1.toNat
 have v3:=cO t.2.2.2.length
 have r0:room (s.length+1) 1=true:=az (by omega) (by omega)
 have r1:room ((s++[t.1]).length+(V t.2.1.toNat).length) 1=true:=az (by simp only[List.length_append,List.length_singleton];omega) (by omega)
 have r2:room (((s++[t.1])++V t.2.1.toNat).length+(V t.2.2.1.toNat).length) 1=true:=az (by simp only[List.length_append,List.length_singleton];omega) (by omega)
 have r3:room ((s++[t.1]).length+(V t.2.2.2.length).length) 1=true:=az (by simp only[List.length_append,List.length_singleton];omega) (by omega)
 simp only[f16.eO.eq_2,bg (aN hx),av,aT hx,Option.bind_some,r0,aj,aE (show i<9223372036854775807 by have:=aN hx;omega),jW,FH]
 unfold mZ
 by_cases h47:t.1=4∨t.1=7
 ·have hp := ht.ptr h47
  rw[if_pos h47,show (decide (t.1=4)||decide (t.1=7))=true by simpa using h47,av,lQ (by omega) (by omega),Option.bind_some,r1,aj,List.append_assoc]
 ·rw [if_neg h47, show (decide (t.1 = 4) || decide (t.1 = 7)) = false by simpa using h47, ai]
  by_cases h6:t.1=6
  ·have hp := ht.arr h6
   rw[if_pos h6,decide_eq_true h6,av,lQ (by omega) (by omega),Option.bind_some,r1,aj,lQ (by omega) (by omega),Option.bind_some,r2,aj,List.append_assoc,List.append_assoc]
  ·rw [if_neg h6, decide_eq_false h6, ai]
   by_cases h5:t.1=5
   ·have hw := ht.FW hj h5
    rw[if_pos h5,decide_eq_true h5,av,iZ (by omega) (by have:=hw.1;omega),Option.bind_some,r3,aj,OD hN hw (by simp only[List.length_append,List.length_singleton];omega),Option.bind_some,iE,List.append_assoc,List.append_assoc]
   ·rw[if_neg h5,decide_eq_false h5,ai,List.append_nil]
noncomputable def XW (xs:List (List UInt8)):Prop:=xs.length≤32∧∀ s,s∈xs→s.length≤64
theorem SB (hN:1300<N) {l:List (List UInt8)} (hl:XW l) {s:List Int} (hs:s.length≤1000000) (a:List aI) (b:List (List UInt8)) (c:List Func) :
  f16.sR N N (l,(l.length:Int),(0:Int),a,b,c,s)=some (a,b,c,s++l.flatMap said):=by
 have h16:=hl.1
 refine oQ (l:=l) (enc:=said) (g:=fun s=>(a,b,c,s)) (B:=2000000) (m:=100) (Lf:=fun k i s=>f16.sR N k (l,(l.length:Int),i,a,b,c,s)) (fun k s=>by
  simp only[f16.sR.eq_2,bp,ai]) (fun k i x s hx hm hB=>?_) (fun x hx=>by have:=vD x;have:=hl.2 x hx;omega) (by omega) (by omega)
 have YL:=hl.2 x hm
 have v1:=cO x.length
 simp only[f16.sR.eq_2,bg (aN hx),av,aT hx,Option.bind_some,iZ (show 20<N by omega) (show x.length≤1000000 by omega),
  az (show s.length+(V x.length).length≤10000000 by omega) (show 1≤1000 by omega),az (show (s++V x.length).length+(bx x).length≤10000000 by rw[List.length_append,cl];omega) (show 1≤1000 by omega),aj,aE (show i<9223372036854775807 by have:=aN hx;omega)]
 simp only[said,List.append_assoc]
noncomputable def CW (l:List Instr):Prop:=l.length≤200∧∀ x,x∈l→fk x=true∧JB x
theorem Wm (hN:1300<N) {l:List Instr} (hl:CW l) {s:List Int} (hs:s.length≤4000000) (nm:List UInt8) (pa re:Int) (sl:List Field) (co:List Instr) (si li:List cI) :
  f16.ia N N (l,(l.length:Int),(0:Int),s,nm,pa,re,sl,co,si,li)=some (.inr (s++l.flatMap encI,nm,pa,re,sl,co,si,li)):=by
 have h16:=hl.1
 refine oQ (l:=l) (enc:=encI) (g:=fun s=>(.inr (s,nm,pa,re,sl,co,si,li):(Int×List Int)⊕(List Int×List UInt8×Int×Int×List Field×List Instr×List cI×List cI))) (B:=5000000) (m:=31) (Lf:=fun k i s=>f16.ia N k (l,(l.length:Int),i,s,nm,pa,re,sl,co,si,li)) (fun k s=>by
  simp only[f16.ia.eq_2,bp,ai]) (fun k i x s hx hm hB=>?_) (fun x hx=>rW x) (by omega) (by omega)
 have hx2:=hl.2 x hm
 have v1:=rW x
 simp only[f16.ia.eq_2,bg (aN hx),av,aT hx,Option.bind_some,Wb (N:=N) (by omega) hx2.2 hx2.1,iM,ai,
  az (show s.length+(encI x).length≤10000000 by omega) (show 1≤1000 by omega),aj,aE (show i<9223372036854775807 by have:=aN hx;omega)]
noncomputable def FnW (l:List Func):Prop:=l.length≤32∧∀ f,f∈l→r6 f∧i64 f.2.2.1∧∃ n,n≤32∧jZ n f
theorem DY {x:List cI} {j:Int} {l2:List (List cI)} (hN:1300<N) {n:Nat} (h1:bO x n) (g1:x.length≤1000) (o1:nY x) {s:List Int} (hs:s.length≤4500000) {co:List Instr} (hc:co.length=n) (hn:1≤n∧n≤200) (nm:List UInt8) (pa re:Int) (sl:List Field) (si li:List cI) (hj:decide (j<2)=true) (hx:idx l2 j=some x) {j2:Int} (hj2:ah (j+1)=j2) (k:Nat) :
  f16.ez N (k+1) (l2,(2:Int),j,s,nm,pa,re,sl,co,si,li)=f16.ez N k (l2,(2:Int),j2,s++ju x,nm,pa,re,sl,co,si,li):=by
 subst hc
 have e1:=Wc (N:=N) (by omega) g1 h1 hn.1 hn.2 o1
 have l1:=gD x
 rw[f16.ez.eq_2,hj,av,hx,Option.bind_some,e1,Option.bind_some]
 simp only[iM,ai,az (show s.length+(ju x).length≤10000000 by omega) (show 1≤1000 by omega),aj,hj2]
theorem Wn (hN:1300<N) {si li:List cI} {n:Nat} (h1:bO si n) (h2:bO li n) (g1:si.length≤1000) (g2:li.length≤1000) (o1:nY si) (o2:nY li) {s:List Int} (hs:s.length≤4000000) {co:List Instr} (hc:co.length=n) (hn:1≤n∧n≤200) (nm:List UInt8) (pa re:Int) (sl:List Field) :
  f16.ez N N ([si,li],(2:Int),(0:Int),s,nm,pa,re,sl,co,si,li)=some (.inr (s++(ju si++ju li))):=by
 have l1:=gD si
 have key:∀ k,f16.ez N (k+1+1+1) ([si,li],(2:Int),(0:Int),s,nm,pa,re,sl,co,si,li)=some (.inr (s++(ju si++ju li))):=fun k=>by
  rw[DY hN h1 g1 o1 (by omega) hc hn nm pa re sl si li rfl rfl (j2:=1) (by decide),DY hN h2 g2 o2 (by rw[List.length_append];omega) hc hn nm pa re sl si li rfl rfl (j2:=2) (by decide),f16.ez.eq_2,show decide ((2:Int)<2)=false from rfl,ai,List.append_assoc]
 have:=key (N-3)
 rwa[show N-3+1+1+1=N by omega] at this
theorem SC (hN:1300<N) {l:List Func} (hl:FnW l) {s:List Int} (hs:s.length≤1000000) :
  f16.iV N N (l,(l.length:Int),(0:Int),s)=some (.inr (s++l.flatMap lR)):=by
 have h16:=hl.1
 refine oQ (l:=l) (enc:=lR) (g:=fun s=>(.inr s:Int⊕List Int)) (B:=2500000) (m:=30000) (Lf:=fun k i s=>f16.iV N k (l,(l.length:Int),i,s)) (fun k s=>by
  simp only[f16.iV.eq_2,bp,ai]) (fun k i x s hx hm hB=>?_) (fun x hx=>by
  obtain⟨hf,_,n,hn,ho⟩:=hl.2 x hx
  exact DX ho hn hf) (by omega) (by omega)
 obtain⟨⟨g1,g2,g3,g4,g5,g6,g7⟩,YL,n,hn,ho⟩:=hl.2 x hm
 have hw:=ho.FW hn
 have hnl:=iD ho.1
 have hp:=ho.2.2.2.1
 have Sy:=ho.2.2.2.2.2.2.1
 have hcw:CW x.2.2.2.2.1:=⟨Sy.2,fun y hy=>⟨ho.2.2.2.2.2.2.2.1 y hy,g5 y hy⟩⟩
 have bI:=hw.1
 have v1:=cO x.1.length
 have v2:=cO x.2.1.toNat
 have v3:=cO (Ce x.2.2.1)
 have v4:=cO x.2.2.2.1.length
 have v5:=cO x.2.2.2.2.1.length
 have v6:=fm (l:=x.2.2.2.1) (enc:=l6) (m:=40) fun f hf=>p9 (hw.2 f hf).1
 have v7:=fm (l:=x.2.2.2.2.1) (enc:=encI) (m:=31) fun y _=>rW y
 have r1:room (s.length+(V x.1.length).length) 1=true:=az (by omega) (by omega)
 have r2:room ((s++V x.1.length).length+(bx x.1).length) 1=true:=az (by simp only[List.length_append,cl];omega) (by omega)
 have r3:room (((s++V x.1.length)++bx x.1).length+(V x.2.1.toNat).length) 1=true:=az (by simp only[List.length_append,cl];omega) (by omega)
 have r4:room ((((s++V x.1.length)++bx x.1)++V x.2.1.toNat).length+(V (Ce x.2.2.1)).length) 1=true:=az (by simp only[List.length_append,cl];omega) (by omega)
 have r5:room (((((s++V x.1.length)++bx x.1)++V x.2.1.toNat)++V (Ce x.2.2.1)).length+(V x.2.2.2.1.length).length) 1=true:=az (by simp only[List.length_append,cl];omega) (by omega)
 simp only[f16.iV.eq_2,bg (aN hx),av,aT hx,Option.bind_some,iZ (show 20<N by omega) (show x.1.length≤1000000 by omega),lQ (show 20<N by omega) (show 0≤x.2.1∧x.2.1≤9223372036854775807 by omega),DQ (show 20<N by omega) YL,iZ (show 20<N by omega) (show x.2.2.2.1.length≤1000000 by omega),r1,r2,r3,r4,r5,aj,aE (show i<9223372036854775807 by have:=aN hx;omega)]
 have e1:=Sz hN hw (s:=((((s++V x.1.length)++bx x.1)++V x.2.1.toNat)++V (Ce x.2.2.1))++V x.2.2.2.1.length) (by simp only[List.length_append,cl];omega) x.1 x.2.1 x.2.2.1 x.2.2.2.1 x.2.2.2.2.1 x.2.2.2.2.2.1 x.2.2.2.2.2.2
 rw[e1,Option.bind_some]
 simp only
 rw[iZ (by omega) (by omega),Option.bind_some,az (by simp only[List.length_append,cl];omega) (by omega),aj,Wm hN hcw (by simp only[List.length_append,cl];omega),Option.bind_some]
 simp only
 rw[Wn hN ho.2.2.2.2.2.2.2.2.1 ho.2.2.2.2.2.2.2.2.2 g3 g4 g6 g7 (by simp only[List.length_append,cl];omega) rfl Sy,Option.bind_some]
 simp only[lR,iE,said,List.append_assoc]
end
end Go.Proofs.YthphehfgekjooaaGreatDoor
namespace Go.Proofs.YthphehfgekjooaaGreatDoor
open Go Go.bq Go.Sym
open Classical
noncomputable def mh (ts:List aI) (xs:List (List UInt8)) (fs:List Func):Prop:=Sx ts xs fs∧∀ f,f∈fs→i64 f.2.2.1
theorem cG.XW {ts:List aI} {xs:List (List UInt8)} {fs:List Func} (h:cG ts xs fs):XW xs:=⟨h.2.1,h.2.2.2.2.1⟩
theorem cG.func {ts:List aI} {xs:List (List UInt8)} {fs:List Func} (h:cG ts xs fs) {i:Nat} (hi:i<fs.length):jZ ts.length (p8 fs i):=by
 have:=h.2.2.2.2.2 i hi
 unfold Cu at this
 rw[Bool.and_eq_true,decide_eq_true_eq] at this
 exact this.1
theorem cG.FnW {ts:List aI} {xs:List (List UInt8)} {fs:List Func} (h:cG ts xs fs) (hm:mh ts xs fs):FnW fs:=⟨h.2.2.1.2,fun f hf=>by
 refine⟨hm.1.2.2.2.2 f hf,hm.2 f hf,ts.length,h.1.1,?_⟩
 obtain⟨i,hi,rfl⟩:=iX fn0 hf
 exact h.func hi⟩
noncomputable def yL (ts:List aI) (xs:List (List UInt8)) (fs:List Func):Int:=if cG ts xs fs then (if (fA ts xs fs).length≤20000 then 0 else 4) else 8
section
variable {N:Nat} {ts:List aI} {xs:List (List UInt8)} {fs:List Func}
theorem OF (h:cG ts xs fs) (hm:mh ts xs fs):(ts.flatMap mZ).length≤25600∧(xs.flatMap said).length≤3200∧(fs.flatMap lR).length≤960000:=by
 have hT:=h.1.TW
 have hX:=h.XW
 have hF:=h.FnW hm
 have h1:=fm (l:=ts) (enc:=mZ) (m:=800) fun x hx=>by
  obtain⟨n,i,hi,_,ht⟩:=hT.2 x hx
  exact DW ht hi
 have h2:=fm (l:=xs) (enc:=said) (m:=100) fun x hx=>by have:=vD x;have:=hX.2 x hx;omega
 have h3:=fm (l:=fs) (enc:=lR) (m:=30000) fun x hx=>by
  obtain⟨hf,_,n,hn,ho⟩:=hF.2 x hx
  exact DX ho hn hf
 have a1:=hT.1;have a2:=hX.1;have a3:=hF.1
 exact⟨by omega,by omega,by omega⟩
theorem DZ (hN:1300<N) (hm:mh ts xs fs):F16 N (ts,xs,fs)=some (if yL ts xs fs=0 then fA ts xs fs else [],yL ts xs fs):=by
 rw[F16.eq_1,vF hN hm.1,Option.bind_some]
 unfold yL
 by_cases h:cG ts xs fs
 ·rw [dc h, Bool.not_true, ai, if_pos h]
  obtain⟨b1,b2,b3⟩:=OF h hm
  have c1:=cO ts.length;have c2:=cO xs.length;have c3:=cO fs.length
  have d1:=hm.1.1.1;have d2:=hm.1.2.1;have d3:=hm.1.2.2.2.1
  rw[iZ (by omega) (by omega),Option.bind_some,az (by omega) (by omega),aj,SA hN h.1.TW (by omega),Option.bind_some]
  simp only
  rw[iZ (by omega) (by omega),Option.bind_some,az (by simp only[List.length_append];omega) (by omega),aj,SB hN h.XW (by simp only[List.length_append];omega),Option.bind_some]
  simp only
  rw[iZ (by omega) (by omega),Option.bind_some,az (by simp only[List.length_append];omega) (by omega),aj,SC hN (h.FnW hm) (by simp only[List.length_append];omega),Option.bind_some]
  have e:(((((V ts.length++ts.flatMap mZ)++V xs.length)++xs.flatMap said)++V fs.length)++fs.flatMap lR)=fA ts xs fs:=by simp only[fA,List.append_assoc]
  simp only
  rw[e]
  by_cases hl:(fA ts xs fs).length≤20000
  ·rw[if_pos hl,cu (show ¬((fA ts xs fs).length:Int)>20000 by omega),ai,if_pos rfl]
  ·rw[if_neg hl,dc (show ((fA ts xs fs).length:Int)>20000 by omega),av,if_neg (by decide)]
 ·rw[cu h,Bool.not_false,av,if_neg h,if_neg (by decide)]
theorem BG (hN:1300<N) (hm:mh ts xs fs):RH N (ts,xs,fs)=some (yL ts xs fs):=by
 rw[RH.eq_1,DZ hN hm,Option.bind_some]
noncomputable def abj (fs:List Func) (f i:Int):Prop:=0≤f∧f<fs.length∧0≤i∧i<(p8 fs f.toNat).2.2.2.2.1.length
noncomputable def akx (ts:List aI) (xs:List (List UInt8)) (fs:List Func) (f i:Int):Int×Int:=
 if yL ts xs fs=0 then (if abj fs f i then (256*(f+1)+i,0) else (0,2)) else (0,yL ts xs fs)
noncomputable def aiG (fs:List Func) (a:Nat):Prop:=1≤a / 256∧a / 256≤fs.length∧a % 256<(p8 fs (a / 256-1)).2.2.2.2.1.length
noncomputable def aky (ts:List aI) (xs:List (List UInt8)) (fs:List Func) (a:Nat):Int×Int×Int:=
 if yL ts xs fs=0 then (if aiG fs a then (((a / 256-1:Nat):Int),((a % 256:Nat):Int),0) else (0,0,6)) else (0,0,yL ts xs fs)
end
end Go.Proofs.YthphehfgekjooaaGreatDoor
namespace Go.Proofs.YthphehfgekjooaaGreatDoor
open Go Go.bq Go.Sym
open Classical
noncomputable def akz (ts:List aI) (fs:List Func):Prop:=
 (∀ t,t∈ts→i64 t.2.2.1)∧∀ f,f∈fs→i64 f.2.2.1∧(∀ x,x∈f.2.2.2.2.1→JB x)∧nY f.2.2.2.2.2.1∧nY f.2.2.2.2.2.2
section
variable {N:Nat} {ts:List aI} {xs:List (List UInt8)} {fs:List Func}
theorem acD {α : Type} (l:List α):l.flatMap (fun x=>[x])=l:=(yf id l).trans (List.map_id l)
theorem wU {α β : Type} {l:List α} {m:List β} : ((l.length:Int) != (m.length:Int)) = !decide (l.length=m.length):=by
 by_cases h:l.length=m.length
 ·rw[decide_eq_true h,h];simp
 ·rw[decide_eq_false h,bne_iff_ne.2 (by omega)];rfl
theorem Wo (a b:Int):(a != b) = !decide (a=b):=by by_cases h:a=b<;>simp[h]
theorem SD (x y:Field):(x.1==y.1&&(x.2==y.2&&true))=decide (x=y):=by
 obtain⟨a,b⟩:=x;obtain⟨c,d⟩:=y
 by_cases h1:a=c<;>by_cases h2:b=d<;>simp[h1,h2]
theorem run_eq (x y:cI):(x.1==y.1&&(x.2==y.2&&true))=decide (x=y):=by
 obtain⟨a,b⟩:=x;obtain⟨c,d⟩:=y
 by_cases h1:a=c<;>by_cases h2:b=d<;>simp[h1,h2]
theorem instr_eq (x y:Instr):(x.1==y.1&&(x.2.1==y.2.1&&(x.2.2.1==y.2.2.1&&(x.2.2.2==y.2.2.2&&true))))=decide (x=y):=by
 obtain⟨a,b,c,d⟩:=x;obtain⟨a',b',c',d'⟩:=y
 by_cases h1:a=a'<;>by_cases h2:b=b'<;>by_cases h3:c=c'<;>by_cases h4:d=d'<;>simp[h1,h2,h3,h4]
theorem IU {l m:List Field} (hl:l.length≤1000) (hN:1300<N):F69 N (l,m)=some (decide (l=m)):=by
 rw[F69.eq_1,wU]
 by_cases h:l.length=m.length
 ·rw [dc h, Bool.not_true, ai, sJ (l := l) (m := m) (a := (.inr () : Bool ⊕ Unit)) (b := .inl false) (Lf := fun k i => f69.bz N k (l, m, i)) h (fun k => by simp only [f69.bz.eq_2, bp, ai]) (fun k i x y hx hy h1 h2 => by
   simp only[f69.bz.eq_2,bg (aN h1),av,aT h1,aT h2,Option.bind_some,SD,aE (show i<9223372036854775807 by have:=aN h1;omega)]
   by_cases he:x=y<;>simp[he]) N (by omega),Option.bind_some]
  by_cases he:l=m
  ·rw[if_pos he,dc he]
  ·rw[if_neg he,cu he]
 ·rw[cu h,Bool.not_false,av,cu fun e=>h (by rw[e])]
theorem IV {l m:List cI} (hl:l.length≤1000) (hN:1300<N):F9 N (l,m)=some (decide (l=m)):=by
 rw[F9.eq_1,wU]
 by_cases h:l.length=m.length
 ·rw [dc h, Bool.not_true, ai, sJ (l := l) (m := m) (a := (.inr () : Bool ⊕ Unit)) (b := .inl false) (Lf := fun k i => f9.bz N k (l, m, i)) h (fun k => by simp only [f9.bz.eq_2, bp, ai]) (fun k i x y hx hy h1 h2 => by
   simp only[f9.bz.eq_2,bg (aN h1),av,aT h1,aT h2,Option.bind_some,run_eq,aE (show i<9223372036854775807 by have:=aN h1;omega)]
   by_cases he:x=y<;>simp[he]) N (by omega),Option.bind_some]
  by_cases he:l=m
  ·rw[if_pos he,dc he]
  ·rw[if_neg he,cu he]
 ·rw[cu h,Bool.not_false,av,cu fun e=>h (by rw[e])]
theorem SE {l m:List Instr} (hl:l.length≤1000) (hN:1300<N):F20 N (l,m)=some (decide (l=m)):=by
 rw[F20.eq_1,wU]
 by_cases h:l.length=m.length
 ·rw [dc h, Bool.not_true, ai, sJ (l := l) (m := m) (a := (.inr () : Bool ⊕ Unit)) (b := .inl false) (Lf := fun k i => f20.bz N k (l, m, i)) h (fun k => by simp only [f20.bz.eq_2, bp, ai]) (fun k i x y hx hy h1 h2 => by
   simp only[f20.bz.eq_2,bg (aN h1),av,aT h1,aT h2,Option.bind_some,instr_eq,aE (show i<9223372036854775807 by have:=aN h1;omega)]
   by_cases he:x=y<;>simp[he]) N (by omega),Option.bind_some]
  by_cases he:l=m
  ·rw[if_pos he,dc he]
  ·rw[if_neg he,cu he]
 ·rw[cu h,Bool.not_false,av,cu fun e=>h (by rw[e])]
theorem SF {l m:List aI} (hl:l.length≤1000) (hf:∀ t,t∈l→t.2.2.2.length≤1000) (hN:1300<N):F38 N (l,m)=some (decide (l=m)):=by
 rw[F38.eq_1,wU]
 by_cases h:l.length=m.length
 ·rw [dc h, Bool.not_true, ai, sJ (l := l) (m := m) (a := (.inr () : Bool ⊕ Unit)) (b := .inl false) (Lf := fun k i => f38.bz N k (l, m, i)) h (fun k => by simp only [f38.bz.eq_2, bp, ai]) (fun k i x y hx hy h1 h2 => by
   simp only[f38.bz.eq_2,bg (aN h1),av,aT h1,aT h2,Option.bind_some,IU (hf x hx) hN,jW,Wo,aE (show i<9223372036854775807 by have:=aN h1;omega)]
   obtain⟨a,b,c,d⟩:=x;obtain⟨a',b',c',d'⟩:=y
   by_cases e1:a=a'<;>by_cases e2:b=b'<;>by_cases e3:c=c'<;>by_cases e4:d=d'<;>simp[e1,e2,e3,e4]) N (by omega),Option.bind_some]
  by_cases he:l=m
  ·rw[if_pos he,dc he]
  ·rw[if_neg he,cu he]
 ·rw[cu h,Bool.not_false,av,cu fun e=>h (by rw[e])]
theorem OG {f g:Func} (hf:r6 f) (hN:1300<N):F39 N (f.1,f.2.1,f.2.2.1,f.2.2.2.1,f.2.2.2.2.1,f.2.2.2.2.2.1,f.2.2.2.2.2.2,g.1,g.2.1,g.2.2.1,g.2.2.2.1,g.2.2.2.2.1,g.2.2.2.2.2.1,g.2.2.2.2.2.2)=some (decide (f=g)):=by
 obtain⟨g1,g2,g3,g4,_⟩:=hf
 rw[F39.eq_1]
 simp only[IU (N:=N) (show f.2.2.2.1.length≤1000 by omega) hN,SE (N:=N) (show f.2.2.2.2.1.length≤1000 by omega) hN,IV (N:=N) (show f.2.2.2.2.2.1.length≤1000 by omega) hN,IV (N:=N) (show f.2.2.2.2.2.2.length≤1000 by omega) hN,Option.bind_some,FA]
 obtain⟨a,b,c,d,e,i,j⟩:=f;obtain⟨a',b',c',d',e',i',j'⟩:=g
 simp only
 congr 1
 by_cases e1:a=a'
 ·by_cases e2 : b = b'
  ·by_cases e3 : c = c'
   ·by_cases e4 : d = d'
    ·by_cases e5 : e = e'
     ·by_cases e6:i=i'<;>by_cases e7:j=j'<;>simp[e1,e2,e3,e4,e5,e6,e7]
     ·simp[e5]
    ·simp[e4]
   ·simp[e3]
  ·simp[e2]
 ·simp[e1]
theorem Wp {ts':List aI} {xs':List (List UInt8)} {fs':List Func} (hN:1300<N) (hm:mh ts xs fs):F19 N (ts,xs,fs,ts',xs',fs')=some (decide (ts=ts'∧xs=xs'∧fs=fs')):=by
 obtain⟨⟨m1,m2,m3,m4,m5⟩,_⟩:=hm
 have htl:=m1.1
 have htf:∀ t,t∈ts→t.2.2.2.length≤1000:=fun t h=>by
  obtain⟨j,hj,rfl⟩:=iX ty0 h
  exact (m1.2 j hj).1
 rw[F19.eq_1,SF (by omega) htf hN,wU,wU]
 simp only[Option.bind_some,jW]
 by_cases ht:ts=ts'
 ·by_cases hx : xs.length = xs'.length
  ·by_cases hf : fs.length = fs'.length
   ·rw [dc ht, dc hx, dc hf, show (!true || (!true || !true)) = false from rfl, ai, sJ (l := xs) (m := xs') (a := (.inr (ts, xs, fs, ts', xs', fs') : Bool ⊕ (List aI × List (List UInt8) × List Func × List aI × List (List UInt8) × List Func))) (b := .inl false) (Lf := fun k i => f19.bz N k (i, ts, xs, fs, ts', xs', fs')) hx (fun k => by simp only [f19.bz.eq_2, bp, ai]) (fun k i x y hx hy h1 h2 => by
     simp only[f19.bz.eq_2,bg (aN h1),av,aT h1,aT h2,Option.bind_some,aE (show i<9223372036854775807 by have:=aN h1;omega)]
     by_cases he:x=y
     ·simp[he]
     ·rw[show (x==y)=false by simpa using he,if_neg he];rfl) N (by omega),Option.bind_some]
    by_cases Gj:xs=xs'
    ·rw [if_pos Gj]
     simp only
     rw[sJ (l:=fs) (m:=fs') (a:=(.inr ():Bool⊕Unit)) (b:=.inl false) (Lf:=fun k i=>f19.mX N k (i,ts,xs,fs,ts',xs',fs')) hf (fun k=>by simp only[f19.mX.eq_2,bp,ai]) (fun k i x y hx hy h1 h2=>by
      simp only[f19.mX.eq_2,bg (aN h1),av,aT h1,aT h2,Option.bind_some,OG (m5 x hx) hN,aE (show i<9223372036854775807 by have:=aN h1;omega)]
      by_cases he:x=y<;>simp[he]) N (by omega),Option.bind_some]
     by_cases hfe:fs=fs'
     ·rw[if_pos hfe,dc ⟨ht,Gj,hfe⟩]
     ·rw[if_neg hfe,cu fun h=>hfe h.2.2]
    ·rw[if_neg Gj,cu fun h=>Gj h.2.1]
   ·rw[cu hf,Bool.not_false,Bool.or_true,Bool.or_true,av,cu fun h=>hf (by rw[h.2.2])]
  ·rw[cu hx,Bool.not_false,Bool.true_or,Bool.or_true,av,cu fun h=>hx (by rw[h.2.1])]
 ·rw[cu ht,Bool.not_false,Bool.true_or,av,cu fun h=>ht h.1]
end
end Go.Proofs.YthphehfgekjooaaGreatDoor
namespace Go.Proofs.YthphehfgekjooaaGreatDoor
open Go Go.bq Go.Sym
noncomputable def ue (c:UInt8) (v:Int):Bool:=(U c).2.2.1&&decide (v≥0)
noncomputable def IW (c:UInt8) (v:Int):Bool:=(U c).2.2.2&&decide (v≥0)
noncomputable def one (b:Bool) (v:Int):List Int:=bif b then [v] else []
noncomputable def bP (f:UInt8→Int→Bool) (x:Instr):List Int:=
 match Gt x.1 with
 |some (a,b,c)=>(one (f a x.2.1) x.2.1++one (f b x.2.2.1) x.2.2.1)++one (f c x.2.2.2) x.2.2.2
 |none=>[]
theorem Lg (N:Nat) (x:Instr):X0 N (x.1,x.2.1,x.2.2.1,x.2.2.2)=some (bif fk x then (bP ue x,bP IW x,0) else ([],[],8)):=by
 have h:=p5 N x.1
 rw[X0.eq_1,oP,h]
 unfold bP
 cases hc:fk x with
 |false=>rfl
 | true =>
  simp only[av,Option.bind_some,Vu.eq_1]
  cases hs:Gt x.1 with
  |none=>simp[fk,hs] at hc
  | some s =>
   obtain⟨a,b,c⟩:=s
   simp only[FA,Option.bind_some,ue,IW]
   cases ((U a).2.2.1&&decide (x.2.1≥0))<;>cases ((U a).2.2.2&&decide (x.2.1≥0))<;>cases ((U b).2.2.1&&decide (x.2.2.1≥0))<;>cases ((U b).2.2.2&&decide (x.2.2.1≥0))<;>
    cases ((U c).2.2.1&&decide (x.2.2.2≥0))<;>cases ((U c).2.2.2&&decide (x.2.2.2≥0))<;>rfl
end Go.Proofs.YthphehfgekjooaaGreatDoor
