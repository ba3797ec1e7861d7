/- A part of the proof: Law21dj, Law21dk, Law21dl, Law21ddx1, SymEr, Law21ddx2, Dtl21dx1. -/
import Derived.Test.YtjejefeomeddhaaGreatLaw21di
import Derived.Test.YtjejefeomeddhaaGreatDta21d
set_option linter.unusedVariables false
set_option linter.unusedSimpArgs false
variable [Go.Eng.Rho]
set_option linter.unusedSectionVars false
namespace Go.Proofs.YtjejefeomeddhaaGreat
open Go Go.Eng Go.Sym
open Classical
noncomputable def rangeB (l:List Field) (n:Nat):Prop:=∀ f,f∈l→0≤f.2∧f.2<n
noncomputable def FuncOK (n:Nat) (f:Func):Prop:=
 nameB f.1=true∧f.2.2.2.1.length≤16∧FieldsOK f.2.2.2.1∧(0≤f.2.1∧f.2.1≤f.2.2.2.1.length)∧(-1≤f.2.2.1∧f.2.2.1<n)∧rangeB f.2.2.2.1 n∧
 (1≤f.2.2.2.2.1.length∧f.2.2.2.2.1.length≤200)∧(∀ x,x∈f.2.2.2.2.1→chkI x=true)∧RunsOK f.2.2.2.2.2.1 f.2.2.2.2.1.length∧RunsOK f.2.2.2.2.2.2 f.2.2.2.2.1.length
noncomputable def fnFit (f:Func):Prop:=f.2.2.2.1.length≤300∧f.2.2.2.2.1.length≤1000∧f.2.2.2.2.2.1.length≤1000∧f.2.2.2.2.2.2.length≤1000∧(∀ x,x∈f.2.2.2.2.1→okI x)∧okR f.2.2.2.2.2.1∧okR f.2.2.2.2.2.2
theorem fn_range {N:Nat} {l:List Field} {ts:List GType} (hN:l.length<N) (hl:l.length≤1000) (a:List UInt8) (b c:Int) (d:List Field) (e:List Instr) (f g:List Run) :
  f310.L0_6 N N (ts,l,(l.length:Int),(0:Int),a,b,c,d,e,f,g)=some (if rangeB l ts.length then .inr (a,b,c,d,e,f,g) else .inl false):=by
 have key:=loop_lst (l:=l) (a:=(.inr (a,b,c,d,e,f,g):Bool⊕(List UInt8×Int×Int×List Field×List Instr×List Run×List Run))) (b:=.inl false) (p:=fun x=>!decide (0≤x.2∧x.2<(ts.length:Int)))
  (Lf := fun k i => f310.L0_6 N k (ts, l, (l.length : Int), i, a, b, c, d, e, f, g)) (fun k _ => by
   simp only[f310.L0_6.eq_2,ge_dec,bif_r]) (fun k i x hx hm=>by
   simp only[f310.L0_6.eq_2,lt_dec (len_pos hx),bif_l,idx_get hx,Option.bind_some,wi64_succ (show i<9223372036854775807 by have:=len_pos hx;omega),bif_tt]
   by_cases h:0≤x.2∧x.2<(ts.length:Int)
   ·rw[decT h,decF (show ¬x.2<0 by omega),decF (show ¬x.2≥(ts.length:Int) by omega)];rfl
   ·rw [decF h]
    by_cases h1:x.2<0
    ·rw[decT h1];rfl
    ·rw[decT (show x.2≥(ts.length:Int) by omega),Bool.or_true];rfl) (k:=N) hN
 rw[key,ex_notL]
 simp only[decide_eq_true_eq]
 exact congrArg some (ite_iff Iff.rfl)
theorem fn_range09 {N:Nat} {l:List Field} {ts:List GType} (hN:l.length<N) (hl:l.length≤1000) (a:List UInt8) (b c:Int) (e:List Instr) (f g:List Run) :
  f99.L0_6 N N (ts,(0:Int),a,b,c,l,e,f,g)=some (if rangeB l ts.length then .inr (a,b,c,l,e,f,g) else .inl false):=by
 have key:=loop_lst (l:=l) (a:=(.inr (a,b,c,l,e,f,g):Bool⊕(List UInt8×Int×Int×List Field×List Instr×List Run×List Run))) (b:=.inl false) (p:=fun x=>!decide (0≤x.2∧x.2<(ts.length:Int)))
  (Lf := fun k i => f99.L0_6 N k (ts, i, a, b, c, l, e, f, g)) (fun k _ => by
   simp only[f99.L0_6.eq_2,ge_dec,bif_r]) (fun k i x hx hm=>by
   simp only[f99.L0_6.eq_2,lt_dec (len_pos hx),bif_l,idx_get hx,Option.bind_some,wi64_succ (show i<9223372036854775807 by have:=len_pos hx;omega),bif_tt]
   by_cases h:0≤x.2∧x.2<(ts.length:Int)
   ·rw[decT h,decF (show ¬x.2<0 by omega),decF (show ¬x.2≥(ts.length:Int) by omega)];rfl
   ·rw [decF h]
    by_cases h1:x.2<0
    ·rw[decT h1];rfl
    ·rw[decT (show x.2≥(ts.length:Int) by omega),Bool.or_true];rfl) (k:=N) hN
 rw[key,ex_notL]
 simp only[decide_eq_true_eq]
 exact congrArg some (ite_iff Iff.rfl)
theorem fn_code {N:Nat} {l:List Instr} (hN:l.length<N) (hl:l.length≤1000) (a:List UInt8) (b c:Int) (d:List Field) (e:List Instr) (f g:List Run) :
  f310.L0_17 N N (l,(l.length:Int),(0:Int),a,b,c,d,e,f,g)=some (if ∀ x,x∈l→chkI x=true then .inr (a,b,c,d,e,f,g) else .inl false):=by
 have key:=loop_lst (l:=l) (a:=(.inr (a,b,c,d,e,f,g):Bool⊕(List UInt8×Int×Int×List Field×List Instr×List Run×List Run))) (b:=.inl false) (p:=fun x=>!chkI x)
  (Lf := fun k i => f310.L0_17 N k (l, (l.length : Int), i, a, b, c, d, e, f, g)) (fun k _ => by
   simp only[f310.L0_17.eq_2,ge_dec,bif_r]) (fun k i x hx hm=>by
   simp only[f310.L0_17.eq_2,lt_dec (len_pos hx),bif_l,idx_get hx,Option.bind_some,wi64_succ (show i<9223372036854775807 by have:=len_pos hx;omega),checkO_ok]
   by_cases h:chkI x=true
   ·simp[h]
   ·simp[h]) (k:=N) hN
 rw[key,ex_notL]
theorem fn_code09 {N:Nat} {l:List Instr} (hN:l.length<N) (hl:l.length≤1000) (hx:∀ x,x∈l→okI x) (a:List UInt8) (b c:Int) (d:List Field) (f g:List Run) :
  f99.L0_16 N N ((0:Int),a,b,c,d,l,f,g)=some (if ∀ x,x∈l→chkI x=true then .inr (a,b,c,d,l,f,g) else .inl false):=by
 have key:=loop_lst (l:=l) (a:=(.inr (a,b,c,d,l,f,g):Bool⊕(List UInt8×Int×Int×List Field×List Instr×List Run×List Run))) (b:=.inl false) (p:=fun x=>!chkI x)
  (Lf := fun k i => f99.L0_16 N k (i, a, b, c, d, l, f, g)) (fun k _ => by
   simp only[f99.L0_16.eq_2,ge_dec,bif_r]) (fun k i x hx' hm=>by
   simp only[f99.L0_16.eq_2,lt_dec (len_pos hx'),bif_l,idx_get hx',Option.bind_some,wi64_succ (show i<9223372036854775807 by have:=len_pos hx';omega),check06_ok N (hx x hm)]
   by_cases h:chkI x=true
   ·simp[h]
   ·simp[h]) (k:=N) hN
 rw[key,ex_notL]
theorem function_ok {N:Nat} {ts:List GType} {f:Func} (hN:1300<N) (hf:fnFit f):F310 N (ts,f.1,f.2.1,f.2.2.1,f.2.2.2.1,f.2.2.2.2.1,f.2.2.2.2.2.1,f.2.2.2.2.2.2)=some (decide (FuncOK ts.length f)):=by
 obtain⟨nm,pa,re,sl,co,si,li⟩:=f
 obtain⟨g1,g2,g3,g4,g5,g6,g7⟩:=hf
 simp only at g1 g2 g3 g4 g5 g6 g7 ⊢
 rw[F310.eq_1,named_ok (by omega),imgNamed_ok (by omega) (by omega)]
 simp only[Option.bind_some,bif_tt]
 have no:∀ {p:Prop},(FuncOK ts.length (nm,pa,re,sl,co,si,li)→p)→¬p→decide (FuncOK ts.length (nm,pa,re,sl,co,si,li))=false:=fun h hp=>decF fun h'=>hp (h h')
 by_cases hA:nameB nm=true∧sl.length≤16∧FieldsOK sl∧(0≤pa∧pa≤sl.length)∧-1≤re∧re<ts.length
 ·obtain ⟨a1, a2, a3, a4, a5, a6⟩ := hA
  rw[a1,decF (show ¬(sl.length:Int)>16 by omega),decT a3,decF (show ¬pa<0 by omega),decF (show ¬pa>(sl.length:Int) by omega),decF (show ¬re < -1 by omega),decF (show ¬re≥(ts.length:Int) by omega),show (!true||(false||(!true||(false||(false||(false||false))))))=false from rfl,bif_r,fn_range (by omega) (by omega),Option.bind_some]
  by_cases hr:rangeB sl ts.length
  ·rw [if_pos hr]
   simp only
   rw[fn_code (by omega) (by omega),Option.bind_some]
   by_cases hc:∀ x,x∈co→chkI x=true
   ·rw [if_pos hc]
    simp only
    rw[checkT_ok (by omega) (by omega),checkT_ok (by omega) (by omega),Option.bind_some,Option.bind_some]
    by_cases hn:co.length<1∨co.length>200
    ·rw[if_pos hn,no (p:=1≤co.length∧co.length≤200) (fun h=>h.2.2.2.2.2.2.1) (by omega)];rfl
    ·rw [if_neg hn, if_neg hn]
     by_cases hs:RunsOK si co.length
     ·rw [if_pos hs]
      by_cases hv:RunsOK li co.length
      ·rw[if_pos hv,decT (show FuncOK ts.length (nm,pa,re,sl,co,si,li) from⟨a1,a2,a3,a4,⟨a5,a6⟩,hr,by simp only;omega,hc,hs,hv⟩)];rfl
      ·rw[if_neg hv,no (fun h=>h.2.2.2.2.2.2.2.2.2) hv];rfl
     ·rw[if_neg hs,no (fun h=>h.2.2.2.2.2.2.2.2.1) hs];rfl
   ·rw[if_neg hc,no (fun h=>h.2.2.2.2.2.2.2.1) hc]
  ·rw[if_neg hr,no (fun h=>h.2.2.2.2.2.1) hr]
 ·rw [no (fun h => ⟨h.1, h.2.1, h.2.2.1, h.2.2.2.1, h.2.2.2.2.1.1, h.2.2.2.2.1.2⟩) hA]
  have:(!nameB nm||(decide ((sl.length:Int)>16)||(!decide (FieldsOK sl)||(decide (pa<0)||(decide (pa>(sl.length:Int))||(decide (re < -1)||decide (re≥(ts.length:Int))))))))=true:=by
   false_or_by_contra
   rename_i h
   apply hA
   simp only[Bool.not_eq_true,Bool.or_eq_false_iff,Bool.not_eq_false',decide_eq_false_iff_not,decide_eq_true_eq] at h
   obtain⟨k1,k2,k3,k4,k5,k6,k7⟩:=h
   exact⟨k1,by omega,k3,by omega,by omega,by omega⟩
  rw[this,bif_l]
theorem function09_ok {N:Nat} {ts:List GType} {f:Func} (hN:1300<N) (hf:fnFit f):F99 N (ts,f.1,f.2.1,f.2.2.1,f.2.2.2.1,f.2.2.2.2.1,f.2.2.2.2.2.1,f.2.2.2.2.2.2)=some (decide (FuncOK ts.length f)):=by
 obtain⟨nm,pa,re,sl,co,si,li⟩:=f
 obtain⟨g1,g2,g3,g4,g5,g6,g7⟩:=hf
 simp only at g1 g2 g3 g4 g5 g6 g7 ⊢
 rw[F99.eq_1,named04_ok (by omega),fields04_ok (by omega) (by omega)]
 simp only[Option.bind_some,bif_tt]
 have no:∀ {p:Prop},(FuncOK ts.length (nm,pa,re,sl,co,si,li)→p)→¬p→decide (FuncOK ts.length (nm,pa,re,sl,co,si,li))=false:=fun h hp=>decF fun h'=>hp (h h')
 by_cases hA:nameB nm=true∧((sl.length:Int)≤16∧FieldsOK sl)∧(0≤pa∧pa≤sl.length)∧(-1≤re∧re<ts.length)∧1≤co.length∧co.length≤200
 ·obtain ⟨a1, a3, a4, a5, a6⟩ := hA
  rw[a1,decT a3,decF (show ¬pa<0 by omega),decF (show ¬pa>(sl.length:Int) by omega),decF (show ¬re < -1 by omega),decF (show ¬re≥(ts.length:Int) by omega),decF (show ¬(co.length:Int)<1 by omega),decF (show ¬(co.length:Int)>200 by omega),show (!true||(!true||(false||(false||(false||(false||(false||false)))))))=false from rfl,bif_r,fn_range09 (by omega) (by omega),Option.bind_some]
  by_cases hr:rangeB sl ts.length
  ·rw [if_pos hr]
   simp only
   rw[fn_code09 (by omega) (by omega) g5,Option.bind_some]
   by_cases hc:∀ x,x∈co→chkI x=true
   ·rw [if_pos hc]
    simp only
    rw[fine08_ok (by omega) (by omega),fine08_ok (by omega) (by omega),Option.bind_some,Option.bind_some]
    by_cases hs:RunsOK si co.length
    ·rw [decT hs]
     by_cases hv:RunsOK li co.length
     ·rw[decT hv,decT (show FuncOK ts.length (nm,pa,re,sl,co,si,li) from⟨a1,by simp only;omega,a3.2,a4,a5,hr,a6,hc,hs,hv⟩)];rfl
     ·rw[decF hv,no (fun h=>h.2.2.2.2.2.2.2.2.2) hv];rfl
    ·rw[decF hs,no (fun h=>h.2.2.2.2.2.2.2.2.1) hs];rfl
   ·rw[if_neg hc,no (fun h=>h.2.2.2.2.2.2.2.1) hc]
  ·rw[if_neg hr,no (fun h=>h.2.2.2.2.2.1) hr]
 ·rw [no (fun h => ⟨h.1, ⟨by have := h.2.1; simp only at this; omega, h.2.2.1⟩, h.2.2.2.1, h.2.2.2.2.1, h.2.2.2.2.2.2.1⟩) hA]
  have:(!nameB nm||(!decide ((sl.length:Int)≤16∧FieldsOK sl)||(decide (pa<0)||(decide (pa>(sl.length:Int))||(decide (re < -1)||(decide (re≥(ts.length:Int))||(decide ((co.length:Int)<1)||decide ((co.length:Int)>200))))))))=true:=by
   false_or_by_contra
   rename_i h
   apply hA
   simp only[Bool.not_eq_true,Bool.or_eq_false_iff,Bool.not_eq_false',decide_eq_false_iff_not,decide_eq_true_eq] at h
   obtain⟨k1,k2,k3,k4,k5,k6,k7,k8⟩:=h
   exact⟨k1,k2,by omega,by omega,by omega⟩
  rw[this,bif_l]
noncomputable def fn0:Func:=([],0,0,[],[],[],[])
noncomputable def fnn (l:List Func) (i:Nat):Func:=l.getD i fn0
noncomputable def dupN (l:List Func) (i:Nat):Prop:=∃ j,j<i∧(fnn l j).1=(fnn l i).1
noncomputable def okFn (n:Nat) (l:List Func) (i:Nat):Bool:=decide (FuncOK n (fnn l i)) && !decide (dupN l i)
noncomputable def FineOK (ts:List GType) (xs:List (List UInt8)) (fs:List Func):Prop:=
 TableOK ts∧xs.length≤32∧(1≤fs.length∧fs.length≤32)∧SizesOK ts∧(∀ s,s∈xs→s.length≤64)∧∀ i,i<fs.length→okFn ts.length fs i=true
noncomputable def imgFit (ts:List GType) (xs:List (List UInt8)) (fs:List Func):Prop:=tyFit ts∧xs.length≤50∧(∀ s,s∈xs→s.length≤1000)∧fs.length≤50∧∀ f,f∈fs→fnFit f
theorem hasB_takeN {l:List Func} {i:Nat} (hi:i<l.length):hasB ((l.take i).map (·.1)) (fnn l i).1=decide (dupN l i):=by
 unfold hasB
 by_cases h:dupN l i
 ·rw [decide_eq_true h, List.any_eq_true]
  obtain⟨j,h1,h2⟩:=h
  refine⟨(fnn l j).1,List.mem_map.2 ⟨fnn l j,?_,rfl⟩,decide_eq_true h2.symm⟩
  rw[fnn,List.getD_eq_getElem?_getD,List.getElem?_eq_getElem (by omega)]
  exact List.mem_take_iff_getElem.2 ⟨j,by omega,rfl⟩
 ·rw [decide_eq_false h]
  cases ha:((l.take i).map (·.1)).any fun q=>decide ((fnn l i).1=q) with
  |false=>rfl
  |true=>
   exfalso
   obtain⟨q,h1,h2⟩:=List.any_eq_true.1 ha
   obtain⟨f,h3,rfl⟩:=List.mem_map.1 h1
   obtain⟨j,h4,rfl⟩:=List.mem_take_iff_getElem.1 h3
   refine h ⟨j,by omega,?_⟩
   rw[of_decide_eq_true h2]
   rw[fnn,List.getD_eq_getElem?_getD,List.getElem?_eq_getElem (by omega)];rfl
theorem fnn_get {l:List Func} {i:Nat} (hi:i<l.length):l[i]?=some (fnn l i):=by
 rw[fnn,List.getD_eq_getElem?_getD,List.getElem?_eq_getElem hi];rfl
theorem addB_takeN {l:List Func} {i:Nat} (hi:i<l.length) (h:¬dupN l i):addB ((l.take i).map (·.1)) (fnn l i).1=(l.take (i+1)).map (·.1):=by
 unfold addB
 rw[hasB_takeN hi,decide_eq_false h,take_succ (fnn_get hi),List.map_append]
 rfl
theorem fine_ok {N:Nat} {ts:List GType} {xs:List (List UInt8)} {fs:List Func} (hN:1300<N) (hm:imgFit ts xs fs):F272 N (ts,xs,fs)=some (decide (FineOK ts xs fs)):=by
 obtain⟨m1,m2,m3,m4,m5⟩:=hm
 have no:∀ {p:Prop},(FineOK ts xs fs→p)→¬p→decide (FineOK ts xs fs)=false:=fun h hp=>decF fun h'=>hp (h h')
 have htl:=m1.1
 rw[F272.eq_1,checkK_ok hN m1]
 simp[Option.bind_some,bif_tt]
 by_cases hA:TableOK ts∧xs.length≤32∧1≤fs.length∧fs.length≤32
 ·obtain ⟨a1, a2, a3, a4⟩ := hA
  rw[if_pos a1,ne00,decF (show ¬(xs.length:Int)>32 by omega),len_ne0 (show ¬fs.length=0 by omega),decF (show ¬(fs.length:Int)>32 by omega),show (false||(false||(false||false)))=false from rfl,bif_r]
  have key:=loop_rng (n:=ts.length) (a:=(.inr (ts,xs,fs):Bool⊕(List GType×List (List UInt8)×List Func))) (b:=.inl false) (q:=fun i=>!decide ((exn (exs ts) i).1≤256)) (Lf:=fun k i=>f272.L0_6 N k ((ts.length:Int),i,ts,xs,fs)) (fun k _=>by
    simp only[f272.L0_6.eq_2,ge_dec,bif_r]) (fun k i hi _=>by
    simp only[f272.L0_6.eq_2,lt_dec hi,bif_l,size_ok hN m1 a1 (show 0≤(i:Int)∧(i:Int)<ts.length by omega),Option.bind_some,wi64_succ (show i<9223372036854775807 by omega)]
    by_cases h:(exn (exs ts) i).1≤256
    ·rw[if_pos h,decT h];rfl
    ·rw[if_neg h,decF h];rfl) (k:=N) (by omega)
  rw[key,ex_not,Option.bind_some]
  by_cases hs:SizesOK ts
  ·rw [if_pos fun i hi => decT (hs i hi)]
   simp
   have key2:=loop_lst (l:=xs) (a:=(.inr (ts,xs,fs):Bool⊕(List GType×List (List UInt8)×List Func))) (b:=.inl false) (p:=fun s=>!decide (s.length≤64)) (Lf:=fun k i=>f272.L0_18 N k (xs,(xs.length:Int),i,ts,xs,fs)) (fun k _=>by
     simp only[f272.L0_18.eq_2,ge_dec,bif_r]) (fun k i x hx hm=>by
     simp only[f272.L0_18.eq_2,lt_dec (len_pos hx),bif_l,idx_get hx,Option.bind_some,wi64_succ (show i<9223372036854775807 by have:=len_pos hx;omega)]
     by_cases h:x.length≤64
     ·rw[decT h,decF (show ¬(x.length:Int)>64 by omega)];rfl
     ·rw[decF h,decT (show (x.length:Int)>64 by omega)];rfl) (k:=N) (by omega)
   rw[key2,ex_notL,Option.bind_some]
   by_cases hx:∀ s,s∈xs→s.length≤64
   ·rw [if_pos fun s h => decT (hx s h)]
    simp
    have key3:=loop_rng (n:=fs.length) (a:=(.inr ():Bool⊕Unit)) (b:=.inl false) (q:=fun i=>!okFn ts.length fs i) (Lf:=fun k i=>f272.L0_30 N k (fs,(fs.length:Int),i,ts,xs,fs,(fs.take i.toNat).map (·.1))) (fun k _=>by
      simp only[f272.L0_30.eq_2,ge_dec,bif_r]) (fun k i hi _=>by
      have e:idx fs (i:Int)=some (fnn fs i):=idx_getD _ hi
      simp only[f272.L0_30.eq_2,lt_dec hi,bif_l,e,Option.bind_some,Int.toNat_natCast,hasB_takeN hi,wi64_succ (show i<9223372036854775807 by omega)]
      have hfk:=function_ok (ts:=ts) hN (m5 _ (getD_mem fn0 hi))
      rw[show fs.getD i fn0=fnn fs i from rfl] at hfk
      rw[hfk,Option.bind_some]
      unfold okFn
      by_cases hd:dupN fs i
      ·rw[decT hd,Bool.not_true,Bool.and_false];rfl
      ·rw [addB_takeN hi hd, decF hd]
       by_cases hk:FuncOK ts.length (fnn fs i)
       ·rw[decT hk];rfl
       ·rw[decF hk];rfl) (k:=N) (by omega)
    rw[show (0:Int).toNat=0 from rfl,List.take_zero,List.map_nil] at key3
    rw[key3,ex_not,Option.bind_some]
    by_cases hf:∀ i,i<fs.length→okFn ts.length fs i=true
    ·rw[if_pos hf,decT (show FineOK ts xs fs from⟨a1,a2,⟨a3,a4⟩,hs,hx,hf⟩)]
    ·rw[if_neg hf,no (fun h=>h.2.2.2.2.2) hf]
   ·rw[if_neg fun h=>hx fun s hs=>of_decide_eq_true (h s hs),no (fun h=>h.2.2.2.2.1) hx]
  ·rw[if_neg fun h=>hs fun i hi=>of_decide_eq_true (h i hi),no (fun h=>h.2.2.2.1) hs]
 ·rw[no (fun h=>⟨h.1,h.2.1,h.2.2.1⟩) hA]<;>grind
theorem exn_map {x:List Ex} {i:Nat} (h:i<x.length):(x.map (·.1))[i]?=some (exn x i).1:=by
 rw[List.getElem?_map,exn,Int.toNat_natCast,List.getD_eq_getElem?_getD,List.getElem?_eq_getElem h];rfl
theorem fine09_ok {N : Nat} {ts : List GType} {xs : List (List UInt8)} {fs : List Func} (hN : 1300 < N) (hm : imgFit ts xs fs) : F44 N (ts, xs, fs) = some (decide (FineOK ts xs fs)) := by
 obtain⟨m1,m2,m3,m4,m5⟩:=hm
 have no:∀ {p:Prop},(FineOK ts xs fs→p)→¬p→decide (FineOK ts xs fs)=false:=fun h hp=>decF fun h'=>hp (h h')
 have htl:=m1.1
 rw[F44.eq_1,check04_ok hN m1]
 simp[Option.bind_some,bif_tt]
 by_cases hA:TableOK ts∧xs.length≤32∧1≤fs.length∧fs.length≤32
 ·obtain ⟨a1, a2, a3, a4⟩ := hA
  rw[if_pos a1,ne00,decF (show ¬(xs.length:Int)>32 by omega),decF (show ¬(fs.length:Int)<1 by omega),decF (show ¬(fs.length:Int)>32 by omega),show (false||(false||(false||false)))=false from rfl,bif_r,sizes_ok (by omega) htl a1.2.1,Option.bind_some]
  have hlen:((eOut 1000000 ts ts.length).map (·.1)).length=ts.length:=by rw[List.length_map,eOut_len]
  have key:=loop_rng (n:=ts.length) (a:=(.inr (ts,xs,fs):Bool⊕(List GType×List (List UInt8)×List Func))) (b:=.inl false) (q:=fun i=>!decide ((exn (exs ts) i).1≤256)) (Lf:=fun k i=>f44.L0_7 N k ((eOut 1000000 ts ts.length).map (·.1),i,ts,xs,fs)) (fun k _=>by
    simp only[f44.L0_7.eq_2,hlen,ge_dec,bif_r]) (fun k i hi _=>by
    have e:idx ((eOut 1000000 ts ts.length).map (·.1)) (i:Int)=some (exn (eOut 1000000 ts ts.length) i).1:=idx_get (exn_map (by rw[eOut_len];exact hi))
    simp only[f44.L0_7.eq_2,hlen,lt_dec hi,bif_l,e,Option.bind_some,wi64_succ (show i<9223372036854775807 by omega)]
    obtain⟨r1,_⟩:=eOut_rel a1.2.1 ts.length (Nat.le_refl _) (i:Int)
    rw[show eOut 1048576 ts ts.length=exs ts from rfl] at r1
    by_cases h:(exn (exs ts) i).1≤256
    ·rw[decF (show ¬(exn (eOut 1000000 ts ts.length) i).1>256 by omega),decT h];rfl
    ·rw[decT (show (exn (eOut 1000000 ts ts.length) i).1>256 by omega),decF h];rfl) (k:=N) (by omega)
  rw[key,ex_not,Option.bind_some]
  by_cases hs:SizesOK ts
  ·rw [if_pos fun i hi => decT (hs i hi)]
   simp
   have key2:=loop_lst (l:=xs) (a:=(.inr (ts,xs,fs):Bool⊕(List GType×List (List UInt8)×List Func))) (b:=.inl false) (p:=fun s=>!decide (s.length≤64)) (Lf:=fun k i=>f44.L0_17 N k (i,ts,xs,fs)) (fun k _=>by
     simp only[f44.L0_17.eq_2,ge_dec,bif_r]) (fun k i x hx hm=>by
     simp only[f44.L0_17.eq_2,lt_dec (len_pos hx),bif_l,idx_get hx,Option.bind_some,wi64_succ (show i<9223372036854775807 by have:=len_pos hx;omega)]
     by_cases h:x.length≤64
     ·rw[decT h,decF (show ¬(x.length:Int)>64 by omega)];rfl
     ·rw[decF h,decT (show (x.length:Int)>64 by omega)];rfl) (k:=N) (by omega)
   rw[key2,ex_notL,Option.bind_some]
   by_cases hx:∀ s,s∈xs→s.length≤64
   ·rw [if_pos fun s h => decT (hx s h)]
    simp
    have key3 := loop_rng (n := fs.length) (a := (.inr () : Bool ⊕ Unit)) (b := .inl false) (q := fun i => !okFn ts.length fs i) (Lf := fun k i => f44.L0_27 N k (i, ts, xs, fs)) (fun k _ => by
      simp only[f44.L0_27.eq_2,ge_dec,bif_r]) (fun k i hi _=>by
      have e:idx fs (i:Int)=some (fnn fs i):=idx_getD _ hi
      have hfk:=function09_ok (ts:=ts) hN (m5 _ (getD_mem fn0 hi))
      rw[show fs.getD i fn0=fnn fs i from rfl] at hfk
      simp only[f44.L0_27.eq_2,lt_dec hi,bif_l,e,Option.bind_some,hfk]
      unfold okFn
      by_cases hk:FuncOK ts.length (fnn fs i)
      ·rw [decT hk, Bool.not_true, bif_r, Bool.true_and]
       have inner:=loop_rng (n:=i) (a:=(.inr ((i:Int),ts,xs,fs):Bool⊕(Int×List GType×List (List UInt8)×List Func))) (b:=.inl false) (q:=fun j=>(fnn fs j).1==(fnn fs i).1) (Lf:=fun k j=>f44.L0_36 N k ((i:Int),j,ts,xs,fs)) (fun k _=>by
        simp only[f44.L0_36.eq_2,ge_dec,bif_r]) (fun k j hj _=>by
        have ej:idx fs (j:Int)=some (fnn fs j):=idx_getD _ (by omega)
        simp only[f44.L0_36.eq_2,lt_dec hj,bif_l,e,ej,Option.bind_some,wi64_succ (show j<9223372036854775807 by omega)]
        by_cases hb:((fnn fs j).1==(fnn fs i).1)=true<;>simp[hb]) (k:=N) (by omega)
       rw[inner,Option.bind_some]
       by_cases hd:dupN fs i
       ·rw [if_pos, decT hd]
        ·rfl
        ·obtain ⟨j, h1, h2⟩ := hd
         exact⟨j,h1,by simpa using h2⟩
       ·rw [if_neg, decF hd]
        ·simp only;rw[wi64_succ (by omega)];rfl
        ·rintro ⟨j, h1, h2⟩
         exact hd ⟨j,h1,by simpa using h2⟩
      ·rw[decF hk];rfl) (k:=N) (by omega)
    rw[key3,ex_not,Option.bind_some]
    by_cases hf:∀ i,i<fs.length→okFn ts.length fs i=true
    ·rw[if_pos hf,decT (show FineOK ts xs fs from⟨a1,a2,⟨a3,a4⟩,hs,hx,hf⟩)]
    ·rw[if_neg hf,no (fun h=>h.2.2.2.2.2) hf]
   ·rw[if_neg fun h=>hx fun s hs=>of_decide_eq_true (h s hs),no (fun h=>h.2.2.2.2.1) hx]
  ·rw[if_neg fun h=>hs fun i hi=>of_decide_eq_true (h i hi),no (fun h=>h.2.2.2.1) hs]
 ·rw[no (fun h=>⟨h.1,h.2.1,h.2.2.1⟩) hA]<;>grind
end Go.Proofs.YtjejefeomeddhaaGreat
set_option linter.unusedSectionVars false
namespace Go.Proofs.YtjejefeomeddhaaGreat
open Go Go.Eng Go.Sym
open Classical
noncomputable def fieldE (f:Field):List Int:=said f.1++V f.2.toNat
noncomputable def fieldsE (l:List Field):List Int:=V l.length++l.flatMap fieldE
noncomputable def typeE (t:GType):List Int:=
 [t.1]++if t.1=4∨t.1=7 then V t.2.1.toNat else if t.1=6 then V t.2.1.toNat++V t.2.2.1.toNat else if t.1=5 then fieldsE t.2.2.2 else []
noncomputable def funcE (f:Func):List Int:=
 said f.1++(V f.2.1.toNat++(V (zig f.2.2.1)++(fieldsE f.2.2.2.1++(V f.2.2.2.2.1.length++(f.2.2.2.2.1.flatMap encI++(runsE f.2.2.2.2.2.1++runsE f.2.2.2.2.2.2))))))
noncomputable def imageE (ts:List GType) (xs:List (List UInt8)) (fs:List Func):List Int:=
 V ts.length++(ts.flatMap typeE++(V xs.length++(xs.flatMap said++(V fs.length++fs.flatMap funcE))))
theorem varyL_ok {N n:Nat} (hN:20<N) (hn:n≤1000000):F312 N (wu64 (n:Int))=some (V n):=by
 rw[wu64_nat (by omega),vary_ok hN (by omega)]
theorem fieldE_len {f:Field} (h:nameB f.1=true):(fieldE f).length≤40:=by
 have:=nameB_len h;have:=said_len f.1;have:=V_len f.2.toNat
 rw[fieldE,List.length_append];omega
noncomputable def FW (l:List Field):Prop:=l.length≤16∧∀ f,f∈l→nameB f.1=true∧0≤f.2∧f.2≤1000
theorem fields_names {l:List Field} (h:FieldsOK l):∀ f,f∈l→nameB f.1=true:=fun f hf=>by
 obtain⟨i,hi,rfl⟩:=mem_getD ([],0) hf
 have:=h i hi
 unfold okF at this
 simp at this
 exact this.1
theorem fieldsE_len {l:List Field} (h:FW l):(fieldsE l).length≤700:=by
 have:=V_len l.length
 have:=flatMap_len (l:=l) (enc:=fieldE) (m:=40) fun f hf=>fieldE_len (h.2 f hf).1
 have:=h.1
 rw[fieldsE,List.length_append];omega
theorem TypeOK.FW {n i:Nat} {t:GType} (h:TypeOK n i t) (hi:i≤32) (h5:t.1=5):FW t.2.2.2:=by
 have hf:=h.fields
 unfold TypeOK at h
 rw[if_neg (by omega),if_neg (by omega),if_neg (by omega),if_pos h5] at h
 have hn:=fields_names h.2.2.2.1
 exact⟨by omega,fun f hm=>⟨hn f hm,by have:=hf.2.2 f hm;omega⟩⟩
theorem typeE_len {n i:Nat} {t:GType} (h:TypeOK n i t) (hi:i≤32):(typeE t).length≤800:=by
 have:=V_len t.2.1.toNat;have:=V_len t.2.2.1.toNat
 unfold typeE
 rw[List.length_append,List.length_singleton]
 split
 ·omega
 ·split
  ·grind
  ·split
   ·have:=fieldsE_len (h.FW hi ‹_›);omega
   ·simp
theorem FuncOK.FW {n:Nat} {f:Func} (h:FuncOK n f) (hn:n≤32):FW f.2.2.2.1:=
 ⟨h.2.1,fun g hg=>⟨fields_names h.2.2.1 g hg,by have:=h.2.2.2.2.2.1 g hg;omega⟩⟩
theorem funcE_len {n:Nat} {f:Func} (h:FuncOK n f) (hn:n≤32) (hf:fnFit f):(funcE f).length≤30000:=by
 have:=V_len f.2.1.toNat;have:=V_len (zig f.2.2.1);have:=V_len f.2.2.2.2.1.length
 have:=fieldsE_len (h.FW hn)
 have:=said_len f.1;have:=nameB_len h.1
 have h200:=h.2.2.2.2.2.2.1
 have:=flatMap_len (l:=f.2.2.2.2.1) (enc:=encI) (m:=31) fun x _=>encI_len x
 have:=runsE_len f.2.2.2.2.2.1;have:=runsE_len f.2.2.2.2.2.2
 have:=runs_len h.2.2.2.2.2.2.2.2.1;have:=runs_len h.2.2.2.2.2.2.2.2.2
 simp only[funcE,List.length_append];omega
section
variable {N:Nat}
theorem wr_fields (hN:1300<N) {l:List Field} (hl:FW l) {s:List Int} (hs:s.length≤4000000) (a:List GType) (b:List (List UInt8)) (c:List Func) :
  f231.L1015001051000_3 N N (l,(l.length:Int),(0:Int),s,a,b,c)=some (s++l.flatMap fieldE,a,b,c):=by
 have h16:=hl.1
 refine loop_out (l:=l) (enc:=fieldE) (g:=fun s=>(s,a,b,c)) (B:=5000000) (m:=40) (Lf:=fun k i s=>f231.L1015001051000_3 N k (l,(l.length:Int),i,s,a,b,c)) (fun k s=>by
  simp only[f231.L1015001051000_3.eq_2,ge_dec,bif_r]) (fun k i x s hx hm hB=>?_) (fun x hx=>fieldE_len (hl.2 x hx).1) (by omega) (by omega)
 have hx2:=hl.2 x hm
 have hnl:=nameB_len hx2.1
 have v1:=V_len x.1.length
 have v2:=V_len x.2.toNat
 simp only[f231.L1015001051000_3.eq_2,lt_dec (len_pos hx),bif_l,idx_get hx,Option.bind_some,varyL_ok (show 20<N by omega) (show x.1.length≤1000000 by omega),varyI_ok (show 20<N by omega) (show 0≤x.2∧x.2≤9223372036854775807 by omega),
  room_small (show s.length+(V x.1.length).length≤10000000 by omega) (show 1≤1000 by omega),room_small (show (s++V x.1.length).length+(bytesL x.1).length≤10000000 by grind[bytesL,V]) (show 1≤1000 by omega),room_small (show ((s++V x.1.length)++bytesL x.1).length+(V x.2.toNat).length≤10000000 by grind[bytesL,V]) (show 1≤1000 by omega),chk_true,wi64_succ (show i<9223372036854775807 by grind)]
 simp[fieldE,said,List.append_assoc]
theorem wr_slots (hN:1300<N) {l:List Field} (hl:FW l) {s:List Int} (hs:s.length≤4000000) (nm:List UInt8) (pa re:Int) (sl:List Field) (co:List Instr) (si li:List Run) :
  f231.L1042001035000_3 N N (l,(l.length:Int),(0:Int),s,nm,pa,re,sl,co,si,li)=some (s++l.flatMap fieldE,nm,pa,re,sl,co,si,li):=by
 have h16:=hl.1
 refine loop_out (l:=l) (enc:=fieldE) (g:=fun s=>(s,nm,pa,re,sl,co,si,li)) (B:=5000000) (m:=40) (Lf:=fun k i s=>f231.L1042001035000_3 N k (l,(l.length:Int),i,s,nm,pa,re,sl,co,si,li)) (fun k s=>by
  simp only[f231.L1042001035000_3.eq_2,ge_dec,bif_r]) (fun k i x s hx hm hB=>?_) (fun x hx=>fieldE_len (hl.2 x hx).1) (by omega) (by omega)
 have hx2:=hl.2 x hm
 have hnl:=nameB_len hx2.1
 have v1:=V_len x.1.length
 have v2:=V_len x.2.toNat
 simp only[f231.L1042001035000_3.eq_2,lt_dec (len_pos hx),bif_l,idx_get hx,Option.bind_some,varyL_ok (show 20<N by omega) (show x.1.length≤1000000 by omega),varyI_ok (show 20<N by omega) (show 0≤x.2∧x.2≤9223372036854775807 by omega),
  room_small (show s.length+(V x.1.length).length≤10000000 by omega) (show 1≤1000 by omega),room_small (show (s++V x.1.length).length+(bytesL x.1).length≤10000000 by grind[bytesL,V]) (show 1≤1000 by omega),room_small (show ((s++V x.1.length)++bytesL x.1).length+(V x.2.toNat).length≤10000000 by grind[bytesL,V]) (show 1≤1000 by omega),chk_true,wi64_succ (show i<9223372036854775807 by grind)]
 simp[fieldE,said,List.append_assoc]
theorem ref_fields (hN:1300<N) {l:List Field} (hl:FW l):F101 N l=some (fieldsE l):=by
 have h16:=hl.1
 have v0:=V_len l.length
 rw[F101.eq_1,number_ok (by omega) (by omega),Option.bind_some]
 have:=loop_out (l:=l) (enc:=fieldE) (g:=id) (B:=5000000) (m:=40) (Lf:=fun k i s=>f101.L0_4 N k (l,i,s)) (fun k s=>by
  simp only[f101.L0_4.eq_2,ge_dec,bif_r];rfl) (fun k i x s hx hm hB=>by
  have hx2:=hl.2 x hm
  have hnl:=nameB_len hx2.1
  have v1:=said_len x.1
  have v2:=V_len x.2.toNat
  simp only[f101.L0_4.eq_2,lt_dec (len_pos hx),bif_l,idx_get hx,Option.bind_some,said_ok (show 20<N by omega) (show x.1.length≤1000000 by omega),numberI_ok (show 20<N by omega) (show 0≤x.2∧x.2≤9223372036854775807 by omega),
   room_small (show s.length+(said x.1).length≤10000000 by omega) (show 1≤1000 by omega),room_small (show (s++said x.1).length+(V x.2.toNat).length≤10000000 by rw[List.length_append];omega) (show 1≤1000 by omega),chk_true,wi64_succ (show i<9223372036854775807 by have:=len_pos hx;omega)]
  simp only[fieldE,List.append_assoc]) (fun x hx=>fieldE_len (hl.2 x hx).1) (k:=N) (s:=V l.length) (by omega) (by omega)
 rw[this];rfl
noncomputable def TW (ts:List GType):Prop:=ts.length≤32∧∀ t,t∈ts→∃ n i,i≤32∧n≤32∧TypeOK n i t
theorem TableOK.TW {ts:List GType} (h:TableOK ts):TW ts:=⟨h.1,fun t ht=>by
 obtain⟨i,hi,rfl⟩:=mem_getD ty0 ht
 exact⟨ts.length,i,by have:=h.1;omega,h.1,h.2.1 i hi⟩⟩
theorem wr_types (hN:1300<N) {l:List GType} (hl:TW l) {s:List Int} (hs:s.length≤1000000) (a:List GType) (b:List (List UInt8)) (c:List Func) :
  f231.L1015000_3 N N (l,(l.length:Int),(0:Int),s,a,b,c)=some (a,b,c,s++l.flatMap typeE):=by
 have h16:=hl.1
 refine loop_out (l:=l) (enc:=typeE) (g:=fun s=>(a,b,c,s)) (B:=2000000) (m:=800) (Lf:=fun k i s=>f231.L1015000_3 N k (l,(l.length:Int),i,s,a,b,c)) (fun k s=>by
  simp only[f231.L1015000_3.eq_2,ge_dec,bif_r]) (fun k i t s hx hm hB=>?_) (fun x hx=>by
  obtain⟨n,i,hi,_,ht⟩:=hl.2 x hx
  exact typeE_len ht hi) (by omega) (by omega)
 obtain⟨n,j,hj,hn,ht⟩:=hl.2 t hm
 have v1:=V_len t.2.1.toNat
 have v2:=V_len t.2.2.1.toNat
 have v3:=V_len t.2.2.2.length
 have r0:room (s.length+1) 1=true:=room_small (by omega) (by omega)
 have r1:room ((s++[t.1]).length+(V t.2.1.toNat).length) 1=true:=room_small (by simp only[List.length_append,List.length_singleton];omega) (by omega)
 have r2:room (((s++[t.1])++V t.2.1.toNat).length+(V t.2.2.1.toNat).length) 1=true:=room_small (by simp only[List.length_append,List.length_singleton];omega) (by omega)
 have r3:room ((s++[t.1]).length+(V t.2.2.2.length).length) 1=true:=room_small (by simp only[List.length_append,List.length_singleton];omega) (by omega)
 simp only[f231.L1015000_3.eq_2,lt_dec (len_pos hx),bif_l,idx_get hx,Option.bind_some,r0,chk_true,wi64_succ (show i<9223372036854775807 by grind),bif_tt,beq_dec]
 unfold typeE
 by_cases h47:t.1=4∨t.1=7
 ·have hp := ht.ptr h47
  rw[if_pos h47,show (decide (t.1=4)||decide (t.1=7))=true by simpa using h47,bif_l,varyI_ok (by omega) (by omega),Option.bind_some,r1,chk_true,List.append_assoc]
 ·rw [if_neg h47, show (decide (t.1 = 4) || decide (t.1 = 7)) = false by simpa using h47, bif_r]
  by_cases h6:t.1=6
  ·have hp := ht.arr h6
   rw[if_pos h6,decide_eq_true h6,bif_l,varyI_ok (by omega) (by omega),Option.bind_some,r1,chk_true,varyI_ok (by omega) (by omega),Option.bind_some,r2,chk_true,List.append_assoc,List.append_assoc]
  ·rw [if_neg h6, decide_eq_false h6, bif_r]
   by_cases h5:t.1=5
   ·have hw := ht.FW hj h5
    rw[if_pos h5,decide_eq_true h5,bif_l,varyL_ok (by omega) (by have:=hw.1;omega),Option.bind_some,r3,chk_true,wr_fields hN hw (by simp[List.length_append,List.length_singleton];omega),Option.bind_some,fieldsE,List.append_assoc,List.append_assoc]
   grind
theorem ref_types (hN:1300<N) {l:List GType} (hl:TW l) {s:List Int} (hs:s.length≤1000000) (b:List (List UInt8)) (c:List Func) :
  f45.L0_4 N N ((0:Int),l,b,c,s)=some (l,b,c,s++l.flatMap typeE):=by
 have h16:=hl.1
 refine loop_out (l:=l) (enc:=typeE) (g:=fun s=>(l,b,c,s)) (B:=2000000) (m:=800) (Lf:=fun k i s=>f45.L0_4 N k (i,l,b,c,s)) (fun k s=>by
  simp only[f45.L0_4.eq_2,ge_dec,bif_r]) (fun k i t s hx hm hB=>?_) (fun x hx=>by
  obtain⟨n,i,hi,_,ht⟩:=hl.2 x hx
  exact typeE_len ht hi) (by omega) (by omega)
 obtain⟨n,j,hj,hn,ht⟩:=hl.2 t hm
 have v1:=V_len t.2.1.toNat
 have v2:=V_len t.2.2.1.toNat
 have r0:room (s.length+1) 1=true:=room_small (by omega) (by omega)
 have r1:room ((s++[t.1]).length+(V t.2.1.toNat).length) 1=true:=room_small (by simp only[List.length_append,List.length_singleton];omega) (by omega)
 have r2:room (((s++[t.1])++V t.2.1.toNat).length+(V t.2.2.1.toNat).length) 1=true:=room_small (by simp only[List.length_append,List.length_singleton];omega) (by omega)
 simp only[f45.L0_4.eq_2,lt_dec (len_pos hx),bif_l,idx_get hx,Option.bind_some,r0,chk_true,wi64_succ (show i<9223372036854775807 by grind),bif_tt,beq_dec]
 unfold typeE
 by_cases h47:t.1=4∨t.1=7
 ·have hp := ht.ptr h47
  rw[if_pos h47,show (decide (t.1=4)||decide (t.1=7))=true by simpa using h47,bif_l,numberI_ok (by omega) (by omega),Option.bind_some,r1,chk_true,List.append_assoc]
 ·rw [if_neg h47, show (decide (t.1 = 4) || decide (t.1 = 7)) = false by simpa using h47, bif_r]
  by_cases h6:t.1=6
  ·have hp := ht.arr h6
   rw[if_pos h6,decide_eq_true h6,bif_l,numberI_ok (by omega) (by omega),Option.bind_some,r1,chk_true,numberI_ok (by omega) (by omega),Option.bind_some,r2,chk_true,List.append_assoc,List.append_assoc]
  ·rw [if_neg h6, decide_eq_false h6, bif_r]
   by_cases h5:t.1=5
   ·have hw := ht.FW hj h5
    have hfl:=fieldsE_len hw
    rw[if_pos h5,decide_eq_true h5,bif_l,ref_fields hN hw,Option.bind_some,room_small (by simp[List.length_append,List.length_singleton];omega) (by omega),chk_true,List.append_assoc]
   grind
noncomputable def XW (xs:List (List UInt8)):Prop:=xs.length≤32∧∀ s,s∈xs→s.length≤64
theorem wr_texts (hN:1300<N) {l:List (List UInt8)} (hl:XW l) {s:List Int} (hs:s.length≤1000000) (a:List GType) (b:List (List UInt8)) (c:List Func) :
  f231.L0_9 N N (l,(l.length:Int),(0:Int),a,b,c,s)=some (a,b,c,s++l.flatMap said):=by
 have h16:=hl.1
 refine loop_out (l:=l) (enc:=said) (g:=fun s=>(a,b,c,s)) (B:=2000000) (m:=100) (Lf:=fun k i s=>f231.L0_9 N k (l,(l.length:Int),i,a,b,c,s)) (fun k s=>by
  simp only[f231.L0_9.eq_2,ge_dec,bif_r]) (fun k i x s hx hm hB=>?_) (fun x hx=>by have:=said_len x;have:=hl.2 x hx;omega) (by omega) (by omega)
 have h64:=hl.2 x hm
 have v1:=V_len x.length
 simp only[f231.L0_9.eq_2,lt_dec (len_pos hx),bif_l,idx_get hx,Option.bind_some,varyL_ok (show 20<N by omega) (show x.length≤1000000 by omega),
  room_small (show s.length+(V x.length).length≤10000000 by omega) (show 1≤1000 by omega),room_small (show (s++V x.length).length+(bytesL x).length≤10000000 by grind[bytesL,V]) (show 1≤1000 by omega),chk_true,wi64_succ (show i<9223372036854775807 by grind)]
 simp[said,List.append_assoc]
theorem ref_texts (hN:1300<N) {l:List (List UInt8)} (hl:XW l) {s:List Int} (hs:s.length≤1000000) (a:List GType) (c:List Func) :
  f45.L0_27 N N ((0:Int),a,l,c,s)=some (a,l,c,s++l.flatMap said):=by
 have h16:=hl.1
 refine loop_out (l:=l) (enc:=said) (g:=fun s=>(a,l,c,s)) (B:=2000000) (m:=100) (Lf:=fun k i s=>f45.L0_27 N k (i,a,l,c,s)) (fun k s=>by
  simp only[f45.L0_27.eq_2,ge_dec,bif_r]) (fun k i x s hx hm hB=>?_) (fun x hx=>by have:=said_len x;have:=hl.2 x hx;omega) (by omega) (by omega)
 have h64:=hl.2 x hm
 have v1:=said_len x
 simp only[f45.L0_27.eq_2,lt_dec (len_pos hx),bif_l,idx_get hx,Option.bind_some,said_ok (show 20<N by omega) (show x.length≤1000000 by omega),
  room_small (show s.length+(said x).length≤10000000 by omega) (show 1≤1000 by omega),chk_true,wi64_succ (show i<9223372036854775807 by grind)]
noncomputable def CW (l:List Instr):Prop:=l.length≤200∧∀ x,x∈l→chkI x=true∧okI x
theorem wr_code (hN:1300<N) {l:List Instr} (hl:CW l) {s:List Int} (hs:s.length≤4000000) (nm:List UInt8) (pa re:Int) (sl:List Field) (co:List Instr) (si li:List Run) :
  f231.L1042000_8 N N (l,(l.length:Int),(0:Int),s,nm,pa,re,sl,co,si,li)=some (.inr (s++l.flatMap encI,nm,pa,re,sl,co,si,li)):=by
 have h16:=hl.1
 refine loop_out (l:=l) (enc:=encI) (g:=fun s=>(.inr (s,nm,pa,re,sl,co,si,li):(Int×List Int)⊕(List Int×List UInt8×Int×Int×List Field×List Instr×List Run×List Run))) (B:=5000000) (m:=31) (Lf:=fun k i s=>f231.L1042000_8 N k (l,(l.length:Int),i,s,nm,pa,re,sl,co,si,li)) (fun k s=>by
  simp only[f231.L1042000_8.eq_2,ge_dec,bif_r]) (fun k i x s hx hm hB=>?_) (fun x hx=>encI_len x) (by omega) (by omega)
 have hx2:=hl.2 x hm
 have v1:=encI_len x
 simp only[f231.L1042000_8.eq_2,lt_dec (len_pos hx),bif_l,idx_get hx,Option.bind_some,encO_ok (N:=N) (by omega) hx2.2 hx2.1,ne00,bif_r,
  room_small (show s.length+(encI x).length≤10000000 by omega) (show 1≤1000 by omega),chk_true,wi64_succ (show i<9223372036854775807 by grind)]
theorem ref_code (hN:1300<N) {l:List Instr} (hl:CW l) {s:List Int} (hs:s.length≤4000000) (i0:Int) (a:List GType) (b:List (List UInt8)) (c:List Func) (nm:List UInt8) (pa re:Int) (sl:List Field) (si li:List Run) :
  f45.L0_46 N N (i0,(0:Int),a,b,c,s,nm,pa,re,sl,l,si,li)=some (i0,a,b,c,s++l.flatMap encI,nm,pa,re,sl,l,si,li):=by
 have h16:=hl.1
 refine loop_out (l:=l) (enc:=encI) (g:=fun s=>(i0,a,b,c,s,nm,pa,re,sl,l,si,li)) (B:=5000000) (m:=31) (Lf:=fun k i s=>f45.L0_46 N k (i0,i,a,b,c,s,nm,pa,re,sl,l,si,li)) (fun k s=>by
  simp only[f45.L0_46.eq_2,ge_dec,bif_r]) (fun k i x s hx hm hB=>?_) (fun x hx=>encI_len x) (by omega) (by omega)
 have hx2:=hl.2 x hm
 have v1:=encI_len x
 simp only[f45.L0_46.eq_2,lt_dec (len_pos hx),bif_l,idx_get hx,Option.bind_some,coded06_ok (N:=N) (by omega) hx2.2 hx2.1,
  room_small (show s.length+(encI x).length≤10000000 by omega) (show 1≤1000 by omega),chk_true,wi64_succ (show i<9223372036854775807 by grind)]
noncomputable def FnW (l:List Func):Prop:=l.length≤32∧∀ f,f∈l→fnFit f∧i64 f.2.2.1∧∃ n,n≤32∧FuncOK n f
theorem tabs_step {x:List Run} {j:Int} {l2:List (List Run)} (hN:1300<N) {n:Nat} (h1:RunsOK x n) (g1:x.length≤1000) (o1:okR x) {s:List Int} (hs:s.length≤4500000) {co:List Instr} (hc:co.length=n) (hn:1≤n∧n≤200) (nm:List UInt8) (pa re:Int) (sl:List Field) (si li:List Run) (hj:decide (j<2)=true) (hx:idx l2 j=some x) {j2:Int} (hj2:wi64 (j+1)=j2) (k:Nat) :
  f231.L1042000_21 N (k+1) (l2,(2:Int),j,s,nm,pa,re,sl,co,si,li)=f231.L1042000_21 N k (l2,(2:Int),j2,s++runsE x,nm,pa,re,sl,co,si,li):=by
 subst hc
 have e1:=encT_ok (N:=N) (by omega) g1 h1 hn.1 hn.2 o1
 have l1:=runsE_len x
 rw[f231.L1042000_21.eq_2,hj,bif_l,hx,Option.bind_some,e1,Option.bind_some]
 simp[ne00,bif_r,room_small (show s.length+(runsE x).length≤10000000 by omega) (show 1≤1000 by omega),chk_true,hj2]
theorem wr_tabs (hN:1300<N) {si li:List Run} {n:Nat} (h1:RunsOK si n) (h2:RunsOK li n) (g1:si.length≤1000) (g2:li.length≤1000) (o1:okR si) (o2:okR li) {s:List Int} (hs:s.length≤4000000) {co:List Instr} (hc:co.length=n) (hn:1≤n∧n≤200) (nm:List UInt8) (pa re:Int) (sl:List Field) :
  f231.L1042000_21 N N ([si,li],(2:Int),(0:Int),s,nm,pa,re,sl,co,si,li)=some (.inr (s++(runsE si++runsE li))):=by
 have l1:=runsE_len si
 have key:∀ k,f231.L1042000_21 N (k+1+1+1) ([si,li],(2:Int),(0:Int),s,nm,pa,re,sl,co,si,li)=some (.inr (s++(runsE si++runsE li))):=fun k=>by
  rw[tabs_step hN h1 g1 o1 (by omega) hc hn nm pa re sl si li rfl rfl (j2:=1) (by decide),tabs_step hN h2 g2 o2 (by rw[List.length_append];omega) hc hn nm pa re sl si li rfl rfl (j2:=2) (by decide),f231.L1042000_21.eq_2,show decide ((2:Int)<2)=false from rfl,bif_r,List.append_assoc]
 have:=key (N-3)<;>grind
theorem wr_funcs (hN:1300<N) {l:List Func} (hl:FnW l) {s:List Int} (hs:s.length≤1000000) :
  f231.L0_19 N N (l,(l.length:Int),(0:Int),s)=some (.inr (s++l.flatMap funcE)):=by
 have h16:=hl.1
 refine loop_out (l:=l) (enc:=funcE) (g:=fun s=>(.inr s:Int⊕List Int)) (B:=2500000) (m:=30000) (Lf:=fun k i s=>f231.L0_19 N k (l,(l.length:Int),i,s)) (fun k s=>by
  simp only[f231.L0_19.eq_2,ge_dec,bif_r]) (fun k i x s hx hm hB=>?_) (fun x hx=>by
  obtain⟨hf,_,n,hn,ho⟩:=hl.2 x hx
  exact funcE_len ho hn hf) (by omega) (by omega)
 obtain⟨⟨g1,g2,g3,g4,g5,g6,g7⟩,h64,n,hn,ho⟩:=hl.2 x hm
 have hw:=ho.FW hn
 have hnl:=nameB_len ho.1
 have hp:=ho.2.2.2.1
 have h200:=ho.2.2.2.2.2.2.1
 have hcw:CW x.2.2.2.2.1:=⟨h200.2,fun y hy=>⟨ho.2.2.2.2.2.2.2.1 y hy,g5 y hy⟩⟩
 have hsl:=hw.1
 have v1:=V_len x.1.length
 have v2:=V_len x.2.1.toNat
 have v3:=V_len (zig x.2.2.1)
 have v4:=V_len x.2.2.2.1.length
 have v5:=V_len x.2.2.2.2.1.length
 have v6:=flatMap_len (l:=x.2.2.2.1) (enc:=fieldE) (m:=40) fun f hf=>fieldE_len (hw.2 f hf).1
 have v7:=flatMap_len (l:=x.2.2.2.2.1) (enc:=encI) (m:=31) fun y _=>encI_len y
 have r1:room (s.length+(V x.1.length).length) 1=true:=room_small (by omega) (by omega)
 have r2:room ((s++V x.1.length).length+(bytesL x.1).length) 1=true:=room_small (by simp only[List.length_append,bytesL_len];omega) (by omega)
 have r3:room (((s++V x.1.length)++bytesL x.1).length+(V x.2.1.toNat).length) 1=true:=room_small (by simp only[List.length_append,bytesL_len];omega) (by omega)
 have r4:room ((((s++V x.1.length)++bytesL x.1)++V x.2.1.toNat).length+(V (zig x.2.2.1)).length) 1=true:=room_small (by simp only[List.length_append,bytesL_len];omega) (by omega)
 have r5:room (((((s++V x.1.length)++bytesL x.1)++V x.2.1.toNat)++V (zig x.2.2.1)).length+(V x.2.2.2.1.length).length) 1=true:=room_small (by simp only[List.length_append,bytesL_len];omega) (by omega)
 simp only[f231.L0_19.eq_2,lt_dec (len_pos hx),bif_l,idx_get hx,Option.bind_some,varyL_ok (show 20<N by omega) (show x.1.length≤1000000 by omega),varyI_ok (show 20<N by omega) (show 0≤x.2.1∧x.2.1≤9223372036854775807 by omega),signed_ok (show 20<N by omega) h64,varyL_ok (show 20<N by omega) (show x.2.2.2.1.length≤1000000 by omega),r1,r2,r3,r4,r5,chk_true,wi64_succ (show i<9223372036854775807 by have:=len_pos hx;omega)]
 have e1:=wr_slots hN hw (s:=((((s++V x.1.length)++bytesL x.1)++V x.2.1.toNat)++V (zig x.2.2.1))++V x.2.2.2.1.length) (by simp only[List.length_append,bytesL_len];omega) x.1 x.2.1 x.2.2.1 x.2.2.2.1 x.2.2.2.2.1 x.2.2.2.2.2.1 x.2.2.2.2.2.2
 rw[e1,Option.bind_some]
 simp only
 rw[varyL_ok (by omega) (by omega),Option.bind_some,room_small (by simp only[List.length_append,bytesL_len];omega) (by omega),chk_true,wr_code hN hcw (by simp only[List.length_append,bytesL_len];omega),Option.bind_some]
 simp only
 rw[wr_tabs hN ho.2.2.2.2.2.2.2.2.1 ho.2.2.2.2.2.2.2.2.2 g3 g4 g6 g7 (by simp only[List.length_append,bytesL_len];omega) rfl h200,Option.bind_some]
 simp only[funcE,fieldsE,said,List.append_assoc]
theorem ref_funcs (hN:1300<N) {l:List Func} (hl:FnW l) {s:List Int} (hs:s.length≤1000000) (a:List GType) (b:List (List UInt8)) :
  f45.L0_36 N N ((0:Int),a,b,l,s)=some (s++l.flatMap funcE):=by
 have h16:=hl.1
 refine loop_out (l:=l) (enc:=funcE) (g:=id) (B:=2500000) (m:=30000) (Lf:=fun k i s=>f45.L0_36 N k (i,a,b,l,s)) (fun k s=>by
  simp only[f45.L0_36.eq_2,ge_dec,bif_r];rfl) (fun k i x s hx hm hB=>?_) (fun x hx=>by
  obtain⟨hf,_,n,hn,ho⟩:=hl.2 x hx
  exact funcE_len ho hn hf) (by omega) (by omega)
 obtain⟨⟨g1,g2,g3,g4,g5,g6,g7⟩,h64,n,hn,ho⟩:=hl.2 x hm
 have hw:=ho.FW hn
 have hnl:=nameB_len ho.1
 have hp:=ho.2.2.2.1
 have h200:=ho.2.2.2.2.2.2.1
 have hcw:CW x.2.2.2.2.1:=⟨h200.2,fun y hy=>⟨ho.2.2.2.2.2.2.2.1 y hy,g5 y hy⟩⟩
 have hsl:=hw.1
 have v1:=said_len x.1
 have v2:=V_len x.2.1.toNat
 have v3:=V_len (zig x.2.2.1)
 have v4:=fieldsE_len hw
 have v5:=V_len x.2.2.2.2.1.length
 have v7:=flatMap_len (l:=x.2.2.2.2.1) (enc:=encI) (m:=31) fun y _=>encI_len y
 have v8:=runsE_len x.2.2.2.2.2.1
 have v9:=runsE_len x.2.2.2.2.2.2
 have r1:room (s.length+(said x.1).length) 1=true:=room_small (by omega) (by omega)
 have r2:room ((s++said x.1).length+(V x.2.1.toNat).length) 1=true:=room_small (by simp only[List.length_append];omega) (by omega)
 have r3:room (((s++said x.1)++V x.2.1.toNat).length+(V (zig x.2.2.1)).length) 1=true:=room_small (by simp only[List.length_append];omega) (by omega)
 have r4:room ((((s++said x.1)++V x.2.1.toNat)++V (zig x.2.2.1)).length+(fieldsE x.2.2.2.1).length) 1=true:=room_small (by simp only[List.length_append];omega) (by omega)
 have r5:room (((((s++said x.1)++V x.2.1.toNat)++V (zig x.2.2.1))++fieldsE x.2.2.2.1).length+(V x.2.2.2.2.1.length).length) 1=true:=room_small (by simp only[List.length_append];omega) (by omega)
 simp only[f45.L0_36.eq_2,lt_dec (len_pos hx),bif_l,idx_get hx,Option.bind_some,said_ok (show 20<N by omega) (show x.1.length≤1000000 by omega),numberI_ok (show 20<N by omega) (show 0≤x.2.1∧x.2.1≤9223372036854775807 by omega),double_ok (N:=N) h64,minimal_ok (show 20<N by omega) (zig_lt h64),ref_fields hN hw,number_ok (n:=x.2.2.2.2.1.length) (show 20<N by omega) (show x.2.2.2.2.1.length<18446744073709551616 by omega),r1,r2,r3,r4,r5,chk_true]
 rw[ref_code hN hcw (by simp only[List.length_append];omega),Option.bind_some]
 simp only
 rw[coded08_ok (N:=N) (by omega) g3 ho.2.2.2.2.2.2.2.2.1 h200.2 g6,Option.bind_some,room_small (by simp only[List.length_append];omega) (by omega),chk_true,coded08_ok (N:=N) (by omega) g4 ho.2.2.2.2.2.2.2.2.2 h200.2 g7,Option.bind_some,room_small (by simp only[List.length_append];omega) (by omega),chk_true,wi64_succ (by have:=len_pos hx;omega)]
 simp only[funcE,List.append_assoc]
end
end Go.Proofs.YtjejefeomeddhaaGreat
set_option linter.unusedSectionVars false
namespace Go.Proofs.YtjejefeomeddhaaGreat
open Go Go.Eng Go.Sym
open Classical
noncomputable def imgOK (ts:List GType) (xs:List (List UInt8)) (fs:List Func):Prop:=imgFit ts xs fs∧∀ f,f∈fs→i64 f.2.2.1
theorem FineOK.XW {ts:List GType} {xs:List (List UInt8)} {fs:List Func} (h:FineOK ts xs fs):XW xs:=⟨h.2.1,h.2.2.2.2.1⟩
theorem FineOK.func {ts:List GType} {xs:List (List UInt8)} {fs:List Func} (h:FineOK ts xs fs) {i:Nat} (hi:i<fs.length):FuncOK ts.length (fnn fs i):=by
 have:=h.2.2.2.2.2 i hi
 unfold okFn at this<;>grind
theorem FineOK.FnW {ts:List GType} {xs:List (List UInt8)} {fs:List Func} (h:FineOK ts xs fs) (hm:imgOK ts xs fs):FnW fs:=⟨h.2.2.1.2,fun f hf=>by
 refine⟨hm.1.2.2.2.2 f hf,hm.2 f hf,ts.length,h.1.1,?_⟩
 obtain⟨i,hi,rfl⟩:=mem_getD fn0 hf
 exact h.func hi⟩
noncomputable def chkE (ts:List GType) (xs:List (List UInt8)) (fs:List Func):Int:=if FineOK ts xs fs then (if (imageE ts xs fs).length≤20000 then 0 else 4) else 8
section
variable {N:Nat} {ts:List GType} {xs:List (List UInt8)} {fs:List Func}
theorem flat_lens (h:FineOK ts xs fs) (hm:imgOK ts xs fs):(ts.flatMap typeE).length≤25600∧(xs.flatMap said).length≤3200∧(fs.flatMap funcE).length≤960000:=by
 have hT:=h.1.TW
 have hX:=h.XW
 have hF:=h.FnW hm
 have h1:=flatMap_len (l:=ts) (enc:=typeE) (m:=800) fun x hx=>by
  obtain⟨n,i,hi,_,ht⟩:=hT.2 x hx
  exact typeE_len ht hi
 have h2:=flatMap_len (l:=xs) (enc:=said) (m:=100) fun x hx=>by have:=said_len x;have:=hX.2 x hx;omega
 have h3:=flatMap_len (l:=fs) (enc:=funcE) (m:=30000) fun x hx=>by
  obtain⟨hf,_,n,hn,ho⟩:=hF.2 x hx
  exact funcE_len ho hn hf
 have a1:=hT.1;have a2:=hX.1;have a3:=hF.1<;>grind
theorem encode_ok (hN:1300<N) (hm:imgOK ts xs fs):F231 N (ts,xs,fs)=some (if chkE ts xs fs=0 then imageE ts xs fs else [],chkE ts xs fs):=by
 rw[F231.eq_1,fine_ok hN hm.1,Option.bind_some]
 unfold chkE
 by_cases h:FineOK ts xs fs
 ·rw [decT h, Bool.not_true, bif_r, if_pos h]
  obtain⟨b1,b2,b3⟩:=flat_lens h hm
  have c1:=V_len ts.length;have c2:=V_len xs.length;have c3:=V_len fs.length
  have d1:=hm.1.1.1;have d2:=hm.1.2.1;have d3:=hm.1.2.2.2.1
  rw[varyL_ok (by omega) (by omega),Option.bind_some,room_small (by omega) (by omega),chk_true,wr_types hN h.1.TW (by omega),Option.bind_some]
  simp only
  rw[varyL_ok (by omega) (by omega),Option.bind_some,room_small (by simp only[List.length_append];omega) (by omega),chk_true,wr_texts hN h.XW (by simp only[List.length_append];omega),Option.bind_some]
  simp only
  rw[varyL_ok (by omega) (by omega),Option.bind_some,room_small (by simp only[List.length_append];omega) (by omega),chk_true,wr_funcs hN (h.FnW hm) (by simp only[List.length_append];omega),Option.bind_some]
  have e:(((((V ts.length++ts.flatMap typeE)++V xs.length)++xs.flatMap said)++V fs.length)++fs.flatMap funcE)=imageE ts xs fs:=by simp[imageE,List.append_assoc]
  grind
 grind
theorem coded_ok (hN:1300<N) (hm:imgOK ts xs fs) (h:FineOK ts xs fs):F45 N (ts,xs,fs)=some (imageE ts xs fs):=by
 obtain⟨b1,b2,b3⟩:=flat_lens h hm
 have c1:=V_len ts.length;have c2:=V_len xs.length;have c3:=V_len fs.length
 have d1:=hm.1.1.1;have d2:=hm.1.2.1;have d3:=hm.1.2.2.2.1
 rw[F45.eq_1,number_ok (by omega) (by omega),Option.bind_some,ref_types hN h.1.TW (by omega),Option.bind_some]
 simp only
 rw[number_ok (by omega) (by omega),Option.bind_some,room_small (by simp only[List.length_append];omega) (by omega),chk_true,ref_texts hN h.XW (by simp only[List.length_append];omega),Option.bind_some]
 simp only
 rw[number_ok (by omega) (by omega),Option.bind_some,room_small (by simp only[List.length_append];omega) (by omega),chk_true,ref_funcs hN (h.FnW hm) (by simp only[List.length_append];omega),Option.bind_some]
 simp[imageE,List.append_assoc]
theorem check09_ok (hN:1300<N) (hm:imgOK ts xs fs):F17 N (ts,xs,fs)=some (chkE ts xs fs):=by
 rw[F17.eq_1,fine09_ok hN hm.1,Option.bind_some]
 unfold chkE
 by_cases h:FineOK ts xs fs
 ·rw[decT h,Bool.not_true,bif_r,if_pos h,coded_ok hN hm h,Option.bind_some]<;>grind
 grind
theorem check_ok (hN:1300<N) (hm:imgOK ts xs fs):F148 N (ts,xs,fs)=some (chkE ts xs fs):=by
 rw[F148.eq_1,encode_ok hN hm,Option.bind_some]
noncomputable def addrOK (fs:List Func) (f i:Int):Prop:=0≤f∧f<fs.length∧0≤i∧i<(fnn fs f.toNat).2.2.2.2.1.length
noncomputable def addrS (ts:List GType) (xs:List (List UInt8)) (fs:List Func) (f i:Int):Int×Int:=
 if chkE ts xs fs=0 then (if addrOK fs f i then (256*(f+1)+i,0) else (0,2)) else (0,chkE ts xs fs)
theorem or_add (a i:Nat) (hi:i<256):256*a ||| i=256*a+i:=by
 have:=Nat.two_pow_add_eq_or_of_lt (i:=8) (b:=i) (by omega) a<;>grind
noncomputable def atOK (fs:List Func) (a:Nat):Prop:=1≤a / 256∧a / 256≤fs.length∧a % 256<(fnn fs (a / 256-1)).2.2.2.2.1.length
noncomputable def findS (ts:List GType) (xs:List (List UInt8)) (fs:List Func) (a:Nat):Int×Int×Int:=
 if chkE ts xs fs=0 then (if atOK fs a then (((a / 256-1:Nat):Int),((a % 256:Nat):Int),0) else (0,0,6)) else (0,0,chkE ts xs fs)
end
end Go.Proofs.YtjejefeomeddhaaGreat
set_option linter.unusedSectionVars false
namespace Go.Proofs.YtjejefeomeddhaaGreat
open Go Go.Eng Go.Sym
open Classical
abbrev tysU:List GType:=[(2,0,0,[]),(1,0,0,[])]
abbrev slU:List Field:=[([110],0),([111,110],1)]
abbrev rU:List Run:=[(0,0)]
abbrev fsU (a b:Int) (p q r:List Run):List Func:=[
 ([102,97],0,-1,slU,[(26,1,0,0),(26,2,0,0),(1,0,a,0),(28,0,0,0),(34,-1,0,0)],rU,p),
 ([102,98],0,-1,slU,[(29,1,0,0),(31,0,0,0),(34,-1,0,0)],rU,q),
 ([102,99],0,-1,slU,[(1,0,b,0),(28,0,0,0),(34,-1,0,0)],rU,r)]
noncomputable def smallR (l:List Run):Bool:=decide (l.length≤5)&&l.all fun x=>decide (0≤x.2)&&decide (x.2≤100)
theorem smallR_ok {l:List Run} (h:smallR l=true):l.length≤5∧okR l:=by
 unfold smallR at h
 rw[Bool.and_eq_true,decide_eq_true_eq] at h
 refine⟨h.1,fun x hx=>?_⟩
 have:=List.all_eq_true.1 h.2 x hx
 rw[Bool.and_eq_true,decide_eq_true_eq,decide_eq_true_eq] at this
 omega
section
variable {a b:Int} {p q r:List Run}
theorem chk_int (ha:i64 a):chkI (1,0,a,0)=true:=by
 have e:shp 1=some (119,110,45):=by simp[shp,shpL]
 unfold chkI
 simp only[e]
 simp[fits,U,ha.1,ha.2]
theorem fitU (ha:i64 a) (hb:i64 b) (hp:smallR p=true) (hq:smallR q=true) (hr:smallR r=true):imgOK tysU [] (fsU a b p q r):=by
 obtain⟨p1,p2⟩:=smallR_ok hp
 obtain⟨q1,q2⟩:=smallR_ok hq
 obtain⟨r1,r2⟩:=smallR_ok hr
 have hz:∀ n:Int,-1≤n→n≤100→i64 n:=fun n h1 h2=>⟨by omega,by omega⟩
 have z0:i64 0:=hz _ (by decide) (by decide)
 have zm:i64 (-1):=hz _ (by decide) (by decide)
 have h0:okR rU:=(smallR_ok (l:=rU) (by decide +kernel)).2
 refine⟨⟨⟨by decide,?_⟩,by decide,(fun s h=>by cases h),(by show 3≤50;decide),fun f hf=>?_⟩,fun f hf=>?_⟩
 ·unfold i64 tyn;decide +kernel
 ·simp only [fsU, List.mem_cons, List.not_mem_nil, or_false] at hf
  rcases hf with rfl|rfl|rfl
  ·refine ⟨(by show 2 ≤ 300; decide), (by show 5 ≤ 1000; decide), (by show 1 ≤ 1000; decide), (by show p.length ≤ 1000; omega), fun x hx => ?_, h0, p2⟩
   simp only[List.mem_cons,List.not_mem_nil,or_false] at hx
   rcases hx with rfl|rfl|rfl|rfl|rfl
   ·exact⟨hz _ (by decide) (by decide),hz _ (by decide) (by decide),hz _ (by decide) (by decide)⟩
   ·exact⟨hz _ (by decide) (by decide),hz _ (by decide) (by decide),hz _ (by decide) (by decide)⟩
   ·exact⟨z0,ha,z0⟩
   ·exact⟨hz _ (by decide) (by decide),hz _ (by decide) (by decide),hz _ (by decide) (by decide)⟩
   ·exact⟨hz _ (by decide) (by decide),hz _ (by decide) (by decide),hz _ (by decide) (by decide)⟩
  ·refine ⟨(by show 2 ≤ 300; decide), (by show 3 ≤ 1000; decide), (by show 1 ≤ 1000; decide), (by show q.length ≤ 1000; omega), fun x hx => ?_, h0, q2⟩
   simp only[List.mem_cons,List.not_mem_nil,or_false] at hx
   rcases hx with rfl|rfl|rfl<;>exact⟨hz _ (by decide) (by decide),hz _ (by decide) (by decide),hz _ (by decide) (by decide)⟩
  ·refine ⟨(by show 2 ≤ 300; decide), (by show 3 ≤ 1000; decide), (by show 1 ≤ 1000; decide), (by show r.length ≤ 1000; omega), fun x hx => ?_, h0, r2⟩
   simp only[List.mem_cons,List.not_mem_nil,or_false] at hx
   rcases hx with rfl|rfl|rfl
   ·exact⟨z0,hb,z0⟩
   ·exact⟨hz _ (by decide) (by decide),hz _ (by decide) (by decide),hz _ (by decide) (by decide)⟩
   ·exact⟨hz _ (by decide) (by decide),hz _ (by decide) (by decide),hz _ (by decide) (by decide)⟩
 ·simp only [fsU, List.mem_cons, List.not_mem_nil, or_false] at hf
  rcases hf with rfl|rfl|rfl<;>exact zm
theorem fnn_nameU:∀ j,(fnn (fsU a b p q r) j).1=(fnn (fsU 0 0 p q r) j).1
 |0|1|2=>rfl
 |_+3=>rfl
theorem fineU (ha:i64 a) (hb:i64 b) (h0:FineOK tysU [] (fsU 0 0 p q r)):FineOK tysU [] (fsU a b p q r):=by
 obtain⟨h1,h2,h3,h4,h5,h6⟩:=h0
 refine⟨h1,h2,h3,h4,h5,fun i hi=>?_⟩
 have h7:=h6 i hi
 unfold okFn at h7 ⊢
 rw[Bool.and_eq_true,decide_eq_true_eq] at h7 ⊢
 have hd:dupN (fsU a b p q r) i↔dupN (fsU 0 0 p q r) i:=by
  unfold dupN
  simp only[fnn_nameU (a:=a) (b:=b)]
 refine⟨?_,by rw[Bool.not_eq_true',decide_eq_false_iff_not] at h7 ⊢;rw[hd];exact h7.2⟩
 match i,hi,h7.1 with
 |0,_,⟨g1,g2,g3,g4,g5,g6,g7,g8,g9,g10⟩=>
  refine⟨g1,g2,g3,g4,g5,g6,g7,fun x hx=>?_,g9,g10⟩
  have hx:x∈([(26,1,0,0),(26,2,0,0),(1,0,a,0),(28,0,0,0),(34,-1,0,0)]:List Instr):=hx
  have g8:∀ x∈([(26,1,0,0),(26,2,0,0),(1,0,0,0),(28,0,0,0),(34,-1,0,0)]:List Instr),chkI x=true:=g8
  simp only[List.mem_cons,List.not_mem_nil,or_false] at hx
  rcases hx with rfl|rfl|rfl|rfl|rfl
  ·exact g8 _ (by simp)
  ·exact g8 _ (by simp)
  ·exact chk_int ha
  ·exact g8 _ (by simp)
  ·exact g8 _ (by simp)
 |1,_,h=>exact h
 |2,_,⟨g1,g2,g3,g4,g5,g6,g7,g8,g9,g10⟩=>
  refine⟨g1,g2,g3,g4,g5,g6,g7,fun x hx=>?_,g9,g10⟩
  have hx:x∈([(1,0,b,0),(28,0,0,0),(34,-1,0,0)]:List Instr):=hx
  have g8:∀ x∈([(1,0,0,0),(28,0,0,0),(34,-1,0,0)]:List Instr),chkI x=true:=g8
  simp only[List.mem_cons,List.not_mem_nil,or_false] at hx
  rcases hx with rfl|rfl|rfl
  ·exact chk_int hb
  ·exact g8 _ (by simp)
  ·exact g8 _ (by simp)
theorem codes_len:∀ l:List Instr,(l.flatMap encI).length≤31*l.length
 |[]=>by simp
 |x :: r=>by
  have:=encI_len x
  have:=codes_len r
  simp only[List.flatMap_cons,List.length_append,List.length_cons]
  omega
theorem funcU_len (nm:List UInt8) (c:List Instr) (l:List Run):(funcE (nm,0,-1,slU,c,rU,l)).length≤(said nm).length+(V 0).length+(V (zig (-1))).length+(fieldsE slU).length+60+31*c.length+20*l.length:=by
 have h1:=codes_len c
 have h2:=V_len c.length
 have h3:=runsE_len rU
 have h4:=runsE_len l
 have h5:rU.length=1:=rfl
 have h6:(funcE (nm,0,-1,slU,c,rU,l)).length=(said nm).length+((V 0).length+((V (zig (-1))).length+((fieldsE slU).length+((V c.length).length+((c.flatMap encI).length+((runsE rU).length+(runsE l).length)))))):=by
  simp only[funcE,List.length_append]
  rfl
 omega
theorem headU_len:(V 2).length+(tysU.flatMap typeE).length+(V 0).length+(V 3).length≤1000∧(V 0).length+(V (zig (-1))).length+(fieldsE slU).length≤100∧(said [102,97]).length≤10∧(said [102,98]).length≤10∧(said [102,99]).length≤10:=by decide +kernel
theorem lenU (hp:smallR p=true) (hq:smallR q=true) (hr:smallR r=true):(imageE tysU [] (fsU a b p q r)).length≤20000:=by
 have p1:=(smallR_ok hp).1
 have q1:=(smallR_ok hq).1
 have r1:=(smallR_ok hr).1
 obtain⟨h1,h2,h3,h4,h5⟩:=headU_len
 have f1:=funcU_len [102,97] [(26,1,0,0),(26,2,0,0),(1,0,a,0),(28,0,0,0),(34,-1,0,0)] p
 have f2:=funcU_len [102,98] [(29,1,0,0),(31,0,0,0),(34,-1,0,0)] q
 have f3:=funcU_len [102,99] [(1,0,b,0),(28,0,0,0),(34,-1,0,0)] r
 have e:(imageE tysU [] (fsU a b p q r)).length=(V 2).length+((tysU.flatMap typeE).length+((V 0).length+(0+((V 3).length+((funcE ([102,97],0,-1,slU,[(26,1,0,0),(26,2,0,0),(1,0,a,0),(28,0,0,0),(34,-1,0,0)],rU,p)).length+((funcE ([102,98],0,-1,slU,[(29,1,0,0),(31,0,0,0),(34,-1,0,0)],rU,q)).length+((funcE ([102,99],0,-1,slU,[(1,0,b,0),(28,0,0,0),(34,-1,0,0)],rU,r)).length+0))))))):=by
  simp only[imageE,List.length_append,List.flatMap_cons,List.flatMap_nil,List.length_nil]
  rfl
 simp only[List.length_cons,List.length_nil] at f1 f2 f3
 omega
end
abbrev pU:List Run:=[(0,0),(3,1),(4,0)]
abbrev qU:List Run:=[(0,0),(1,3),(2,0)]
abbrev sU:List Run:=[(0,0),(1,1),(2,0)]
theorem fine0:FineOK tysU [] (fsU 0 0 rU rU rU)∧FineOK tysU [] (fsU 0 0 pU qU sU):=by
 have hz:i64 0:=by unfold i64;decide
 refine⟨?_,?_⟩
 ·have h := fine_ok (N := 1400) (by omega) (fitU hz hz (p := rU) (q := rU) (r := rU) (by decide +kernel) (by decide +kernel) (by decide +kernel)).1
  have k:F272 1400 (tysU,[],fsU 0 0 rU rU rU)=some true:=by kernel_rfl
  rw[k] at h
  injection h with h
  exact of_decide_eq_true h.symm
 ·have h := fine_ok (N := 1400) (by omega) (fitU hz hz (p := pU) (q := qU) (r := sU) (by decide +kernel) (by decide +kernel) (by decide +kernel)).1
  have k:F272 1400 (tysU,[],fsU 0 0 pU qU sU)=some true:=by kernel_rfl
  rw[k] at h
  injection h with h
  exact of_decide_eq_true h.symm
section
variable {a b:Int} (ha:i64 a) (hb:i64 b)
include ha hb
theorem chk0 {N:Nat} (hN:1300<N):F17 N (tysU,[],fsU a b rU rU rU)=some 0:=by
 rw[check09_ok hN (fitU ha hb (by decide +kernel) (by decide +kernel) (by decide +kernel)),chkE,if_pos (fineU ha hb fine0.1),if_pos (lenU (by decide +kernel) (by decide +kernel) (by decide +kernel))]
theorem chk1 {N:Nat} (hN:1300<N):F17 N (tysU,[],fsU a b pU qU sU)=some 0∧F148 N (tysU,[],fsU a b pU qU sU)=some 0:=by
 rw[check09_ok hN (fitU ha hb (by decide +kernel) (by decide +kernel) (by decide +kernel)),check_ok hN (fitU ha hb (by decide +kernel) (by decide +kernel) (by decide +kernel)),chkE,if_pos (fineU ha hb fine0.2),if_pos (lenU (by decide +kernel) (by decide +kernel) (by decide +kernel))]
 exact⟨rfl,rfl⟩
end
section
variable {N:Nat} {fs:List Func} {c:Int} {f:Int} {fn:Func}
theorem slot_of (hf:idx fs f=some fn) (hs:fn.2.2.2.1=slU):∃ z,F181 N (tysU,[],fs,f,c)=some z∧(z = -1∨z=0∨z=1):=by
 rw[F181.eq_1]
 by_cases h0:c<0
 ·exact⟨-1,by simp[h0],.inl rfl⟩
 by_cases h2:c≥2
 ·exact⟨-1,by simp[h0,hf,hs,h2],.inl rfl⟩
 have:c=0∨c=1:=by omega
 rcases this with rfl|rfl
 ·exact⟨0,by simp[hf,hs];rfl,.inr (.inl rfl)⟩
 ·exact⟨1,by simp[hf,hs];rfl,.inr (.inr rfl)⟩
theorem typed10 (hf:idx fs f=some fn) (hs:fn.2.2.2.1=slU):F110 N (tysU,[],fs,f,1,0,c,0)=some true:=by
 obtain⟨z,h1,h2⟩:=slot_of (N:=N) (c:=c) hf hs
 have h0:F181 N (tysU,[],fs,f,0)=some 0:=by
  rw[F181.eq_1]
  simp[hf,hs];rfl
 rw[F110.eq_1]
 simp only[h0,h1,Option.bind_some]
 rcases h2 with rfl|rfl|rfl<;>rfl
theorem typedP (xs:List (List UInt8)) (nm:List UInt8) (k t:Int) (code:List Instr) (g l:List Run):F265 20000000 (tysU,xs,fs,nm,k,t,slU,code,g,l,1,0,c,0)=some true:=by
 obtain⟨z,h1⟩:∃ z,F293 20000000 (tysU,xs,fs,nm,k,t,slU,code,g,l,c)=some z:=by
  rw[F293.eq_1,F290.eq_1]
  by_cases h0:c<0
  ·exact⟨-1,by simp[show ¬c≥0 by omega]⟩
  by_cases h2:c≥2
  ·exact⟨-1,by simp[show c≥0 by omega,show ¬c<2 by omega]⟩
  have:c=0∨c=1:=by omega
  rcases this with rfl|rfl
  ·exact⟨0,rfl⟩
  ·exact⟨1,rfl⟩
 rw[F265.eq_1]
 simp only[h1,Option.bind_some]
 kernel_rfl
end
end Go.Proofs.YtjejefeomeddhaaGreat
set_option linter.unusedSectionVars false
namespace Go.Sym
open Go Go.Eng
def erD:Nat→D→D
 |0,x=>x
 |k+1,x=>match x with
  |.rg i e=>.sc (.int i (i.wrap e.den))
  |.sl els=>.sl (els.map fun e=>e.map (erD k))
  |x=>x
def erC:AV→AV
 |.d x=>.d (erD 9 x)
 |x=>x
def er1:AV→AV
 |.agg cs=>.agg (cs.map erC)
 |x=>erC x
theorem get_mapmap {α β : Type} {f : α→β} {l:List (List α)} {i j:Nat} {e:List β} {x : β} (h1:(l.map fun e=>e.map f)[i]?=some e) (h2:e[j]?=some x):∃ e' x',l[i]?=some e'∧e'[j]?=some x'∧x=f x':=by
 rw[List.getElem?_map] at h1
 obtain⟨e',he,rfl⟩:=Option.map_eq_some_iff.1 h1
 rw[List.getElem?_map] at h2
 obtain⟨x',hx,rfl⟩:=Option.map_eq_some_iff.1 h2
 exact⟨e',x',he,hx,rfl⟩
theorem erD_ok {w:World} {F:Nat→Nat→Prop} : ∀ (k:Nat) (x:D) (v:Value),DR w F x v→DR w F (erD k x) v
 |0,_,_,h=>h
 | k + 1, x, v, h => by
  cases h with
  |sc v h1=>exact .sc v h1
  |er v h1=>exact .er v h1
  |rg i e=>exact .sc _ rfl
  | sl els a n cap sz b o g hn hcap hsz ha hF hc hr =>
   refine .sl _ a n cap sz b o g (by simpa using hn) hcap (fun e he=>?_) ha (fun i e j x h1 h2=>?_) (fun i e j x h1 h2=>?_) (fun i e j x h1 h2=>?_)
   ·obtain ⟨e', he', rfl⟩ := List.mem_map.1 he
    have:=hsz e' he'
    simpa using this
   ·obtain⟨e',x',q1,q2,_⟩:=get_mapmap h1 h2;exact hF _ _ _ _ q1 q2
   ·obtain⟨e',x',q1,q2,_⟩:=get_mapmap h1 h2;exact hc _ _ _ _ q1 q2
   ·obtain⟨e',x',q1,q2,rfl⟩:=get_mapmap h1 h2;exact erD_ok k _ _ (hr _ _ _ _ q1 q2)
theorem erC_ok {X:Cx} (x:AV) (v:Value) (h:VC X x v):VC X (erC x) v:=by
 cases x with
 |d x=>exact erD_ok 9 x v h
 |_=>exact h
theorem all2_map {α β : Type} {R : α→β→Prop} {f : α→α} (h:∀ a b,R a b→R (f a) b):∀ (l:List α) (m:List β),All2 R l m→All2 R (l.map f) m
 |[],[],_=>trivial
 |a :: l,b :: m,hm=>⟨h a b hm.1,all2_map h l m hm.2⟩
 |[],_ :: _,hm=>hm.elim
 |_ :: _,[],hm=>hm.elim
theorem er1_ok {X:Cx} (x:AV) (v:Value) (h:V1 X x v):V1 X (er1 x) v:=by
 cases x with
 |agg cs=>obtain⟨vs,e,h⟩:=h;exact⟨vs,e,all2_map (fun a b h=>erC_ok a b h) cs _ h⟩
 |d x=>exact erD_ok 9 x v h
 |_=>exact h
theorem ans_er {P:Program} {f:Nat} {xs:List AV} {a:AV} (h:AnsOK P f (xs.map er1) a):AnsOK P f xs a:=
 fun mem tips nv X vargs hmem hargs=>h mem tips nv X vargs hmem (all2_map (fun a b h=>er1_ok a b h) xs _ hargs)
theorem typ_at {P:Program} {T:Tb} (hO:∀ n,CallOK P (runG T n)) {f:Nat} {s:Sig} {F:(tyL s.ta).den→Option (tyL s.tr).den} (hcal:CalOK T f (s.cal F)) (hrk:Nat.beq s.k 65535=false) {xs:List AV} {a:AV} (x:(tyL s.ta).den) (y:(tyL s.tr).den)
  (hd:decP s.a (xs.map er1)=some (unpack s.ta x)) (hx:pack s.ta (unpack s.ta x)=some x) (hy:F x=some y)
  (ha : (match fillR s.r (unpack s.tr y) with
   |some (ws,[])=>(tup2 ws).bind encW
   |_=>none)=some a):AnsOK P f xs a:=by
 refine ans_er (typ_ans hO hcal hrk ?_)
 unfold ansT Sig.cal
 simp only[hd,hx,hy]
 exact ha
end Go.Sym
set_option linter.unusedSectionVars false
namespace Go.Proofs.YtjejefeomeddhaaGreat
open Go Go.Eng Go.Sym
set_option maxRecDepth 100000
theorem okT (n:Nat):CallOK Tryz.prog (runG tab n):=runG_ok noCall_ok mixA libOK tabOK n
theorem i64_w (n:Int):i64 (IntKind.i64.wrap n):=by
 have:=i64_rng n
 exact this
noncomputable def aU:Int:=IntKind.i64.wrap (Rho.r 0)
noncomputable def bU:Int:=IntKind.i64.wrap (Rho.r 1)
noncomputable def x60 [Rho]:List GType×List (List UInt8)×List Func:=(tysU,[],fsU aU bU rU rU rU)
theorem y60:F17 20000000 x60=some 0:=by
 unfold x60
 exact chk0 (N:=20000000) (a:=aU) (b:=bU) (i64_w _) (i64_w _) (by omega)
theorem da60:AnsOK Tryz.prog di60.f di60.xs di60.a:=
 typ_at okT (s:=s17) (F:=F17 20000000) ((K265 20000000).cal 17 _ rfl) rfl x60 (0:Int) (by kernel_rfl) (by kernel_rfl) y60 (by kernel_rfl)
noncomputable def x69 [Rho]:List GType×List (List UInt8)×List Func:=(tysU,[],fsU aU bU pU qU sU)
theorem y69:F17 20000000 x69=some 0:=by
 unfold x69
 exact (chk1 (N:=20000000) (a:=aU) (b:=bU) (i64_w _) (i64_w _) (by omega)).1
theorem da69:AnsOK Tryz.prog di69.f di69.xs di69.a:=
 typ_at okT (s:=s17) (F:=F17 20000000) ((K265 20000000).cal 17 _ rfl) rfl x69 (0:Int) (by kernel_rfl) (by kernel_rfl) y69 (by kernel_rfl)
noncomputable def x80 [Rho]:List GType×List (List UInt8)×List Func:=(tysU,[],fsU aU bU pU qU sU)
theorem y80:F148 20000000 x80=some 0:=by
 unfold x80
 exact (chk1 (N:=20000000) (a:=aU) (b:=bU) (i64_w _) (i64_w _) (by omega)).2
theorem da80:AnsOK Tryz.prog di80.f di80.xs di80.a:=
 typ_at okT (s:=s148) (F:=F148 20000000) ((K265 20000000).cal 148 _ rfl) rfl x80 (0:Int) (by kernel_rfl) (by kernel_rfl) y80 (by kernel_rfl)
noncomputable def x61 [Rho]:List GType×List (List UInt8)×List Func×Int×Int×Int×Int×Int:=(tysU,[],fsU aU bU rU rU rU,0,1,0,aU,0)
theorem y61:F110 20000000 x61=some true:=by
 unfold x61
 exact typed10 (N:=20000000) (fs:=fsU aU bU rU rU rU) (f:=0) (c:=aU) (fn:=fnn (fsU aU bU rU rU rU) 0) rfl rfl
theorem da61:AnsOK Tryz.prog di61.f di61.xs di61.a:=
 typ_at okT (s:=s110) (F:=F110 20000000) ((K265 20000000).cal 110 _ rfl) rfl x61 true (by kernel_rfl) (by kernel_rfl) y61 (by kernel_rfl)
noncomputable def x66 [Rho]:List GType×List (List UInt8)×List Func×Int×Int×Int×Int×Int:=(tysU,[],fsU aU bU pU qU rU,2,1,0,bU,0)
theorem y66:F110 20000000 x66=some true:=by
 unfold x66
 exact typed10 (N:=20000000) (fs:=fsU aU bU pU qU rU) (f:=2) (c:=bU) (fn:=fnn (fsU aU bU pU qU rU) 2) rfl rfl
theorem da66:AnsOK Tryz.prog di66.f di66.xs di66.a:=
 typ_at okT (s:=s110) (F:=F110 20000000) ((K265 20000000).cal 110 _ rfl) rfl x66 true (by kernel_rfl) (by kernel_rfl) y66 (by kernel_rfl)
noncomputable def x70 [Rho]:List GType×List (List UInt8)×List Func×Int×Int×Int×Int×Int:=(tysU,[],fsU aU bU pU qU sU,0,1,0,aU,0)
theorem y70:F110 20000000 x70=some true:=by
 unfold x70
 exact typed10 (N:=20000000) (fs:=fsU aU bU pU qU sU) (f:=0) (c:=aU) (fn:=fnn (fsU aU bU pU qU sU) 0) rfl rfl
theorem da70:AnsOK Tryz.prog di70.f di70.xs di70.a:=
 typ_at okT (s:=s110) (F:=F110 20000000) ((K265 20000000).cal 110 _ rfl) rfl x70 true (by kernel_rfl) (by kernel_rfl) y70 (by kernel_rfl)
noncomputable def x75 [Rho]:List GType×List (List UInt8)×List Func×Int×Int×Int×Int×Int:=(tysU,[],fsU aU bU pU qU sU,2,1,0,bU,0)
theorem y75:F110 20000000 x75=some true:=by
 unfold x75
 exact typed10 (N:=20000000) (fs:=fsU aU bU pU qU sU) (f:=2) (c:=bU) (fn:=fnn (fsU aU bU pU qU sU) 2) rfl rfl
theorem da75:AnsOK Tryz.prog di75.f di75.xs di75.a:=
 typ_at okT (s:=s110) (F:=F110 20000000) ((K265 20000000).cal 110 _ rfl) rfl x75 true (by kernel_rfl) (by kernel_rfl) y75 (by kernel_rfl)
noncomputable def x81 [Rho]:List GType×List (List UInt8)×List Func×List UInt8×Int×Int×List Field×List Instr×List Run×List Run×Int×Int×Int×Int:=(tysU,[],fsU aU bU pU qU sU,[102,97],0,-1,slU,[(26,1,0,0),(26,2,0,0),(1,0,aU,0),(28,0,0,0),(34,-1,0,0)],rU,pU,1,0,aU,0)
theorem y81:F265 20000000 x81=some true:=by
 unfold x81
 exact typedP ..
theorem da81:AnsOK Tryz.prog di81.f di81.xs di81.a:=
 typ_at okT (s:=s265) (F:=F265 20000000) ((K265 20000000).cal 265 _ rfl) rfl x81 true (by kernel_rfl) (by kernel_rfl) y81 (by kernel_rfl)
noncomputable def x84 [Rho]:List GType×List (List UInt8)×List Func×List UInt8×Int×Int×List Field×List Instr×List Run×List Run×Int×Int×Int×Int:=(tysU,[],fsU aU bU pU qU sU,[102,99],0,-1,slU,[(1,0,bU,0),(28,0,0,0),(34,-1,0,0)],rU,sU,1,0,bU,0)
theorem y84:F265 20000000 x84=some true:=by
 unfold x84
 exact typedP ..
theorem da84:AnsOK Tryz.prog di84.f di84.xs di84.a:=
 typ_at okT (s:=s265) (F:=F265 20000000) ((K265 20000000).cal 265 _ rfl) rfl x84 true (by kernel_rfl) (by kernel_rfl) y84 (by kernel_rfl)
end Go.Proofs.YtjejefeomeddhaaGreat
set_option linter.unusedSectionVars false
namespace Go.Proofs.YtjejefeomeddhaaGreat
set_option linter.unusedVariables false
open Go Go.Eng Go.Sym
set_option maxRecDepth 100000
noncomputable section
def dl1:List KnA:=di84 :: di81 :: di80 :: di75 :: di70 :: di69 :: di66 :: di61 :: di60 :: []
theorem dl1_ok:∀ k∈dl1,AnsOK Tryz.prog k.f k.xs k.a:=(lc da84 (lc da81 (lc da80 (lc da75 (lc da70 (lc da69 (lc da66 (lc da61 (lc da60 (fun _ h=>by cases h))))))))))
end
end Go.Proofs.YtjejefeomeddhaaGreat
