/- The plain law, in one text. -/
import Derived.Test.YtlfhlggkbcncoaaLaw09xmoA
namespace Go.Proofs.Ytlfhlggkbcncoaa
set_option linter.unusedSimpArgs false
set_option linter.unusedVariables false
open Go Go.Eng Go.Sym
open Go Go.Eng Go.Sym
open Go Go.Eng Go.Sym
open Go Go.Eng Go.Sym
open Go Go.Eng Go.Sym
open Classical
open Go Go.Eng Go.Sym
open Classical
open Go Go.Eng Go.Sym
open Classical
open Go Go.Eng Go.Sym
open Classical
theorem widths04_ok {l:List GType} (hl:l.length≤100) (ht:AllT l) (hf:∀ i,i<l.length→(tyn l i).2.2.2.length≤1000):∀ (d N:Nat),d≤10→1200+d<N→F86 N (l,(d:Int))=some (wR l d)
 |0,N,_,hN=>by
  obtain⟨N,rfl⟩:∃ k,N=k+1:=⟨N-1,by omega⟩
  rw[F86_eq,show decide (((0:Nat):Int)>0)=false from rfl,bif_r,row04_ok (by omega) hl ht hf (rep_W l.length) (.inl ⟨rfl,rfl⟩)];rfl
 |d+1,N,hd,hN=>by
  obtain⟨N,rfl⟩:∃ k,N=k+1:=⟨N-1,by omega⟩
  rw[F86_eq,decide_eq_true (by omega),bif_l,wi64_in (by omega),show ((d+1:Nat):Int)-1=(d:Int) by omega,widths04_ok hl ht hf d N (by omega) (by omega),Option.bind_some,row04_ok (by omega) hl ht hf (wR_W ht d).1 (.inr ⟨by omega,by omega,rfl,(wR_W ht d).2⟩)];rfl
noncomputable def TableOK (l:List GType):Prop:=l.length≤32∧AllT l∧∀ x,x∈wR l 3→x≤5000
noncomputable def tyFit (l:List GType):Prop:=l.length≤100∧∀ i,i<l.length→(tyn l i).2.2.2.length≤1000∧i64 (tyn l i).2.2.1
theorem checkK_ok {N:Nat} {l:List GType} (hN:1300<N) (hl:tyFit l):F51 N l=some (if TableOK l then 0 else 8):=by
 rw[F51_eq]
 by_cases h32:l.length≤32
 ·rw [decide_eq_false (show ¬ (l.length : Int) > 32 by omega), bif_r]
  have key:=loop_rng (n:=l.length) (a:=(.inr l:Int⊕List GType)) (b:=.inl 8) (q:=fun i=>!decide (TypeOK l.length i (tyn l i))) (Lf:=fun k i=>f51.L0_6 N k (l,(l.length:Int),i)) (fun k _=>by
    simp only[f51.L0_6_succ,ge_dec,bif_r]) (fun k i hi _=>by
    simp only[f51.L0_6_succ,lt_dec hi,bif_l,fineK_ok (show 1100<N by omega) hi (hl.2 i hi).1 (hl.2 i hi).2,Option.bind_some,wi64_succ (show i<9223372036854775807 by omega)]
    by_cases ht:TypeOK l.length i (tyn l i)
    ·rw[decT ht];rfl
    ·rw[decF ht];rfl) (k:=N) (by omega)
  rw[key,ex_not,Option.bind_some]
  by_cases hall:AllT l
  ·rw [if_pos (show ∀ i, i < l.length → decide (TypeOK l.length i (tyn l i)) = true from fun i hi => decT (hall i hi))]
   simp only
   rw[widths_ok (by omega) hl.1 hall,Option.bind_some]
   have hW:=wR_W hall 3
   have key2:=loop_lst (l:=wR l 3) (a:=(.inr ():Int⊕Unit)) (b:=.inl 8) (p:=fun x=>!decide (x≤5000)) (Lf:=fun k i=>f51.L0_17 N k (wR l 3,((wR l 3).length:Int),i)) (fun k _=>by
     simp only[f51.L0_17_succ,ge_dec,bif_r]) (fun k i x hx hm=>by
     simp only[f51.L0_17_succ,lt_dec (len_pos hx),bif_l,idx_get hx,Option.bind_some,wi64_succ (show i<9223372036854775807 by have:=len_pos hx;omega)]
     by_cases h5:x≤5000
     ·rw[decF (show ¬x>5000 by omega),decT h5];rfl
     ·rw[decT (show x>5000 by omega),decF h5];rfl) (k:=N) (by omega)
   rw[key2,ex_notL,Option.bind_some]
   by_cases h5:∀ x,x∈wR l 3→x≤5000
   ·rw[if_pos fun x hx=>decT (h5 x hx),if_pos ⟨h32,hall,h5⟩]
   ·rw[if_neg fun h=>h5 fun x hx=>of_decide_eq_true (h x hx),if_neg fun h=>h5 h.2.2]
  ·rw[if_neg fun h=>hall fun i hi=>of_decide_eq_true (h i hi),if_neg fun h=>hall h.2.1]
 ·rw[decide_eq_true (show (l.length:Int)>32 by omega),bif_l,if_neg fun h=>h32 h.1]
theorem check04_ok {N:Nat} {l:List GType} (hN:1300<N) (hl:tyFit l):F59 N l=some (if TableOK l then 0 else 8):=by
 rw[F59_eq]
 by_cases h32:l.length≤32
 ·rw [decide_eq_false (show ¬ (l.length : Int) > 32 by omega), bif_r]
  have key:=loop_rng (n:=l.length) (a:=(.inr l:Int⊕List GType)) (b:=.inl 8) (q:=fun i=>!decide (TypeOK l.length i (tyn l i))) (Lf:=fun k i=>f59.L0_6 N k (l,i)) (fun k _=>by
    simp only[f59.L0_6_succ,ge_dec,bif_r]) (fun k i hi _=>by
    simp only[f59.L0_6_succ,lt_dec hi,bif_l,fine04_ok (show 1200<N by omega) hi (hl.2 i hi).1,Option.bind_some,wi64_succ (show i<9223372036854775807 by omega)]
    by_cases ht:TypeOK l.length i (tyn l i)
    ·rw[decT ht];rfl
    ·rw[decF ht];rfl) (k:=N) (by omega)
  rw[key,ex_not,Option.bind_some]
  by_cases hall:AllT l
  ·rw [if_pos (show ∀ i, i < l.length → decide (TypeOK l.length i (tyn l i)) = true from fun i hi => decT (hall i hi))]
   simp only
   have hw:=widths04_ok hl.1 hall (fun i hi=>(hl.2 i hi).1) 3 N (by omega) (by omega)
   rw[show ((3:Nat):Int)=3 from rfl] at hw
   rw[hw,Option.bind_some]
   have hW:=wR_W hall 3
   have key2:=loop_lst (l:=wR l 3) (a:=(.inr ():Int⊕Unit)) (b:=.inl 8) (p:=fun x=>!decide (x≤5000)) (Lf:=fun k i=>f59.L0_17 N k (l,wR l 3,i)) (fun k _=>by
     simp only[f59.L0_17_succ,hW.2,ge_dec,bif_r]) (fun k i x hx hm=>by
     have:=len_pos hx
     rw[hW.2] at this
     simp only[f59.L0_17_succ,lt_dec this,bif_l,idx_get hx,Option.bind_some,wi64_succ (show i<9223372036854775807 by omega)]
     by_cases h5:x≤5000
     ·rw[decF (show ¬x>5000 by omega),decT h5];rfl
     ·rw[decT (show x>5000 by omega),decF h5];rfl) (k:=N) (by omega)
   rw[key2,ex_notL,Option.bind_some]
   by_cases h5:∀ x,x∈wR l 3→x≤5000
   ·rw[if_pos fun x hx=>decT (h5 x hx),if_pos ⟨h32,hall,h5⟩]
   ·rw[if_neg fun h=>h5 fun x hx=>of_decide_eq_true (h x hx),if_neg fun h=>h5 h.2.2]
  ·rw[if_neg fun h=>hall fun i hi=>of_decide_eq_true (h i hi),if_neg fun h=>hall h.2.1]
 ·rw[decide_eq_true (show (l.length:Int)>32 by omega),bif_l,if_neg fun h=>h32 h.1]
open Go Go.Eng Go.Sym
open Classical
noncomputable def up (a s:Int):Int:=(s+a-1) / a*a
theorem up_one (s:Int):up 1 s=s:=by unfold up;omega
theorem up_eight (s:Int):up 8 s=(s+7) / 8*8:=by unfold up;omega
noncomputable def AL (a:Int):Prop:=a=1∨a=8
theorem up_bd {a s:Int} (ha:AL a) (hs:0≤s):s≤up a s∧up a s≤s+7:=by
 rcases ha with rfl|rfl
 ·rw[up_one];omega
 ·rw[up_eight];omega
theorem up_cap {a s C:Int} (ha:AL a) (hC:C % 8=0) (hs:s≤C):up a s≤C:=by
 rcases ha with rfl|rfl
 ·rw[up_one];omega
 ·rw[up_eight];omega
theorem andnot7 (n:Nat) (hn:n<18446744073709551616):(BitVec.ofNat 64 n &&& ~~~(7#64)).toNat=n / 8*8:=by
 have e:n / 8*8=(n >>> 3) <<< 3:=by rw[Nat.shiftRight_eq_div_pow,Nat.shiftLeft_eq]
 rw[e]
 refine Nat.eq_of_testBit_eq fun k=>?_
 rw[BitVec.toNat_and,Nat.testBit_and,BitVec.toNat_ofNat,Nat.mod_eq_of_lt hn,BitVec.testBit_toNat,BitVec.getLsbD_not,Nat.testBit_shiftLeft,Nat.testBit_shiftRight]
 rcases Nat.lt_or_ge k 64 with h|h
 ·rw [decide_eq_true h, Bool.true_and]
  by_cases h3:k<3
  ·have : k = 0 ∨ k = 1 ∨ k = 2 := by omega
   rcases this with rfl|rfl|rfl<;>simp
  ·rw [decide_eq_true (show k ≥ 3 by omega), Bool.true_and, show 3 + (k - 3) = k by omega]
   have:(7#64).getLsbD k=false:=by
    rw[show (7#64)=BitVec.ofNat 64 7 from rfl,BitVec.getLsbD_ofNat,Nat.testBit_lt_two_pow (x:=7) (i:=k) (Nat.lt_of_lt_of_le (show 7<2 ^ 3 by omega) (Nat.pow_le_pow_right (by omega) (by omega))),Bool.and_false]
   rw[this,Bool.not_false,Bool.and_true]
 ·have h1 : n.testBit k = false := Nat.testBit_lt_two_pow (Nat.lt_of_lt_of_le hn (by rw [show 18446744073709551616 = 2 ^ 64 by decide]; exact Nat.pow_le_pow_right (by omega) h))
  rw[h1,Bool.false_and,decide_eq_true (show k≥3 by omega),Bool.true_and,show 3+(k-3)=k by omega,h1]
theorem iandnot_up {a s:Int} (ha:AL a) (hs:0≤s∧s≤4000000):iandnot .i64 (wi64 ((wi64 (s+a))-(1:Int))) (wi64 (a-(1:Int)))=up a s:=by
 rcases ha with rfl|rfl
 ·rw [wi64_in (n := s + 1) (by omega), show s + 1 - 1 = s by omega, wi64_in (by omega), show wi64 ((1 : Int) - 1) = 0 from by decide, up_one]
  obtain⟨n,rfl⟩:=Int.eq_ofNat_of_zero_le hs.1
  unfold iandnot
  have e:(BitVec.ofInt IntKind.i64.bits ((n:Nat):Int) &&& ~~~(BitVec.ofInt IntKind.i64.bits 0)).toNat=n:=by
   show (BitVec.ofInt 64 ((n:Nat):Int) &&& ~~~(BitVec.ofInt 64 0)).toNat=n
   rw[show ~~~(BitVec.ofInt 64 0)=BitVec.allOnes 64 by decide,BitVec.and_allOnes,BitVec.ofInt_natCast,BitVec.toNat_ofNat];omega
  rw[e];exact wi64_in (by omega)
 ·rw [wi64_in (n := s + 8) (by omega), show s + 8 - 1 = s + 7 by omega, wi64_in (by omega), show wi64 ((8 : Int) - 1) = 7 from by decide, up_eight]
  obtain⟨n,rfl⟩:=Int.eq_ofNat_of_zero_le hs.1
  unfold iandnot
  have e:(BitVec.ofInt IntKind.i64.bits ((n:Int)+7) &&& ~~~(BitVec.ofInt IntKind.i64.bits 7)).toNat=(n+7) / 8*8:=by
   show (BitVec.ofInt 64 ((n:Int)+7) &&& ~~~(BitVec.ofInt 64 7)).toNat=_
   rw[show (n:Int)+7=((n+7:Nat):Int) by omega,BitVec.ofInt_natCast,show BitVec.ofInt 64 7=7#64 from rfl]
   exact andnot7 _ (by omega)
  rw[e,show IntKind.i64.wrap (((n+7) / 8*8:Nat):Int)=(((n+7) / 8*8:Nat):Int) from wi64_in (by omega)]
  omega
theorem up05_ok {N:Nat} {a s:Int} (ha:AL a) (hs:0≤s∧s≤4000000):F111 N (s,a)=some (up a s):=by
 rw[F111_eq]
 rcases ha with rfl|rfl
 ·rw[show (!decide ((1:Int)=0))=true from rfl,chk_true,wi64_in (n:=s+1) (by omega),show s+1-1=s by omega,wi64_in (n:=s) (by omega),Int.tdiv_one,wi64_in (n:=s) (by omega),wi64_in (by omega),up_one,Int.mul_one]
 ·rw[show (!decide ((8:Int)=0))=true from rfl,chk_true,wi64_in (n:=s+8) (by omega),show s+8-1=s+7 by omega,wi64_in (n:=s+7) (by omega),Int.tdiv_eq_ediv_of_nonneg (by omega),wi64_in (n:=(s+7) / 8) (by omega),wi64_in (by omega),up_eight]
abbrev Ex:=Int×Int
noncomputable def exn (x:List Ex) (i:Int):Ex:=x.getD i.toNat (0,1)
noncomputable def layF (C:Int) (x:List Ex):Int→Int→List Field→List Int×Int×Int
 |s,a,[]=>([],s,a)
 |s,a,f :: r=>
  let q:=layF C x (min C (up (exn x f.2).2 s+(exn x f.2).1)) (max a (exn x f.2).2) r
  (up (exn x f.2).2 s :: q.1,q.2.1,q.2.2)
noncomputable def EX (C:Int) (x:List Ex):Prop:=∀ e,e∈x→AL e.2∧0≤e.1∧e.1≤C
theorem EX.get {C:Int} (hC:0≤C) {x:List Ex} (h:EX C x) (i:Int):AL (exn x i).2∧0≤(exn x i).1∧(exn x i).1≤C:=by
 unfold exn
 rw[List.getD_eq_getElem?_getD]
 cases e:x[i.toNat]? with
 |none=>exact⟨.inl rfl,by show (0:Int)≤0;omega,hC⟩
 |some y=>exact h y (mem_of_get e)
theorem AL.max {a b:Int} (ha:AL a) (hb:AL b):AL (max a b):=by
 rcases ha with rfl|rfl<;>rcases hb with rfl|rfl
 ·exact .inl rfl
 ·exact .inr rfl
 ·exact .inr rfl
 ·exact .inr rfl
theorem layF_bd {C:Int} (hC:0≤C) {x:List Ex} (hx:EX C x):∀ (fs:List Field) (s a:Int),0≤s→s≤C→AL a→(0≤(layF C x s a fs).2.1∧(layF C x s a fs).2.1≤C)∧AL (layF C x s a fs).2.2∧(layF C x s a fs).1.length=fs.length
 |[],s,a,h0,hs,ha=>⟨⟨h0,hs⟩,ha,rfl⟩
 |f :: r,s,a,h0,hs,ha=>by
  obtain⟨e1,e2,e3⟩:=hx.get hC f.2
  have hu:=up_bd e1 h0
  obtain⟨g1,g2,g3⟩:=layF_bd hC hx r (min C (up (exn x f.2).2 s+(exn x f.2).1)) (max a (exn x f.2).2) (by omega) (by omega) (ha.max e1)
  simp only[layF]
  exact⟨g1,g2,by rw[List.length_cons,List.length_cons,g3]⟩
theorem idx_exn {x:List Ex} {i:Int} (h:0≤i∧i<x.length):idx x i=some (exn x i):=by
 refine idx_of_get h.1 ?_
 unfold exn
 rw[List.getD_eq_getElem?_getD,List.getElem?_eq_getElem (by omega)];rfl
theorem exn_app {a b:List Ex} {i:Int} (h:0≤i∧i<a.length):exn (a++b) i=exn a i:=getD_app _ (by omega)
theorem lay_loop {N:Nat} {x b:List Ex} (hx:EX 1048576 x) {fs:List Field} (hl:fs.length≤1000) (c1 c2:Int):∀ (r pre:List Field) (os:List Int) (s a:Int) (k:Nat),fs=pre++r→os.length=pre.length→(∀ f,f∈r→0≤f.2∧f.2<x.length)→0≤s→s≤1048576→AL a→r.length<k→
  f117.L0_4 N k (x++b,fs,(fs.length:Int),(pre.length:Int),c1,c2,os++List.replicate r.length 0,s,a)=some (c1,c2,os++(layF 1048576 x s a r).1,(layF 1048576 x s a r).2.1,(layF 1048576 x s a r).2.2):=by
 intro r
 induction r with
 |nil=>
  intro pre os s a k he _ _ _ _ _ hk
  obtain⟨k,rfl⟩:∃ k',k=k'+1:=⟨k-1,by simp at hk;omega⟩
  rw[List.append_nil] at he;subst he
  rw[f117.L0_4_succ,ge_dec,bif_r];rfl
 | cons f r ih =>
  intro pre os s a k he ho hf h0 hs ha hk
  obtain⟨k,rfl⟩:∃ k',k=k'+1:=⟨k-1,by simp at hk;omega⟩
  have hlen:pre.length+(r.length+1)=fs.length:=by rw[he];simp
  have hxf:idx fs (pre.length:Int)=some f:=by rw[he];exact idx_mid _ _ _
  have hf2:=hf f List.mem_cons_self
  have hif:idx (x++b) f.2=some (exn x f.2):=by rw[idx_exn (by rw[List.length_append];omega),exn_app hf2]
  obtain⟨e1,e2,e3⟩:=hx.get (by omega) f.2
  have hu:=up_bd e1 h0
  have huc:=up_cap (C:=1048576) e1 (by omega) hs
  have hol:(os++List.replicate (f :: r).length (0:Int)).length=fs.length:=by simp[ho];omega
  have hset:∀ v:Int,(os++List.replicate (f :: r).length (0:Int)).set pre.length v=(os++[v])++List.replicate r.length 0:=fun v=>by
   rw[List.set_append_right _ _ (by omega),List.length_cons,List.replicate_succ,show pre.length-os.length=0 by omega,List.set_cons_zero,List.append_assoc];rfl
  have ih:=ih (pre++[f]) (os++[up (exn x f.2).2 s]) (min 1048576 (up (exn x f.2).2 s+(exn x f.2).1)) (max a (exn x f.2).2) k (by rw[he];simp) (by simp[ho]) (fun g h=>hf g (List.mem_cons_of_mem _ h)) (by omega) (by omega) (ha.max e1) (by simp at hk;omega)
  rw[f117.L0_4_succ,lt_dec (by omega),bif_l,hxf,Option.bind_some,hif,Option.bind_some,inR_int (by rw[hol];omega),chk_true,iandnot_up e1 ⟨h0,by omega⟩,Int.toNat_natCast,get_getD (by rw[hol];omega),Option.bind_some,hset,inR_int (by simp[ho];omega),chk_true]
  have hg:(os++[up (exn x f.2).2 s]++List.replicate r.length (0:Int))[pre.length]?=some (up (exn x f.2).2 s):=by
   rw[List.append_assoc,List.getElem?_append_right (by omega),ho,Nat.sub_self];rfl
  rw[hg,Option.bind_some,wi64_succ (by omega),wi64_in (by omega)]
  rw[show ((pre++[f]).length:Int)=((pre.length+1:Nat):Int) by simp] at ih
  rw[ih]
  simp only[layF]
  rw[List.append_assoc];rfl
theorem lay_ok {N:Nat} {x b:List Ex} (hN:1100<N) (hx:EX 1048576 x) {fs:List Field} (hl:fs.length≤1000) (hf:∀ f,f∈fs→0≤f.2∧f.2<x.length) :
  F117 N (x++b,fs)=some ((layF 1048576 x 0 1 fs).1,up (layF 1048576 x 0 1 fs).2.2 (layF 1048576 x 0 1 fs).2.1,(layF 1048576 x 0 1 fs).2.2):=by
 have h0:decide (0≤(fs.length:Int))=true:=decide_eq_true (by omega)
 have hr:(decide (Int.toNat (fs.length:Int)≤Int.toNat (fs.length:Int))&&room (Int.toNat (fs.length:Int)) 8)=true:=by
  rw[decide_eq_true (Nat.le_refl _),Int.toNat_natCast,room_small (by omega) (by omega)];rfl
 have:=lay_loop (N:=N) (b:=b) hx hl 0 0 fs [] [] 0 1 N rfl rfl hf (by omega) (by omega) (.inl rfl) (by omega)
 rw[show (([]:List Field).length:Int)=0 from rfl,List.nil_append,List.nil_append] at this
 obtain⟨b1,b2,_⟩:=layF_bd (C:=1048576) (by omega) hx fs 0 1 (by omega) (by omega) (.inl rfl)
 rw[F117_eq,h0,chk_true,chk_true,hr,chk_true,Int.toNat_natCast,this,Option.bind_some]
 simp only
 rw[iandnot_up b2 ⟨b1.1,by omega⟩]
theorem idx_map {α β : Type} {g : α→β} {x:List α} {i:Int} {y : α} (h:idx x i=some y):idx (x.map g) i=some (g y):=by
 obtain⟨h1,h2⟩:=idx_some h
 refine idx_of_get h1 ?_
 rw[List.getElem?_map,h2];rfl
theorem tog_loop {N:Nat} {x:List Ex} (hx:EX 1000000 x) {fs:List Field} (hl:fs.length≤1000):∀ (r pre:List Field) (os:List Int) (s a:Int) (k:Nat),fs=pre++r→os.length=pre.length→(∀ f,f∈r→0≤f.2∧f.2<x.length)→0≤s→s≤1000000→AL a→r.length<k→
  f87.L0_5 N k (x.map (·.1),x.map (·.2),fs,os,s,a,(pre.length:Int))=some (os++(layF 1000000 x s a r).1,(layF 1000000 x s a r).2.1,(layF 1000000 x s a r).2.2):=by
 intro r
 induction r with
 |nil=>
  intro pre os s a k he _ _ _ _ _ hk
  obtain⟨k,rfl⟩:∃ k',k=k'+1:=⟨k-1,by simp at hk;omega⟩
  rw[List.append_nil] at he;subst he
  rw[f87.L0_5_succ,ge_dec,bif_r]
  simp only[layF,List.append_nil]
 |cons f r ih=>
  intro pre os s a k he ho hf h0 hs ha hk
  obtain⟨k,rfl⟩:∃ k',k=k'+1:=⟨k-1,by simp at hk;omega⟩
  have hlen:pre.length+(r.length+1)=fs.length:=by rw[he];simp
  have hxf:idx fs (pre.length:Int)=some f:=by rw[he];exact idx_mid _ _ _
  have hf2:=hf f List.mem_cons_self
  obtain⟨e1,e2,e3⟩:=hx.get (by omega) f.2
  have hu:=up_bd e1 h0
  have huc:=up_cap (C:=1000000) e1 (by omega) hs
  have hi:=idx_exn hf2
  have ih:=ih (pre++[f]) (os++[up (exn x f.2).2 s]) (min 1000000 (up (exn x f.2).2 s+(exn x f.2).1)) (max a (exn x f.2).2) k (by rw[he];simp) (by simp[ho]) (fun g h=>hf g (List.mem_cons_of_mem _ h)) (by omega) (by omega) (ha.max e1) (by simp at hk;omega)
  rw[f87.L0_5_succ,lt_dec (by omega),bif_l,hxf,Option.bind_some,idx_map (g:=fun e:Ex=>e.2) hi,Option.bind_some,up05_ok e1 ⟨h0,by omega⟩,Option.bind_some,room_small (by omega) (by omega),chk_true,idx_map (g:=fun e:Ex=>e.1) hi,Option.bind_some,Option.bind_some,wi64_succ (by omega),wi64_in (by omega)]
  rw[show ((pre++[f]).length:Int)=((pre.length+1:Nat):Int) by simp] at ih
  rw[ih]
  simp only[layF]
  rw[List.append_assoc];rfl
theorem tog_ok {N:Nat} {x:List Ex} (hN:1100<N) (hx:EX 1000000 x) {fs:List Field} (hl:fs.length≤1000) (hf:∀ f,f∈fs→0≤f.2∧f.2<x.length) :
  F87 N (x.map (·.1),x.map (·.2),fs)=some ((layF 1000000 x 0 1 fs).1,up (layF 1000000 x 0 1 fs).2.2 (layF 1000000 x 0 1 fs).2.1,(layF 1000000 x 0 1 fs).2.2):=by
 have:=tog_loop (N:=N) hx hl fs [] [] 0 1 N rfl rfl hf (by omega) (by omega) (.inl rfl) (by omega)
 rw[show (([]:List Field).length:Int)=0 from rfl,List.nil_append] at this
 obtain⟨b1,b2,_⟩:=layF_bd (C:=1000000) (by omega) hx fs 0 1 (by omega) (by omega) (.inl rfl)
 have:=up_cap (C:=1000000) b2 (by omega) b1.2
 rw[F87_eq,‹f87.L0_5 N N _=_›,Option.bind_some,up05_ok b2 ⟨b1.1,by omega⟩,Option.bind_some]
 simp only
 congr 3
 omega
noncomputable def estep (C:Int) (out:List Ex) (t:GType):Ex:=
 if t.1=1 then (1,1) else if t.1=3 then (16,8) else if t.1=7 then (24,8)
 else if t.1=6 then (min C (t.2.2.1*(exn out t.2.1).1),(exn out t.2.1).2)
 else if t.1=5 then (up (layF C out 0 1 t.2.2.2).2.2 (layF C out 0 1 t.2.2.2).2.1,(layF C out 0 1 t.2.2.2).2.2)
 else (8,8)
noncomputable def eOut (C:Int) (l:List GType):Nat→List Ex
 |0=>[]
 |i+1=>eOut C l i++[estep C (eOut C l i) (tyn l i)]
theorem eOut_len (C:Int) (l:List GType):∀ i,(eOut C l i).length=i
 |0=>rfl
 |i+1=>by simp[eOut,eOut_len C l i]
theorem mul_bd16 {a b C:Int} (ha:1≤a∧a≤16) (hb:0≤b∧b≤C) (_hC:0≤C):0≤a*b∧a*b≤16*C:=
 ⟨Int.mul_nonneg (by omega) hb.1,Int.mul_le_mul ha.2 hb.2 hb.1 (by omega)⟩
theorem estep_ex {C:Int} (hC:1000≤C) (h8:C % 8=0) {out:List Ex} (ho:EX C out) {n i:Nat} {t:GType} (ht:TypeOK n i t):AL (estep C out t).2∧0≤(estep C out t).1∧(estep C out t).1≤C:=by
 unfold estep
 have ha:=ho.get (by omega) t.2.1
 obtain⟨b1,b2,_⟩:=layF_bd (C:=C) (by omega) ho t.2.2.2 0 1 (by omega) (by omega) (.inl rfl)
 have hc:=up_cap b2 h8 b1.2
 have hu:=up_bd b2 b1.1
 split
 ·exact⟨.inl rfl,by show (0:Int)≤1;omega,by show (1:Int)≤C;omega⟩
 ·split
  ·exact⟨.inr rfl,by show (0:Int)≤16;omega,by show (16:Int)≤C;omega⟩
  ·split
   ·exact⟨.inr rfl,by show (0:Int)≤24;omega,by show (24:Int)≤C;omega⟩
   ·split
    ·rename_i h6
     have:=mul_bd16 (ht.arr h6).2 ha.2 (by omega)
     exact⟨ha.1,by show 0≤min C _;omega,by show min C _≤C;omega⟩
    ·split
     ·exact⟨b2,by show 0≤up _ _;omega,hc⟩
     ·exact⟨.inr rfl,by show (0:Int)≤8;omega,by show (8:Int)≤C;omega⟩
theorem eOut_EX {C:Int} (hC:1000≤C) (h8:C % 8=0) {l:List GType} (ht:AllT l):∀ i,i≤l.length→EX C (eOut C l i)
 |0,_=>fun e he=>by cases he
 |i+1,hi=>fun e he=>by
  simp only[eOut,List.mem_append,List.mem_singleton] at he
  rcases he with he|rfl
  ·exact eOut_EX hC h8 ht i (by omega) e he
  ·exact estep_ex hC h8 (eOut_EX hC h8 ht i (by omega)) (ht i (by omega))
theorem layF_app {C:Int} {a b:List Ex} : ∀ (fs:List Field) (s m:Int),(∀ f,f∈fs→0≤f.2∧f.2<a.length)→layF C (a++b) s m fs=layF C a s m fs
 |[],_,_,_=>rfl
 |f :: r,s,m,h=>by
  have hf:=exn_app (b:=b) (h f List.mem_cons_self)
  simp only[layF]
  rw[hf,layF_app r _ _ fun g hg=>h g (List.mem_cons_of_mem _ hg)]
theorem set_ex {a:List Ex} {n i:Nat} {v:Ex} (ha:a.length=i) (hi:i<n):(a++List.replicate (n-i) (0,0)).set i v=(a++[v])++List.replicate (n-(i+1)) (0,0):=by
 rw[List.set_append_right _ _ (by omega),show n-i=(n-(i+1))+1 by omega,List.replicate_succ,show i-a.length=0 by omega,List.set_cons_zero,List.append_assoc];rfl
open Go Go.Eng Go.Sym
open Classical
theorem kinds_cases {n i:Nat} {t:GType} (h:TypeOK n i t):t.1=1∨t.1=2∨t.1=3∨t.1=4∨t.1=5∨t.1=6∨t.1=7:=by
 unfold TypeOK at h
 split at h
 ·omega
 ·split at h
  ·omega
  ·split at h
   ·omega
   ·split at h
    ·omega
    ·exact h.elim
theorem extents_ok {N:Nat} {l:List GType} (hN:1100<N) (hl:l.length≤100) (ht:AllT l):F100 N l=some (eOut 1048576 l l.length):=by
 have h0:decide (0≤(l.length:Int))=true:=decide_eq_true (by omega)
 have hr:(decide (Int.toNat (l.length:Int)≤Int.toNat (l.length:Int))&&room (Int.toNat (l.length:Int)) 16)=true:=by
  rw[decide_eq_true (Nat.le_refl _),Int.toNat_natCast,room_small (by omega) (by omega)];rfl
 rw[F100_eq,h0,chk_true,chk_true,hr,chk_true,Int.toNat_natCast]
 have key := loop_up (n := l.length) (Lf := fun k i => f100.L0_4 N k (l, (l.length : Int), i, eOut 1048576 l i.toNat ++ List.replicate (l.length - i.toNat) (0, 0))) (g := fun _ => some (eOut 1048576 l l.length)) (fun k => by
   simp only[f100.L0_4_succ,ge_dec,bif_r,Int.toNat_natCast,Nat.sub_self,List.replicate_zero,List.append_nil]) (fun k i hi ih=>by
   have e:idx l (i:Int)=some (tyn l i):=idx_getD _ hi
   have ht':=ht i hi
   have hff:=ht'.fields
   have hE:=eOut_EX (C:=1048576) (by omega) (by omega) ht i (by omega)
   have hol:=eOut_len 1048576 l i
   have hnl:(eOut 1048576 l i++List.replicate (l.length-i) ((0:Int),(0:Int))).length=l.length:=by simp[hol];omega
   have hset:∀ v:Ex,(eOut 1048576 l i++List.replicate (l.length-i) (0,0)).set i v=(eOut 1048576 l i++[v])++List.replicate (l.length-(i+1)) (0,0):=fun v=>set_ex hol hi
   obtain⟨w,hw⟩:=get_of_lt (l:=eOut 1048576 l i++List.replicate (l.length-i) ((0:Int),(0:Int))) (i:=i) (by omega)
   simp only[Int.toNat_natCast] at ih ⊢
   rw[eOut] at ih
   have fin:∀ v:Ex,v=estep 1048576 (eOut 1048576 l i) (tyn l i)→f100.L0_4 N k (l,(l.length:Int),((i+1:Nat):Int),(eOut 1048576 l i++[v])++List.replicate (l.length-(i+1)) (0,0))=some (eOut 1048576 l l.length):=by
    rintro _ rfl;exact ih
   have hin:inR (i:Int) (eOut 1048576 l i++List.replicate (l.length-i) ((0:Int),(0:Int))).length=true:=by rw[hnl];exact inR_lt hi
   simp only[f100.L0_4_succ,lt_dec hi,bif_l,e,Option.bind_some,Int.toNat_natCast,hin,hw,hset,chk_true,wi64_succ (show i<9223372036854775807 by omega),bif_tt]
   unfold estep at fin
   rcases kinds_cases ht' with h|h|h|h|h|h|h
   ·rw[h];exact fin _ (by rw[if_pos h])
   ·rw[h];exact fin _ (by rw[h];rfl)
   ·rw[h];exact fin _ (by rw[h];rfl)
   ·rw[h];exact fin _ (by rw[h];rfl)
   ·rw [h] at fin ⊢
    have:=lay_ok (N:=N) (b:=List.replicate (l.length-i) (0,0)) hN hE (fs:=(tyn l i).2.2.2) (by omega) (fun f hf=>by rw[hol];exact hff.2.2 f hf)
    have hq:(Option.bind (F117 N (eOut 1048576 l i++List.replicate (l.length-i) (0,0),(tyn l i).2.2.2)) fun y12=>
      f100.L0_4 N k (l,(l.length:Int),((i+1:Nat):Int),(eOut 1048576 l i++[y12.2])++List.replicate (l.length-(i+1)) (0,0)))=some (eOut 1048576 l l.length):=by
     rw[this,Option.bind_some];exact fin _ rfl
    exact hq
   ·have hp := ht'.arr h
    have ha:=hE.get (by omega) (tyn l i).2.1
    have hm:=mul_bd16 hp.2 ha.2 (by omega)
    have hx:(eOut 1048576 l i++List.replicate (l.length-i) ((0:Int),(0:Int)))[(tyn l i).2.1.toNat]?=some (exn (eOut 1048576 l i) (tyn l i).2.1):=by
     have:=(idx_some (idx_exn (x:=eOut 1048576 l i++List.replicate (l.length-i) ((0:Int),(0:Int))) (i:=(tyn l i).2.1) (by rw[hnl];omega))).2
     rw[this,exn_app (by rw[hol];exact hp.1)]
    have hq:(chk (inR (tyn l i).2.1 (eOut 1048576 l i++List.replicate (l.length-i) ((0:Int),(0:Int))).length) (Option.bind ((eOut 1048576 l i++List.replicate (l.length-i) ((0:Int),(0:Int)))[(Int.toNat (tyn l i).2.1)]?) fun x10=>
      f100.L0_4 N k (l,(l.length:Int),((i+1:Nat):Int),(eOut 1048576 l i++[((min (1048576:Int) (wi64 ((tyn l i).2.2.1*x10.1))),x10.2)])++List.replicate (l.length-(i+1)) (0,0))))=some (eOut 1048576 l l.length):=by
     rw[inR_int (by rw[hnl];omega),chk_true,hx,Option.bind_some]
     refine fin _ ?_
     rw[wi64_in (by omega),h];rfl
    rw[h];exact hq
   ·rw[h];exact fin _ (by rw[h];rfl)) N 0 (by omega) (by omega)
 have:f100.L0_4 N N (l,(l.length:Int),(0:Int),List.replicate l.length (0,0))=some (eOut 1048576 l l.length):=by simpa[eOut] using key
 rw[this];rfl
theorem sizes_ok {N:Nat} {l:List GType} (hN:1100<N) (hl:l.length≤100) (ht:AllT l):F60 N l=some ((eOut 1000000 l l.length).map (·.1),(eOut 1000000 l l.length).map (·.2)):=by
 rw[F60_eq]
 have key := loop_up (n := l.length) (Lf := fun k i => f60.L0_4 N k (l, (eOut 1000000 l i.toNat).map (·.1), (eOut 1000000 l i.toNat).map (·.2), i)) (g := fun _ => some ((eOut 1000000 l l.length).map (·.1), (eOut 1000000 l l.length).map (·.2))) (fun k => by
   simp only[f60.L0_4_succ,ge_dec,bif_r,Int.toNat_natCast]) (fun k i hi ih=>by
   have e:idx l (i:Int)=some (tyn l i):=idx_getD _ hi
   have ht':=ht i hi
   have hff:=ht'.fields
   have hE:=eOut_EX (C:=1000000) (by omega) (by omega) ht i (by omega)
   have hol:=eOut_len 1000000 l i
   simp only[Int.toNat_natCast] at ih ⊢
   rw[eOut,List.map_append,List.map_append,List.map_cons,List.map_cons,List.map_nil,List.map_nil] at ih
   have fin:∀ a b:Int,(a,b)=estep 1000000 (eOut 1000000 l i) (tyn l i)→f60.L0_4 N k (l,(eOut 1000000 l i).map (·.1)++[a],(eOut 1000000 l i).map (·.2)++[b],((i+1:Nat):Int))=some ((eOut 1000000 l l.length).map (·.1),(eOut 1000000 l l.length).map (·.2)):=by
    intro a b h
    rw[←h] at ih
    exact ih
   have r1:room (((eOut 1000000 l i).map (·.1)).length+1) 8=true:=room_small (by rw[List.length_map];omega) (by omega)
   have r2:room (((eOut 1000000 l i).map (·.2)).length+1) 8=true:=room_small (by rw[List.length_map];omega) (by omega)
   simp only[f60.L0_4_succ,lt_dec hi,bif_l,e,Option.bind_some,r1,r2,chk_true,wi64_succ (show i<9223372036854775807 by omega)]
   unfold estep at fin
   rcases kinds_cases ht' with h|h|h|h|h|h|h
   ·rw[h];exact fin _ _ (by rw[if_pos h])
   ·rw[h];exact fin _ _ (by rw[h];rfl)
   ·rw[h];exact fin _ _ (by rw[h];rfl)
   ·rw[h];exact fin _ _ (by rw[h];rfl)
   ·have := tog_ok (N := N) hN hE (fs := (tyn l i).2.2.2) (by omega) (fun f hf => by rw [hol]; exact hff.2.2 f hf)
    have hq:(Option.bind (F87 N ((eOut 1000000 l i).map (·.1),(eOut 1000000 l i).map (·.2),(tyn l i).2.2.2)) fun y11=>
      f60.L0_4 N k (l,(eOut 1000000 l i).map (·.1)++[y11.2.1],(eOut 1000000 l i).map (·.2)++[y11.2.2],((i+1:Nat):Int)))=some ((eOut 1000000 l l.length).map (·.1),(eOut 1000000 l l.length).map (·.2)):=by
     rw[this,Option.bind_some];exact fin _ _ (by rw[h];rfl)
    rw[h];exact hq
   ·have hp := ht'.arr h
    have ha:=hE.get (by omega) (tyn l i).2.1
    have hm:=mul_bd16 hp.2 ha.2 (by omega)
    have hi2:idx (eOut 1000000 l i) (tyn l i).2.1=some (exn (eOut 1000000 l i) (tyn l i).2.1):=idx_exn (by rw[hol];exact hp.1)
    have hq:(Option.bind (idx ((eOut 1000000 l i).map (·.1)) (tyn l i).2.1) fun x7=>(Option.bind (idx ((eOut 1000000 l i).map (·.2)) (tyn l i).2.1) fun x9=>
      f60.L0_4 N k (l,(eOut 1000000 l i).map (·.1)++[(min (1000000:Int) (wi64 ((tyn l i).2.2.1*x7)))],(eOut 1000000 l i).map (·.2)++[x9],((i+1:Nat):Int))))=some ((eOut 1000000 l l.length).map (·.1),(eOut 1000000 l l.length).map (·.2)):=by
     rw[idx_map (g:=fun e:Ex=>e.1) hi2,Option.bind_some,idx_map (g:=fun e:Ex=>e.2) hi2,Option.bind_some,wi64_in (by omega)]
     exact fin _ _ (by rw[h];rfl)
    rw[h];exact hq
   ·rw[h];exact fin _ _ (by rw[h];rfl)) N 0 (by omega) (by omega)
 have:f60.L0_4 N N (l,[],[],(0:Int))=some ((eOut 1000000 l l.length).map (·.1),(eOut 1000000 l l.length).map (·.2)):=by simpa[eOut] using key
 rw[this];rfl
noncomputable def Rel (a b:Ex):Prop:=(a.1=b.1∨(256<a.1∧256<b.1))∧a.2=b.2
theorem layF_rel {x y:List Ex} (hx:EX 1048576 x) (hy:EX 1000000 y) (h:∀ i:Int,Rel (exn x i) (exn y i)):∀ (fs:List Field) (s s' a:Int),(s=s'∨(256<s∧256<s'))→0≤s→0≤s'→s≤1048576→s'≤1000000→AL a→
  ((layF 1048576 x s a fs).2.1=(layF 1000000 y s' a fs).2.1∨(256<(layF 1048576 x s a fs).2.1∧256<(layF 1000000 y s' a fs).2.1))∧(layF 1048576 x s a fs).2.2=(layF 1000000 y s' a fs).2.2
 |[],s,s',a,hs,_,_,_,_,_=>⟨hs,rfl⟩
 | f :: r, s, s', a, hs, h0, h0', hc, hc', ha => by
  obtain⟨e1,e2,e3⟩:=hx.get (by omega) f.2
  obtain⟨g1,g2,g3⟩:=hy.get (by omega) f.2
  obtain⟨r1,r2⟩:=h f.2
  simp only[layF]
  rw[←r2] at g1 ⊢
  have u1:=up_bd e1 h0
  have u2:=up_bd e1 h0'
  refine layF_rel hx hy h r _ _ _ ?_ (by omega) (by omega) (by omega) (by omega) (ha.max e1)
  rcases hs with rfl|hs
  ·rcases r1 with r1 | r1
   ·by_cases hb : up (exn x f.2).2 s + (exn x f.2).1 ≤ 1000000
    ·left;rw[r1] at hb ⊢;omega
    ·right;omega
   ·right;omega
  ·right;omega
theorem estep_rel {x y:List Ex} (hx:EX 1048576 x) (hy:EX 1000000 y) (h:∀ i:Int,Rel (exn x i) (exn y i)) {n i:Nat} {t:GType} (ht:TypeOK n i t):Rel (estep 1048576 x t) (estep 1000000 y t):=by
 unfold estep
 split
 ·exact⟨.inl rfl,rfl⟩
 ·split
  ·exact⟨.inl rfl,rfl⟩
  ·split
   ·exact⟨.inl rfl,rfl⟩
   ·split
    ·rename_i h6
     obtain⟨r1,r2⟩:=h t.2.1
     have e:=hx.get (by omega) t.2.1
     have g:=hy.get (by omega) t.2.1
     have hl:=(ht.arr h6).2
     have k1:(exn x t.2.1).1≤t.2.2.1*(exn x t.2.1).1:=by
      have:=Int.mul_le_mul_of_nonneg_right hl.1 e.2.1
      omega
     have k2:(exn y t.2.1).1≤t.2.2.1*(exn y t.2.1).1:=by
      have:=Int.mul_le_mul_of_nonneg_right hl.1 g.2.1
      omega
     refine⟨?_,r2⟩
     show min 1048576 _=min 1000000 _∨(256<min 1048576 _∧256<min 1000000 _)
     rcases r1 with r1|r1
     ·rw [← r1]
      generalize t.2.2.1*(exn x t.2.1).1=m
      by_cases hb:m≤1000000
      ·left;omega
      ·right;omega
     ·right;omega
    ·split
     ·obtain ⟨q1, q2⟩ := layF_rel hx hy h t.2.2.2 0 0 1 (.inl rfl) (by omega) (by omega) (by omega) (by omega) (.inl rfl)
      obtain⟨b1,b2,_⟩:=layF_bd (C:=1048576) (by omega) hx t.2.2.2 0 1 (by omega) (by omega) (.inl rfl)
      obtain⟨c1,c2,_⟩:=layF_bd (C:=1000000) (by omega) hy t.2.2.2 0 1 (by omega) (by omega) (.inl rfl)
      refine⟨?_,q2⟩
      show up _ _=up _ _∨(256<up _ _∧256<up _ _)
      rcases q1 with q1|q1
      ·left;rw[q1,q2]
      ·have := up_bd b2 b1.1
       have:=up_bd c2 c1.1
       right;omega
     ·exact⟨.inl rfl,rfl⟩
theorem exn_snoc {a:List Ex} {v:Ex} (i:Int):exn (a++[v]) i=if i.toNat<a.length then exn a i else if i.toNat=a.length then v else (0,1):=by
 unfold exn
 rw[List.getD_eq_getElem?_getD]
 split
 ·rw[List.getElem?_append_left (by assumption),List.getD_eq_getElem?_getD]
 ·rw [List.getElem?_append_right (by omega)]
  split
  ·rename_i h;rw[h,Nat.sub_self];rfl
  ·rw[List.getElem?_eq_none (by simp;omega)];rfl
theorem eOut_rel {l:List GType} (ht:AllT l):∀ i,i≤l.length→∀ j:Int,Rel (exn (eOut 1048576 l i) j) (exn (eOut 1000000 l i) j)
 |0,_,j=>⟨.inl rfl,rfl⟩
 | i + 1, hi, j => by
  rw[eOut,eOut,exn_snoc,exn_snoc,eOut_len,eOut_len]
  split
  ·exact eOut_rel ht i (by omega) j
  ·split
   ·exact estep_rel (eOut_EX (by omega) (by omega) ht i (by omega)) (eOut_EX (by omega) (by omega) ht i (by omega)) (eOut_rel ht i (by omega)) (ht i (by omega))
   ·exact⟨.inl rfl,rfl⟩
noncomputable def exs (l:List GType):List Ex:=eOut 1048576 l l.length
noncomputable def SizesOK (l:List GType):Prop:=∀ i:Nat,i<l.length→(exn (exs l) i).1≤256
theorem exs_len (l:List GType):(exs l).length=l.length:=eOut_len _ _ _
theorem size_ok {N:Nat} {l:List GType} (hN:1300<N) (hl:tyFit l) (ht:TableOK l) {i:Int} (hi:0≤i∧i<l.length) :
  F52 N (l,i)=some (if (exn (exs l) i).1≤256 then ((exn (exs l) i).1,(exn (exs l) i).2,0) else (0,0,16)):=by
 have e:idx (exs l) i=some (exn (exs l) i):=idx_exn (by rw[exs_len];exact hi)
 rw[F52_eq,F77_eq,checkK_ok hN hl,if_pos ht,Option.bind_some,ne00,bif_r,decide_eq_false (show ¬i<0 by omega),bif_r,Option.bind_some,decide_eq_false (show ¬i≥(l.length:Int) by omega),bif_r,extents_ok (by omega) hl.1 ht.2.1,Option.bind_some,show eOut 1048576 l l.length=exs l from rfl,e,Option.bind_some]
 by_cases h:(exn (exs l) i).1≤256
 ·rw [if_pos h, decide_eq_false (show ¬ (exn (exs l) i).1 > 256 by omega), bif_r, Option.bind_some]
  simp only
  rw[ne00,bif_r,e];rfl
 ·rw[if_neg h,decide_eq_true (show (exn (exs l) i).1>256 by omega),bif_l];rfl
open Go Go.Eng Go.Sym
open Classical
noncomputable def rangeB (l:List Field) (n:Nat):Prop:=∀ f,f∈l→0≤f.2∧f.2<n
noncomputable def FuncOK (n:Nat) (f:Func):Prop:=
 nameB f.1=true∧f.2.2.2.1.length≤16∧FieldsOK f.2.2.2.1∧(0≤f.2.1∧f.2.1≤f.2.2.2.1.length)∧(-1≤f.2.2.1∧f.2.2.1<n)∧rangeB f.2.2.2.1 n∧
 (1≤f.2.2.2.2.1.length∧f.2.2.2.2.1.length≤200)∧(∀ x,x∈f.2.2.2.2.1→chkI x=true)∧RunsOK f.2.2.2.2.2.1 f.2.2.2.2.1.length∧RunsOK f.2.2.2.2.2.2 f.2.2.2.2.1.length
noncomputable def fnFit (f:Func):Prop:=f.2.2.2.1.length≤30∧f.2.2.2.2.1.length≤300∧f.2.2.2.2.2.1.length≤300∧f.2.2.2.2.2.2.length≤300∧(∀ x,x∈f.2.2.2.2.1→okI x)∧okR f.2.2.2.2.2.1∧okR f.2.2.2.2.2.2
theorem fn_range {N:Nat} {l:List Field} {ts:List GType} (hN:l.length<N) (hl:l.length≤1000) (a:List UInt8) (b c:Int) (d:List Field) (e:List Instr) (f g:List Run) :
  f53.L0_6 N N (ts,l,(l.length:Int),(0:Int),a,b,c,d,e,f,g)=some (if rangeB l ts.length then .inr (a,b,c,d,e,f,g) else .inl false):=by
 have key:=loop_lst (l:=l) (a:=(.inr (a,b,c,d,e,f,g):Bool⊕(List UInt8×Int×Int×List Field×List Instr×List Run×List Run))) (b:=.inl false) (p:=fun x=>!decide (0≤x.2∧x.2<(ts.length:Int)))
  (Lf := fun k i => f53.L0_6 N k (ts, l, (l.length : Int), i, a, b, c, d, e, f, g)) (fun k _ => by
   simp only[f53.L0_6_succ,ge_dec,bif_r]) (fun k i x hx hm=>by
   simp only[f53.L0_6_succ,lt_dec (len_pos hx),bif_l,idx_get hx,Option.bind_some,wi64_succ (show i<9223372036854775807 by have:=len_pos hx;omega),bif_tt]
   by_cases h:0≤x.2∧x.2<(ts.length:Int)
   ·rw[decT h,decF (show ¬x.2<0 by omega),decF (show ¬x.2≥(ts.length:Int) by omega)];rfl
   ·rw [decF h]
    by_cases h1:x.2<0
    ·rw[decT h1];rfl
    ·rw[decT (show x.2≥(ts.length:Int) by omega),Bool.or_true];rfl) (k:=N) hN
 rw[key,ex_notL]
 simp only[decide_eq_true_eq]
 exact congrArg some (ite_iff Iff.rfl)
theorem fn_range09 {N:Nat} {l:List Field} {ts:List GType} (hN:l.length<N) (hl:l.length≤1000) (a:List UInt8) (b c:Int) (e:List Instr) (f g:List Run) :
  f61.L0_6 N N (ts,(0:Int),a,b,c,l,e,f,g)=some (if rangeB l ts.length then .inr (a,b,c,l,e,f,g) else .inl false):=by
 have key:=loop_lst (l:=l) (a:=(.inr (a,b,c,l,e,f,g):Bool⊕(List UInt8×Int×Int×List Field×List Instr×List Run×List Run))) (b:=.inl false) (p:=fun x=>!decide (0≤x.2∧x.2<(ts.length:Int)))
  (Lf := fun k i => f61.L0_6 N k (ts, i, a, b, c, l, e, f, g)) (fun k _ => by
   simp only[f61.L0_6_succ,ge_dec,bif_r]) (fun k i x hx hm=>by
   simp only[f61.L0_6_succ,lt_dec (len_pos hx),bif_l,idx_get hx,Option.bind_some,wi64_succ (show i<9223372036854775807 by have:=len_pos hx;omega),bif_tt]
   by_cases h:0≤x.2∧x.2<(ts.length:Int)
   ·rw[decT h,decF (show ¬x.2<0 by omega),decF (show ¬x.2≥(ts.length:Int) by omega)];rfl
   ·rw [decF h]
    by_cases h1:x.2<0
    ·rw[decT h1];rfl
    ·rw[decT (show x.2≥(ts.length:Int) by omega),Bool.or_true];rfl) (k:=N) hN
 rw[key,ex_notL]
 simp only[decide_eq_true_eq]
 exact congrArg some (ite_iff Iff.rfl)
theorem fn_code {N:Nat} {l:List Instr} (hN:l.length<N) (hl:l.length≤1000) (a:List UInt8) (b c:Int) (d:List Field) (e:List Instr) (f g:List Run) :
  f53.L0_17 N N (l,(l.length:Int),(0:Int),a,b,c,d,e,f,g)=some (if ∀ x,x∈l→chkI x=true then .inr (a,b,c,d,e,f,g) else .inl false):=by
 have key:=loop_lst (l:=l) (a:=(.inr (a,b,c,d,e,f,g):Bool⊕(List UInt8×Int×Int×List Field×List Instr×List Run×List Run))) (b:=.inl false) (p:=fun x=>!chkI x)
  (Lf := fun k i => f53.L0_17 N k (l, (l.length : Int), i, a, b, c, d, e, f, g)) (fun k _ => by
   simp only[f53.L0_17_succ,ge_dec,bif_r]) (fun k i x hx hm=>by
   simp only[f53.L0_17_succ,lt_dec (len_pos hx),bif_l,idx_get hx,Option.bind_some,wi64_succ (show i<9223372036854775807 by have:=len_pos hx;omega),checkO_ok]
   by_cases h:chkI x=true
   ·simp[h]
   ·simp[h]) (k:=N) hN
 rw[key,ex_notL]
theorem fn_code09 {N:Nat} {l:List Instr} (hN:l.length<N) (hl:l.length≤1000) (hx:∀ x,x∈l→okI x) (a:List UInt8) (b c:Int) (d:List Field) (f g:List Run) :
  f61.L0_16 N N ((0:Int),a,b,c,d,l,f,g)=some (if ∀ x,x∈l→chkI x=true then .inr (a,b,c,d,l,f,g) else .inl false):=by
 have key:=loop_lst (l:=l) (a:=(.inr (a,b,c,d,l,f,g):Bool⊕(List UInt8×Int×Int×List Field×List Instr×List Run×List Run))) (b:=.inl false) (p:=fun x=>!chkI x)
  (Lf := fun k i => f61.L0_16 N k (i, a, b, c, d, l, f, g)) (fun k _ => by
   simp only[f61.L0_16_succ,ge_dec,bif_r]) (fun k i x hx' hm=>by
   simp only[f61.L0_16_succ,lt_dec (len_pos hx'),bif_l,idx_get hx',Option.bind_some,wi64_succ (show i<9223372036854775807 by have:=len_pos hx';omega),check06_ok N (hx x hm)]
   by_cases h:chkI x=true
   ·simp[h]
   ·simp[h]) (k:=N) hN
 rw[key,ex_notL]
theorem function_ok {N:Nat} {ts:List GType} {f:Func} (hN:1300<N) (hf:fnFit f):F53 N (ts,f.1,f.2.1,f.2.2.1,f.2.2.2.1,f.2.2.2.2.1,f.2.2.2.2.2.1,f.2.2.2.2.2.2)=some (decide (FuncOK ts.length f)):=by
 obtain⟨nm,pa,re,sl,co,si,li⟩:=f
 obtain⟨g1,g2,g3,g4,g5,g6,g7⟩:=hf
 simp only at g1 g2 g3 g4 g5 g6 g7 ⊢
 rw[F53_eq,named_ok (by omega),imgNamed_ok (by omega) (by omega)]
 simp only[Option.bind_some,bif_tt]
 have no:∀ {p:Prop},(FuncOK ts.length (nm,pa,re,sl,co,si,li)→p)→¬p→decide (FuncOK ts.length (nm,pa,re,sl,co,si,li))=false:=fun h hp=>decF fun h'=>hp (h h')
 by_cases hA:nameB nm=true∧sl.length≤16∧FieldsOK sl∧(0≤pa∧pa≤sl.length)∧-1≤re∧re<ts.length
 ·obtain ⟨a1, a2, a3, a4, a5, a6⟩ := hA
  rw[a1,decF (show ¬(sl.length:Int)>16 by omega),decT a3,decF (show ¬pa<0 by omega),decF (show ¬pa>(sl.length:Int) by omega),decF (show ¬re < -1 by omega),decF (show ¬re≥(ts.length:Int) by omega),show (!true||(false||(!true||(false||(false||(false||false))))))=false from rfl,bif_r,fn_range (by omega) (by omega),Option.bind_some]
  by_cases hr:rangeB sl ts.length
  ·rw [if_pos hr]
   simp only
   rw[fn_code (by omega) (by omega),Option.bind_some]
   by_cases hc:∀ x,x∈co→chkI x=true
   ·rw [if_pos hc]
    simp only
    rw[checkT_ok (by omega) (by omega),checkT_ok (by omega) (by omega),Option.bind_some,Option.bind_some]
    by_cases hn:co.length<1∨co.length>200
    ·rw[if_pos hn,no (p:=1≤co.length∧co.length≤200) (fun h=>h.2.2.2.2.2.2.1) (by omega)];rfl
    ·rw [if_neg hn, if_neg hn]
     by_cases hs:RunsOK si co.length
     ·rw [if_pos hs]
      by_cases hv:RunsOK li co.length
      ·rw[if_pos hv,decT (show FuncOK ts.length (nm,pa,re,sl,co,si,li) from⟨a1,a2,a3,a4,⟨a5,a6⟩,hr,by simp only;omega,hc,hs,hv⟩)];rfl
      ·rw[if_neg hv,no (fun h=>h.2.2.2.2.2.2.2.2.2) hv];rfl
     ·rw[if_neg hs,no (fun h=>h.2.2.2.2.2.2.2.2.1) hs];rfl
   ·rw[if_neg hc,no (fun h=>h.2.2.2.2.2.2.2.1) hc]
  ·rw[if_neg hr,no (fun h=>h.2.2.2.2.2.1) hr]
 ·rw [no (fun h => ⟨h.1, h.2.1, h.2.2.1, h.2.2.2.1, h.2.2.2.2.1.1, h.2.2.2.2.1.2⟩) hA]
  have:(!nameB nm||(decide ((sl.length:Int)>16)||(!decide (FieldsOK sl)||(decide (pa<0)||(decide (pa>(sl.length:Int))||(decide (re < -1)||decide (re≥(ts.length:Int))))))))=true:=by
   false_or_by_contra
   rename_i h
   apply hA
   simp only[Bool.not_eq_true,Bool.or_eq_false_iff,Bool.not_eq_false',decide_eq_false_iff_not,decide_eq_true_eq] at h
   obtain⟨k1,k2,k3,k4,k5,k6,k7⟩:=h
   exact⟨k1,by omega,k3,by omega,by omega,by omega⟩
  rw[this,bif_l]
theorem function09_ok {N:Nat} {ts:List GType} {f:Func} (hN:1300<N) (hf:fnFit f):F61 N (ts,f.1,f.2.1,f.2.2.1,f.2.2.2.1,f.2.2.2.2.1,f.2.2.2.2.2.1,f.2.2.2.2.2.2)=some (decide (FuncOK ts.length f)):=by
 obtain⟨nm,pa,re,sl,co,si,li⟩:=f
 obtain⟨g1,g2,g3,g4,g5,g6,g7⟩:=hf
 simp only at g1 g2 g3 g4 g5 g6 g7 ⊢
 rw[F61_eq,named04_ok (by omega),fields04_ok (by omega) (by omega)]
 simp only[Option.bind_some,bif_tt]
 have no:∀ {p:Prop},(FuncOK ts.length (nm,pa,re,sl,co,si,li)→p)→¬p→decide (FuncOK ts.length (nm,pa,re,sl,co,si,li))=false:=fun h hp=>decF fun h'=>hp (h h')
 by_cases hA:nameB nm=true∧((sl.length:Int)≤16∧FieldsOK sl)∧(0≤pa∧pa≤sl.length)∧(-1≤re∧re<ts.length)∧1≤co.length∧co.length≤200
 ·obtain ⟨a1, a3, a4, a5, a6⟩ := hA
  rw[a1,decT a3,decF (show ¬pa<0 by omega),decF (show ¬pa>(sl.length:Int) by omega),decF (show ¬re < -1 by omega),decF (show ¬re≥(ts.length:Int) by omega),decF (show ¬(co.length:Int)<1 by omega),decF (show ¬(co.length:Int)>200 by omega),show (!true||(!true||(false||(false||(false||(false||(false||false)))))))=false from rfl,bif_r,fn_range09 (by omega) (by omega),Option.bind_some]
  by_cases hr:rangeB sl ts.length
  ·rw [if_pos hr]
   simp only
   rw[fn_code09 (by omega) (by omega) g5,Option.bind_some]
   by_cases hc:∀ x,x∈co→chkI x=true
   ·rw [if_pos hc]
    simp only
    rw[fine08_ok (by omega) (by omega),fine08_ok (by omega) (by omega),Option.bind_some,Option.bind_some]
    by_cases hs:RunsOK si co.length
    ·rw [decT hs]
     by_cases hv:RunsOK li co.length
     ·rw[decT hv,decT (show FuncOK ts.length (nm,pa,re,sl,co,si,li) from⟨a1,by simp only;omega,a3.2,a4,a5,hr,a6,hc,hs,hv⟩)];rfl
     ·rw[decF hv,no (fun h=>h.2.2.2.2.2.2.2.2.2) hv];rfl
    ·rw[decF hs,no (fun h=>h.2.2.2.2.2.2.2.2.1) hs];rfl
   ·rw[if_neg hc,no (fun h=>h.2.2.2.2.2.2.2.1) hc]
  ·rw[if_neg hr,no (fun h=>h.2.2.2.2.2.1) hr]
 ·rw [no (fun h => ⟨h.1, ⟨by have := h.2.1; simp only at this; omega, h.2.2.1⟩, h.2.2.2.1, h.2.2.2.2.1, h.2.2.2.2.2.2.1⟩) hA]
  have:(!nameB nm||(!decide ((sl.length:Int)≤16∧FieldsOK sl)||(decide (pa<0)||(decide (pa>(sl.length:Int))||(decide (re < -1)||(decide (re≥(ts.length:Int))||(decide ((co.length:Int)<1)||decide ((co.length:Int)>200))))))))=true:=by
   false_or_by_contra
   rename_i h
   apply hA
   simp only[Bool.not_eq_true,Bool.or_eq_false_iff,Bool.not_eq_false',decide_eq_false_iff_not,decide_eq_true_eq] at h
   obtain⟨k1,k2,k3,k4,k5,k6,k7,k8⟩:=h
   exact⟨k1,k2,by omega,by omega,by omega⟩
  rw[this,bif_l]
noncomputable def fn0:Func:=([],0,0,[],[],[],[])
noncomputable def fnn (l:List Func) (i:Nat):Func:=l.getD i fn0
noncomputable def dupN (l:List Func) (i:Nat):Prop:=∃ j,j<i∧(fnn l j).1=(fnn l i).1
noncomputable def okFn (n:Nat) (l:List Func) (i:Nat):Bool:=decide (FuncOK n (fnn l i)) && !decide (dupN l i)
noncomputable def FineOK (ts:List GType) (xs:List (List UInt8)) (fs:List Func):Prop:=
 TableOK ts∧xs.length≤32∧(1≤fs.length∧fs.length≤32)∧SizesOK ts∧(∀ s,s∈xs→s.length≤64)∧∀ i,i<fs.length→okFn ts.length fs i=true
noncomputable def imgFit (ts:List GType) (xs:List (List UInt8)) (fs:List Func):Prop:=tyFit ts∧xs.length≤50∧(∀ s,s∈xs→s.length≤1000)∧fs.length≤50∧∀ f,f∈fs→fnFit f
theorem hasB_takeN {l:List Func} {i:Nat} (hi:i<l.length):hasB ((l.take i).map (·.1)) (fnn l i).1=decide (dupN l i):=by
 unfold hasB
 by_cases h:dupN l i
 ·rw [decide_eq_true h, List.any_eq_true]
  obtain⟨j,h1,h2⟩:=h
  refine⟨(fnn l j).1,List.mem_map.2 ⟨fnn l j,?_,rfl⟩,decide_eq_true h2.symm⟩
  rw[fnn,List.getD_eq_getElem?_getD,List.getElem?_eq_getElem (by omega)]
  exact List.mem_take_iff_getElem.2 ⟨j,by omega,rfl⟩
 ·rw [decide_eq_false h]
  cases ha:((l.take i).map (·.1)).any fun q=>decide ((fnn l i).1=q) with
  |false=>rfl
  |true=>
   exfalso
   obtain⟨q,h1,h2⟩:=List.any_eq_true.1 ha
   obtain⟨f,h3,rfl⟩:=List.mem_map.1 h1
   obtain⟨j,h4,rfl⟩:=List.mem_take_iff_getElem.1 h3
   refine h ⟨j,by omega,?_⟩
   rw[of_decide_eq_true h2]
   rw[fnn,List.getD_eq_getElem?_getD,List.getElem?_eq_getElem (by omega)];rfl
theorem fnn_get {l:List Func} {i:Nat} (hi:i<l.length):l[i]?=some (fnn l i):=by
 rw[fnn,List.getD_eq_getElem?_getD,List.getElem?_eq_getElem hi];rfl
theorem addB_takeN {l:List Func} {i:Nat} (hi:i<l.length) (h:¬dupN l i):addB ((l.take i).map (·.1)) (fnn l i).1=(l.take (i+1)).map (·.1):=by
 unfold addB
 rw[hasB_takeN hi,decide_eq_false h,take_succ (fnn_get hi),List.map_append]
 rfl
theorem fine_ok {N:Nat} {ts:List GType} {xs:List (List UInt8)} {fs:List Func} (hN:1300<N) (hm:imgFit ts xs fs):F30 N (ts,xs,fs)=some (decide (FineOK ts xs fs)):=by
 obtain⟨m1,m2,m3,m4,m5⟩:=hm
 have no:∀ {p:Prop},(FineOK ts xs fs→p)→¬p→decide (FineOK ts xs fs)=false:=fun h hp=>decF fun h'=>hp (h h')
 have htl:=m1.1
 rw[F30_eq,checkK_ok hN m1]
 simp only[Option.bind_some,bif_tt]
 by_cases hA:TableOK ts∧xs.length≤32∧1≤fs.length∧fs.length≤32
 ·obtain ⟨a1, a2, a3, a4⟩ := hA
  rw[if_pos a1,ne00,decF (show ¬(xs.length:Int)>32 by omega),len_ne0 (show ¬fs.length=0 by omega),decF (show ¬(fs.length:Int)>32 by omega),show (false||(false||(false||false)))=false from rfl,bif_r]
  have key:=loop_rng (n:=ts.length) (a:=(.inr (ts,xs,fs):Bool⊕(List GType×List (List UInt8)×List Func))) (b:=.inl false) (q:=fun i=>!decide ((exn (exs ts) i).1≤256)) (Lf:=fun k i=>f30.L0_6 N k ((ts.length:Int),i,ts,xs,fs)) (fun k _=>by
    simp only[f30.L0_6_succ,ge_dec,bif_r]) (fun k i hi _=>by
    simp only[f30.L0_6_succ,lt_dec hi,bif_l,size_ok hN m1 a1 (show 0≤(i:Int)∧(i:Int)<ts.length by omega),Option.bind_some,wi64_succ (show i<9223372036854775807 by omega)]
    by_cases h:(exn (exs ts) i).1≤256
    ·rw[if_pos h,decT h];rfl
    ·rw[if_neg h,decF h];rfl) (k:=N) (by omega)
  rw[key,ex_not,Option.bind_some]
  by_cases hs:SizesOK ts
  ·rw [if_pos fun i hi => decT (hs i hi)]
   simp only
   have key2:=loop_lst (l:=xs) (a:=(.inr (ts,xs,fs):Bool⊕(List GType×List (List UInt8)×List Func))) (b:=.inl false) (p:=fun s=>!decide (s.length≤64)) (Lf:=fun k i=>f30.L0_18 N k (xs,(xs.length:Int),i,ts,xs,fs)) (fun k _=>by
     simp only[f30.L0_18_succ,ge_dec,bif_r]) (fun k i x hx hm=>by
     simp only[f30.L0_18_succ,lt_dec (len_pos hx),bif_l,idx_get hx,Option.bind_some,wi64_succ (show i<9223372036854775807 by have:=len_pos hx;omega)]
     by_cases h:x.length≤64
     ·rw[decT h,decF (show ¬(x.length:Int)>64 by omega)];rfl
     ·rw[decF h,decT (show (x.length:Int)>64 by omega)];rfl) (k:=N) (by omega)
   rw[key2,ex_notL,Option.bind_some]
   by_cases hx:∀ s,s∈xs→s.length≤64
   ·rw [if_pos fun s h => decT (hx s h)]
    simp only
    have key3:=loop_rng (n:=fs.length) (a:=(.inr ():Bool⊕Unit)) (b:=.inl false) (q:=fun i=>!okFn ts.length fs i) (Lf:=fun k i=>f30.L0_30 N k (fs,(fs.length:Int),i,ts,xs,fs,(fs.take i.toNat).map (·.1))) (fun k _=>by
      simp only[f30.L0_30_succ,ge_dec,bif_r]) (fun k i hi _=>by
      have e:idx fs (i:Int)=some (fnn fs i):=idx_getD _ hi
      simp only[f30.L0_30_succ,lt_dec hi,bif_l,e,Option.bind_some,Int.toNat_natCast,hasB_takeN hi,wi64_succ (show i<9223372036854775807 by omega)]
      have hfk:=function_ok (ts:=ts) hN (m5 _ (getD_mem fn0 hi))
      rw[show fs.getD i fn0=fnn fs i from rfl] at hfk
      rw[hfk,Option.bind_some]
      unfold okFn
      by_cases hd:dupN fs i
      ·rw[decT hd,Bool.not_true,Bool.and_false];rfl
      ·rw [addB_takeN hi hd, decF hd]
       by_cases hk:FuncOK ts.length (fnn fs i)
       ·rw[decT hk];rfl
       ·rw[decF hk];rfl) (k:=N) (by omega)
    rw[show (0:Int).toNat=0 from rfl,List.take_zero,List.map_nil] at key3
    rw[key3,ex_not,Option.bind_some]
    by_cases hf:∀ i,i<fs.length→okFn ts.length fs i=true
    ·rw[if_pos hf,decT (show FineOK ts xs fs from⟨a1,a2,⟨a3,a4⟩,hs,hx,hf⟩)]
    ·rw[if_neg hf,no (fun h=>h.2.2.2.2.2) hf]
   ·rw[if_neg fun h=>hx fun s hs=>of_decide_eq_true (h s hs),no (fun h=>h.2.2.2.2.1) hx]
  ·rw[if_neg fun h=>hs fun i hi=>of_decide_eq_true (h i hi),no (fun h=>h.2.2.2.1) hs]
 ·rw [no (fun h => ⟨h.1, h.2.1, h.2.2.1⟩) hA]
  have:(((if TableOK ts then (0:Int) else 8) != 0)||(decide ((xs.length:Int)>32)||(((fs.length:Int)==0)||decide ((fs.length:Int)>32))))=true:=by
   false_or_by_contra
   rename_i h
   apply hA
   simp only[Bool.not_eq_true,Bool.or_eq_false_iff,decide_eq_false_iff_not,len_dec] at h
   obtain⟨k1,k2,k3,k4⟩:=h
   refine⟨?_,by omega,by omega,by omega⟩
   false_or_by_contra
   rename_i h
   rw[if_neg h] at k1
   cases k1
  rw[this,bif_l]
theorem exn_map {x:List Ex} {i:Nat} (h:i<x.length):(x.map (·.1))[i]?=some (exn x i).1:=by
 rw[List.getElem?_map,exn,Int.toNat_natCast,List.getD_eq_getElem?_getD,List.getElem?_eq_getElem h];rfl
theorem fine09_ok {N : Nat} {ts : List GType} {xs : List (List UInt8)} {fs : List Func} (hN : 1300 < N) (hm : imgFit ts xs fs) : F37 N (ts, xs, fs) = some (decide (FineOK ts xs fs)) := by
 obtain⟨m1,m2,m3,m4,m5⟩:=hm
 have no:∀ {p:Prop},(FineOK ts xs fs→p)→¬p→decide (FineOK ts xs fs)=false:=fun h hp=>decF fun h'=>hp (h h')
 have htl:=m1.1
 rw[F37_eq,check04_ok hN m1]
 simp only[Option.bind_some,bif_tt]
 by_cases hA:TableOK ts∧xs.length≤32∧1≤fs.length∧fs.length≤32
 ·obtain ⟨a1, a2, a3, a4⟩ := hA
  rw[if_pos a1,ne00,decF (show ¬(xs.length:Int)>32 by omega),decF (show ¬(fs.length:Int)<1 by omega),decF (show ¬(fs.length:Int)>32 by omega),show (false||(false||(false||false)))=false from rfl,bif_r,sizes_ok (by omega) htl a1.2.1,Option.bind_some]
  simp only
  have hlen:((eOut 1000000 ts ts.length).map (·.1)).length=ts.length:=by rw[List.length_map,eOut_len]
  have key:=loop_rng (n:=ts.length) (a:=(.inr (ts,xs,fs):Bool⊕(List GType×List (List UInt8)×List Func))) (b:=.inl false) (q:=fun i=>!decide ((exn (exs ts) i).1≤256)) (Lf:=fun k i=>f37.L0_7 N k ((eOut 1000000 ts ts.length).map (·.1),i,ts,xs,fs)) (fun k _=>by
    simp only[f37.L0_7_succ,hlen,ge_dec,bif_r]) (fun k i hi _=>by
    have e:idx ((eOut 1000000 ts ts.length).map (·.1)) (i:Int)=some (exn (eOut 1000000 ts ts.length) i).1:=idx_get (exn_map (by rw[eOut_len];exact hi))
    simp only[f37.L0_7_succ,hlen,lt_dec hi,bif_l,e,Option.bind_some,wi64_succ (show i<9223372036854775807 by omega)]
    obtain⟨r1,_⟩:=eOut_rel a1.2.1 ts.length (Nat.le_refl _) (i:Int)
    rw[show eOut 1048576 ts ts.length=exs ts from rfl] at r1
    by_cases h:(exn (exs ts) i).1≤256
    ·rw[decF (show ¬(exn (eOut 1000000 ts ts.length) i).1>256 by omega),decT h];rfl
    ·rw[decT (show (exn (eOut 1000000 ts ts.length) i).1>256 by omega),decF h];rfl) (k:=N) (by omega)
  rw[key,ex_not,Option.bind_some]
  by_cases hs:SizesOK ts
  ·rw [if_pos fun i hi => decT (hs i hi)]
   simp only
   have key2:=loop_lst (l:=xs) (a:=(.inr (ts,xs,fs):Bool⊕(List GType×List (List UInt8)×List Func))) (b:=.inl false) (p:=fun s=>!decide (s.length≤64)) (Lf:=fun k i=>f37.L0_17 N k (i,ts,xs,fs)) (fun k _=>by
     simp only[f37.L0_17_succ,ge_dec,bif_r]) (fun k i x hx hm=>by
     simp only[f37.L0_17_succ,lt_dec (len_pos hx),bif_l,idx_get hx,Option.bind_some,wi64_succ (show i<9223372036854775807 by have:=len_pos hx;omega)]
     by_cases h:x.length≤64
     ·rw[decT h,decF (show ¬(x.length:Int)>64 by omega)];rfl
     ·rw[decF h,decT (show (x.length:Int)>64 by omega)];rfl) (k:=N) (by omega)
   rw[key2,ex_notL,Option.bind_some]
   by_cases hx:∀ s,s∈xs→s.length≤64
   ·rw [if_pos fun s h => decT (hx s h)]
    simp only
    have key3 := loop_rng (n := fs.length) (a := (.inr () : Bool ⊕ Unit)) (b := .inl false) (q := fun i => !okFn ts.length fs i) (Lf := fun k i => f37.L0_27 N k (i, ts, xs, fs)) (fun k _ => by
      simp only[f37.L0_27_succ,ge_dec,bif_r]) (fun k i hi _=>by
      have e:idx fs (i:Int)=some (fnn fs i):=idx_getD _ hi
      have hfk:=function09_ok (ts:=ts) hN (m5 _ (getD_mem fn0 hi))
      rw[show fs.getD i fn0=fnn fs i from rfl] at hfk
      simp only[f37.L0_27_succ,lt_dec hi,bif_l,e,Option.bind_some,hfk]
      unfold okFn
      by_cases hk:FuncOK ts.length (fnn fs i)
      ·rw [decT hk, Bool.not_true, bif_r, Bool.true_and]
       have inner:=loop_rng (n:=i) (a:=(.inr ((i:Int),ts,xs,fs):Bool⊕(Int×List GType×List (List UInt8)×List Func))) (b:=.inl false) (q:=fun j=>(fnn fs j).1==(fnn fs i).1) (Lf:=fun k j=>f37.L0_36 N k ((i:Int),j,ts,xs,fs)) (fun k _=>by
        simp only[f37.L0_36_succ,ge_dec,bif_r]) (fun k j hj _=>by
        have ej:idx fs (j:Int)=some (fnn fs j):=idx_getD _ (by omega)
        simp only[f37.L0_36_succ,lt_dec hj,bif_l,e,ej,Option.bind_some,wi64_succ (show j<9223372036854775807 by omega)]
        by_cases hb:((fnn fs j).1==(fnn fs i).1)=true<;>simp[hb]) (k:=N) (by omega)
       rw[inner,Option.bind_some]
       by_cases hd:dupN fs i
       ·rw [if_pos, decT hd]
        ·rfl
        ·obtain ⟨j, h1, h2⟩ := hd
         exact⟨j,h1,by simpa using h2⟩
       ·rw [if_neg, decF hd]
        ·simp only;rw[wi64_succ (by omega)];rfl
        ·rintro ⟨j, h1, h2⟩
         exact hd ⟨j,h1,by simpa using h2⟩
      ·rw[decF hk];rfl) (k:=N) (by omega)
    rw[key3,ex_not,Option.bind_some]
    by_cases hf:∀ i,i<fs.length→okFn ts.length fs i=true
    ·rw[if_pos hf,decT (show FineOK ts xs fs from⟨a1,a2,⟨a3,a4⟩,hs,hx,hf⟩)]
    ·rw[if_neg hf,no (fun h=>h.2.2.2.2.2) hf]
   ·rw[if_neg fun h=>hx fun s hs=>of_decide_eq_true (h s hs),no (fun h=>h.2.2.2.2.1) hx]
  ·rw[if_neg fun h=>hs fun i hi=>of_decide_eq_true (h i hi),no (fun h=>h.2.2.2.1) hs]
 ·rw [no (fun h => ⟨h.1, h.2.1, h.2.2.1⟩) hA]
  have:(((if TableOK ts then (0:Int) else 8) != 0)||(decide ((xs.length:Int)>32)||(decide ((fs.length:Int)<1)||decide ((fs.length:Int)>32))))=true:=by
   false_or_by_contra
   rename_i h
   apply hA
   simp only[Bool.not_eq_true,Bool.or_eq_false_iff,decide_eq_false_iff_not] at h
   obtain⟨k1,k2,k3,k4⟩:=h
   refine⟨?_,by omega,by omega,by omega⟩
   false_or_by_contra
   rename_i h
   rw[if_neg h] at k1
   cases k1
  rw[this,bif_l]
open Go Go.Eng Go.Sym
open Classical
noncomputable def fieldE (f:Field):List Int:=said f.1++V f.2.toNat
noncomputable def fieldsE (l:List Field):List Int:=V l.length++l.flatMap fieldE
noncomputable def typeE (t:GType):List Int:=
 [t.1]++if t.1=4∨t.1=7 then V t.2.1.toNat else if t.1=6 then V t.2.1.toNat++V t.2.2.1.toNat else if t.1=5 then fieldsE t.2.2.2 else []
noncomputable def funcE (f:Func):List Int:=
 said f.1++(V f.2.1.toNat++(V (zig f.2.2.1)++(fieldsE f.2.2.2.1++(V f.2.2.2.2.1.length++(f.2.2.2.2.1.flatMap encI++(runsE f.2.2.2.2.2.1++runsE f.2.2.2.2.2.2))))))
noncomputable def imageE (ts:List GType) (xs:List (List UInt8)) (fs:List Func):List Int:=
 V ts.length++(ts.flatMap typeE++(V xs.length++(xs.flatMap said++(V fs.length++fs.flatMap funcE))))
theorem varyL_ok {N n:Nat} (hN:20<N) (hn:n≤1000000):F55 N (wu64 (n:Int))=some (V n):=by
 rw[wu64_nat (by omega),vary_ok hN (by omega)]
theorem fieldE_len {f:Field} (h:nameB f.1=true):(fieldE f).length≤40:=by
 have:=nameB_len h;have:=said_len f.1;have:=V_len f.2.toNat
 rw[fieldE,List.length_append];omega
noncomputable def FW (l:List Field):Prop:=l.length≤16∧∀ f,f∈l→nameB f.1=true∧0≤f.2∧f.2≤1000
theorem fields_names {l:List Field} (h:FieldsOK l):∀ f,f∈l→nameB f.1=true:=fun f hf=>by
 obtain⟨i,hi,rfl⟩:=mem_getD ([],0) hf
 have:=h i hi
 unfold okF at this
 rw[Bool.and_eq_true] at this
 exact this.1
theorem fieldsE_len {l:List Field} (h:FW l):(fieldsE l).length≤700:=by
 have:=V_len l.length
 have:=flatMap_len (l:=l) (enc:=fieldE) (m:=40) fun f hf=>fieldE_len (h.2 f hf).1
 have:=h.1
 rw[fieldsE,List.length_append];omega
theorem TypeOK.FW {n i:Nat} {t:GType} (h:TypeOK n i t) (hi:i≤32) (h5:t.1=5):FW t.2.2.2:=by
 have hf:=h.fields
 unfold TypeOK at h
 rw[if_neg (by omega),if_neg (by omega),if_neg (by omega),if_pos h5] at h
 have hn:=fields_names h.2.2.2.1
 exact⟨by omega,fun f hm=>⟨hn f hm,by have:=hf.2.2 f hm;omega⟩⟩
theorem typeE_len {n i:Nat} {t:GType} (h:TypeOK n i t) (hi:i≤32):(typeE t).length≤800:=by
 have:=V_len t.2.1.toNat;have:=V_len t.2.2.1.toNat
 unfold typeE
 rw[List.length_append,List.length_singleton]
 split
 ·omega
 ·split
  ·rw[List.length_append];omega
  ·split
   ·have:=fieldsE_len (h.FW hi ‹_›);omega
   ·simp
theorem FuncOK.FW {n:Nat} {f:Func} (h:FuncOK n f) (hn:n≤32):FW f.2.2.2.1:=
 ⟨h.2.1,fun g hg=>⟨fields_names h.2.2.1 g hg,by have:=h.2.2.2.2.2.1 g hg;omega⟩⟩
theorem funcE_len {n:Nat} {f:Func} (h:FuncOK n f) (hn:n≤32) (hf:fnFit f):(funcE f).length≤30000:=by
 have:=V_len f.2.1.toNat;have:=V_len (zig f.2.2.1);have:=V_len f.2.2.2.2.1.length
 have:=fieldsE_len (h.FW hn)
 have:=said_len f.1;have:=nameB_len h.1
 have h200:=h.2.2.2.2.2.2.1
 have:=flatMap_len (l:=f.2.2.2.2.1) (enc:=encI) (m:=31) fun x _=>encI_len x
 have:=runsE_len f.2.2.2.2.2.1;have:=runsE_len f.2.2.2.2.2.2
 have:=hf.2.2.1;have:=hf.2.2.2.1
 simp only[funcE,List.length_append];omega
section
variable {N:Nat}
theorem wr_fields (hN:1300<N) {l:List Field} (hl:FW l) {s:List Int} (hs:s.length≤4000000) (a:List GType) (b:List (List UInt8)) (c:List Func) :
  f11.L1015001051000_3 N N (l,(l.length:Int),(0:Int),s,a,b,c)=some (s++l.flatMap fieldE,a,b,c):=by
 have h16:=hl.1
 refine loop_out (l:=l) (enc:=fieldE) (g:=fun s=>(s,a,b,c)) (B:=5000000) (m:=40) (Lf:=fun k i s=>f11.L1015001051000_3 N k (l,(l.length:Int),i,s,a,b,c)) (fun k s=>by
  simp only[f11.L1015001051000_3_succ,ge_dec,bif_r]) (fun k i x s hx hm hB=>?_) (fun x hx=>fieldE_len (hl.2 x hx).1) (by omega) (by omega)
 have hx2:=hl.2 x hm
 have hnl:=nameB_len hx2.1
 have v1:=V_len x.1.length
 have v2:=V_len x.2.toNat
 simp only[f11.L1015001051000_3_succ,lt_dec (len_pos hx),bif_l,idx_get hx,Option.bind_some,varyL_ok (show 20<N by omega) (show x.1.length≤1000000 by omega),varyI_ok (show 20<N by omega) (show 0≤x.2∧x.2≤9223372036854775807 by omega),
  room_small (show s.length+(V x.1.length).length≤10000000 by omega) (show 1≤1000 by omega),room_small (show (s++V x.1.length).length+(bytesL x.1).length≤10000000 by rw[List.length_append,bytesL_len];omega) (show 1≤1000 by omega),room_small (show ((s++V x.1.length)++bytesL x.1).length+(V x.2.toNat).length≤10000000 by rw[List.length_append,List.length_append,bytesL_len];omega) (show 1≤1000 by omega),chk_true,wi64_succ (show i<9223372036854775807 by have:=len_pos hx;omega)]
 simp only[fieldE,said,List.append_assoc]
theorem wr_slots (hN:1300<N) {l:List Field} (hl:FW l) {s:List Int} (hs:s.length≤4000000) (nm:List UInt8) (pa re:Int) (sl:List Field) (co:List Instr) (si li:List Run) :
  f11.L1042001035000_3 N N (l,(l.length:Int),(0:Int),s,nm,pa,re,sl,co,si,li)=some (s++l.flatMap fieldE,nm,pa,re,sl,co,si,li):=by
 have h16:=hl.1
 refine loop_out (l:=l) (enc:=fieldE) (g:=fun s=>(s,nm,pa,re,sl,co,si,li)) (B:=5000000) (m:=40) (Lf:=fun k i s=>f11.L1042001035000_3 N k (l,(l.length:Int),i,s,nm,pa,re,sl,co,si,li)) (fun k s=>by
  simp only[f11.L1042001035000_3_succ,ge_dec,bif_r]) (fun k i x s hx hm hB=>?_) (fun x hx=>fieldE_len (hl.2 x hx).1) (by omega) (by omega)
 have hx2:=hl.2 x hm
 have hnl:=nameB_len hx2.1
 have v1:=V_len x.1.length
 have v2:=V_len x.2.toNat
 simp only[f11.L1042001035000_3_succ,lt_dec (len_pos hx),bif_l,idx_get hx,Option.bind_some,varyL_ok (show 20<N by omega) (show x.1.length≤1000000 by omega),varyI_ok (show 20<N by omega) (show 0≤x.2∧x.2≤9223372036854775807 by omega),
  room_small (show s.length+(V x.1.length).length≤10000000 by omega) (show 1≤1000 by omega),room_small (show (s++V x.1.length).length+(bytesL x.1).length≤10000000 by rw[List.length_append,bytesL_len];omega) (show 1≤1000 by omega),room_small (show ((s++V x.1.length)++bytesL x.1).length+(V x.2.toNat).length≤10000000 by rw[List.length_append,List.length_append,bytesL_len];omega) (show 1≤1000 by omega),chk_true,wi64_succ (show i<9223372036854775807 by have:=len_pos hx;omega)]
 simp only[fieldE,said,List.append_assoc]
theorem ref_fields (hN:1300<N) {l:List Field} (hl:FW l):F41 N l=some (fieldsE l):=by
 have h16:=hl.1
 have v0:=V_len l.length
 rw[F41_eq,number_ok (by omega) (by omega),Option.bind_some]
 have:=loop_out (l:=l) (enc:=fieldE) (g:=id) (B:=5000000) (m:=40) (Lf:=fun k i s=>f41.L0_4 N k (l,i,s)) (fun k s=>by
  simp only[f41.L0_4_succ,ge_dec,bif_r];rfl) (fun k i x s hx hm hB=>by
  have hx2:=hl.2 x hm
  have hnl:=nameB_len hx2.1
  have v1:=said_len x.1
  have v2:=V_len x.2.toNat
  simp only[f41.L0_4_succ,lt_dec (len_pos hx),bif_l,idx_get hx,Option.bind_some,said_ok (show 20<N by omega) (show x.1.length≤1000000 by omega),numberI_ok (show 20<N by omega) (show 0≤x.2∧x.2≤9223372036854775807 by omega),
   room_small (show s.length+(said x.1).length≤10000000 by omega) (show 1≤1000 by omega),room_small (show (s++said x.1).length+(V x.2.toNat).length≤10000000 by rw[List.length_append];omega) (show 1≤1000 by omega),chk_true,wi64_succ (show i<9223372036854775807 by have:=len_pos hx;omega)]
  simp only[fieldE,List.append_assoc]) (fun x hx=>fieldE_len (hl.2 x hx).1) (k:=N) (s:=V l.length) (by omega) (by omega)
 rw[this];rfl
noncomputable def TW (ts:List GType):Prop:=ts.length≤32∧∀ t,t∈ts→∃ n i,i≤32∧n≤32∧TypeOK n i t
theorem TableOK.TW {ts:List GType} (h:TableOK ts):TW ts:=⟨h.1,fun t ht=>by
 obtain⟨i,hi,rfl⟩:=mem_getD ty0 ht
 exact⟨ts.length,i,by have:=h.1;omega,h.1,h.2.1 i hi⟩⟩
theorem wr_types (hN:1300<N) {l:List GType} (hl:TW l) {s:List Int} (hs:s.length≤1000000) (a:List GType) (b:List (List UInt8)) (c:List Func) :
  f11.L1015000_3 N N (l,(l.length:Int),(0:Int),s,a,b,c)=some (a,b,c,s++l.flatMap typeE):=by
 have h16:=hl.1
 refine loop_out (l:=l) (enc:=typeE) (g:=fun s=>(a,b,c,s)) (B:=2000000) (m:=800) (Lf:=fun k i s=>f11.L1015000_3 N k (l,(l.length:Int),i,s,a,b,c)) (fun k s=>by
  simp only[f11.L1015000_3_succ,ge_dec,bif_r]) (fun k i t s hx hm hB=>?_) (fun x hx=>by
  obtain⟨n,i,hi,_,ht⟩:=hl.2 x hx
  exact typeE_len ht hi) (by omega) (by omega)
 obtain⟨n,j,hj,hn,ht⟩:=hl.2 t hm
 have v1:=V_len t.2.1.toNat
 have v2:=V_len t.2.2.1.toNat
 have v3:=V_len t.2.2.2.length
 have r0:room (s.length+1) 1=true:=room_small (by omega) (by omega)
 have r1:room ((s++[t.1]).length+(V t.2.1.toNat).length) 1=true:=room_small (by simp only[List.length_append,List.length_singleton];omega) (by omega)
 have r2:room (((s++[t.1])++V t.2.1.toNat).length+(V t.2.2.1.toNat).length) 1=true:=room_small (by simp only[List.length_append,List.length_singleton];omega) (by omega)
 have r3:room ((s++[t.1]).length+(V t.2.2.2.length).length) 1=true:=room_small (by simp only[List.length_append,List.length_singleton];omega) (by omega)
 simp only[f11.L1015000_3_succ,lt_dec (len_pos hx),bif_l,idx_get hx,Option.bind_some,r0,chk_true,wi64_succ (show i<9223372036854775807 by have:=len_pos hx;omega),bif_tt,beq_dec]
 unfold typeE
 by_cases h47:t.1=4∨t.1=7
 ·have hp := ht.ptr h47
  rw[if_pos h47,show (decide (t.1=4)||decide (t.1=7))=true by simpa using h47,bif_l,varyI_ok (by omega) (by omega),Option.bind_some,r1,chk_true,List.append_assoc]
 ·rw [if_neg h47, show (decide (t.1 = 4) || decide (t.1 = 7)) = false by simpa using h47, bif_r]
  by_cases h6:t.1=6
  ·have hp := ht.arr h6
   rw[if_pos h6,decide_eq_true h6,bif_l,varyI_ok (by omega) (by omega),Option.bind_some,r1,chk_true,varyI_ok (by omega) (by omega),Option.bind_some,r2,chk_true,List.append_assoc,List.append_assoc]
  ·rw [if_neg h6, decide_eq_false h6, bif_r]
   by_cases h5:t.1=5
   ·have hw := ht.FW hj h5
    rw[if_pos h5,decide_eq_true h5,bif_l,varyL_ok (by omega) (by have:=hw.1;omega),Option.bind_some,r3,chk_true,wr_fields hN hw (by simp only[List.length_append,List.length_singleton];omega),Option.bind_some,fieldsE,List.append_assoc,List.append_assoc]
   ·rw[if_neg h5,decide_eq_false h5,bif_r,List.append_nil]
theorem ref_types (hN:1300<N) {l:List GType} (hl:TW l) {s:List Int} (hs:s.length≤1000000) (b:List (List UInt8)) (c:List Func) :
  f21.L0_4 N N ((0:Int),l,b,c,s)=some (l,b,c,s++l.flatMap typeE):=by
 have h16:=hl.1
 refine loop_out (l:=l) (enc:=typeE) (g:=fun s=>(l,b,c,s)) (B:=2000000) (m:=800) (Lf:=fun k i s=>f21.L0_4 N k (i,l,b,c,s)) (fun k s=>by
  simp only[f21.L0_4_succ,ge_dec,bif_r]) (fun k i t s hx hm hB=>?_) (fun x hx=>by
  obtain⟨n,i,hi,_,ht⟩:=hl.2 x hx
  exact typeE_len ht hi) (by omega) (by omega)
 obtain⟨n,j,hj,hn,ht⟩:=hl.2 t hm
 have v1:=V_len t.2.1.toNat
 have v2:=V_len t.2.2.1.toNat
 have v3:=V_len t.2.2.2.length
 have r0:room (s.length+1) 1=true:=room_small (by omega) (by omega)
 have r1:room ((s++[t.1]).length+(V t.2.1.toNat).length) 1=true:=room_small (by simp only[List.length_append,List.length_singleton];omega) (by omega)
 have r2:room (((s++[t.1])++V t.2.1.toNat).length+(V t.2.2.1.toNat).length) 1=true:=room_small (by simp only[List.length_append,List.length_singleton];omega) (by omega)
 simp only[f21.L0_4_succ,lt_dec (len_pos hx),bif_l,idx_get hx,Option.bind_some,r0,chk_true,wi64_succ (show i<9223372036854775807 by have:=len_pos hx;omega),bif_tt,beq_dec]
 unfold typeE
 by_cases h47:t.1=4∨t.1=7
 ·have hp := ht.ptr h47
  rw[if_pos h47,show (decide (t.1=4)||decide (t.1=7))=true by simpa using h47,bif_l,numberI_ok (by omega) (by omega),Option.bind_some,r1,chk_true,List.append_assoc]
 ·rw [if_neg h47, show (decide (t.1 = 4) || decide (t.1 = 7)) = false by simpa using h47, bif_r]
  by_cases h6:t.1=6
  ·have hp := ht.arr h6
   rw[if_pos h6,decide_eq_true h6,bif_l,numberI_ok (by omega) (by omega),Option.bind_some,r1,chk_true,numberI_ok (by omega) (by omega),Option.bind_some,r2,chk_true,List.append_assoc,List.append_assoc]
  ·rw [if_neg h6, decide_eq_false h6, bif_r]
   by_cases h5:t.1=5
   ·have hw := ht.FW hj h5
    have hfl:=fieldsE_len hw
    rw[if_pos h5,decide_eq_true h5,bif_l,ref_fields hN hw,Option.bind_some,room_small (by simp only[List.length_append,List.length_singleton];omega) (by omega),chk_true,List.append_assoc]
   ·rw[if_neg h5,decide_eq_false h5,bif_r,List.append_nil]
noncomputable def XW (xs:List (List UInt8)):Prop:=xs.length≤32∧∀ s,s∈xs→s.length≤64
theorem wr_texts (hN:1300<N) {l:List (List UInt8)} (hl:XW l) {s:List Int} (hs:s.length≤1000000) (a:List GType) (b:List (List UInt8)) (c:List Func) :
  f11.L0_9 N N (l,(l.length:Int),(0:Int),a,b,c,s)=some (a,b,c,s++l.flatMap said):=by
 have h16:=hl.1
 refine loop_out (l:=l) (enc:=said) (g:=fun s=>(a,b,c,s)) (B:=2000000) (m:=100) (Lf:=fun k i s=>f11.L0_9 N k (l,(l.length:Int),i,a,b,c,s)) (fun k s=>by
  simp only[f11.L0_9_succ,ge_dec,bif_r]) (fun k i x s hx hm hB=>?_) (fun x hx=>by have:=said_len x;have:=hl.2 x hx;omega) (by omega) (by omega)
 have h64:=hl.2 x hm
 have v1:=V_len x.length
 simp only[f11.L0_9_succ,lt_dec (len_pos hx),bif_l,idx_get hx,Option.bind_some,varyL_ok (show 20<N by omega) (show x.length≤1000000 by omega),
  room_small (show s.length+(V x.length).length≤10000000 by omega) (show 1≤1000 by omega),room_small (show (s++V x.length).length+(bytesL x).length≤10000000 by rw[List.length_append,bytesL_len];omega) (show 1≤1000 by omega),chk_true,wi64_succ (show i<9223372036854775807 by have:=len_pos hx;omega)]
 simp only[said,List.append_assoc]
theorem ref_texts (hN:1300<N) {l:List (List UInt8)} (hl:XW l) {s:List Int} (hs:s.length≤1000000) (a:List GType) (c:List Func) :
  f21.L0_27 N N ((0:Int),a,l,c,s)=some (a,l,c,s++l.flatMap said):=by
 have h16:=hl.1
 refine loop_out (l:=l) (enc:=said) (g:=fun s=>(a,l,c,s)) (B:=2000000) (m:=100) (Lf:=fun k i s=>f21.L0_27 N k (i,a,l,c,s)) (fun k s=>by
  simp only[f21.L0_27_succ,ge_dec,bif_r]) (fun k i x s hx hm hB=>?_) (fun x hx=>by have:=said_len x;have:=hl.2 x hx;omega) (by omega) (by omega)
 have h64:=hl.2 x hm
 have v1:=said_len x
 simp only[f21.L0_27_succ,lt_dec (len_pos hx),bif_l,idx_get hx,Option.bind_some,said_ok (show 20<N by omega) (show x.length≤1000000 by omega),
  room_small (show s.length+(said x).length≤10000000 by omega) (show 1≤1000 by omega),chk_true,wi64_succ (show i<9223372036854775807 by have:=len_pos hx;omega)]
noncomputable def CW (l:List Instr):Prop:=l.length≤200∧∀ x,x∈l→chkI x=true∧okI x
theorem wr_code (hN:1300<N) {l:List Instr} (hl:CW l) {s:List Int} (hs:s.length≤4000000) (nm:List UInt8) (pa re:Int) (sl:List Field) (co:List Instr) (si li:List Run) :
  f11.L1042000_8 N N (l,(l.length:Int),(0:Int),s,nm,pa,re,sl,co,si,li)=some (.inr (s++l.flatMap encI,nm,pa,re,sl,co,si,li)):=by
 have h16:=hl.1
 refine loop_out (l:=l) (enc:=encI) (g:=fun s=>(.inr (s,nm,pa,re,sl,co,si,li):(Int×List Int)⊕(List Int×List UInt8×Int×Int×List Field×List Instr×List Run×List Run))) (B:=5000000) (m:=31) (Lf:=fun k i s=>f11.L1042000_8 N k (l,(l.length:Int),i,s,nm,pa,re,sl,co,si,li)) (fun k s=>by
  simp only[f11.L1042000_8_succ,ge_dec,bif_r]) (fun k i x s hx hm hB=>?_) (fun x hx=>encI_len x) (by omega) (by omega)
 have hx2:=hl.2 x hm
 have v1:=encI_len x
 simp only[f11.L1042000_8_succ,lt_dec (len_pos hx),bif_l,idx_get hx,Option.bind_some,(enc_ok (N:=N) (by omega) hx2.2 hx2.1).1,ne00,bif_r,
  room_small (show s.length+(encI x).length≤10000000 by omega) (show 1≤1000 by omega),chk_true,wi64_succ (show i<9223372036854775807 by have:=len_pos hx;omega)]
theorem ref_code (hN:1300<N) {l:List Instr} (hl:CW l) {s:List Int} (hs:s.length≤4000000) (i0:Int) (a:List GType) (b:List (List UInt8)) (c:List Func) (nm:List UInt8) (pa re:Int) (sl:List Field) (si li:List Run) :
  f21.L0_46 N N (i0,(0:Int),a,b,c,s,nm,pa,re,sl,l,si,li)=some (i0,a,b,c,s++l.flatMap encI,nm,pa,re,sl,l,si,li):=by
 have h16:=hl.1
 refine loop_out (l:=l) (enc:=encI) (g:=fun s=>(i0,a,b,c,s,nm,pa,re,sl,l,si,li)) (B:=5000000) (m:=31) (Lf:=fun k i s=>f21.L0_46 N k (i0,i,a,b,c,s,nm,pa,re,sl,l,si,li)) (fun k s=>by
  simp only[f21.L0_46_succ,ge_dec,bif_r]) (fun k i x s hx hm hB=>?_) (fun x hx=>encI_len x) (by omega) (by omega)
 have hx2:=hl.2 x hm
 have v1:=encI_len x
 simp only[f21.L0_46_succ,lt_dec (len_pos hx),bif_l,idx_get hx,Option.bind_some,(enc_ok (N:=N) (by omega) hx2.2 hx2.1).2,
  room_small (show s.length+(encI x).length≤10000000 by omega) (show 1≤1000 by omega),chk_true,wi64_succ (show i<9223372036854775807 by have:=len_pos hx;omega)]
noncomputable def FnW (l:List Func):Prop:=l.length≤32∧∀ f,f∈l→fnFit f∧i64 f.2.2.1∧∃ n,n≤32∧FuncOK n f
theorem tabs_step {x:List Run} {j:Int} {l2:List (List Run)} (hN:1300<N) {n:Nat} (h1:RunsOK x n) (g1:x.length≤300) (o1:okR x) {s:List Int} (hs:s.length≤4500000) {co:List Instr} (hc:co.length=n) (hn:1≤n∧n≤200) (nm:List UInt8) (pa re:Int) (sl:List Field) (si li:List Run) (hj:decide (j<2)=true) (hx:idx l2 j=some x) {j2:Int} (hj2:wi64 (j+1)=j2) (k:Nat) :
  f11.L1042000_21 N (k+1) (l2,(2:Int),j,s,nm,pa,re,sl,co,si,li)=f11.L1042000_21 N k (l2,(2:Int),j2,s++runsE x,nm,pa,re,sl,co,si,li):=by
 subst hc
 have e1:=(encT_ok (N:=N) (by omega) g1 h1 hn.1 hn.2 o1).1
 have l1:=runsE_len x
 rw[f11.L1042000_21_succ,hj,bif_l,hx,Option.bind_some,e1,Option.bind_some]
 simp only[ne00,bif_r,room_small (show s.length+(runsE x).length≤10000000 by omega) (show 1≤1000 by omega),chk_true,hj2]
theorem wr_tabs (hN:1300<N) {si li:List Run} {n:Nat} (h1:RunsOK si n) (h2:RunsOK li n) (g1:si.length≤300) (g2:li.length≤300) (o1:okR si) (o2:okR li) {s:List Int} (hs:s.length≤4000000) {co:List Instr} (hc:co.length=n) (hn:1≤n∧n≤200) (nm:List UInt8) (pa re:Int) (sl:List Field) :
  f11.L1042000_21 N N ([si,li],(2:Int),(0:Int),s,nm,pa,re,sl,co,si,li)=some (.inr (s++(runsE si++runsE li))):=by
 have l1:=runsE_len si
 have key:∀ k,f11.L1042000_21 N (k+1+1+1) ([si,li],(2:Int),(0:Int),s,nm,pa,re,sl,co,si,li)=some (.inr (s++(runsE si++runsE li))):=fun k=>by
  rw[tabs_step hN h1 g1 o1 (by omega) hc hn nm pa re sl si li rfl rfl (j2:=1) (by decide),tabs_step hN h2 g2 o2 (by rw[List.length_append];omega) hc hn nm pa re sl si li rfl rfl (j2:=2) (by decide),f11.L1042000_21_succ,show decide ((2:Int)<2)=false from rfl,bif_r,List.append_assoc]
 have:=key (N-3)
 rwa[show N-3+1+1+1=N by omega] at this
theorem wr_funcs (hN:1300<N) {l:List Func} (hl:FnW l) {s:List Int} (hs:s.length≤1000000) :
  f11.L0_19 N N (l,(l.length:Int),(0:Int),s)=some (.inr (s++l.flatMap funcE)):=by
 have h16:=hl.1
 refine loop_out (l:=l) (enc:=funcE) (g:=fun s=>(.inr s:Int⊕List Int)) (B:=2500000) (m:=30000) (Lf:=fun k i s=>f11.L0_19 N k (l,(l.length:Int),i,s)) (fun k s=>by
  simp only[f11.L0_19_succ,ge_dec,bif_r]) (fun k i x s hx hm hB=>?_) (fun x hx=>by
  obtain⟨hf,_,n,hn,ho⟩:=hl.2 x hx
  exact funcE_len ho hn hf) (by omega) (by omega)
 obtain⟨⟨g1,g2,g3,g4,g5,g6,g7⟩,h64,n,hn,ho⟩:=hl.2 x hm
 have hw:=ho.FW hn
 have hnl:=nameB_len ho.1
 have hp:=ho.2.2.2.1
 have h200:=ho.2.2.2.2.2.2.1
 have hcw:CW x.2.2.2.2.1:=⟨h200.2,fun y hy=>⟨ho.2.2.2.2.2.2.2.1 y hy,g5 y hy⟩⟩
 have hsl:=hw.1
 have v1:=V_len x.1.length
 have v2:=V_len x.2.1.toNat
 have v3:=V_len (zig x.2.2.1)
 have v4:=V_len x.2.2.2.1.length
 have v5:=V_len x.2.2.2.2.1.length
 have v6:=flatMap_len (l:=x.2.2.2.1) (enc:=fieldE) (m:=40) fun f hf=>fieldE_len (hw.2 f hf).1
 have v7:=flatMap_len (l:=x.2.2.2.2.1) (enc:=encI) (m:=31) fun y _=>encI_len y
 have r1:room (s.length+(V x.1.length).length) 1=true:=room_small (by omega) (by omega)
 have r2:room ((s++V x.1.length).length+(bytesL x.1).length) 1=true:=room_small (by simp only[List.length_append,bytesL_len];omega) (by omega)
 have r3:room (((s++V x.1.length)++bytesL x.1).length+(V x.2.1.toNat).length) 1=true:=room_small (by simp only[List.length_append,bytesL_len];omega) (by omega)
 have r4:room ((((s++V x.1.length)++bytesL x.1)++V x.2.1.toNat).length+(V (zig x.2.2.1)).length) 1=true:=room_small (by simp only[List.length_append,bytesL_len];omega) (by omega)
 have r5:room (((((s++V x.1.length)++bytesL x.1)++V x.2.1.toNat)++V (zig x.2.2.1)).length+(V x.2.2.2.1.length).length) 1=true:=room_small (by simp only[List.length_append,bytesL_len];omega) (by omega)
 simp only[f11.L0_19_succ,lt_dec (len_pos hx),bif_l,idx_get hx,Option.bind_some,varyL_ok (show 20<N by omega) (show x.1.length≤1000000 by omega),varyI_ok (show 20<N by omega) (show 0≤x.2.1∧x.2.1≤9223372036854775807 by omega),signed_ok (show 20<N by omega) h64,varyL_ok (show 20<N by omega) (show x.2.2.2.1.length≤1000000 by omega),r1,r2,r3,r4,r5,chk_true,wi64_succ (show i<9223372036854775807 by have:=len_pos hx;omega)]
 have e1:=wr_slots hN hw (s:=((((s++V x.1.length)++bytesL x.1)++V x.2.1.toNat)++V (zig x.2.2.1))++V x.2.2.2.1.length) (by simp only[List.length_append,bytesL_len];omega) x.1 x.2.1 x.2.2.1 x.2.2.2.1 x.2.2.2.2.1 x.2.2.2.2.2.1 x.2.2.2.2.2.2
 rw[e1,Option.bind_some]
 simp only
 rw[varyL_ok (by omega) (by omega),Option.bind_some,room_small (by simp only[List.length_append,bytesL_len];omega) (by omega),chk_true,wr_code hN hcw (by simp only[List.length_append,bytesL_len];omega),Option.bind_some]
 simp only
 rw[wr_tabs hN ho.2.2.2.2.2.2.2.2.1 ho.2.2.2.2.2.2.2.2.2 g3 g4 g6 g7 (by simp only[List.length_append,bytesL_len];omega) rfl h200,Option.bind_some]
 simp only[funcE,fieldsE,said,List.append_assoc]
theorem ref_funcs (hN:1300<N) {l:List Func} (hl:FnW l) {s:List Int} (hs:s.length≤1000000) (a:List GType) (b:List (List UInt8)) :
  f21.L0_36 N N ((0:Int),a,b,l,s)=some (s++l.flatMap funcE):=by
 have h16:=hl.1
 refine loop_out (l:=l) (enc:=funcE) (g:=id) (B:=2500000) (m:=30000) (Lf:=fun k i s=>f21.L0_36 N k (i,a,b,l,s)) (fun k s=>by
  simp only[f21.L0_36_succ,ge_dec,bif_r];rfl) (fun k i x s hx hm hB=>?_) (fun x hx=>by
  obtain⟨hf,_,n,hn,ho⟩:=hl.2 x hx
  exact funcE_len ho hn hf) (by omega) (by omega)
 obtain⟨⟨g1,g2,g3,g4,g5,g6,g7⟩,h64,n,hn,ho⟩:=hl.2 x hm
 have hw:=ho.FW hn
 have hnl:=nameB_len ho.1
 have hp:=ho.2.2.2.1
 have h200:=ho.2.2.2.2.2.2.1
 have hcw:CW x.2.2.2.2.1:=⟨h200.2,fun y hy=>⟨ho.2.2.2.2.2.2.2.1 y hy,g5 y hy⟩⟩
 have hsl:=hw.1
 have v1:=said_len x.1
 have v2:=V_len x.2.1.toNat
 have v3:=V_len (zig x.2.2.1)
 have v4:=fieldsE_len hw
 have v5:=V_len x.2.2.2.2.1.length
 have v7:=flatMap_len (l:=x.2.2.2.2.1) (enc:=encI) (m:=31) fun y _=>encI_len y
 have v8:=runsE_len x.2.2.2.2.2.1
 have v9:=runsE_len x.2.2.2.2.2.2
 have r1:room (s.length+(said x.1).length) 1=true:=room_small (by omega) (by omega)
 have r2:room ((s++said x.1).length+(V x.2.1.toNat).length) 1=true:=room_small (by simp only[List.length_append];omega) (by omega)
 have r3:room (((s++said x.1)++V x.2.1.toNat).length+(V (zig x.2.2.1)).length) 1=true:=room_small (by simp only[List.length_append];omega) (by omega)
 have r4:room ((((s++said x.1)++V x.2.1.toNat)++V (zig x.2.2.1)).length+(fieldsE x.2.2.2.1).length) 1=true:=room_small (by simp only[List.length_append];omega) (by omega)
 have r5:room (((((s++said x.1)++V x.2.1.toNat)++V (zig x.2.2.1))++fieldsE x.2.2.2.1).length+(V x.2.2.2.2.1.length).length) 1=true:=room_small (by simp only[List.length_append];omega) (by omega)
 simp only[f21.L0_36_succ,lt_dec (len_pos hx),bif_l,idx_get hx,Option.bind_some,said_ok (show 20<N by omega) (show x.1.length≤1000000 by omega),numberI_ok (show 20<N by omega) (show 0≤x.2.1∧x.2.1≤9223372036854775807 by omega),double_ok (N:=N) h64,minimal_ok (show 20<N by omega) (zig_lt h64),ref_fields hN hw,number_ok (n:=x.2.2.2.2.1.length) (show 20<N by omega) (show x.2.2.2.2.1.length<18446744073709551616 by omega),r1,r2,r3,r4,r5,chk_true]
 rw[ref_code hN hcw (by simp only[List.length_append];omega),Option.bind_some]
 simp only
 rw[(encT_ok (N:=N) (by omega) g3 ho.2.2.2.2.2.2.2.2.1 h200.1 h200.2 g6).2,Option.bind_some,room_small (by simp only[List.length_append];omega) (by omega),chk_true,(encT_ok (N:=N) (by omega) g4 ho.2.2.2.2.2.2.2.2.2 h200.1 h200.2 g7).2,Option.bind_some,room_small (by simp only[List.length_append];omega) (by omega),chk_true,wi64_succ (by have:=len_pos hx;omega)]
 simp only[funcE,List.append_assoc]
end
open Go Go.Eng Go.Sym
open Classical
noncomputable def imgOK (ts:List GType) (xs:List (List UInt8)) (fs:List Func):Prop:=imgFit ts xs fs∧∀ f,f∈fs→i64 f.2.2.1
theorem FineOK.XW {ts:List GType} {xs:List (List UInt8)} {fs:List Func} (h:FineOK ts xs fs):XW xs:=⟨h.2.1,h.2.2.2.2.1⟩
theorem FineOK.func {ts:List GType} {xs:List (List UInt8)} {fs:List Func} (h:FineOK ts xs fs) {i:Nat} (hi:i<fs.length):FuncOK ts.length (fnn fs i):=by
 have:=h.2.2.2.2.2 i hi
 unfold okFn at this
 rw[Bool.and_eq_true,decide_eq_true_eq] at this
 exact this.1
theorem FineOK.FnW {ts:List GType} {xs:List (List UInt8)} {fs:List Func} (h:FineOK ts xs fs) (hm:imgOK ts xs fs):FnW fs:=⟨h.2.2.1.2,fun f hf=>by
 refine⟨hm.1.2.2.2.2 f hf,hm.2 f hf,ts.length,h.1.1,?_⟩
 obtain⟨i,hi,rfl⟩:=mem_getD fn0 hf
 exact h.func hi⟩
noncomputable def chkE (ts:List GType) (xs:List (List UInt8)) (fs:List Func):Int:=if FineOK ts xs fs then (if (imageE ts xs fs).length≤20000 then 0 else 4) else 8
section
variable {N:Nat} {ts:List GType} {xs:List (List UInt8)} {fs:List Func}
theorem flat_lens (h:FineOK ts xs fs) (hm:imgOK ts xs fs):(ts.flatMap typeE).length≤25600∧(xs.flatMap said).length≤3200∧(fs.flatMap funcE).length≤960000:=by
 have hT:=h.1.TW
 have hX:=h.XW
 have hF:=h.FnW hm
 have h1:=flatMap_len (l:=ts) (enc:=typeE) (m:=800) fun x hx=>by
  obtain⟨n,i,hi,_,ht⟩:=hT.2 x hx
  exact typeE_len ht hi
 have h2:=flatMap_len (l:=xs) (enc:=said) (m:=100) fun x hx=>by have:=said_len x;have:=hX.2 x hx;omega
 have h3:=flatMap_len (l:=fs) (enc:=funcE) (m:=30000) fun x hx=>by
  obtain⟨hf,_,n,hn,ho⟩:=hF.2 x hx
  exact funcE_len ho hn hf
 have a1:=hT.1;have a2:=hX.1;have a3:=hF.1
 exact⟨by omega,by omega,by omega⟩
theorem encode_ok (hN:1300<N) (hm:imgOK ts xs fs):F11 N (ts,xs,fs)=some (if chkE ts xs fs=0 then imageE ts xs fs else [],chkE ts xs fs):=by
 rw[F11_eq,fine_ok hN hm.1,Option.bind_some]
 unfold chkE
 by_cases h:FineOK ts xs fs
 ·rw [decT h, Bool.not_true, bif_r, if_pos h]
  obtain⟨b1,b2,b3⟩:=flat_lens h hm
  have c1:=V_len ts.length;have c2:=V_len xs.length;have c3:=V_len fs.length
  have d1:=hm.1.1.1;have d2:=hm.1.2.1;have d3:=hm.1.2.2.2.1
  rw[varyL_ok (by omega) (by omega),Option.bind_some,room_small (by omega) (by omega),chk_true,wr_types hN h.1.TW (by omega),Option.bind_some]
  simp only
  rw[varyL_ok (by omega) (by omega),Option.bind_some,room_small (by simp only[List.length_append];omega) (by omega),chk_true,wr_texts hN h.XW (by simp only[List.length_append];omega),Option.bind_some]
  simp only
  rw[varyL_ok (by omega) (by omega),Option.bind_some,room_small (by simp only[List.length_append];omega) (by omega),chk_true,wr_funcs hN (h.FnW hm) (by simp only[List.length_append];omega),Option.bind_some]
  have e:(((((V ts.length++ts.flatMap typeE)++V xs.length)++xs.flatMap said)++V fs.length)++fs.flatMap funcE)=imageE ts xs fs:=by simp only[imageE,List.append_assoc]
  simp only
  rw[e]
  by_cases hl:(imageE ts xs fs).length≤20000
  ·rw[if_pos hl,decF (show ¬((imageE ts xs fs).length:Int)>20000 by omega),bif_r,if_pos rfl]
  ·rw[if_neg hl,decT (show ((imageE ts xs fs).length:Int)>20000 by omega),bif_l,if_neg (by decide)]
 ·rw[decF h,Bool.not_false,bif_l,if_neg h,if_neg (by decide)]
theorem coded_ok (hN:1300<N) (hm:imgOK ts xs fs) (h:FineOK ts xs fs):F21 N (ts,xs,fs)=some (imageE ts xs fs):=by
 obtain⟨b1,b2,b3⟩:=flat_lens h hm
 have c1:=V_len ts.length;have c2:=V_len xs.length;have c3:=V_len fs.length
 have d1:=hm.1.1.1;have d2:=hm.1.2.1;have d3:=hm.1.2.2.2.1
 rw[F21_eq,number_ok (by omega) (by omega),Option.bind_some,ref_types hN h.1.TW (by omega),Option.bind_some]
 simp only
 rw[number_ok (by omega) (by omega),Option.bind_some,room_small (by simp only[List.length_append];omega) (by omega),chk_true,ref_texts hN h.XW (by simp only[List.length_append];omega),Option.bind_some]
 simp only
 rw[number_ok (by omega) (by omega),Option.bind_some,room_small (by simp only[List.length_append];omega) (by omega),chk_true,ref_funcs hN (h.FnW hm) (by simp only[List.length_append];omega),Option.bind_some]
 simp only[imageE,List.append_assoc]
theorem check09_ok (hN:1300<N) (hm:imgOK ts xs fs):F18 N (ts,xs,fs)=some (chkE ts xs fs):=by
 rw[F18_eq,fine09_ok hN hm.1,Option.bind_some]
 unfold chkE
 by_cases h:FineOK ts xs fs
 ·rw [decT h, Bool.not_true, bif_r, if_pos h, coded_ok hN hm h, Option.bind_some]
  by_cases hl:(imageE ts xs fs).length≤20000
  ·rw[if_pos hl,decF (show ¬((imageE ts xs fs).length:Int)>20000 by omega),bif_r]
  ·rw[if_neg hl,decT (show ((imageE ts xs fs).length:Int)>20000 by omega),bif_l]
 ·rw[decF h,Bool.not_false,bif_l,if_neg h]
theorem chk0_fine (h:chkE ts xs fs=0):FineOK ts xs fs∧(imageE ts xs fs).length≤20000:=by
 unfold chkE at h
 split at h
 ·split at h
  ·exact⟨‹_›,‹_›⟩
  ·cases h
 ·cases h
theorem check_ok (hN:1300<N) (hm:imgOK ts xs fs):F17 N (ts,xs,fs)=some (chkE ts xs fs):=by
 rw[F17_eq,encode_ok hN hm,Option.bind_some]
noncomputable def addrOK (fs:List Func) (f i:Int):Prop:=0≤f∧f<fs.length∧0≤i∧i<(fnn fs f.toNat).2.2.2.2.1.length
noncomputable def addrS (ts:List GType) (xs:List (List UInt8)) (fs:List Func) (f i:Int):Int×Int:=
 if chkE ts xs fs=0 then (if addrOK fs f i then (256*(f+1)+i,0) else (0,2)) else (0,chkE ts xs fs)
theorem addr_cond (fs:List Func) (f i:Int):(bif (decide (f<(0:Int))) then some true else (bif (decide (f≥(fs.length:Int))) then some true else (bif (decide (i<(0:Int))) then some true else (Option.bind (idx fs f) fun x1=>some (decide (i≥(x1.2.2.2.2.1.length:Int)))))))=some (!decide (addrOK fs f i)):=by
 by_cases h1:f<0
 ·rw[decT h1,decF (show ¬addrOK fs f i from fun h=>by have:=h.1;omega)];rfl
 ·rw [decF h1, bif_r]
  by_cases h2:f≥(fs.length:Int)
  ·rw[decT h2,decF (show ¬addrOK fs f i from fun h=>by have:=h.2.1;omega)];rfl
  ·rw [decF h2, bif_r]
   by_cases h3:i<0
   ·rw[decT h3,decF (show ¬addrOK fs f i from fun h=>by have:=h.2.2.1;omega)];rfl
   ·obtain ⟨n, rfl⟩ := Int.eq_ofNat_of_zero_le (show 0 ≤ f by omega)
    have e:idx fs ((n:Nat):Int)=some (fnn fs n):=idx_getD _ (by omega)
    rw[decF h3,bif_r,e,Option.bind_some]
    by_cases h4:i≥((fnn fs n).2.2.2.2.1.length:Int)
    ·rw[decT h4,decF (show ¬addrOK fs (n:Int) i from fun h=>by have:=h.2.2.2;rw[Int.toNat_natCast] at this;omega)];rfl
    ·rw[decF h4,decT (show addrOK fs (n:Int) i from⟨by omega,by omega,by omega,by rw[Int.toNat_natCast];omega⟩)];rfl
theorem or_add (a i:Nat) (hi:i<256):256*a ||| i=256*a+i:=by
 have:=Nat.two_pow_add_eq_or_of_lt (i:=8) (b:=i) (by omega) a
 rw[show (256:Nat)=2 ^ 8 from rfl]
 exact this.symm
theorem ior_add {a i:Nat} (ha:a≤1000) (hi:i<256):ior .u64 (((256*a:Nat):Nat):Int) (i:Int)=((256*a+i:Nat):Int):=by
 unfold ior
 have e:(BitVec.ofInt IntKind.u64.bits ((256*a:Nat):Int) ||| BitVec.ofInt IntKind.u64.bits (i:Int)).toNat=256*a+i:=by
  show (BitVec.ofInt 64 ((256*a:Nat):Int) ||| BitVec.ofInt 64 (i:Int)).toNat=_
  rw[BitVec.ofInt_natCast,BitVec.ofInt_natCast,BitVec.toNat_or,BitVec.toNat_ofNat,BitVec.toNat_ofNat,Nat.mod_eq_of_lt (by omega),Nat.mod_eq_of_lt (by omega),or_add a i hi]
 rw[e];exact wu64_in (by omega)
theorem addr_bd (h:FineOK ts xs fs) {f i:Int} (ha:addrOK fs f i):f<32∧i<200:=by
 obtain⟨h1,h2,h3,h4⟩:=ha
 have:=(h.func (i:=f.toNat) (by omega)).2.2.2.2.2.2.1
 have:=h.2.2.1.2
 omega
noncomputable def atOK (fs:List Func) (a:Nat):Prop:=1≤a / 256∧a / 256≤fs.length∧a % 256<(fnn fs (a / 256-1)).2.2.2.2.1.length
noncomputable def findS (ts:List GType) (xs:List (List UInt8)) (fs:List Func) (a:Nat):Int×Int×Int:=
 if chkE ts xs fs=0 then (if atOK fs a then (((a / 256-1:Nat):Int),((a % 256:Nat):Int),0) else (0,0,6)) else (0,0,chkE ts xs fs)
theorem iand255 {a:Nat} (h:a<18446744073709551616):iand .u64 (a:Int) (255:Int)=((a % 256:Nat):Int):=by
 unfold iand
 have e:(BitVec.ofInt IntKind.u64.bits (a:Int) &&& BitVec.ofInt IntKind.u64.bits 255).toNat=a % 256:=by
  show (BitVec.ofInt 64 (a:Int) &&& BitVec.ofInt 64 255).toNat=_
  rw[BitVec.ofInt_natCast,show BitVec.ofInt 64 255=BitVec.ofNat 64 255 from rfl,BitVec.toNat_and,BitVec.toNat_ofNat,BitVec.toNat_ofNat,Nat.mod_eq_of_lt h]
  exact Nat.and_two_pow_sub_one_eq_mod a 8
 rw[e];exact wu64_in (by omega)
theorem find_ok (hN:1300<N) (hm:imgOK ts xs fs) {a:Nat} (ha:a<18446744073709551616):F15 N (ts,xs,fs,(a:Int))=some (findS ts xs fs a):=by
 rw[F15_eq,check_ok hN hm,Option.bind_some]
 unfold findS
 have hfl:=hm.1.2.2.2.1
 by_cases hc:chkE ts xs fs=0
 ·rw [hc, ne00, bif_r, if_pos rfl, show (256 : Int) = ((256 : Nat) : Int) from rfl, fdiv_nat, iand255 ha, wi64_in (n := ((a % 256 : Nat) : Int)) (by omega), wu64_in (n := (fs.length : Int)) (by omega)]
  have hcond:(bif (((a / 256:Nat):Int)==(0:Int)) then some true else (bif (decide (((a / 256:Nat):Int)>(fs.length:Int))) then some true else (Option.bind (idx fs (wu64 (((a / 256:Nat):Int)-(1:Int)))) fun x1=>some (decide (((a % 256:Nat):Int)≥(x1.2.2.2.2.1.length:Int))))))=some (!decide (atOK fs a)):=by
   by_cases h1:a / 256=0
   ·rw[h1,decF (show ¬atOK fs a from fun h=>by have:=h.1;omega)];rfl
   ·rw [show (((a / 256 : Nat) : Int) == (0 : Int)) = false by rw [beq_eq_false_iff_ne]; omega, bif_r]
    by_cases h2:a / 256>fs.length
    ·rw[decT (show ((a / 256:Nat):Int)>(fs.length:Int) by omega),decF (show ¬atOK fs a from fun h=>by have:=h.2.1;omega)];rfl
    ·have e : idx fs (wu64 (((a / 256 : Nat) : Int) - 1)) = some (fnn fs (a / 256 - 1)) := by
      rw[wu64_in (by omega),show ((a / 256:Nat):Int)-1=((a / 256-1:Nat):Int) by omega]
      exact idx_getD _ (by omega)
     rw[decF (show ¬((a / 256:Nat):Int)>(fs.length:Int) by omega),bif_r,e,Option.bind_some]
     by_cases h3:a % 256<(fnn fs (a / 256-1)).2.2.2.2.1.length
     ·rw[decF (show ¬((a % 256:Nat):Int)≥((fnn fs (a / 256-1)).2.2.2.2.1.length:Int) by omega),decT (show atOK fs a from⟨by omega,by omega,h3⟩)];rfl
     ·rw[decT (show ((a % 256:Nat):Int)≥((fnn fs (a / 256-1)).2.2.2.2.1.length:Int) by omega),decF (show ¬atOK fs a from fun h=>h3 h.2.2)];rfl
  rw[hcond,Option.bind_some]
  by_cases hA:atOK fs a
  ·have h1 := hA.1
   rw[decT hA,Bool.not_true,bif_r,if_pos hA,wi64_in (n:=((a / 256:Nat):Int)) (by omega),wi64_in (by omega)]
   congr 2<;>omega
  ·rw[decF hA,Bool.not_false,bif_l,if_neg hA]
 ·rw[show (chkE ts xs fs != 0)=true by simpa using hc,bif_l,if_neg hc]
end
open Go Go.Eng Go.Sym
open Classical
noncomputable def imgTy (ts:List GType) (fs:List Func):Prop:=
 (∀ t,t∈ts→i64 t.2.2.1)∧∀ f,f∈fs→i64 f.2.2.1∧(∀ x,x∈f.2.2.2.2.1→okI x)∧okR f.2.2.2.2.2.1∧okR f.2.2.2.2.2.2
section
variable {N:Nat} {ts:List GType} {xs:List (List UInt8)} {fs:List Func}
theorem great04_inner (hN:1300<N) {i:Nat} (hi:i<ts.length) (hf:(tyn ts i).2.2.2.length≤20) :
  f28.L0_15 N N (ts,(i:Int),(0:Int))=some (.inl true)∨f28.L0_15 N N (ts,(i:Int),(0:Int))=some (.inr (ts,(i:Int))):=by
 have e:idx ts (i:Int)=some (tyn ts i):=idx_getD _ hi
 rcases loop_find (l:=(tyn ts i).2.2.2) (a:=(.inr (ts,(i:Int)):Bool⊕(List GType×Int))) (b:=.inl true) (P:=fun _=>True) (n:=(tyn ts i).2.2.2.length) (Lf:=fun k j=>f28.L0_15 N k (ts,(i:Int),j)) (Nat.le_refl _) (fun k=>by
   simp only[f28.L0_15_succ,e,Option.bind_some,ge_dec,bif_r]) (fun k j x hj _ hx=>by
   simp only[f28.L0_15_succ,e,Option.bind_some,lt_dec hj,bif_l,idx_get hx,wi64_succ (show j<9223372036854775807 by omega)]
   by_cases h:(x.1.length:Int)>100
   ·rw[decT h];exact .inl rfl
   ·rw[decF h];exact .inr ⟨trivial,rfl⟩) N (by omega) with h|⟨h,_⟩
 ·exact .inl h
 ·exact .inr h
theorem great04_ok (hN:1300<N):F28 N ts=some true∨(F28 N ts=some false∧ts.length≤40∧∀ i,i<ts.length→(tyn ts i).2.2.2.length≤20):=by
 rw[F28_eq]
 by_cases h40:ts.length≤40
 ·rw [decF (show ¬ (ts.length : Int) > 40 by omega), bif_r]
  rcases loop_find (l:=ts) (a:=(.inr ():Bool⊕Unit)) (b:=.inl true) (P:=fun t=>t.2.2.2.length≤20) (n:=ts.length) (Lf:=fun k i=>f28.L0_6 N k (ts,i)) (Nat.le_refl _) (fun k=>by
    simp only[f28.L0_6_succ,ge_dec,bif_r]) (fun k i x hi _ hx=>by
    have hxe:x=tyn ts i:=by rw[tyn,List.getD_eq_getElem?_getD,hx];rfl
    simp only[f28.L0_6_succ,lt_dec hi,bif_l,idx_get hx,Option.bind_some]
    by_cases h:(x.2.2.2.length:Int)>20
    ·rw[decT h];exact .inl rfl
    ·rw [decF h, bif_r]
     rcases great04_inner hN hi (by rw[←hxe];omega) with h2|h2
     ·rw[h2];exact .inl rfl
     ·rw [h2, Option.bind_some]
      exact .inr ⟨by omega,by simp only;rw[wi64_succ (by omega)]⟩) N (by omega) with h|⟨h,h2⟩
  ·rw[h];exact .inl rfl
  ·rw [h]
   refine .inr ⟨rfl,h40,fun i hi=>h2 i _ hi ?_⟩
   rw[tyn,List.getD_eq_getElem?_getD,List.getElem?_eq_getElem hi];rfl
 ·rw[decT (show (ts.length:Int)>40 by omega)];exact .inl rfl
theorem great_inner (hN:1300<N) (n i:Int) (nm:List UInt8) (pa re:Int) {sl:List Field} (hs:sl.length≤20) (co:List Instr) (si li:List Run) :
  f9.L0_28 N N (n,i,(0:Int),ts,xs,fs,nm,pa,re,sl,co,si,li)=some (.inl true)∨f9.L0_28 N N (n,i,(0:Int),ts,xs,fs,nm,pa,re,sl,co,si,li)=some (.inr (n,i,ts,xs,fs)):=by
 rcases loop_find (l:=sl) (a:=(.inr (n,i,ts,xs,fs):Bool⊕(Int×Int×List GType×List (List UInt8)×List Func))) (b:=.inl true) (P:=fun _=>True) (n:=sl.length) (Lf:=fun k j=>f9.L0_28 N k (n,i,j,ts,xs,fs,nm,pa,re,sl,co,si,li)) (Nat.le_refl _) (fun k=>by
   simp only[f9.L0_28_succ,ge_dec,bif_r]) (fun k j x hj _ hx=>by
   simp only[f9.L0_28_succ,Option.bind_some,lt_dec hj,bif_l,idx_get hx,wi64_succ (show j<9223372036854775807 by omega)]
   by_cases h:(x.1.length:Int)>100
   ·rw[decT h];exact .inl rfl
   ·rw[decF h];exact .inr ⟨trivial,rfl⟩) N (by omega) with h|⟨h,_⟩
 ·exact .inl h
 ·exact .inr h
theorem great_ok (hN : 1300 < N) (ht : imgTy ts fs) : F9 N (ts, xs, fs) = some true ∨ (F9 N (ts, xs, fs) = some false ∧ imgOK ts xs fs) := by
 rw[F9_eq]
 rcases great04_ok (N:=N) (ts:=ts) hN with h|⟨h,hl,hf⟩
 ·rw[h];exact .inl rfl
 ·rw [h, Option.bind_some, bif_r]
  by_cases hx:xs.length≤40
  ·by_cases hf40 : fs.length ≤ 40
   ·rw [decF (show ¬ (xs.length : Int) > 40 by omega), decF (show ¬ (fs.length : Int) > 40 by omega), bif_r, Option.bind_some, bif_r]
    rcases loop_find (l:=xs) (a:=(.inr (ts,xs,fs):Bool⊕(List GType×List (List UInt8)×List Func))) (b:=.inl true) (P:=fun s=>s.length≤100) (n:=xs.length) (Lf:=fun k i=>f9.L0_6 N k (i,ts,xs,fs)) (Nat.le_refl _) (fun k=>by
      simp only[f9.L0_6_succ,ge_dec,bif_r]) (fun k i x hi _ hxx=>by
      simp only[f9.L0_6_succ,lt_dec hi,bif_l,idx_get hxx,Option.bind_some,wi64_succ (show i<9223372036854775807 by omega)]
      by_cases h:(x.length:Int)>100
      ·rw[decT h];exact .inl rfl
      ·rw[decF h];exact .inr ⟨by omega,rfl⟩) N (by omega) with h1|⟨h1,hxs⟩
    ·rw[h1];exact .inl rfl
    ·rw [h1, Option.bind_some]
     simp only
     rcases loop_inv_out (l:=fs) (Lf:=fun k i (n:Int)=>f9.L0_17 N k (n,i,ts,xs,fs)) (Inv:=fun i _=>∀ j,j<i→fnFit (fnn fs j)) (Out:=fun r=>r=.inl true) (g:=fun _=>(.inr ():Bool⊕Unit)) (fun k s _=>by
       simp only[f9.L0_17_succ,ge_dec,bif_r]) (fun k i x n hxx hI=>by
       have hi:=len_pos hxx
       have hxe:x=fnn fs i:=by rw[fnn,List.getD_eq_getElem?_getD,hxx];rfl
       simp only[f9.L0_17_succ,lt_dec hi,bif_l,idx_get hxx,Option.bind_some,bif_tt]
       cases hb:(decide ((x.1.length:Int)>100)||(decide ((x.2.2.2.1.length:Int)>20)||(decide ((x.2.2.2.2.1.length:Int)>210)||(decide ((x.2.2.2.2.2.1.length:Int)>210)||(decide ((x.2.2.2.2.2.2.length:Int)>210)||decide (wi64 (n+(x.2.2.2.2.1.length:Int))>1000))))))
       ·simp only [Bool.or_eq_false_iff, decide_eq_false_iff_not] at hb
        obtain⟨k1,k2,k3,k4,k5,_⟩:=hb
        rw[bif_r]
        rcases great_inner (N:=N) (ts:=ts) (xs:=xs) (fs:=fs) hN (wi64 (n+(x.2.2.2.2.1.length:Int))) (i:Int) x.1 x.2.1 x.2.2.1 (sl:=x.2.2.2.1) (by omega) x.2.2.2.2.1 x.2.2.2.2.2.1 x.2.2.2.2.2.2 with h2|h2
        ·rw[h2];exact .inl ⟨_,rfl,rfl⟩
        ·rw [h2, Option.bind_some]
         refine .inr ⟨wi64 (n+(x.2.2.2.2.1.length:Int)),fun j hj=>?_,by simp only;rw[wi64_succ (by omega)]⟩
         by_cases hji:j=i
         ·subst hji
          obtain⟨_,t2,t3,t4⟩:=ht.2 x (mem_of_get hxx)
          rw[←hxe]
          exact⟨by omega,by omega,by omega,by omega,t2,t3,t4⟩
         ·exact hI j (by omega)
       ·exact .inl ⟨_,rfl,rfl⟩) (k:=N) (s:=0) (fun j hj=>by omega) (by omega) with⟨r,rfl,h2⟩|⟨s,hI,h2⟩
     ·rw[h2];exact .inl rfl
     ·rw [h2]
      refine .inr ⟨rfl,⟨⟨by omega,fun i hi=>⟨by have:=hf i hi;omega,ht.1 _ (getD_mem ty0 hi)⟩⟩,by omega,fun s hs=>?_,by omega,fun f hf=>?_⟩,fun f hf=>(ht.2 f hf).1⟩
      ·obtain ⟨i, hi, rfl⟩ := List.mem_iff_getElem.1 hs
       have:=hxs i _ hi (List.getElem?_eq_getElem hi)
       omega
      ·obtain ⟨i, hi, rfl⟩ := mem_getD fn0 hf
       exact hI i hi
   ·rw[decF (show ¬(xs.length:Int)>40 by omega),decT (show (fs.length:Int)>40 by omega)];exact .inl rfl
  ·rw[decT (show (xs.length:Int)>40 by omega)];exact .inl rfl
theorem flat_self {α : Type} (l:List α):l.flatMap (fun x=>[x])=l:=(flatMap_one id l).trans (List.map_id l)
theorem ne_len {α β : Type} {l:List α} {m:List β} : ((l.length:Int) != (m.length:Int)) = !decide (l.length=m.length):=by
 by_cases h:l.length=m.length
 ·rw[decide_eq_true h,h];simp
 ·rw[decide_eq_false h,bne_iff_ne.2 (by omega)];rfl
theorem bne_dec (a b:Int):(a != b) = !decide (a=b):=by by_cases h:a=b<;>simp[h]
theorem field_eq (x y:Field):(x.1==y.1&&(x.2==y.2&&true))=decide (x=y):=by
 obtain⟨a,b⟩:=x;obtain⟨c,d⟩:=y
 by_cases h1:a=c<;>by_cases h2:b=d<;>simp[h1,h2]
theorem run_eq (x y:Run):(x.1==y.1&&(x.2==y.2&&true))=decide (x=y):=by
 obtain⟨a,b⟩:=x;obtain⟨c,d⟩:=y
 by_cases h1:a=c<;>by_cases h2:b=d<;>simp[h1,h2]
theorem instr_eq (x y:Instr):(x.1==y.1&&(x.2.1==y.2.1&&(x.2.2.1==y.2.2.1&&(x.2.2.2==y.2.2.2&&true))))=decide (x=y):=by
 obtain⟨a,b,c,d⟩:=x;obtain⟨a',b',c',d'⟩:=y
 by_cases h1:a=a'<;>by_cases h2:b=b'<;>by_cases h3:c=c'<;>by_cases h4:d=d'<;>simp[h1,h2,h3,h4]
end
open Go Go.Eng Go.Sym
open Classical
theorem alive_ok (N:Nat):F20 (N+300) ()=some true:=by kernel_rfl
theorem okd_get {d:Dyn} {r:List Dyn} (h:okD (d :: r)):d.t.ok d.v∧okD r:=okD_cons.1 h
theorem imgTy_of {ts:List GType} {fs:List Func} (h1:(Ty.sl TGType).ok ts) (h3:(Ty.sl TFunc).ok fs):imgTy ts fs:=by
 refine⟨fun t ht=>(h1.2 t ht).2.2.1,fun f hf=>?_⟩
 obtain⟨_,_,g3,_,g5,g6,g7⟩:=h3.2 f hf
 refine⟨g3,fun x hx=>?_,fun x hx=>?_,fun x hx=>?_⟩
 ·have := g5.2 x hx
  exact⟨this.2.1,this.2.2.1,this.2.2.2⟩
 ·exact (g6.2 x hx).2
 ·exact (g7.2 x hx).2
section
variable {N:Nat} {ts:List GType} {xs:List (List UInt8)} {fs:List Func}
theorem addr_find (hN:1300<N) (hm:imgOK ts xs fs) (hc:chkE ts xs fs=0) {f i:Int} (ha:addrOK fs f i):∃ a:Nat,256*(f+1)+i=(a:Int)∧a<18446744073709551616∧255<a∧F15 N (ts,xs,fs,(a:Int))=some (f,i,0):=by
 have hb:=addr_bd (chk0_fine hc).1 ha
 obtain⟨h1,h2,h3,h4⟩:=ha
 obtain⟨x,rfl⟩:=Int.eq_ofNat_of_zero_le h1
 obtain⟨y,rfl⟩:=Int.eq_ofNat_of_zero_le h3
 rw[Int.toNat_natCast] at h4
 have e1:(256*(x+1)+y) / 256=x+1:=by omega
 have e2:(256*(x+1)+y) % 256=y:=by omega
 refine⟨256*(x+1)+y,by omega,by omega,by omega,?_⟩
 rw[find_ok hN hm (by omega),findS,if_pos hc,if_pos (show atOK fs (256*(x+1)+y) from⟨by omega,by omega,by rw[e1,e2,Nat.add_sub_cancel];omega⟩),e1,e2]
 simp
end
theorem u64_nat {a:Int} (h:(Ty.int .u64).ok a):∃ n:Nat,a=(n:Int)∧n<18446744073709551616:=by
 have h0:(0:Int)≤a:=h.1
 have h1:a≤18446744073709551615:=h.2
 obtain⟨n,rfl⟩:=Int.eq_ofNat_of_zero_le h0
 exact⟨n,rfl,by omega⟩
open Go Go.Eng Go.Sym
open Classical
theorem vary_1 {k n:Nat} (h:n<128):(vary k n).length=1:=by
 cases k with
 |zero=>rfl
 |succ k=>rw[vary,if_pos h];rfl
theorem vary_2 {k n:Nat} (h:n<16384):(vary k n).length≤2:=by
 cases k with
 |zero=>simp[vary]
 |succ k=>
  rw[vary]
  split
  ·simp
  ·rw[List.length_cons,vary_1 (by omega)];exact Nat.le_refl _
theorem V_1 {n:Nat} (h:n<128):(V n).length=1:=vary_1 h
theorem V_2 {n:Nat} (h:n<16384):(V n).length≤2:=vary_2 h
theorem shp_n {p0:Int} {a b c:UInt8} (h:shp p0=some (a,b,c)):a≠110∧c≠110:=by
 rcases ops_cases p0 with h'|ne
 ·have : p0 = 1 ∨ p0 = 2 ∨ p0 = 3 ∨ p0 = 4 ∨ p0 = 5 ∨ p0 = 6 ∨ p0 = 7 ∨ p0 = 8 ∨ p0 = 9 ∨ p0 = 10 ∨ p0 = 11 ∨ p0 = 12 ∨ p0 = 13 ∨ p0 = 14 ∨ p0 = 15 ∨ p0 = 16 ∨ p0 = 17 ∨ p0 = 18 ∨ p0 = 19 ∨ p0 = 20 ∨ p0 = 21 ∨ p0 = 22 ∨ p0 = 23 ∨ p0 = 24 ∨ p0 = 25 ∨ p0 = 26 ∨ p0 = 27 ∨ p0 = 28 ∨ p0 = 29 ∨ p0 = 30 ∨ p0 = 31 ∨ p0 = 32 ∨ p0 = 33 ∨ p0 = 34 := by omega
  rcases this with rfl|rfl|rfl|rfl|rfl|rfl|rfl|rfl|rfl|rfl|rfl|rfl|rfl|rfl|rfl|rfl|rfl|rfl|rfl|rfl|rfl|rfl|rfl|rfl|rfl|rfl|rfl|rfl|rfl|rfl|rfl|rfl|rfl|rfl<;>(simp only[shp_def,F65_eq] at h;injection h with h;injection h with h1 h2;injection h2 with h2 h3;subst h1 h2 h3;exact⟨by decide,by decide⟩)
 ·rw[shp_out ne] at h;cases h
theorem encK_u {c:UInt8} {v hi:Int} (hU:(U c).1=0∧(U c).2.1=hi) (hh:hi≤199) (he:encK c v=V v.toNat) (h:fits c v=true):(encK c v).length≤2:=by
 unfold fits at h
 rw[hU.1,hU.2,Bool.and_eq_true,decide_eq_true_eq,decide_eq_true_eq] at h
 rw[he]
 exact V_2 (by omega)
theorem encK_s {c:UInt8} {v:Int} (hU:(U c).1 = -1∧(U c).2.1=15) (he:encK c v=V (zig v)) (h:fits c v=true):(encK c v).length≤2:=by
 unfold fits at h
 rw[hU.1,hU.2,Bool.and_eq_true,decide_eq_true_eq,decide_eq_true_eq] at h
 rw[he]
 refine V_2 ?_
 unfold zig
 split<;>omega
theorem encK_2 {c:UInt8} {v:Int} (hk:kindOK c=true) (h:fits c v=true) (hc:c≠110):(encK c v).length≤2:=by
 have:c=119∨c=114∨c=110∨c=116∨c=99∨c=98∨c=102∨c=105∨c=103∨c=101∨c=45:=by
  simpa[kindOK] using hk
 rcases this with rfl|rfl|rfl|rfl|rfl|rfl|rfl|rfl|rfl|rfl|rfl
 ·exact encK_u (hi:=15) ⟨rfl,rfl⟩ (by decide) rfl h
 ·exact encK_u (hi:=15) ⟨rfl,rfl⟩ (by decide) rfl h
 ·exact absurd rfl hc
 ·exact encK_u (hi:=31) ⟨rfl,rfl⟩ (by decide) rfl h
 ·exact encK_u (hi:=31) ⟨rfl,rfl⟩ (by decide) rfl h
 ·exact encK_u (hi:=1) ⟨rfl,rfl⟩ (by decide) rfl h
 ·exact encK_u (hi:=7) ⟨rfl,rfl⟩ (by decide) rfl h
 ·exact encK_u (hi:=199) ⟨rfl,rfl⟩ (by decide) rfl h
 ·exact encK_s ⟨rfl,rfl⟩ rfl h
 ·exact encK_s ⟨rfl,rfl⟩ rfl h
 ·exact Nat.zero_le _
theorem encI_15 {x:Instr} (h:chkI x=true):(encI x).length≤15:=by
 have hk:∀ c v,(encK c v).length≤10:=fun c v=>by
  unfold encK
  split
  ·simp
  ·split
   ·exact (V_len _).2
   ·exact (V_len _).2
 unfold chkI at h
 unfold encI
 split
 ·rename_i a b c hs
  rw[hs] at h
  simp only[Bool.and_eq_true] at h
  have h1:=encK_2 (shp_ok hs).1 h.1 (shp_n hs).1
  have h2:=encK_2 (shp_ok hs).2.2 h.2.2 (shp_n hs).2
  have:=hk b x.2.2.1
  simp only[List.length_cons,List.length_append];omega
 ·simp
theorem encR_12:∀ (l:List Run) (was:Int),Inc was l→0≤was→(encR was l).length≤12*l.length
 |[],_,_,_=>by simp[encR]
 |x :: r,was,h,h0=>by
  obtain⟨h1,h2,_,h4⟩:=h
  have:=V_2 (n:=(x.1-was).toNat) (by omega)
  have:=V_len x.2.toNat
  have:=encR_12 r x.1 h4 (by omega)
  simp only[encR,List.length_append,List.length_cons];omega
theorem runs_len {l:List Run} {n:Nat} (h:RunsOK l n):l.length≤n:=by
 have key:∀ i:Nat,i<l.length→(i:Int)≤(rn l i).1:=by
  intro i
  induction i with
  |zero=>intro _;have:=h.2.1;omega
  |succ i ih=>
   intro hi
   have:=ih (by omega)
   have:=(h.2.2.1 i hi).1
   omega
 have h0:=h.1
 have:=key (l.length-1) (by omega)
 have:=h.2.2.2 (l.length-1) (by omega)
 omega
theorem runsE_12 {l:List Run} {n:Nat} (h:RunsOK l n) (hn:n≤200) (hr:okR l):(runsE l).length≤2410:=by
 have:=V_len l.length
 have:=encR_12 l 0 (h.inc (by omega) hr) (Int.le_refl _)
 have:=runs_len h
 rw[runsE,List.length_append];omega
theorem funcE_tight {n:Nat} {f:Func} (h:FuncOK n f) (hn:n≤32) (hf:fnFit f):(funcE f).length≤9900:=by
 have:=V_len f.2.1.toNat;have:=V_len (zig f.2.2.1);have:=V_len f.2.2.2.2.1.length
 have:=fieldsE_len (h.FW hn)
 have:=said_len f.1;have:=nameB_len h.1
 have h200:=h.2.2.2.2.2.2.1
 have:=flatMap_len (l:=f.2.2.2.2.1) (enc:=encI) (m:=15) fun x hx=>encI_15 (h.2.2.2.2.2.2.2.1 x hx)
 have:=runsE_12 h.2.2.2.2.2.2.2.2.1 h200.2 hf.2.2.2.2.2.1
 have:=runsE_12 h.2.2.2.2.2.2.2.2.2 h200.2 hf.2.2.2.2.2.2
 simp only[funcE,List.length_append];omega
theorem fnn_app {fs:List Func} {g:Func} {i:Nat} (h:i<fs.length):fnn (fs++[g]) i=fnn fs i:=getD_app fn0 h
theorem fnn_last (fs:List Func) (g:Func):fnn (fs++[g]) fs.length=g:=by
 simp[fnn,List.getD_eq_getElem?_getD]
section
variable {ts:List GType} {xs:List (List UInt8)} {fs:List Func} {s:List UInt8}
theorem more_fine (h:FineOK ts xs fs) (hx:xs.length≤31) (hf:fs.length≤31) (hs:nameB s=true) (hn:∀ x,x∈fs→x.1≠s) {t:List UInt8} (ht:t.length≤64):FineOK ts (xs++[t]) (fs++[(s,(fnn fs 0).2)]):=by
 have hfun:=fun i hi=>h.func (i:=i) hi
 obtain⟨h1,h2,h3,h4,h5,h6⟩:=h
 refine⟨h1,by simp;omega,by simp;omega,h4,fun x hx'=>?_,fun i hi=>?_⟩
 ·rcases List.mem_append.1 hx' with hx' | hx'
  ·exact h5 x hx'
  ·rw[List.mem_singleton.1 hx'];exact ht
 ·rw [List.length_append, List.length_singleton] at hi
  unfold okFn
  rw[Bool.and_eq_true,decide_eq_true_eq,Bool.not_eq_true',decide_eq_false_iff_not]
  by_cases hi':i<fs.length
  ·have h7 := h6 i hi'
   unfold okFn at h7
   rw[Bool.and_eq_true,decide_eq_true_eq,Bool.not_eq_true',decide_eq_false_iff_not] at h7
   rw[fnn_app hi']
   refine⟨h7.1,fun hd=>h7.2 ?_⟩
   obtain⟨j,hj,e⟩:=hd
   rw[fnn_app (by omega),fnn_app hi'] at e
   exact⟨j,hj,e⟩
  ·have he : i = fs.length := by omega
   subst he
   rw[fnn_last]
   have h0:=hfun 0 (by omega)
   refine⟨⟨hs,h0.2⟩,fun hd=>?_⟩
   obtain⟨j,hj,e⟩:=hd
   rw[fnn_app hj,fnn_last] at e
   exact hn _ (getD_mem fn0 hj) e
theorem more_ok (hm:imgOK ts xs fs) (hx:xs.length≤31) (hf:fs.length≤31) (h1:1≤fs.length) {t:List UInt8} (ht:t.length≤64):imgOK ts (xs++[t]) (fs++[(s,(fnn fs 0).2)]):=by
 obtain⟨⟨m1,m2,m3,m4,m5⟩,m6⟩:=hm
 have h0:fnn fs 0∈fs:=getD_mem fn0 (by omega)
 refine⟨⟨m1,by simp;omega,fun x hx'=>?_,by simp;omega,fun f hf'=>?_⟩,fun f hf'=>?_⟩
 ·rcases List.mem_append.1 hx' with hx' | hx'
  ·exact m3 x hx'
  ·rw[List.mem_singleton.1 hx'];omega
 ·rcases List.mem_append.1 hf' with hf' | hf'
  ·exact m5 f hf'
  ·rw[List.mem_singleton.1 hf'];have h5:=m5 _ h0;exact h5
 ·rcases List.mem_append.1 hf' with hf' | hf'
  ·exact m6 f hf'
  ·rw[List.mem_singleton.1 hf'];have h6:=m6 _ h0;exact h6
theorem more_chk (hm:imgOK ts xs fs) (hc:chkE ts xs fs=0) (hl:(imageE ts xs fs).length≤10000) (hx:xs.length≤31) (hf:fs.length≤31) (hs:nameB s=true) (hn:∀ x,x∈fs→x.1≠s) :
  chkE ts (xs++[[110,101,119]]) (fs++[(s,(fnn fs 0).2)])=0:=by
 have hfine:=(chk0_fine hc).1
 have hF:=more_fine (t:=[110,101,119]) hfine hx hf hs hn (by decide)
 have h1:=hfine.2.2.1.1
 have hM:=more_ok (s:=s) (t:=[110,101,119]) hm hx hf h1 (by decide)
 have hlen:(imageE ts (xs++[[110,101,119]]) (fs++[(s,(fnn fs 0).2)])).length≤20000:=by
  have hg:=hF.func (i:=fs.length) (by simp)
  rw[fnn_last] at hg
  have hb:=funcE_tight hg hfine.1.1 (hM.1.2.2.2.2 _ (by simp))
  have hsaid:(said [110,101,119]).length≤13:=said_len _
  have v1:=V_1 (n:=(xs++[([110,101,119]:List UInt8)]).length) (by simp;omega)
  have v2:=V_1 (n:=(fs++[((s,(fnn fs 0).2):Func)]).length) (by simp;omega)
  have w1:=V_len xs.length
  have w2:=V_len fs.length
  simp only[imageE,List.length_append,List.flatMap_append,List.flatMap_cons,List.flatMap_nil,List.append_nil] at hl v1 v2 ⊢
  omega
 unfold chkE
 rw[if_pos hF,if_pos hlen]
end
noncomputable def two (c d:Nat):List UInt8:=[UInt8.ofNat c,UInt8.ofNat d]
noncomputable def taken (fs:List Func) (s:List UInt8):Prop:=∃ x,x∈fs∧x.1=s
theorem nodup_le {α : Type} [BEq α] [LawfulBEq α]:∀ {l m:List α},l.Nodup→(∀ x,x∈l→x∈m)→l.length≤m.length
 |[],_,_,_=>Nat.zero_le _
 |x :: l,m,h,hs=>by
  have h:=List.nodup_cons.1 h
  have h0:=hs x (List.mem_cons_self ..)
  have h1:=nodup_le (l:=l) (m:=m.erase x) h.2 fun y hy=>(List.mem_erase_of_ne (fun (e:y=x)=>h.1 (by rw[←e];exact hy))).2 (hs y (List.mem_cons_of_mem _ hy))
  have h2:=List.length_erase_of_mem h0
  have h3:=List.length_pos_of_mem h0
  simp only[List.length_cons];omega
noncomputable def cands:List (List UInt8):=(List.range 26).map (fun i=>two 97 (97+i))++(List.range 26).map fun i=>two 98 (97+i)
theorem cands_nodup:([[97,97],[97,98],[97,99],[97,100],[97,101],[97,102],[97,103],[97,104],[97,105],[97,106],[97,107],[97,108],[97,109],[97,110],[97,111],[97,112],[97,113],[97,114],[97,115],[97,116],[97,117],[97,118],[97,119],[97,120],[97,121],[97,122],[98,97],[98,98],[98,99],[98,100],[98,101],[98,102],[98,103],[98,104],[98,105],[98,106],[98,107],[98,108],[98,109],[98,110],[98,111],[98,112],[98,113],[98,114],[98,115],[98,116],[98,117],[98,118],[98,119],[98,120],[98,121],[98,122]]:List (List UInt8)).Nodup:=by decide +kernel
theorem cands_eq:cands=[[97,97],[97,98],[97,99],[97,100],[97,101],[97,102],[97,103],[97,104],[97,105],[97,106],[97,107],[97,108],[97,109],[97,110],[97,111],[97,112],[97,113],[97,114],[97,115],[97,116],[97,117],[97,118],[97,119],[97,120],[97,121],[97,122],[98,97],[98,98],[98,99],[98,100],[98,101],[98,102],[98,103],[98,104],[98,105],[98,106],[98,107],[98,108],[98,109],[98,110],[98,111],[98,112],[98,113],[98,114],[98,115],[98,116],[98,117],[98,118],[98,119],[98,120],[98,121],[98,122]]:=by kernel_rfl
theorem not_all {fs:List Func} (hf:fs.length≤31) (h:∀ c d,97≤c→c≤122→97≤d→d≤122→taken fs (two c d)):False:=by
 have hn:cands.Nodup:=by rw[cands_eq];exact cands_nodup
 have hl:cands.length=52:=by rw[cands_eq];rfl
 have:=nodup_le (m:=fs.map (·.1)) hn fun x hx=>by
  have:∃ c d,97≤c∧c≤122∧97≤d∧d≤122∧x=two c d:=by
   rcases List.mem_append.1 hx with hx|hx
   ·obtain ⟨i, hi, rfl⟩ := List.mem_map.1 hx
    have:=List.mem_range.1 hi
    exact⟨97,97+i,by omega,by omega,by omega,by omega,rfl⟩
   ·obtain ⟨i, hi, rfl⟩ := List.mem_map.1 hx
    have:=List.mem_range.1 hi
    exact⟨98,97+i,by omega,by omega,by omega,by omega,rfl⟩
  obtain⟨c,d,h1,h2,h3,h4,rfl⟩:=this
  obtain⟨y,hy,e⟩:=h c d h1 h2 h3 h4
  exact List.mem_map.2 ⟨y,hy,e⟩
 rw[List.length_map] at this
 omega
theorem two_name0:∀ i j:Fin 26,nameB (two (97+i.1) (97+j.1))=true:=by decide +kernel
theorem two_name {c d:Nat} (h1:97≤c) (h2:c≤122) (h3:97≤d) (h4:d≤122):nameB (two c d)=true:=by
 have:=two_name0 ⟨c-97,by omega⟩ ⟨d-97,by omega⟩
 simpa only[show 97+(c-97)=c by omega,show 97+(d-97)=d by omega] using this
noncomputable def Good (fs:List Func) (s:List UInt8):Prop:=¬taken fs s∧∃ c d,97≤c∧c≤122∧97≤d∧d≤122∧s=two c d
theorem eqNil (s:List UInt8):(s==([]:List UInt8))=decide (s=[]):=by cases s<;>simp
section
variable {N:Nat} {a:Int} {ts ts':List GType} {xs xs':List (List UInt8)} {fs fs':List Func} {p1 p2:Int} {p3:List Field} {p4:List Instr} {p5 p6:List Run}
theorem in_loop {s:List UInt8} {c d:Int} (hl:fs.length≤50):∀ (r pre:List Func) (k:Nat),fs=pre++r→r.length<k→
  f5.L0_23 N k (a,c,d,(pre.length:Int),ts,xs,fs,ts',xs',fs',s,p1,p2,p3,p4,p5,p6)=some (a,c,d,ts,xs,fs,ts',xs',fs',(if taken r s then [] else s),p1,p2,p3,p4,p5,p6)
 |[],pre,k+1,he,_=>by
  have hlen:fs.length=pre.length:=by rw[he];simp
  rw[f5.L0_23_succ,decF (show ¬(pre.length:Int)<(fs.length:Int) by omega),bif_r,if_neg (fun⟨x,hx,_⟩=>by cases hx)]
 | x :: r, pre, k + 1, he, hk => by
  have hlen:pre.length+(r.length+1)=fs.length:=by rw[he];simp
  have hget:fs[pre.length]?=some x:=by rw[he];simp
  rw[f5.L0_23_succ,decT (show (pre.length:Int)<(fs.length:Int) by omega),bif_l,idx_get hget,Option.bind_some]
  by_cases hx:x.1=s
  ·rw[show (x.1==s)=true by simpa using hx,bif_l,if_pos ⟨x,List.mem_cons_self ..,hx⟩]
  ·rw [show (x.1 == s) = false by simpa using hx, bif_r, wi64_succ (show pre.length < 9223372036854775807 by omega)]
   have ih:=in_loop (s:=s) (c:=c) (d:=d) hl r (pre++[x]) k (by rw[he];simp) (by simp only[List.length_cons] at hk;omega)
   rw[show (pre++[x]).length=pre.length+1 by simp] at ih
   have e:(if taken (x :: r) s then ([]:List UInt8) else s)=(if taken r s then [] else s):=by
    by_cases ht:taken r s
    ·obtain ⟨y, hy, e⟩ := ht
     rw[if_pos ⟨y,List.mem_cons_of_mem _ hy,e⟩,if_pos ⟨y,hy,e⟩]
    ·rw [if_neg ht, if_neg]
     rintro⟨y,hy,e⟩
     rcases List.mem_cons.1 hy with rfl|hy
     ·exact hx e
     ·exact ht ⟨y,hy,e⟩
   rw[e]
   exact ih
theorem d_loop (hN:1300<N) (hl:fs.length≤50) {c:Nat} (hc1:97≤c) (hc2:c≤122):∀ (m d k:Nat) (s:List UInt8),d+m=123→97≤d→m<k→(s=[]∨Good fs s)→
  ∃ s',f5.L0_16 N k (a,(c:Int),(d:Int),ts,xs,fs,ts',xs',fs',s,p1,p2,p3,p4,p5,p6)=some (a,(c:Int),ts,xs,fs,ts',xs',fs',s',p1,p2,p3,p4,p5,p6)∧
   (s'=[]∨Good fs s')∧(s≠[]→s'=s)∧(s'=[]→∀ d',d≤d'→d'≤122→taken fs (two c d'))
 |0,d,k+1,s,hd,_,_,hs=>by
  refine⟨s,?_,hs,fun _=>rfl,fun _ d' h1 h2=>by omega⟩
  rw[f5.L0_16_succ,decF (show ¬(d:Int)≤122 by omega),bif_r,Option.bind_some,bif_r]
 | m + 1, d, k + 1, s, hd, hd1, hk, hs => by
  rw[f5.L0_16_succ,decT (show (d:Int)≤122 by omega),bif_l,Option.bind_some,eqNil]
  by_cases h:s=[]
  ·rw [decT h, bif_l]
   have h1:=in_loop (N:=N) (a:=a) (ts:=ts) (ts':=ts') (xs:=xs) (xs':=xs') (fs':=fs') (p1:=p1) (p2:=p2) (p3:=p3) (p4:=p4) (p5:=p5) (p6:=p6) (s:=two c d) (c:=(c:Int)) (d:=(d:Int)) hl fs [] N rfl (by omega)
   have h2:f5.L0_23 N N (a,(c:Int),(d:Int),(0:Int),ts,xs,fs,ts',xs',fs',([(c:Int),(d:Int)].map fun (n:Int)=>UInt8.ofNat n.toNat),p1,p2,p3,p4,p5,p6)=some (a,(c:Int),(d:Int),ts,xs,fs,ts',xs',fs',(if taken fs (two c d) then [] else two c d),p1,p2,p3,p4,p5,p6):=h1
   rw[h2,Option.bind_some]
   simp only
   rw[show wu8 ((d:Int)+1)=((d+1:Nat):Int) by rw[wu8_in (by omega)];rfl]
   have hg:(if taken fs (two c d) then ([]:List UInt8) else two c d)=[]∨Good fs (if taken fs (two c d) then ([]:List UInt8) else two c d):=by
    by_cases ht:taken fs (two c d)
    ·rw[if_pos ht];exact .inl rfl
    ·rw[if_neg ht];exact .inr ⟨ht,c,d,hc1,hc2,hd1,by omega,rfl⟩
   obtain⟨s',g1,g2,g3,g4⟩:=d_loop hN hl hc1 hc2 m (d+1) k _ (by omega) (by omega) (by omega) hg
   refine⟨s',g1,g2,fun hne=>absurd h hne,fun h0 d' q1 q2=>?_⟩
   by_cases hdd:d'=d
   ·subst hdd
    by_cases ht:taken fs (two c d')
    ·exact ht
    ·rw [if_neg ht] at g3
     have:=g3 (by unfold two;simp)
     rw[h0] at this
     unfold two at this
     cases this
   ·exact g4 h0 d' (by omega) q2
  ·rw [decF h, bif_r]
   exact⟨s,rfl,hs,fun _=>rfl,fun h0=>absurd h0 h⟩
theorem c_loop (hN:1300<N) (hl:fs.length≤50):∀ (m c k:Nat) (s:List UInt8),c+m=123→97≤c→m<k→(s=[]∨Good fs s)→
  ∃ s',f5.L0_10 N k (a,(c:Int),ts,xs,fs,ts',xs',fs',s,p1,p2,p3,p4,p5,p6)=some (a,ts,xs,fs,ts',xs',fs',s',p1,p2,p3,p4,p5,p6)∧
   (s'=[]∨Good fs s')∧(s≠[]→s'=s)∧(s'=[]→∀ c' d',c≤c'→c'≤122→97≤d'→d'≤122→taken fs (two c' d'))
 |0,c,k+1,s,hd,_,_,hs=>by
  refine⟨s,?_,hs,fun _=>rfl,fun _ c' d' h1 h2=>by omega⟩
  rw[f5.L0_10_succ,decF (show ¬(c:Int)≤122 by omega),bif_r,Option.bind_some,bif_r]
 | m + 1, c, k + 1, s, hd, hd1, hk, hs => by
  rw[f5.L0_10_succ,decT (show (c:Int)≤122 by omega),bif_l,Option.bind_some,eqNil]
  by_cases h:s=[]
  ·rw [decT h, bif_l]
   obtain⟨s1,q1,q2,_,q4⟩:=d_loop (N:=N) (a:=a) (ts:=ts) (ts':=ts') (xs:=xs) (xs':=xs') (fs':=fs') (p1:=p1) (p2:=p2) (p3:=p3) (p4:=p4) (p5:=p5) (p6:=p6) hN hl (c:=c) hd1 (by omega) 26 97 N s (by omega) (by omega) (by omega) hs
   have q1':f5.L0_16 N N (a,(c:Int),(97:Int),ts,xs,fs,ts',xs',fs',s,p1,p2,p3,p4,p5,p6)=some (a,(c:Int),ts,xs,fs,ts',xs',fs',s1,p1,p2,p3,p4,p5,p6):=q1
   rw[q1',Option.bind_some]
   simp only
   rw[show wu8 ((c:Int)+1)=((c+1:Nat):Int) by rw[wu8_in (by omega)];rfl]
   obtain⟨s',g1,g2,g3,g4⟩:=c_loop hN hl m (c+1) k s1 (by omega) (by omega) (by omega) q2
   refine⟨s',g1,g2,fun hne=>absurd h hne,fun h0 c' d' r1 r2 r3 r4=>?_⟩
   by_cases hcc:c'=c
   ·subst hcc
    by_cases h1:s1=[]
    ·exact q4 h1 d' r3 r4
    ·have := g3 h1
     rw[h0] at this
     exact absurd this.symm h1
   ·exact g4 h0 c' d' (by omega) r2 r3 r4
  ·rw [decF h, bif_r]
   exact⟨s,rfl,hs,fun _=>rfl,fun h0=>absurd h0 h⟩
end
section
variable {N:Nat} {ts:List GType} {xs:List (List UInt8)} {fs:List Func}
theorem twin04_ok (hN:1300<N) (hm:imgOK ts xs fs):F29 N ts=some ts:=by
 obtain⟨⟨m1,m2,m3,m4,m5⟩,_⟩:=hm
 have htl:=m1.1
 have k1:=loop_out (l:=ts) (enc:=fun t=>[t]) (g:=id) (B:=1000) (m:=1) (Lf:=fun k i s=>f29.L0_4 N k (ts,s,i)) (fun k s=>by
  simp only[f29.L0_4_succ,ge_dec,bif_r];rfl) (fun k i x s hx hmx hB=>by
  obtain⟨j,hj,rfl⟩:=mem_getD ty0 hmx
  have hf:=(m1.2 j hj).1
  simp only[tyn] at hf
  simp only[f29.L0_4_succ,lt_dec (len_pos hx),bif_l,idx_get hx,Option.bind_some,room_small (show 0+(ts.getD j ty0).2.2.2.length≤10000000 by omega) (show 24≤1000 by omega),room_small (show s.length+1≤10000000 by omega) (show 48≤1000 by omega),chk_true,List.nil_append,wi64_succ (show i<9223372036854775807 by have:=len_pos hx;omega)]) (fun x _=>by simp) (k:=N) (s:=[]) (by omega) (by simp;omega)
 rw[flat_self,List.nil_append] at k1
 rw[F29_eq,k1,Option.bind_some,id]
theorem copy_ok (hN:1300<N) (hm:imgOK ts xs fs):f5.L1043000_4 N N ((0:Int),ts,xs,fs,ts,xs,[],ts,xs,fs)=some (ts,xs,fs,ts,xs,fs):=by
 obtain⟨⟨m1,m2,m3,m4,m5⟩,_⟩:=hm
 have k2:=loop_out (l:=fs) (enc:=fun t=>[t]) (g:=fun s=>(ts,xs,s,ts,xs,fs)) (B:=1000) (m:=1) (Lf:=fun k i s=>f5.L1043000_4 N k (i,ts,xs,fs,ts,xs,s,ts,xs,fs)) (fun k s=>by
  simp only[f5.L1043000_4_succ,ge_dec,bif_r]) (fun k i x s hx hmx hB=>by
  obtain⟨g1,g2,g3,g4,_⟩:=m5 x hmx
  simp only[f5.L1043000_4_succ,lt_dec (len_pos hx),bif_l,idx_get hx,Option.bind_some,room_small (show 0+x.2.2.2.1.length≤10000000 by omega) (show 24≤1000 by omega),room_small (show 0+x.2.2.2.2.1.length≤10000000 by omega) (show 32≤1000 by omega),room_small (show 0+x.2.2.2.2.2.1.length≤10000000 by omega) (show 16≤1000 by omega),room_small (show 0+x.2.2.2.2.2.2.length≤10000000 by omega) (show 16≤1000 by omega),room_small (show s.length+1≤10000000 by omega) (show 128≤1000 by omega),chk_true,List.nil_append,wi64_succ (show i<9223372036854775807 by have:=len_pos hx;omega)]) (fun x _=>by simp) (k:=N) (s:=[]) (by omega) (by simp;omega)
 rwa[flat_self,List.nil_append] at k2
theorem atOK_app {g:Func} {a:Nat} (h:atOK fs a):atOK (fs++[g]) a:=by
 obtain⟨h1,h2,h3⟩:=h
 refine⟨h1,by simp;omega,?_⟩
 rw[fnn_app (by omega)]
 exact h3
theorem atOK_new {g:Func} {a:Nat} (h:¬atOK fs a) (h':atOK (fs++[g]) a):a / 256-1=fs.length:=by
 obtain⟨h1,h2,h3⟩:=h'
 rw[List.length_append,List.length_singleton] at h2
 by_cases he:a / 256≤fs.length
 ·rw [fnn_app (by omega)] at h3
  exact absurd ⟨h1,he,h3⟩ h
 ·omega
theorem mores_ok (hN : 1300 < N) (hal : F20 N () = some true) (ht : imgTy ts fs) {a : Nat} (ha : a < 18446744073709551616) : F5 N (ts, xs, fs, (a : Int)) = some true := by
 rw[F5_eq,hal]
 rcases great_ok (N:=N) (xs:=xs) hN ht with h|⟨h,hm⟩
 ·rw[h];rfl
 ·rw [h, Option.bind_some, bif_r, check09_ok hN hm, Option.bind_some, Option.bind_some]
  by_cases hc:chkE ts xs fs=0
  ·rw [hc, ne00, bif_r]
   by_cases hx:xs.length≤31
   ·by_cases hf : fs.length ≤ 31
    ·rw [decF (show ¬ (xs.length : Int) > 31 by omega), bif_r, decF (show ¬ (fs.length : Int) > 31 by omega), bif_r, coded_ok hN hm (chk0_fine hc).1, Option.bind_some]
     by_cases hi:(imageE ts xs fs).length≤10000
     ·have hfine := (chk0_fine hc).1
      have h1:=hfine.2.2.1.1
      rw[decF (show ¬((imageE ts xs fs).length:Int)>10000 by omega),bif_r,twin04_ok hN hm,Option.bind_some,room_small (by omega) (by omega),chk_true,List.nil_append,copy_ok hN hm,Option.bind_some]
      simp only
      rw[room_small (by omega) (by omega),chk_true,show idx fs (0:Int)=some (fnn fs 0) from idx_getD (i:=0) fn0 (by omega),Option.bind_some]
      obtain⟨s,g1,g2,_,g4⟩:=c_loop (N:=N) (a:=(a:Int)) (ts:=ts) (ts':=ts) (xs:=xs) (xs':=xs++[[110,101,119]]) (fs:=fs) (fs':=fs) (p1:=(fnn fs 0).2.1) (p2:=(fnn fs 0).2.2.1) (p3:=(fnn fs 0).2.2.2.1) (p4:=(fnn fs 0).2.2.2.2.1) (p5:=(fnn fs 0).2.2.2.2.2.1) (p6:=(fnn fs 0).2.2.2.2.2.2) hN (by omega) 26 97 N [] (by omega) (by omega) (by omega) (.inl rfl)
      have g1':f5.L0_10 N N ((a:Int),(97:Int),ts,xs,fs,ts,(xs++[[110,101,119]]),fs,([]:List UInt8),(fnn fs 0).2.1,(fnn fs 0).2.2.1,(fnn fs 0).2.2.2.1,(fnn fs 0).2.2.2.2.1,(fnn fs 0).2.2.2.2.2.1,(fnn fs 0).2.2.2.2.2.2)=some ((a:Int),ts,xs,fs,ts,(xs++[[110,101,119]]),fs,s,(fnn fs 0).2.1,(fnn fs 0).2.2.1,(fnn fs 0).2.2.2.1,(fnn fs 0).2.2.2.2.1,(fnn fs 0).2.2.2.2.2.1,(fnn fs 0).2.2.2.2.2.2):=g1
      rw[g1',Option.bind_some]
      simp only
      have hg:Good fs s:=by
       rcases g2 with e|hg
       ·exact (not_all hf fun c d q1 q2 q3 q4=>g4 e c d q1 q2 q3 q4).elim
       ·exact hg
      obtain⟨hfree,c,d,q1,q2,q3,q4,rfl⟩:=hg
      have hnm:=two_name q1 q2 q3 q4
      have hne:∀ x,x∈fs→x.1≠two c d:=fun x hx e=>hfree ⟨x,hx,e⟩
      have hC:=more_chk hm hc hi hx hf hnm hne
      have hM:=more_ok (s:=two c d) (t:=[110,101,119]) hm hx hf h1 (by decide)
      have eg:((two c d,(fnn fs 0).2.1,(fnn fs 0).2.2.1,(fnn fs 0).2.2.2.1,(fnn fs 0).2.2.2.2.1,(fnn fs 0).2.2.2.2.2.1,(fnn fs 0).2.2.2.2.2.2):Func)=(two c d,(fnn fs 0).2):=rfl
      rw[eg,room_small (by omega) (by omega),chk_true,find_ok hN hm ha,Option.bind_some,find_ok hN hM ha,Option.bind_some,check_ok hN hM,hC,Option.bind_some]
      simp only[show ((0:Int)==0)=true from rfl,bif_l]
      unfold findS
      rw[if_pos hc,if_pos hC]
      by_cases hA:atOK fs a
      ·rw [if_pos hA, if_pos (atOK_app hA)]
       simp
      ·rw [if_neg hA]
       by_cases hB:atOK (fs++[(two c d,(fnn fs 0).2)]) a
       ·rw [if_pos hB, atOK_new hA hB]
        simp
       ·rw [if_neg hB]
        rfl
     ·rw[decT (show ((imageE ts xs fs).length:Int)>10000 by omega)];rfl
    ·rw[decF (show ¬(xs.length:Int)>31 by omega),bif_r,decT (show (fs.length:Int)>31 by omega)];rfl
   ·rw[decT (show (xs.length:Int)>31 by omega)];rfl
  ·rw[show (chkE ts xs fs != 0)=true by simpa using hc];rfl
end
theorem more_law:∀ x,okL [.sl TGType,.sl .str,.sl TFunc,.int .u64] x→F5 6000 x=some true:=by
 intro x h
 obtain⟨h1,h⟩:=okd_get h
 obtain⟨_,h⟩:=okd_get h
 obtain⟨h3,h⟩:=okd_get h
 obtain⟨h6,_⟩:=okd_get h
 obtain⟨ts,xs,fs,a⟩:=x
 obtain⟨n,rfl,hn⟩:=u64_nat h6
 exact mores_ok (by omega) (alive_ok 5700) (imgTy_of h1 h3) hn
end Go.Proofs.Ytlfhlggkbcncoaa
