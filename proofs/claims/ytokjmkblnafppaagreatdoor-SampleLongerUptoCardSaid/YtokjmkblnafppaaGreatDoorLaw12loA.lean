/- The plain law, in one text. -/
import Derived.Test.YtokjmkblnafppaaGreatDoorGen12lo
import Derived.KernelRfl
import Derived.Test.YtokjmkblnafppaaGreatDoorPlain2
namespace Go.Proofs.YtokjmkblnafppaaGreatDoor
set_option linter.unusedSimpArgs false
set_option linter.unusedVariables false
open Go Go.bI Go.Sym
open Go Go.bI Go.Sym
theorem lu (a b:Bool):(bif a then some true else some b:Option Bool)=some (a||b):=by cases a<;>rfl
theorem Ef (a b:Bool):(bif a then some b else some false:Option Bool)=some (a&&b):=by cases a<;>rfl
theorem aV {α : Type} (a b : α):(bif true then a else b)=a:=rfl
theorem aS {α : Type} (a b : α):(bif false then a else b)=b:=rfl
noncomputable def U (c:UInt8):Int×Int×Bool×Bool:=
 if c=119 then (0,15,false,true) else if c=114 then (0,15,true,false) else if c=110 then (-9223372036854775808,9223372036854775807,false,false)
 else if c=116 then (0,31,false,false) else if c=99 then (0,31,false,false) else if c=98 then (0,1,false,false) else if c=102 then (0,7,false,false)
 else if c=105 then (0,199,false,false) else if c=103 then (-1,15,false,true) else if c=101 then (-1,15,true,false) else (0,0,false,false)
noncomputable def Jc (c:UInt8):Bool:=[119,114,110,116,99,98,102,105,103,101,45].contains c
noncomputable def X9:List (UInt8×UInt8×UInt8):=[(119,110,45),(119,116,45),(119,98,45),(119,45,45),(119,114,45),(119,114,114),(119,114,114),(119,114,114),(119,114,114),(119,114,114),(119,114,114),(119,114,45),(119,114,102),(114,102,114),(119,45,45),(119,114,45),(114,114,45),(119,114,45),(119,114,114),(114,114,114),(119,114,45),(105,45,45),(114,105,45),(114,45,45),(103,99,45),(99,45,45),(99,45,45),(114,45,45),(119,119,45),(45,45,45),(45,45,45),(114,45,45),(119,114,45),(101,45,45)]
noncomputable def Jd (op:Int):Option (UInt8×UInt8×UInt8):=if 1≤op∧op≤34 then X9[(op-1).toNat]? else none
theorem Mo (p0:Int):(1≤p0∧p0≤34)∨∀ k:Int,1≤k→k≤34→(p0==k)=false:=by
 by_cases h:1≤p0∧p0≤34
 ·exact .inl h
 ·exact .inr fun k h1 h2=>by simp;omega
theorem Je {N:Nat} {p0:Int} (ne:∀ k:Int,1≤k→k≤34→(p0==k)=false):QJ N p0=some ((0:Int),(0:Int),false,false,(0:Int),(0:Int),false,false,(0:Int),(0:Int),false,false,(-1:Int)):=by
 simp only[QJ.eq_1,ne 1 (by decide) (by decide),ne 2 (by decide) (by decide),ne 3 (by decide) (by decide),ne 4 (by decide) (by decide),ne 5 (by decide) (by decide),ne 6 (by decide) (by decide),ne 7 (by decide) (by decide),ne 8 (by decide) (by decide),ne 9 (by decide) (by decide),ne 10 (by decide) (by decide),ne 11 (by decide) (by decide),ne 12 (by decide) (by decide),ne 13 (by decide) (by decide),ne 14 (by decide) (by decide),ne 15 (by decide) (by decide),ne 16 (by decide) (by decide),ne 17 (by decide) (by decide),ne 18 (by decide) (by decide),ne 19 (by decide) (by decide),ne 20 (by decide) (by decide),ne 21 (by decide) (by decide),ne 22 (by decide) (by decide),ne 23 (by decide) (by decide),ne 24 (by decide) (by decide),ne 25 (by decide) (by decide),ne 26 (by decide) (by decide),ne 27 (by decide) (by decide),ne 28 (by decide) (by decide),ne 29 (by decide) (by decide),ne 30 (by decide) (by decide),ne 31 (by decide) (by decide),ne 32 (by decide) (by decide),ne 33 (by decide) (by decide),ne 34 (by decide) (by decide),aS,lu,Bool.or_false,Option.bind_some]
theorem Tg {p0:Int} (ne:∀ k:Int,1≤k→k≤34→(p0==k)=false):Jd p0=none:=by
 unfold Jd
 rw[if_neg fun h=>by have:=ne p0 h.1 h.2;simp at this]
theorem Th:(X9.all fun s=>(Jc s.1&&(Jc s.2.1&&Jc s.2.2))&&((!(s.1==45)||s.2.1==45)&&(!(s.2.1==45)||s.2.2==45)))=true:=by decide
theorem Ti {p0:Int} {s:UInt8×UInt8×UInt8} (h:Jd p0=some s):s∈X9:=by
 unfold Jd at h
 split at h
 ·exact List.mem_of_getElem? h
 ·cases h
noncomputable def cnt (a b c:UInt8):Int:=if c≠45 then 3 else if b≠45 then 2 else if a≠45 then 1 else 0
theorem Ya (a b c:UInt8):decide (cnt a b c<0)=false:=by
 unfold cnt
 split
 ·rfl
 ·split
  ·rfl
  ·split<;>rfl
theorem tj (N:Nat) (p0:Int):QJ N p0=some (match Jd p0 with
  |some (a,b,c)=>((U a).1,(U a).2.1,(U a).2.2.1,(U a).2.2.2,(U b).1,(U b).2.1,(U b).2.2.1,(U b).2.2.2,(U c).1,(U c).2.1,(U c).2.2.1,(U c).2.2.2,cnt a b c)
  |none=>((0:Int),(0:Int),false,false,(0:Int),(0:Int),false,false,(0:Int),(0:Int),false,false,(-1:Int))):=by
 rcases Mo p0 with h|ne
 ·have : p0 = 1 ∨ p0 = 2 ∨ p0 = 3 ∨ p0 = 4 ∨ p0 = 5 ∨ p0 = 6 ∨ p0 = 7 ∨ p0 = 8 ∨ p0 = 9 ∨ p0 = 10 ∨ p0 = 11 ∨ p0 = 12 ∨ p0 = 13 ∨ p0 = 14 ∨ p0 = 15 ∨ p0 = 16 ∨ p0 = 17 ∨ p0 = 18 ∨ p0 = 19 ∨ p0 = 20 ∨ p0 = 21 ∨ p0 = 22 ∨ p0 = 23 ∨ p0 = 24 ∨ p0 = 25 ∨ p0 = 26 ∨ p0 = 27 ∨ p0 = 28 ∨ p0 = 29 ∨ p0 = 30 ∨ p0 = 31 ∨ p0 = 32 ∨ p0 = 33 ∨ p0 = 34 := by omega
  rcases this with rfl|rfl|rfl|rfl|rfl|rfl|rfl|rfl|rfl|rfl|rfl|rfl|rfl|rfl|rfl|rfl|rfl|rfl|rfl|rfl|rfl|rfl|rfl|rfl|rfl|rfl|rfl|rfl|rfl|rfl|rfl|rfl|rfl|rfl<;>(simp only[QJ.eq_1,uW.eq_1,OU.eq_1,yb.eq_1,pO.eq_1,Option.bind_some];rfl)
 ·rw[Je ne,Tg ne]
theorem PA {p0:Int} {a b c:UInt8} (h:Jd p0=some (a,b,c)):(a=45→b=45)∧(b=45→c=45):=by
 have:=List.all_eq_true.1 Th _ (Ti h)
 simp only[Bool.and_eq_true,Bool.or_eq_true,Bool.not_eq_true',beq_eq_false_iff_ne,beq_iff_eq] at this
 exact⟨fun e=>this.2.1.resolve_left fun n=>n e,fun e=>this.2.2.resolve_left fun n=>n e⟩
noncomputable def i64 (v:Int):Prop:=-9223372036854775808≤v∧v≤9223372036854775807
noncomputable def fits (c:UInt8) (v:Int):Bool:=decide ((U c).1≤v)&&decide (v≤(U c).2.1)
noncomputable def jX (x:Instr):Bool:=
 match Jd x.1 with
 |some (a,b,c)=>fits a x.2.1&&(fits b x.2.2.1&&fits c x.2.2.2)
 |none=>false
noncomputable def QN (x:Instr):Prop:=i64 x.2.1∧i64 x.2.2.1∧i64 x.2.2.2
theorem acE (c:UInt8) (v:Int):(decide (v<(U c).1)||decide (v>(U c).2.1)) = !fits c v:=by
 unfold fits
 by_cases h1:v<(U c).1
 ·simp[h1,show ¬(U c).1≤v by omega]
 ·by_cases h2 : v > (U c).2.1
  ·simp[h2,show ¬v≤(U c).2.1 by omega]
  ·simp[h1,h2,show (U c).1≤v by omega,show v≤(U c).2.1 by omega]
theorem rH (N:Nat) (x:Instr):SP N (x.1,x.2.1,x.2.2.1,x.2.2.2)=some (bif jX x then 0 else 8):=by
 rw[SP.eq_1,tj,Option.bind_some]
 unfold jX
 cases Jd x.1 with
 |none=>rfl
 |some s=>
  obtain⟨a,b,c⟩:=s
  simp only[SO.eq_1,Option.bind_some,Ya,aS,lu,acE]
  cases fits a x.2.1<;>cases fits b x.2.2.1<;>cases fits c x.2.2.2<;>rfl
open Go Go.bI Go.Sym
theorem CS (N:Nat):∀ (j k n:Nat) (pre:List Int),n<128 ^ (j+1)→j<k→pre.length+j≤1000→∃ (m:Nat) (l:List Int),f116.kz N k ((n:Int),pre)=some ((m:Int),pre++l)∧AA j n=l++[(m:Int)]∧m<128∧l.length≤j
 |j,0,n,pre,_,h,_=>by omega
 |0,k+1,n,pre,hn,_,_=>by
  refine⟨n,[],?_,rfl,by omega,by simp⟩
  rw[f116.kz.eq_2,decide_eq_false (by omega),aS,List.append_nil]
 | j + 1, k + 1, n, pre, hn, hk, hp => by
  rw[f116.kz.eq_2]
  by_cases h:n<128
  ·refine ⟨n, [], ?_, by rw [AA, if_pos h]; rfl, h, by simp⟩
   rw[decide_eq_false (by omega),aS,List.append_nil]
  ·obtain ⟨m, l, h1, h2, h3, h4⟩ := CS N j k (n / 128) (pre ++ [((n % 128 + 128 : Nat) : Int)]) (by rw [Nat.pow_succ] at hn; omega) (by omega) (by simp; omega)
   refine⟨m,((n % 128+128:Nat):Int) :: l,?_,by rw[AA,if_neg h,h2];rfl,h3,by simp;omega⟩
   rw[decide_eq_true (by omega),aV,aI (by omega) (by omega),aF,yD,OF _ (Nat.mod_lt _ (by omega)),show (128:Int)=((128:Nat):Int) from rfl,AD,show n % 256 % 128=n % 128 by omega,h1,List.append_assoc]
   rfl
theorem u5 {N n:Nat} (hN:20<N) (hn:n<18446744073709551616):fU N (n:Int)=some (V n):=by
 rw[fU.eq_1]
 unfold V
 by_cases h:n<128
 ·rw[decide_eq_false (by omega),aS,aI (by omega) (by omega),aF,AA,if_pos h,yD,Nat.mod_eq_of_lt (by omega)]
 ·rw [decide_eq_true (by omega), aV, aI (by omega) (by omega), aF]
  obtain⟨m,l,h1,h2,h3,h4⟩:=CS N 8 N (n / 128) [((n % 128+128:Nat):Int)] (by omega) (by omega) (by simp)
  rw[yD,OF _ (Nat.mod_lt _ (by omega)),show (128:Int)=((128:Nat):Int) from rfl,AD,show n % 256 % 128=n % 128 by omega,h1,Option.bind_some,aI (by simp;omega) (by omega),aF,AA,if_neg h,h2,yD,show m % 256=m by omega]
  rfl
noncomputable def said (s:List UInt8):List Int:=V s.length++cu s
theorem u6 (s:List UInt8):(said s).length≤10+s.length:=by
 have:=dH s.length
 rw[said,List.length_append,cM];omega
theorem wrap_u64 (n:Int):IntKind.u64.wrap n=n % 18446744073709551616:=rfl
theorem PB {n:Int} (h : -9223372036854775808≤n∧n≤9223372036854775807):Sf .u64 (dn ((dn n)*2)) (dn (Int.fdiv n 9223372036854775808))=(Ku n:Int):=by
 unfold Ku
 by_cases h0:0≤n
 ·rw [if_pos h0, mU (n := n) (by omega), Int.fdiv_eq_ediv_of_nonneg _ (by omega), Int.ediv_eq_zero_of_lt h0 (by omega), mU (n := n * 2) (by omega), mU (n := 0) (by omega)]
  have e:n*2=(((2*n).toNat:Nat):Int):=by omega
  rw[e]
  unfold Sf
  have e2:(BitVec.ofInt IntKind.u64.bits (((2*n).toNat:Nat):Int) ^^^ BitVec.ofInt IntKind.u64.bits 0).toNat=(2*n).toNat:=by
   show (BitVec.ofInt 64 (((2*n).toNat:Nat):Int) ^^^ BitVec.ofInt 64 0).toNat=(2*n).toNat
   rw[show BitVec.ofInt 64 0=0#64 from rfl,BitVec.xor_zero,BitVec.ofInt_natCast,BitVec.toNat_ofNat]
   omega
  rw[e2]
  exact mU (by omega)
 ·rw [if_neg h0]
  have e1:dn n=n+18446744073709551616:=by
   show IntKind.u64.wrap n=_
   rw[wrap_u64];omega
  have e3:Int.fdiv n 9223372036854775808 = -1:=by
   rw[Int.fdiv_eq_ediv_of_nonneg _ (by omega)];omega
  have e4:dn (-1)=18446744073709551615:=by decide
  have e5:dn ((n+18446744073709551616)*2)=((18446744073709551615-(-2*n-1).toNat:Nat):Int):=by
   show IntKind.u64.wrap _=_
   rw[wrap_u64];omega
  rw[e1,e3,e4,e5]
  unfold Sf
  have hlt:(-2*n-1).toNat<18446744073709551616:=by omega
  generalize (-2*n-1).toNat=m at hlt
  have e2:(BitVec.ofInt IntKind.u64.bits ((18446744073709551615-m:Nat):Int) ^^^ BitVec.ofInt IntKind.u64.bits 18446744073709551615).toNat=m:=by
   show (BitVec.ofInt 64 ((18446744073709551615-m:Nat):Int) ^^^ BitVec.ofInt 64 18446744073709551615).toNat=m
   rw[show BitVec.ofInt 64 18446744073709551615=BitVec.allOnes 64 from by decide,BitVec.xor_allOnes,BitVec.toNat_not,BitVec.ofInt_natCast,BitVec.toNat_ofNat]
   omega
  rw[e2]
  exact mU (by omega)
theorem CT {N:Nat} {n:Int} (hN:20<N) (h : -9223372036854775808≤n∧n≤9223372036854775807):nY N n=some (V (Ku n)):=by
 rw[nY.eq_1,PB h,u5 hN (VP h)];rfl
open Go Go.bI Go.Sym
theorem kZ {N:Nat} {v:Int} (hN:20<N) (h:0≤v∧v≤9223372036854775807):fU N (dn v)=some (V v.toNat):=by
 obtain⟨n,rfl⟩:=Int.eq_ofNat_of_zero_le h.1
 rw[AB (by omega),u5 hN (by omega)];rfl
theorem Jf:((0:Int) != (0:Int))=false:=rfl
noncomputable def rP (c:UInt8) (v:Int):List Int:=if c=45 then [] else if c=110∨c=103∨c=101 then V (Ku v) else V v.toNat
noncomputable def encI (x:Instr):List Int:=
 match Jd x.1 with
 |some (a,b,c)=>x.1 :: (rP a x.2.1++(rP b x.2.2.1++rP c x.2.2.2))
 |none=>[x.1]
theorem qR (x:Instr):(encI x).length≤31:=by
 have hk:∀ c v,(rP c v).length≤10:=fun c v=>by
  unfold rP
  split
  ·simp
  ·split
   ·exact (dH _).2
   ·exact (dH _).2
 unfold encI
 split
 ·rename_i a b c _
  have:=hk a x.2.1;have:=hk b x.2.2.1;have:=hk c x.2.2.2
  simp only[List.length_cons,List.length_append];omega
 ·simp
noncomputable def Yb (c:UInt8):Bool:=c==110||(c==103||c==101)
theorem KD {c:UInt8} : Yb c=true↔c=110∨c=103∨c=101:=by simp[Yb]
theorem KE (c:UInt8):decide ((U c).1<0)=Yb c:=by
 unfold U Yb
 repeat' split
 all_goals first
  |(subst_vars;rfl)
  |(rename_i h1 h2 h3 h4 h5 h6 h7 h8 h9 h10;simp[h3,h9,h10])
theorem Eg (v:Int):rP 45 v=[]:=rfl
theorem nZ (c:UInt8) (v:Int):(rP c v).length≤10:=by
 unfold rP
 split
 ·simp
 ·split
  ·exact (dH _).2
  ·exact (dH _).2
theorem PC {c:UInt8} {v:Int} (h:fits c v=true) (hs:Yb c=false):0≤v:=by
 rw[←KE,decide_eq_false_iff_not] at hs
 unfold fits at h
 rw[Bool.and_eq_true,decide_eq_true_eq] at h
 have:=h.1
 omega
theorem A1 {α β : Type} (c:Bool) (x y:Option α) (k : α→Option β):(bif c then Option.bind x k else Option.bind y k)=Option.bind (bif c then x else y) k:=by cases c<;>rfl
theorem Zp {N:Nat} (hN:20<N) {c:UInt8} {v:Int} (h:fits c v=true) (h45:c≠45) (hv:i64 v):(bif Yb c then nY N v else fU N (dn v))=some (rP c v):=by
 unfold rP
 rw[if_neg h45]
 cases hs:Yb c with
 |true=>rw[aV,if_pos (KD.1 hs),CT hN hv]
 |false=>rw[aS,if_neg (fun e=>by rw[KD.2 e] at hs;cases hs),kZ hN ⟨PC h hs,hv.2⟩]
theorem Tj {x:Instr} (hc:jX x=true):∃ a b c,Jd x.1=some (a,b,c)∧fits a x.2.1=true∧fits b x.2.2.1=true∧fits c x.2.2.2=true:=by
 unfold jX at hc
 split at hc
 ·rename_i a b c hs
  rw[Bool.and_eq_true,Bool.and_eq_true] at hc
  exact⟨a,b,c,hs,hc.1,hc.2.1,hc.2.2⟩
 ·cases hc
theorem Tk {a b c:UInt8} (h:(a=45→b=45)∧(b=45→c=45)):(a=45∧b=45∧c=45)∨(a≠45∧b=45∧c=45)∨(a≠45∧b≠45∧c=45)∨(a≠45∧b≠45∧c≠45):=by
 by_cases ha:a=45
 ·exact .inl ⟨ha,h.1 ha,h.2 (h.1 ha)⟩
 ·by_cases hb : b = 45
  ·exact .inr (.inl ⟨ha,hb,h.2 hb⟩)
  ·by_cases hc : c = 45
   ·exact .inr (.inr (.inl ⟨ha,hb,hc⟩))
   ·exact .inr (.inr (.inr ⟨ha,hb,hc⟩))
theorem Jg (c:UInt8) (v:Int):room (1+(rP c v).length) 1=true:=by have:=nZ c v;exact aI (by omega) (by omega)
theorem PD (p:Int) (c d:UInt8) (v w:Int):room (([p]++rP c v).length+(rP d w).length) 1=true:=by
 have:=nZ c v;have:=nZ d w
 exact aI (by simp only[List.length_append,List.length_singleton];omega) (by omega)
theorem Yc (p:Int) (c d e:UInt8) (v w u:Int):room ((([p]++rP c v)++rP d w).length+(rP e u).length) 1=true:=by
 have:=nZ c v;have:=nZ d w;have:=nZ e u
 exact aI (by simp only[List.length_append,List.length_singleton];omega) (by omega)
theorem Tl {N:Nat} (hN:20<N) {x:Instr} (hx:QN x) (hc:jX x=true):Mk N (x.1,x.2.1,x.2.2.1,x.2.2.2)=some (encI x,0):=by
 rw[Mk.eq_1,rH,hc]
 obtain⟨a,b,c,hs,h1,h2,h3⟩:=Tj hc
 obtain⟨i1,i2,i3⟩:=hx
 have g00:decide ((0:Int)≥0)=true:=rfl
 have g01:decide ((0:Int)≥1)=false:=rfl
 have g02:decide ((0:Int)≥2)=false:=rfl
 have g03:decide ((0:Int)≥3)=false:=rfl
 have g10:decide ((1:Int)≥0)=true:=rfl
 have g11:decide ((1:Int)≥1)=true:=rfl
 have g12:decide ((1:Int)≥2)=false:=rfl
 have g13:decide ((1:Int)≥3)=false:=rfl
 have g20:decide ((2:Int)≥0)=true:=rfl
 have g21:decide ((2:Int)≥1)=true:=rfl
 have g22:decide ((2:Int)≥2)=true:=rfl
 have g23:decide ((2:Int)≥3)=false:=rfl
 simp only[aV,Jf,aS,Option.bind_some,tj,hs,SO.eq_1,encI,KE]
 rcases Tk (PA hs) with⟨rfl,rfl,rfl⟩|⟨ha,rfl,rfl⟩|⟨ha,hb,rfl⟩|⟨ha,hb,hc⟩
 ·simp only[show cnt 45 45 45=0 from rfl,g00,g10,g20,aV,Eg,List.append_nil]
 ·simp only [show cnt a 45 45 = 1 by simp [cnt, ha], g01, g11, g21, aV, aS, A1, Zp hN h1 ha i1, Option.bind_some, Jg, aF, Eg, List.append_nil]
  simp only[List.cons_append,List.nil_append]
 ·simp only [show cnt a b 45 = 2 by simp [cnt, hb], g02, g12, g22, aV, aS, A1, Zp hN h1 ha i1, Zp hN h2 hb i2, Option.bind_some, Jg, PD, aF, Eg, List.append_nil]
  simp only[List.cons_append,List.nil_append]
 ·simp only [show cnt a b c = 3 by simp [cnt, hc], g03, g13, g23, aS, A1, Zp hN h1 ha i1, Zp hN h2 hb i2, Zp hN h3 hc i3, Option.bind_some, Jg, PD, Yc, aF]
  simp only[List.cons_append,List.nil_append,List.append_assoc]
open Go Go.bI Go.Sym
open Classical
theorem jY {α : Type} {l:List α} {i:Nat} (d : α) (h:i<l.length):idx l (i:Int)=some (l.getD i d):=by
 refine bE ?_
 rw[List.getD_eq_getElem?_getD,List.getElem?_eq_getElem h];rfl
theorem u7 {α : Type} {l:List α} {i:Nat} (d : α) (h:i<l.length):l.getD i d∈l:=by
 rw[List.getD_eq_getElem?_getD,List.getElem?_eq_getElem h];exact List.getElem_mem h
theorem qS {α : Type} {l:List α} {x : α} (d : α) (h:x∈l):∃ i,i<l.length∧l.getD i d=x:=by
 obtain⟨i,hi,rfl⟩:=List.mem_iff_getElem.1 h
 exact⟨i,hi,by rw[List.getD_eq_getElem?_getD,List.getElem?_eq_getElem hi];rfl⟩
theorem Mp {i:Nat} (h0:0<i) (h:i≤9223372036854775807):aH ((i:Int)-1)=((i-1:Nat):Int):=by rw[cB (by omega)];omega
theorem yL {α : Type} {l:List α} (h:¬l.length=0):((l.length:Int)==(0:Int))=false:=by rw[beq_eq_false_iff_ne];omega
noncomputable def rn (l:List bD) (i:Nat):bD:=l.getD i (0,0)
noncomputable def iE (l:List bD) (n:Int):Prop:=
 0<l.length∧(rn l 0).1=0∧(∀ i,i+1<l.length→(rn l i).1<(rn l (i+1)).1∧(rn l i).2≠(rn l (i+1)).2)∧∀ i,i<l.length→(rn l i).1<n
theorem iE.mono {l:List bD} {n:Int} (h:iE l n) {i:Nat} : ∀ {j:Nat},i≤j→j<l.length→(rn l i).1≤(rn l j).1
 |0,h1,_=>by rw[Nat.le_zero.1 h1];exact Int.le_refl _
 | j + 1, h1, h2 => by
  by_cases e:i=j+1
  ·rw[e];exact Int.le_refl _
  ·have := h.mono (i := i) (j := j) (by omega) (by omega)
   have:=(h.2.2.1 j h2).1
   omega
theorem PE {N : Nat} {l : List bD} {n : Int} (hN : l.length < N) (hl : l.length ≤ 1000000) : Mg N (l, n) = some (decide (iE l n)) := by
 rw[Mg.eq_1]
 by_cases h0:l.length=0
 ·rw[show ((l.length:Int)==(0:Int))=true by rw[h0];rfl,aV,Option.bind_some,aV,decide_eq_false fun h=>by have:=h.1;omega]
 ·have e0 : idx l (0 : Int) = some (rn l 0) := jY (i := 0) (0, 0) (by omega)
  have e1:idx l (aH ((l.length:Int)-1))=some (rn l (l.length-1)):=by
   rw[Mp (by omega) (by omega)];exact jY _ (by omega)
  rw[yL h0,aS,e0,Option.bind_some,e1,Option.bind_some]
  by_cases h1:(rn l 0).1=0
  ·rw [show ((rn l 0).1 != (0 : Int)) = false by simp [h1], aS, Option.bind_some]
   by_cases h2:(rn l (l.length-1)).1≥n
   ·rw[decide_eq_true h2,aV,decide_eq_false fun h=>by have:=h.2.2.2 (l.length-1) (by omega);omega]
   ·rw [decide_eq_false h2, aS, Option.bind_some, decide_eq_true (show 1 ≤ l.length by omega), aF]
    have hd:(l.drop 1).length=l.length-1:=by simp
    have key:=mq (n:=(l.drop 1).length) (a:=(.inr ():Bool⊕Unit)) (b:=.inl false) (q:=fun i=>decide ((rn l (i+1)).1≤(rn l i).1)||((rn l (i+1)).2==(rn l i).2))
     (Lf := fun k i => f150.fA N k (l.drop 1, ((l.drop 1).length : Int), i, (rn l i.toNat).1, (rn l i.toNat).2)) (fun k _ => by
      simp only[f150.fA.eq_2,bZ,aS]) (fun k i hi _=>by
      have e:idx (l.drop 1) (i:Int)=some (rn l (i+1)):=by
       refine bE ?_
       rw[List.getElem?_drop,rn,List.getD_eq_getElem?_getD,Nat.add_comm 1 i,List.getElem?_eq_getElem (by omega)];rfl
      simp only[f150.fA.eq_2,bY hi,aV,e,Option.bind_some,aW (show i<9223372036854775807 by omega),Int.toNat_natCast,beq_self_eq_true,Bool.true_and,Bool.and_true]
      by_cases ha:(rn l (i+1)).1≤(rn l i).1
      ·simp[ha]
      ·cases hb:((rn l (i+1)).2==(rn l i).2)<;>simp[ha]) (k:=N) (by omega)
    simp only[Int.toNat_zero] at key
    rw[key,Option.bind_some]
    by_cases hex:∃ i,i<(l.drop 1).length∧(decide ((rn l (i+1)).1≤(rn l i).1)||((rn l (i+1)).2==(rn l i).2))=true
    ·rw [if_pos hex, decide_eq_false]
     rintro⟨_,_,h3,_⟩
     obtain⟨i,hi,hq⟩:=hex
     obtain⟨g1,g2⟩:=h3 i (by omega)
     rw[Bool.or_eq_true,decide_eq_true_eq,beq_iff_eq] at hq
     rcases hq with hq|hq
     ·omega
     ·exact g2 hq.symm
    ·rw [if_neg hex, decide_eq_true]
     have h3:∀ i,i+1<l.length→(rn l i).1<(rn l (i+1)).1∧(rn l i).2≠(rn l (i+1)).2:=fun i hi=>by
      have:¬(decide ((rn l (i+1)).1≤(rn l i).1)||((rn l (i+1)).2==(rn l i).2))=true:=fun h=>hex ⟨i,by omega,h⟩
      rw[Bool.or_eq_true,decide_eq_true_eq,beq_iff_eq,not_or] at this
      exact⟨by omega,fun h=>this.2 h.symm⟩
     have m:∀ j,j<l.length→∀ i,i≤j→(rn l i).1≤(rn l j).1:=by
      intro j
      induction j with
      |zero=>intro _ i hi;rw[Nat.le_zero.1 hi];exact Int.le_refl _
      | succ j ih =>
       intro hj i hi
       by_cases e:i=j+1
       ·rw[e];exact Int.le_refl _
       ·have := ih (by omega) i (by omega)
        have:=(h3 j hj).1
        omega
     exact⟨by omega,h1,h3,fun i hi=>by have:=m (l.length-1) (by omega) i (by omega);omega⟩
  ·rw[show ((rn l 0).1 != (0:Int))=true by simp[h1],aV,Option.bind_some,aV,decide_eq_false fun h=>h1 h.2.1]
theorem we {N:Nat} {l:List bD} {n:Nat} (hN:l.length<N) (hl:l.length≤1000000):GK N (l,(n:Int))=some (if n<1∨n>200 then 2 else if iE l n then 0 else 8):=by
 rw[GK.eq_1,WS.eq_1,PE hN hl]
 by_cases h:n<1∨n>200
 ·rw [if_pos h]
  rcases h with h|h
  ·rw[decide_eq_true (show (n:Int)<1 by omega)];rfl
  ·rw[decide_eq_true (show (n:Int)>200 by omega)];cases decide ((n:Int)<1)<;>rfl
 ·rw [if_neg h, decide_eq_false (show ¬ (n : Int) < 1 by omega), decide_eq_false (show ¬ (n : Int) > 200 by omega)]
  by_cases hr:iE l n
  ·rw[if_pos hr,decide_eq_true hr];rfl
  ·rw[if_neg hr,decide_eq_false hr];rfl
theorem G0 {l:List bD} {n:Nat} (h:iE l n):l.length≤n:=by
 have key:∀ i:Nat,i<l.length→(i:Int)≤(rn l i).1:=by
  intro i
  induction i with
  |zero=>intro _;have:=h.2.1;omega
  |succ i ih=>
   intro hi
   have:=ih (by omega)
   have:=(h.2.2.1 i hi).1
   omega
 have h0:=h.1
 have:=key (l.length-1) (by omega)
 have:=h.2.2.2 (l.length-1) (by omega)
 omega
noncomputable def G1:Int→List bD→List Int
 |_,[]=>[]
 |was,x :: r=>V (x.1-was).toNat++(V x.2.toNat++G1 x.1 r)
noncomputable def mC (l:List bD):List Int:=V l.length++G1 0 l
noncomputable def Inc:Int→List bD→Prop
 |_,[]=>True
 |was,x :: r=>was≤x.1∧x.1≤1000∧(0≤x.2∧x.2≤18446744073709551615)∧Inc x.1 r
noncomputable def CU (l:List bD):Prop:=∀ x∈l,0≤x.2∧x.2≤18446744073709551615
theorem G2:∀ (was:Int) (l:List bD),(G1 was l).length≤l.length*20
 |_,[]=>by simp[G1]
 |was,x :: r=>by
  have:=dH (x.1-was).toNat;have:=dH x.2.toNat;have:=G2 x.1 r
  simp only[G1,List.length_append,List.length_cons];omega
theorem rI (l:List bD):(mC l).length≤10+l.length*20:=by
 have:=dH l.length;have:=G2 0 l
 rw[mC,List.length_append];omega
theorem iE.inc {l:List bD} {n:Int} (h:iE l n) (hn:n≤1000) (hr:CU l):Inc 0 l:=by
 have key:∀ (m i:Nat) (was:Int),m=l.length-i→was≥0→(i<l.length→was≤(rn l i).1)→Inc was (l.drop i):=by
  intro m
  induction m with
  |zero=>intro i was hm _ _;rw[List.drop_eq_nil_of_le (by omega)];trivial
  |succ m ih=>
   intro i was hm hw hle
   have hi:i<l.length:=by omega
   have e:l[i]=rn l i:=by rw[rn,List.getD_eq_getElem?_getD,List.getElem?_eq_getElem hi];rfl
   rw[List.drop_eq_getElem_cons hi,e]
   refine⟨hle hi,by have:=h.2.2.2 i hi;omega,hr _ (u7 _ hi),ih (i+1) _ (by omega) (by have:=hle hi;omega) fun hi'=>?_⟩
   have:=(h.2.2.1 i hi').1
   omega
 have:=key l.length 0 0 (by omega) (by omega) fun _=>by rw[h.2.1];exact Int.le_refl _
 rwa[List.drop_zero] at this
theorem Yd {a b:Int} (h:0≤b∧b≤a∧a≤1000):aH (a-b)=a-b:=cB (by omega)
theorem CV {N:Nat} (hN:20<N) {l:List bD} (hl:l.length≤100000):∀ (r pre:List bD) (was:Int) (out:List Int) (k:Nat),l=pre++r→Inc was r→0≤was→r.length<k→out.length≤100000+pre.length*20→f119.rM N k (was,l,(l.length:Int),(pre.length:Int),out)=some (out++G1 was r)
 |[],pre,was,out,k+1,he,_,_,_,_=>by
  rw[List.append_nil] at he;subst he
  rw[f119.rM.eq_2,bZ,aS,G1,List.append_nil]
 |x :: r,pre,was,out,k+1,he,hi,hw,hk,ho=>by
  obtain⟨i1,i2,i3,i4⟩:=hi
  have hlen:pre.length+(r.length+1)=l.length:=by rw[he];simp
  have:=dH (x.1-was).toNat;have:=dH x.2.toNat
  have ih:=CV hN hl r (pre++[x]) x.1 (out++V (x.1-was).toNat++V x.2.toNat) k (by rw[he];simp) i4 (by omega) (by simp at hk;omega) (by simp only[List.length_append,List.length_singleton];omega)
  obtain⟨v,hv⟩:=Int.eq_ofNat_of_zero_le i3.1
  rw[f119.rM.eq_2,bY (by omega),aV,he,yC,Option.bind_some,←he,Yd ⟨hw,i1,i2⟩,kZ hN (by omega),Option.bind_some,aI (by omega) (by omega),aF,hv,u5 hN (by omega),Option.bind_some,aI (by simp only[List.length_append];have:=dH v;omega) (by omega),aF,aW (by omega)]
  rw[show ((pre++[x]).length:Int)=((pre.length+1:Nat):Int) by simp] at ih
  rw[hv] at ih
  simp only[Int.toNat_natCast] at ih
  rw[ih,G1,hv]
  simp[List.append_assoc]
 |_,_,_,_,0,_,_,_,h,_=>by omega
theorem Tm {N:Nat} (hN:1000<N) {l:List bD} {n:Nat} (hl:l.length≤1000) (h:iE l n) (h1:1≤n) (h2:n≤200) (hr:CU l):Ml N (l,(n:Int))=some (mC l,0):=by
 have hi:=h.inc (by omega) hr
 have hv:=dH l.length
 rw[Ml.eq_1,we (by omega) (by omega),if_neg (by omega),if_pos h,Option.bind_some,Jf,aS,AB (by omega),u5 (by omega) (by omega),Option.bind_some]
 have:=CV (N:=N) (by omega) (l:=l) (by omega) l [] 0 (V l.length) N rfl hi (by omega) (by omega) (by simp;omega)
 rw[show (([]:List bD).length:Int)=0 from rfl] at this
 rw[this];rfl
open Go Go.bI Go.Sym
open Classical
noncomputable def Ye (n:Nat):Bool:=(decide (97≤n)&&decide (n≤122))||(decide (65≤n)&&decide (n≤90))
noncomputable def yc (n:Nat):Bool:=Ye n||(decide (48≤n)&&decide (n≤57))
noncomputable def n4 (s:List UInt8):Bool:=decide (1≤s.length)&&(decide (s.length≤16)&&(Ye ((s.getD 0 0).toNat)&&s.all fun c=>yc c.toNat))
theorem PG:∀ n:Nat,n<256→((bif (decide ((Gz .u8 ((n:Nat):Int) (32:Int))<(97:Int)))
   then (bif (decide (((n:Nat):Int)<(48:Int)))
    then some true
    else some (decide (((n:Nat):Int)>(57:Int))))
   else (bif (decide ((Gz .u8 ((n:Nat):Int) (32:Int))>(122:Int)))
    then (bif (decide (((n:Nat):Int)<(48:Int)))
     then some true
     else some (decide (((n:Nat):Int)>(57:Int))))
    else (bif ((BH .u8 ((n:Nat):Int) (64:Int))==(0:Int))
     then (bif (decide (((n:Nat):Int)<(48:Int)))
      then some true
      else some (decide (((n:Nat):Int)>(57:Int))))
     else some false))):Option Bool)=some (!yc n):=by decide +kernel
theorem Mq:∀ n:Nat,n<256→((!decide (((n:Nat):Int)≤57))&&yc n)=(Ye n&&yc n):=by decide +kernel
theorem A2 {α : Type} {n:Nat} {q:Nat→Bool} {a b : α} : (if ∃ i,i<n∧(!q i)=true then b else a)=if ∀ i,i<n→q i=true then a else b:=by
 by_cases h:∀ i,i<n→q i=true
 ·rw [if_pos h, if_neg]
  rintro⟨i,hi,hq⟩
  rw[h i hi] at hq;cases hq
 ·rw [if_neg h, if_pos]
  simp only[not_forall] at h
  obtain⟨i,hi,hq⟩:=h
  exact⟨i,hi,by simpa using hq⟩
theorem yM {α β : Type} {l:List α} {p : α→Bool} {a b : β} : (if ∃ x,x∈l∧(!p x)=true then b else a)=if ∀ x,x∈l→p x=true then a else b:=by
 by_cases h:∀ x,x∈l→p x=true
 ·rw [if_pos h, if_neg]
  rintro⟨x,hx,hp⟩
  rw[h x hx] at hp;cases hp
 ·rw [if_neg h, if_pos]
  simp only[not_forall] at h
  obtain⟨x,hx,hp⟩:=h
  exact⟨x,hx,by simpa using hp⟩
theorem Yf {α : Type} {l:List α} {p : α→Bool} : (if ∃ x,x∈l∧(!p x)=true then (Sum.inl false:Bool⊕Unit) else .inr ())=if l.all p=true then .inr () else .inl false:=by
 by_cases h:l.all p=true
 ·rw [if_pos h, if_neg]
  rintro⟨x,hx,hp⟩
  rw[List.all_eq_true.1 h x hx] at hp;cases hp
 ·rw [if_neg h, if_pos]
  rw[List.all_eq_true] at h
  simp only[not_forall] at h
  obtain⟨x,hx,hp⟩:=h
  exact⟨x,hx,by simpa using hp⟩
theorem A3 {N:Nat} {s:List UInt8} (hN:100<N):GF N s=some (n4 s):=by
 rw[GF.eq_1]
 unfold n4
 by_cases h0:s.length=0
 ·rw[show ((s.length:Int)==(0:Int))=true by rw[h0];rfl,aV,Option.bind_some,aV,decide_eq_false (by omega),Bool.false_and]
 ·rw [yL h0, aS, decide_eq_true (show 1 ≤ s.length by omega), Bool.true_and]
  by_cases h1:s.length≤16
  ·have e0 : idx s (0 : Int) = some (s.getD 0 0) := jY (i := 0) 0 (by omega)
   rw[decide_eq_false (show ¬(s.length:Int)>16 by omega),aS,e0,Option.bind_some,Option.bind_some,decide_eq_true h1,Bool.true_and]
   have hlt:=(s.getD 0 0).toNat_lt
   have hall:s.all (fun c=>yc c.toNat)=true→yc (s.getD 0 0).toNat=true:=fun h=>List.all_eq_true.1 h _ (u7 0 (by omega))
   have hf:=Mq _ hlt
   have key:=qC (l:=cu s) (a:=(.inr ():Bool⊕Unit)) (b:=.inl false) (p:=fun x=>!yc x.toNat) (Lf:=fun k i=>f138.cc N k (cu s,((cu s).length:Int),i)) (fun k _=>by
     simp only[f138.cc.eq_2,bZ,aS]) (fun k i x hx hm=>by
     obtain⟨c,hc,rfl⟩:=List.mem_map.1 hm
     have hi:=bp hx
     rw[cM] at hi
     simp only[f138.cc.eq_2,bY (bp hx),aV,bE hx,Option.bind_some,PG _ c.toNat_lt,aW (show i<9223372036854775807 by omega),Int.toNat_natCast]
     by_cases hb:yc c.toNat=true<;>simp[hb]) (k:=N) (by rw[cM];omega)
   rw[key,Yf (p:=fun x:Int=>yc x.toNat)]
   have e2:(cu s).all (fun x=>yc x.toNat)=s.all fun c=>yc c.toNat:=by
    unfold cu;rw[List.all_map];rfl
   rw[e2]
   cases ha:s.all fun c=>yc c.toNat
   ·rw [if_neg (by simp), Bool.and_false, Option.bind_some]
    cases decide (((s.getD 0 0).toNat:Int)≤57)<;>rfl
   ·rw [hall ha, Bool.and_true, Bool.and_true] at hf
    rw[if_pos rfl,Bool.and_true,Option.bind_some,←hf]
    cases decide (((s.getD 0 0).toNat:Int)≤57)<;>rfl
  ·rw[decide_eq_true (show (s.length:Int)>16 by omega),aV,Option.bind_some,aV,decide_eq_false h1];rfl
theorem n5 {s:List UInt8} (h:n4 s=true):s.length≤16:=by
 unfold n4 at h
 simp only[Bool.and_eq_true,decide_eq_true_eq] at h
 exact h.2.1
noncomputable def fl (l:List Field) (i:Nat):Field:=l.getD i ([],0)
noncomputable def Jh (l:List Field) (i:Nat):Prop:=∃ j,j<i∧(fl l j).1=(fl l i).1
noncomputable def okF (l:List Field) (i:Nat):Bool:=n4 (fl l i).1 && !decide (Jh l i)
noncomputable def dU (l:List Field):Prop:=∀ i,i<l.length→okF l i=true
theorem A4 {N:Nat} {l:List Field} {i:Nat} (hi:i≤l.length) (hN:l.length<N) (hl:l.length≤1000000) (s:List UInt8) (v:Int) :
  (∃ j:Int,0≤j∧f139.cD N N (l.take i,((l.take i).length:Int),0,s,v)=some (.inl j)∧∃ j,j<i∧(fl l j).1=s)∨
  (f139.cD N N (l.take i,((l.take i).length:Int),0,s,v)=some (.inr ())∧¬ ∃ j,j<i∧(fl l j).1=s):=by
 have hlen:(l.take i).length=i:=by simp;omega
 have key : ∀ k j, j ≤ i → i - j < k → (∀ m, m < j → (fl l m).1 ≠ s) →
   (∃ q:Int,0≤q∧f139.cD N k (l.take i,((l.take i).length:Int),(j:Int),s,v)=some (.inl q)∧∃ j,j<i∧(fl l j).1=s)∨
   (f139.cD N k (l.take i,((l.take i).length:Int),(j:Int),s,v)=some (.inr ())∧¬ ∃ j,j<i∧(fl l j).1=s):=by
  intro k
  induction k with
  |zero=>intro j _ h;omega
  | succ k ih =>
   intro j hj hk hm
   by_cases he:j=i
   ·subst he
    refine .inr ⟨?_,fun⟨m,h1,h2⟩=>hm m h1 h2⟩
    rw[f139.cD.eq_2,hlen,bZ,aS]
   ·have e : idx (l.take i) (j : Int) = some (fl l j) := by
     refine bE ?_
     rw[List.getElem?_take,if_pos (by omega),fl,List.getD_eq_getElem?_getD,List.getElem?_eq_getElem (by omega)];rfl
    rw[f139.cD.eq_2,hlen,bY (by omega),aV,e,Option.bind_some]
    by_cases hq:(fl l j).1=s
    ·rw [show ((fl l j).1 == s) = true by simpa using hq, aV]
     exact .inl ⟨j,by omega,rfl,j,by omega,hq⟩
    ·rw [show ((fl l j).1 == s) = false by simpa using hq, aS, aW (by omega)]
     have:=ih (j+1) (by omega) (by omega) fun m h=>by
      by_cases e:m=j
      ·subst e;exact hq
      ·exact hm m (by omega)
     rw[hlen] at this
     exact this
 exact key N 0 (by omega) (by omega) fun m h=>by omega
theorem G3 {N:Nat} {l:List Field} (hN:l.length+100<N) (hl:l.length≤1000000):Me N l=some (decide (dU l)):=by
 rw[Me.eq_1]
 have key:=mq (n:=l.length) (a:=(.inr ():Bool⊕Unit)) (b:=.inl false) (q:=fun i=>!okF l i) (Lf:=fun k i=>f139.pM N k (l,l,(l.length:Int),i)) (fun k _=>by
   simp only[f139.pM.eq_2,bZ,aS]) (fun k i hi _=>by
   have e:idx l (i:Int)=some (fl l i):=jY _ hi
   simp only[f139.pM.eq_2,bY hi,aV,e,Option.bind_some,A3 (show 100<N by omega)]
   cases hn:n4 (fl l i).1
   ·simp[okF,hn]
   ·rw [Bool.not_true, aS, decide_eq_true (show (0 : Int) ≤ (i : Int) by omega), aF, Int.toNat_natCast, decide_eq_true (show i ≤ l.length by omega), aF, aW (by omega)]
    rcases A4 (l:=l) (i:=i) (by omega) (show l.length<N by omega) hl (fl l i).1 (fl l i).2 with⟨j,h1,h2,h3⟩|⟨h2,h3⟩
    ·rw [h2, Option.bind_some]
     simp only[decide_eq_true (show j≥0 from h1),aV]
     rw[if_pos (by unfold okF;rw[decide_eq_true (show Jh l i from h3)];simp)]
    ·rw [h2, Option.bind_some]
     simp only
     rw[if_neg (by unfold okF;rw[hn,decide_eq_false (show ¬Jh l i from h3)];simp)]) (k:=N) (by omega)
 rw[key,A2,Option.bind_some]
 by_cases h:dU l
 ·rw[if_pos (show ∀ i,i<l.length→okF l i=true from h),decide_eq_true h]
 ·rw[if_neg (show ¬ ∀ i,i<l.length→okF l i=true from h),decide_eq_false h]
theorem yN {N:Nat} {l:List Int} (hN:l.length<N) (hl:l.length≤1000):Ed N l=some (l.all fun x=>x==0):=by
 rw[Ed.eq_1]
 have key:∀ (r pre:List Int) k,l=pre++r→r.length<k→
   (r.all (fun x=>x==0)=true∧f146.dc N k (l,(l.length:Int),(pre.length:Int))=some (.inr ()))∨
   (r.all (fun x=>x==0)=false∧∃ j:Int,0≤j∧f146.dc N k (l,(l.length:Int),(pre.length:Int))=some (.inl j)):=by
  intro r
  induction r with
  |nil=>
   intro pre k he hk
   obtain⟨k,rfl⟩:∃ k',k=k'+1:=⟨k-1,by simp at hk;omega⟩
   rw[List.append_nil] at he;subst he
   exact .inl ⟨rfl,by rw[f146.dc.eq_2,bZ,aS]⟩
  | cons x r ih =>
   intro pre k he hk
   obtain⟨k,rfl⟩:∃ k',k=k'+1:=⟨k-1,by simp at hk;omega⟩
   have hlen:pre.length+(r.length+1)=l.length:=by rw[he];simp
   have hx:idx l (pre.length:Int)=some x:=by rw[he];exact yC _ _ _
   rw[f146.dc.eq_2,bY (by omega),aV,hx,Option.bind_some,OM.eq_1,Option.bind_some]
   by_cases h0:x=0
   ·rw [show (x != 0) = false by simp [h0], aS, aW (by omega), List.all_cons, show (x == 0) = true by simp [h0], Bool.true_and]
    have:=ih (pre++[x]) k (by rw[he];simp) (by simp at hk;omega)
    rwa[show ((pre++[x]).length:Int)=((pre.length+1:Nat):Int) by simp] at this
   ·rw [show (x != 0) = true by simp [h0], aV, List.all_cons, show (x == 0) = false by simp [h0], Bool.false_and]
    exact .inr ⟨rfl,pre.length,by omega,rfl⟩
 rcases key l [] N rfl hN with⟨h1,h2⟩|⟨h1,j,h2,h3⟩
 ·rw [show (([] : List Int).length : Int) = 0 from rfl] at h2
  rw[h2,h1];rfl
 ·rw [show (([] : List Int).length : Int) = 0 from rfl] at h3
  rw[h3,h1,Option.bind_some]
  simp only[decide_eq_true (show j≥0 from h2)];rfl
theorem CX (N:Nat) (a b:Int):Ec N (a,b)=some (decide (0≤a∧a<b)):=by
 rw[Ec.eq_1,Ef,Option.bind_some]
 by_cases h1:0≤a<;>by_cases h2:a<b<;>simp[h1,h2]
 all_goals omega
noncomputable def ty0:aq:=(0,0,0,[])
noncomputable def j4 (l:List aq) (i:Nat):aq:=l.getD i ty0
noncomputable def dW (n i:Nat) (t:aq):Prop:=
 if t.1=1∨t.1=2∨t.1=3 then t.2.1=0∧t.2.2.1=0∧t.2.2.2.length=0
 else if t.1=4∨t.1=7 then (0≤t.2.1∧t.2.1<n)∧t.2.2.1=0∧t.2.2.2.length=0
 else if t.1=6 then (0≤t.2.1∧t.2.1<i)∧(1≤t.2.2.1∧t.2.2.1≤16)∧t.2.2.2.length=0
 else if t.1=5 then t.2.1=0∧t.2.2.1=0∧(0<t.2.2.2.length∧t.2.2.2.length≤8)∧dU t.2.2.2∧∀ f,f∈t.2.2.2→0≤f.2∧f.2<i
 else False
theorem CY {l:List Field} {i:Nat} (hi:i<l.length):hasB ((l.take i).map (·.1)) (fl l i).1=decide (Jh l i):=by
 unfold hasB
 by_cases h:Jh l i
 ·rw [decide_eq_true h, List.any_eq_true]
  obtain⟨j,h1,h2⟩:=h
  refine⟨(fl l j).1,List.mem_map.2 ⟨fl l j,?_,rfl⟩,decide_eq_true h2.symm⟩
  rw[fl,List.getD_eq_getElem?_getD,List.getElem?_eq_getElem (by omega)]
  exact List.mem_take_iff_getElem.2 ⟨j,by omega,rfl⟩
 ·rw [decide_eq_false h]
  cases ha:((l.take i).map (·.1)).any fun q=>decide ((fl l i).1=q) with
  |false=>rfl
  |true=>
   exfalso
   obtain⟨q,h1,h2⟩:=List.any_eq_true.1 ha
   obtain⟨f,h3,rfl⟩:=List.mem_map.1 h1
   obtain⟨j,h4,rfl⟩:=List.mem_take_iff_getElem.1 h3
   refine h ⟨j,by omega,?_⟩
   rw[of_decide_eq_true h2]
   rw[fl,List.getD_eq_getElem?_getD,List.getElem?_eq_getElem (by omega)];rfl
theorem Yg {l:List Field} {i:Nat} (hi:i<l.length):l[i]?=some (fl l i):=by
 rw[fl,List.getD_eq_getElem?_getD,List.getElem?_eq_getElem hi];rfl
theorem Mr {l:List Field} {i:Nat} (hi:i<l.length) (h:¬Jh l i):pQ ((l.take i).map (·.1)) (fl l i).1=(l.take (i+1)).map (·.1):=by
 unfold pQ
 rw[CY hi,decide_eq_false h,take_succ (Yg hi),List.map_append]
 rfl
theorem G4 {N:Nat} {l:List Field} {p:Nat} (hN:l.length+100<N) (hl:l.length≤1000000) (a b c:Int) :
  f135.xF N N ((p:Int),l,(l.length:Int),(0:Int),a,b,c,l,([]:List (List UInt8)))=some (if dU l∧(∀ f,f∈l→0≤f.2∧f.2<p) then .inr (a,b,c,l) else .inl false):=by
 have key:=mq (n:=l.length) (a:=(.inr (a,b,c,l):Bool⊕(Int×Int×Int×List Field))) (b:=.inl false) (q:=fun i=>!(okF l i&&decide (0≤(fl l i).2∧(fl l i).2<p)))
  (Lf := fun k i => f135.xF N k ((p : Int), l, (l.length : Int), i, a, b, c, l, (l.take i.toNat).map (·.1))) (fun k _ => by
   simp only[f135.xF.eq_2,bZ,aS]) (fun k i hi _=>by
   have e:idx l (i:Int)=some (fl l i):=jY _ hi
   simp only[f135.xF.eq_2,bY hi,aV,e,Option.bind_some,A3 (show 100<N by omega),Int.toNat_natCast,CY hi,CX,aW (show i<9223372036854775807 by omega)]
   cases hn:n4 (fl l i).1
   ·simp[okF,hn]
   ·by_cases hd : Jh l i
    ·simp[okF,hd]
    ·rw [Mr hi hd]
     unfold okF
     rw[hn,decide_eq_false hd]
     cases decide (0≤(fl l i).2∧(fl l i).2<(p:Int))<;>rfl) (k:=N) (by omega)
 rw[show (0:Int).toNat=0 from rfl,List.take_zero,List.map_nil] at key
 rw[key,A2]
 have hiff:(∀ i,i<l.length→(okF l i&&decide (0≤(fl l i).2∧(fl l i).2<(p:Int)))=true)↔dU l∧∀ f,f∈l→0≤f.2∧f.2<(p:Int):=by
  simp only[Bool.and_eq_true,decide_eq_true_eq]
  refine⟨fun h=>⟨fun i hi=>(h i hi).1,fun f hf=>?_⟩,fun h i hi=>⟨h.1 i hi,h.2 _ (u7 _ hi)⟩⟩
  obtain⟨i,hi,rfl⟩:=qS ([],0) hf
  exact (h i hi).2
 by_cases h:dU l∧∀ f,f∈l→0≤f.2∧f.2<(p:Int)
 ·rw[if_pos h,if_pos (hiff.2 h)]
 ·rw[if_neg h,if_neg fun h'=>h (hiff.1 h')]
theorem KF (a b:Int):(a==b)=decide (a=b):=by by_cases h:a=b<;>simp[h]
theorem Tn {α : Type} (l:List α):((l.length:Int)==0)=decide (l.length=0):=by
 by_cases h:l.length=0
 ·rw[decide_eq_true h,h];rfl
 ·rw[yL h,decide_eq_false h]
theorem Yh {v:Int} (h:i64 v):decide (0≤aH (v-1)∧aH (v-1)<16)=decide (1≤v∧v≤16):=by
 unfold i64 at h
 by_cases h1:v = -9223372036854775808
 ·subst h1;rfl
 ·rw [cB (by omega)]
  by_cases h2:1≤v∧v≤16
  ·rw[decide_eq_true h2,decide_eq_true (by omega)]
  ·rw[decide_eq_false h2,decide_eq_false (by omega)]
theorem PI {N : Nat} {l : List aq} {i : Nat} (hN : 1100 < N) (hi : i < l.length) (hf : (j4 l i).2.2.2.length ≤ 1000) (hb : i64 (j4 l i).2.2.1) : Mb N (l, (i : Int)) = some (decide (dW l.length i (j4 l i))) := by
 have e:idx l (i:Int)=some (j4 l i):=jY _ hi
 rw[Mb.eq_1,e,Option.bind_some]
 unfold dW
 generalize j4 l i=t at hf hb
 obtain⟨k,el,le,fs⟩:=t
 simp only at hf hb ⊢
 rw[G4 (by omega) (by omega)]
 simp only[KF,lu,Option.bind_some,CX,yN (show [el,le,(fs.length:Int)].length<N by simp;omega) (by simp),yN (show [le,(fs.length:Int)].length<N by simp;omega) (by simp),yN (show [(fs.length:Int)].length<N by simp;omega) (by simp),Yh hb,List.all_cons,List.all_nil,Bool.and_true]
 by_cases h1:k=1∨k=2∨k=3
 ·rw [show (decide (k = 1) || (decide (k = 2) || decide (k = 3))) = true by simpa using h1, aV, if_pos h1]
  congr 1
  by_cases a1:el=0<;>by_cases a2:le=0<;>by_cases a3:fs.length=0<;>simp[a1,a2,a3]
  all_goals (intro h;simp[h] at a3)
 ·rw [show (decide (k = 1) || (decide (k = 2) || decide (k = 3))) = false by simpa using h1, aS, if_neg h1]
  by_cases h2:k=4∨k=7
  ·rw [show (decide (k = 4) || decide (k = 7)) = true by simpa using h2, aV, if_pos h2, Ef]
   congr 1
   by_cases a1:0≤el∧el<(l.length:Int)<;>by_cases a2:le=0<;>by_cases a3:fs.length=0<;>simp[a1,a2,a3]
   all_goals (intro h;simp[h] at a3)
  ·rw [show (decide (k = 4) || decide (k = 7)) = false by simpa using h2, aS, if_neg h2]
   by_cases h3:k=6
   ·rw [decide_eq_true h3, aV, if_pos h3]
    by_cases a1:0≤el∧el<(i:Int)<;>by_cases a2:1≤le∧le≤16<;>by_cases a3:fs.length=0<;>simp[a1,a2,a3]
    all_goals (intro h;simp[h] at a3)
   ·rw [decide_eq_false h3, aS, if_neg h3]
    by_cases h4:k=5
    ·rw [decide_eq_true h4, aV, if_pos h4]
     by_cases hq:dU fs∧∀ f,f∈fs→0≤f.2∧f.2<(i:Int)
     ·rw [if_pos hq]
      simp only
      rw[yN (show [el,le].length<N by simp;omega) (by simp),Option.bind_some]
      simp only[List.all_cons,List.all_nil,Bool.and_true]
      have g3:decide ((fs.length:Int)>0)=decide (0<fs.length):=by rw[decide_eq_decide];omega
      have g4:decide ((fs.length:Int)≤8)=decide (fs.length≤8):=by rw[decide_eq_decide];omega
      rw[g3,g4]
      by_cases a1:el=0
      ·by_cases a2 : le = 0
       ·by_cases a3 : 0 < fs.length
        ·by_cases a4 : fs.length ≤ 8
         ·rw [ja (p := el = 0 ∧ le = 0 ∧ (0 < fs.length ∧ fs.length ≤ 8) ∧ dU fs ∧ ∀ f, f ∈ fs → 0 ≤ f.2 ∧ f.2 < (i : Int)) ⟨a1, a2, ⟨a3, a4⟩, hq⟩]
          simp[a1,a2,a3,a4]
         ·rw [eO (p := el = 0 ∧ le = 0 ∧ (0 < fs.length ∧ fs.length ≤ 8) ∧ dU fs ∧ ∀ f, f ∈ fs → 0 ≤ f.2 ∧ f.2 < (i : Int)) fun h => a4 h.2.2.1.2]
          simp[a1,a2,a3,a4]
        ·rw [eO (p := el = 0 ∧ le = 0 ∧ (0 < fs.length ∧ fs.length ≤ 8) ∧ dU fs ∧ ∀ f, f ∈ fs → 0 ≤ f.2 ∧ f.2 < (i : Int)) fun h => a3 h.2.2.1.1, decide_eq_false a3]
         simp[a1,a2]
       ·rw [eO (p := el = 0 ∧ le = 0 ∧ (0 < fs.length ∧ fs.length ≤ 8) ∧ dU fs ∧ ∀ f, f ∈ fs → 0 ≤ f.2 ∧ f.2 < (i : Int)) fun h => a2 h.2.1, show (le == 0) = false by simpa using a2, Bool.and_false]
        rfl
      ·rw [eO (p := el = 0 ∧ le = 0 ∧ (0 < fs.length ∧ fs.length ≤ 8) ∧ dU fs ∧ ∀ f, f ∈ fs → 0 ≤ f.2 ∧ f.2 < (i : Int)) fun h => a1 h.1, show (el == 0) = false by simpa using a1, Bool.false_and]
       rfl
     ·rw[if_neg hq,eO (p:=el=0∧le=0∧(0<fs.length∧fs.length≤8)∧dU fs∧∀ f,f∈fs→0≤f.2∧f.2<(i:Int)) fun h=>hq ⟨h.2.2.2.1,h.2.2.2.2⟩]
    ·rw[decide_eq_false h4,aS,if_neg h4,eO (p:=False) id]
open Go Go.bI Go.Sym
open Classical
theorem dW.fields {n i:Nat} {t:aq} (h:dW n i t):(t.1=5∨t.2.2.2=[])∧t.2.2.2.length≤8∧∀ f,f∈t.2.2.2→0≤f.2∧f.2<i:=by
 have nil:t.2.2.2.length=0→(t.1=5∨t.2.2.2=[])∧t.2.2.2.length≤8∧∀ f,f∈t.2.2.2→0≤f.2∧f.2<i:=fun h=>by
  have e:=List.eq_nil_of_length_eq_zero h
  rw[e]
  exact⟨.inr rfl,by simp,fun f hf=>by cases hf⟩
 unfold dW at h
 split at h
 ·exact nil h.2.2
 ·split at h
  ·exact nil h.2.2
  ·split at h
   ·exact nil h.2.2
   ·split at h
    ·rename_i h5
     exact⟨.inl h5,h.2.2.1.2,h.2.2.2.2⟩
    ·exact h.elim
theorem dW.ptr {n i:Nat} {t:aq} (h:dW n i t) (hk:t.1=4∨t.1=7):0≤t.2.1∧t.2.1<n:=by
 unfold dW at h
 rw[if_neg (by omega),if_pos hk] at h
 exact h.1
theorem dW.arr {n i:Nat} {t:aq} (h:dW n i t) (hk:t.1=6):(0≤t.2.1∧t.2.1<i)∧1≤t.2.2.1∧t.2.2.1≤16:=by
 unfold dW at h
 rw[if_neg (by omega),if_neg (by omega),if_pos hk] at h
 exact⟨h.1,h.2.1⟩
noncomputable def tn (out:List Int):List Field→Int
 |[]=>0
 |f :: r=>out.getD f.2.toNat 0+tn out r
noncomputable def G5 (below out:List Int) (t:aq):Int:=
 min (1+(if t.1=4 then below.getD t.2.1.toNat 0 else if t.1=7 then 16*below.getD t.2.1.toNat 0 else if t.1=6 then t.2.2.1*out.getD t.2.1.toNat 0 else 0)+tn out t.2.2.2) 5001
noncomputable def lz (below:List Int) (l:List aq):Nat→List Int
 |0=>[]
 |i+1=>lz below l i++[G5 below (lz below l i) (j4 l i)]
noncomputable def W (l:List Int):Prop:=∀ x,x∈l→0≤x∧x≤5001
theorem u9 (below:List Int) (l:List aq):∀ i,(lz below l i).length=i
 |0=>rfl
 |i+1=>by simp[lz,u9 below l i]
theorem W.getD {l:List Int} (h:W l) (i:Nat):0≤l.getD i 0∧l.getD i 0≤5001:=by
 rw[List.getD_eq_getElem?_getD]
 cases e:l[i]? with
 |none=>simp
 |some x=>exact h x (cz e)
theorem KG {out:List Int} (h:W out):∀ fs:List Field,0≤tn out fs∧tn out fs≤fs.length*5001
 |[]=>by simp[tn]
 |f :: r=>by
  have:=KG h r
  have:=h.getD f.2.toNat
  simp only[tn,List.length_cons];omega
theorem PJ {below out:List Int} {n i:Nat} {t:aq} (hb:W below) (ho:W out) (ht:dW n i t):0≤G5 below out t∧G5 below out t≤5001:=by
 unfold G5
 have:=KG ho t.2.2.2
 refine⟨?_,by omega⟩
 have h1:=hb.getD t.2.1.toNat
 have h2:=ho.getD t.2.1.toNat
 have:0≤(if t.1=4 then below.getD t.2.1.toNat 0 else if t.1=7 then 16*below.getD t.2.1.toNat 0 else if t.1=6 then t.2.2.1*out.getD t.2.1.toNat 0 else 0):=by
  split
  ·omega
  ·split
   ·omega
   ·split
    ·rename_i h6
     exact Int.mul_nonneg (by have:=ht.arr h6;omega) h2.1
    ·omega
 omega
theorem A5 {below:List Int} {l:List aq} (hb:W below):∀ i,i≤l.length→(∀ j,j<l.length→dW l.length j (j4 l j))→W (lz below l i)
 |0,_,_=>fun x hx=>by cases hx
 |i+1,hi,ht=>fun x hx=>by
  simp only[lz,List.mem_append,List.mem_singleton] at hx
  rcases hx with hx|rfl
  ·exact A5 hb i (by omega) ht x hx
  ·exact PJ hb (A5 hb i (by omega) ht) (ht i (by omega))
theorem A6 {α : Type} {a b:List α} {i:Nat} (d : α) (h:i<a.length):(a++b).getD i d=a.getD i d:=by
 rw[List.getD_eq_getElem?_getD,List.getD_eq_getElem?_getD,List.getElem?_append_left h]
theorem G6 {a b:List Int} : ∀ {fs:List Field},(∀ f,f∈fs→0≤f.2∧f.2<a.length)→tn (a++b) fs=tn a fs
 |[],_=>rfl
 |f :: r,h=>by
  have:=h f List.mem_cons_self
  rw[tn,tn,A6 _ (by omega),G6 fun g hg=>h g (List.mem_cons_of_mem _ hg)]
theorem n6 {l:List Int} {i:Nat} (h:i<l.length):l[i]?=some (l.getD i 0):=by
 rw[List.getD_eq_getElem?_getD,List.getElem?_eq_getElem h];rfl
theorem oZ {x:Int} {n:Nat} (h:0≤x∧x<n):jq x n=true:=by
 unfold jq
 rw[decide_eq_true h.1,decide_eq_true (by omega)];rfl
theorem PK {N:Nat} {fs:List Field} {now below:List Int} (agr:W now) (a:List aq) (b c:Int) (d:List aq) (e g:Int) (hl:fs.length≤1000):∀ (r pre:List Field) (n:Int) (k:Nat),fs=pre++r→(∀ f,f∈r→0≤f.2∧f.2<now.length)→0≤n→n≤100000+pre.length*5001→r.length<k→
  f136.lF N k (a,b,n,c,d,e,g,fs,(fs.length:Int),(pre.length:Int),below,now)=some (a,b,n+tn now r,c,d,e,g,below,now):=by
 intro r
 induction r with
 |nil=>
  intro pre n k he _ _ _ hk
  obtain⟨k,rfl⟩:∃ k',k=k'+1:=⟨k-1,by simp at hk;omega⟩
  rw[List.append_nil] at he;subst he
  rw[f136.lF.eq_2,bZ,aS,tn,Int.add_zero]
 |cons x r ih=>
  intro pre n k he hf h0 hn hk
  obtain⟨k,rfl⟩:∃ k',k=k'+1:=⟨k-1,by simp at hk;omega⟩
  have hlen:pre.length+(r.length+1)=fs.length:=by rw[he];simp
  have hx:idx fs (pre.length:Int)=some x:=by rw[he];exact yC _ _ _
  have hx2:=hf x List.mem_cons_self
  have hg:=agr.getD x.2.toNat
  have ih:=ih (pre++[x]) (n+now.getD x.2.toNat 0) k (by rw[he];simp) (fun f h=>hf f (List.mem_cons_of_mem _ h)) (by omega) (by rw[List.length_append,List.length_singleton];omega) (by simp at hk;omega)
  rw[f136.lF.eq_2,bY (by omega),aV,hx,Option.bind_some,oZ hx2,aF,n6 (by omega),Option.bind_some,cB (by omega),aW (by omega)]
  rw[show ((pre++[x]).length:Int)=((pre.length+1:Nat):Int) by simp] at ih
  rw[ih,tn,Int.add_assoc]
theorem PL (n:Nat):W (List.replicate n 0):=fun x hx=>by rw[(List.mem_replicate.1 hx).2];omega
theorem W.app {a b:List Int} (ha:W a) (hb:W b):W (a++b):=fun x hx=>(List.mem_append.1 hx).elim (ha x) (hb x)
theorem To {a:List Int} {n i:Nat} {v:Int} (ha:a.length=i) (hi:i<n):(a++List.replicate (n-i) 0).set i v=(a++[v])++List.replicate (n-(i+1)) 0:=by
 rw[List.set_append_right _ _ (by omega),show n-i=(n-(i+1))+1 by omega,List.replicate_succ,show i-a.length=0 by omega,List.set_cons_zero,List.append_assoc];rfl
noncomputable def Ji (l:List aq):Prop:=∀ i,i<l.length→dW l.length i (j4 l i)
theorem Yi {N:Nat} {l:List aq} {below:List Int} (hN:1000<N) (hl:l.length≤100) (ht:Ji l) (hb:W below) (EW:below.length=l.length) (r:Int) :
  f136.jW N N (l,r,l,(l.length:Int),(0:Int),below,List.replicate l.length 0)=some (l,r,lz below l l.length):=by
 have key := uU (n := l.length) (Lf := fun k i => f136.jW N k (l, r, l, (l.length : Int), i, below, lz below l i.toNat ++ List.replicate (l.length - i.toNat) 0)) (g := fun _ => some (l, r, lz below l l.length)) (fun k => by
   simp only[f136.jW.eq_2,bZ,aS,Int.toNat_natCast,Nat.sub_self,List.replicate_zero,List.append_nil]) (fun k i hi ih=>by
   have e:idx l (i:Int)=some (j4 l i):=jY _ hi
   have ht':=ht i hi
   have hf:=ht'.fields
   have hW:=A5 (i:=i) (l:=l) hb (by omega) ht
   have hol:=u9 below l i
   have hnl:(lz below l i++List.replicate (l.length-i) (0:Int)).length=l.length:=by simp[hol];omega
   have hWn:W (lz below l i++List.replicate (l.length-i) 0):=hW.app (PL _)
   have hsum:tn (lz below l i++List.replicate (l.length-i) 0) (j4 l i).2.2.2=tn (lz below l i) (j4 l i).2.2.2:=G6 fun f h=>by have:=hf.2.2 f h;rw[hol];exact this
   have PM:∀ v:Int,(lz below l i++List.replicate (l.length-i) 0).set i v=(lz below l i++[v])++List.replicate (l.length-(i+1)) 0:=fun v=>To hol hi
   have fin:∀ n:Int,0≤n→n≤100000→1+(if (j4 l i).1=4 then below.getD (j4 l i).2.1.toNat 0 else if (j4 l i).1=7 then 16*below.getD (j4 l i).2.1.toNat 0 else if (j4 l i).1=6 then (j4 l i).2.2.1*(lz below l i).getD (j4 l i).2.1.toNat 0 else 0)=n→
     (Option.bind (f136.lF N N (l, (i : Int), n, r, l, (l.length : Int), (i : Int), (j4 l i).2.2.2, ((j4 l i).2.2.2.length : Int), (0 : Int), below, lz below l i ++ List.replicate (l.length - i) 0)) fun pN =>
      (aZ (jq pN.2.1 pN.2.2.2.2.2.2.2.2.length)
      ((Option.bind (pN.2.2.2.2.2.2.2.2[(Int.toNat pN.2.1)]?) fun x32=>
      f136.jW N k (pN.1,pN.2.2.2.1,pN.2.2.2.2.1,pN.2.2.2.2.2.1,(aH (pN.2.2.2.2.2.2.1+(1:Int))),pN.2.2.2.2.2.2.2.1,(pN.2.2.2.2.2.2.2.2.set (Int.toNat pN.2.1) (min pN.2.2.1 (5001:Int))))))))=some (l,r,lz below l l.length):=by
    intro n h0 hn he
    have:=PK (N:=N) (below:=below) hWn l (i:Int) r l (l.length:Int) (i:Int) (fs:=(j4 l i).2.2.2) (by omega) (j4 l i).2.2.2 [] n N rfl (fun f h=>by rw[hnl];have:=hf.2.2 f h;omega) h0 (by simp;omega) (by omega)
    rw[show (([]:List Field).length:Int)=0 from rfl] at this
    rw[this,Option.bind_some]
    simp only[Int.toNat_natCast]
    rw[hnl,dR hi,aF,n6 (by rw[hnl];exact hi),Option.bind_some,aW (by omega),PM,hsum]
    simp only[Int.toNat_natCast] at ih
    rw[lz,G5,he] at ih
    exact ih
   have hbd:=hb.getD (j4 l i).2.1.toNat
   have hod:=hW.getD (j4 l i).2.1.toNat
   simp only[f136.jW.eq_2,bY hi,aV,e,Option.bind_some,Int.toNat_natCast]
   by_cases h4:(j4 l i).1=4
   ·have hp := ht'.ptr (.inl h4)
    rw[if_pos h4] at fin
    rw[show ((j4 l i).1==(4:Int))=true by simp[h4],aV,oZ (by omega),aF,n6 (by omega),Option.bind_some,cB (by omega)]
    exact fin _ (by omega) (by omega) rfl
   ·rw [show ((j4 l i).1 == (4 : Int)) = false by simp [h4], aS]
    rw[if_neg h4] at fin
    by_cases h7:(j4 l i).1=7
    ·have hp := ht'.ptr (.inr h7)
     rw[if_pos h7] at fin
     rw[show ((j4 l i).1==(7:Int))=true by simp[h7],aV,oZ (by omega),aF,n6 (by omega),Option.bind_some,cB (n:=16*_) (by omega),cB (by omega)]
     exact fin _ (by omega) (by omega) rfl
    ·rw [show ((j4 l i).1 == (7 : Int)) = false by simp [h7], aS]
     rw[if_neg h7] at fin
     by_cases h6:(j4 l i).1=6
     ·have hp := ht'.arr h6
      rw[if_pos h6] at fin
      have hm:0≤(j4 l i).2.2.1*(lz below l i).getD (j4 l i).2.1.toNat 0∧(j4 l i).2.2.1*(lz below l i).getD (j4 l i).2.1.toNat 0≤16*5001:=⟨Int.mul_nonneg (by omega) hod.1,Int.mul_le_mul (by omega) hod.2 hod.1 (by omega)⟩
      rw[show ((j4 l i).1==(6:Int))=true by simp[h6],aV,oZ (by rw[hnl];omega),aF,n6 (by rw[hnl];omega),Option.bind_some,A6 _ (by rw[hol];omega),cB (n:=(j4 l i).2.2.1*_) (by omega),cB (by omega)]
      exact fin _ (by omega) (by omega) rfl
     ·rw [show ((j4 l i).1 == (6 : Int)) = false by simp [h6], aS]
      rw[if_neg h6] at fin
      exact fin 1 (by omega) (by omega) rfl) N 0 (by omega) (by omega)
 simpa[lz] using key
noncomputable def wR (l:List aq):Nat→List Int
 |0=>lz (List.replicate l.length 0) l l.length
 |d+1=>lz (wR l d) l l.length
theorem G7 {l:List aq} (ht:Ji l):∀ d,W (wR l d)∧(wR l d).length=l.length
 |0=>⟨A5 (PL _) _ (by omega) ht,u9 _ _ _⟩
 |d+1=>⟨A5 (G7 ht d).1 _ (by omega) ht,u9 _ _ _⟩
theorem Ms {N:Nat} {l:List aq} (hN:1000<N) (hl:l.length≤100) (ht:Ji l):Mc N l=some (wR l 3):=by
 have hr:(decide (Int.toNat (l.length:Int)≤Int.toNat (l.length:Int))&&room (Int.toNat (l.length:Int)) 8)=true:=by
  rw[decide_eq_true (Nat.le_refl _),Int.toNat_natCast,aI (by omega) (by omega)];rfl
 have h0:decide (0≤(l.length:Int))=true:=decide_eq_true (by omega)
 have step:∀ (j:Nat) (b:List Int) k,j<4→W b→b.length=l.length→f136.dD N (k+1) (l,(j:Int),b)=f136.dD N k (l,((j+1:Nat):Int),lz b l l.length):=fun j b k hj hb EW=>by
  rw[f136.dD.eq_2,decide_eq_true (by omega),aV,h0,aF,aF,hr,aF,Int.toNat_natCast,Yi hN hl ht hb EW,Option.bind_some]
  simp only
  rw[aW (by omega)]
 obtain⟨k,rfl⟩:∃ k,N=k+5:=⟨N-5,by omega⟩
 rw[Mc.eq_1,h0,aF,aF,hr,aF,Int.toNat_natCast]
 have s0:=step 0 (List.replicate l.length 0) (k+4) (by omega) (PL _) (by simp)
 have s1:=step 1 _ (k+3) (by omega) (G7 ht 0).1 (G7 ht 0).2
 have s2:=step 2 _ (k+2) (by omega) (G7 ht 1).1 (G7 ht 1).2
 have s3:=step 3 _ (k+1) (by omega) (G7 ht 2).1 (G7 ht 2).2
 have e:f136.dD (k+5) (k+5) (l,(0:Int),List.replicate l.length 0)=some (wR l 3):=by
  refine s0.trans (s1.trans (s2.trans (s3.trans ?_)))
  rw[f136.dD.eq_2,decide_eq_false (by omega),aS];rfl
 rw[e];rfl
open Go Go.bI Go.Sym
open Classical
noncomputable def partsOf (t:aq):List Int:=(if t.1=6 then [t.2.1] else [])++t.2.2.2.map (·.2)
theorem xH {α β : Type} (g : α→β):∀ fs:List α,fs.flatMap (fun f=>[g f])=fs.map g
 |[]=>rfl
 |x :: r=>by rw[List.flatMap_cons,xH g r];rfl
noncomputable def agt (t:aq):Int:=if t.1=6 then t.2.2.1 else 1
noncomputable def agu (out:List Int) (t:aq):Int→List Int→Int
 |n,[]=>n
 |n,q :: r=>agu out t (min (n+agt t*out.getD q.toNat 0) 5001) r
noncomputable def o6 (l:List aq):Prop:=l.length≤32∧Ji l∧∀ x,x∈wR l 3→x≤5000
noncomputable def PN (l:List aq):Prop:=l.length≤100∧∀ i,i<l.length→(j4 l i).2.2.2.length≤1000∧i64 (j4 l i).2.2.1
theorem CZ {N:Nat} {l:List aq} (hN:1300<N) (hl:PN l):IY N l=some (if o6 l then 0 else 8):=by
 rw[IY.eq_1]
 by_cases h32:l.length≤32
 ·rw [decide_eq_false (show ¬ (l.length : Int) > 32 by omega), aS]
  have key:=mq (n:=l.length) (a:=(.inr l:Int⊕List aq)) (b:=.inl 8) (q:=fun i=>!decide (dW l.length i (j4 l i))) (Lf:=fun k i=>f112.cc N k (l,(l.length:Int),i)) (fun k _=>by
    simp only[f112.cc.eq_2,bZ,aS]) (fun k i hi _=>by
    simp only[f112.cc.eq_2,bY hi,aV,PI (show 1100<N by omega) hi (hl.2 i hi).1 (hl.2 i hi).2,Option.bind_some,aW (show i<9223372036854775807 by omega)]
    by_cases ht:dW l.length i (j4 l i)
    ·rw[ja ht];rfl
    ·rw[eO ht];rfl) (k:=N) (by omega)
  rw[key,A2,Option.bind_some]
  by_cases hall:Ji l
  ·rw [if_pos (show ∀ i, i < l.length → decide (dW l.length i (j4 l i)) = true from fun i hi => ja (hall i hi))]
   simp only
   rw[Ms (by omega) hl.1 hall,Option.bind_some]
   have hW:=G7 hall 3
   have Yj:=qC (l:=wR l 3) (a:=(.inr ():Int⊕Unit)) (b:=.inl 8) (p:=fun x=>!decide (x≤5000)) (Lf:=fun k i=>f112.lG N k (wR l 3,((wR l 3).length:Int),i)) (fun k _=>by
     simp only[f112.lG.eq_2,bZ,aS]) (fun k i x hx hm=>by
     simp only[f112.lG.eq_2,bY (bp hx),aV,bE hx,Option.bind_some,aW (show i<9223372036854775807 by have:=bp hx;omega)]
     by_cases h5:x≤5000
     ·rw[eO (show ¬x>5000 by omega),ja h5];rfl
     ·rw[ja (show x>5000 by omega),eO h5];rfl) (k:=N) (by omega)
   rw[Yj,yM,Option.bind_some]
   by_cases h5:∀ x,x∈wR l 3→x≤5000
   ·rw[if_pos fun x hx=>ja (h5 x hx),if_pos ⟨h32,hall,h5⟩]
   ·rw[if_neg fun h=>h5 fun x hx=>of_decide_eq_true (h x hx),if_neg fun h=>h5 h.2.2]
  ·rw[if_neg fun h=>hall fun i hi=>of_decide_eq_true (h i hi),if_neg fun h=>hall h.2.1]
 ·rw[decide_eq_true (show (l.length:Int)>32 by omega),aV,if_neg fun h=>h32 h.1]
open Go Go.bI Go.Sym
open Classical
noncomputable def up (a s:Int):Int:=(s+a-1) / a*a
theorem Jj (s:Int):up 1 s=s:=by unfold up;omega
theorem A7 (s:Int):up 8 s=(s+7) / 8*8:=by unfold up;omega
noncomputable def AL (a:Int):Prop:=a=1∨a=8
theorem PO {a s:Int} (ha:AL a) (hs:0≤s):s≤up a s∧up a s≤s+7:=by
 rcases ha with rfl|rfl
 ·rw[Jj];omega
 ·rw[A7];omega
theorem PR {a s C:Int} (ha:AL a) (hC:C % 8=0) (hs:s≤C):up a s≤C:=by
 rcases ha with rfl|rfl
 ·rw[Jj];omega
 ·rw[A7];omega
theorem Tp (n:Nat) (hn:n<18446744073709551616):(BitVec.ofNat 64 n &&& ~~~(7#64)).toNat=n / 8*8:=by
 have e:n / 8*8=(n >>> 3) <<< 3:=by rw[Nat.shiftRight_eq_div_pow,Nat.shiftLeft_eq]
 rw[e]
 refine Nat.eq_of_testBit_eq fun k=>?_
 rw[BitVec.toNat_and,Nat.testBit_and,BitVec.toNat_ofNat,Nat.mod_eq_of_lt hn,BitVec.testBit_toNat,BitVec.getLsbD_not,Nat.testBit_shiftLeft,Nat.testBit_shiftRight]
 rcases Nat.lt_or_ge k 64 with h|h
 ·rw [decide_eq_true h, Bool.true_and]
  by_cases h3:k<3
  ·have : k = 0 ∨ k = 1 ∨ k = 2 := by omega
   rcases this with rfl|rfl|rfl<;>simp
  ·rw [decide_eq_true (show k ≥ 3 by omega), Bool.true_and, show 3 + (k - 3) = k by omega]
   have:(7#64).getLsbD k=false:=by
    rw[show (7#64)=BitVec.ofNat 64 7 from rfl,BitVec.getLsbD_ofNat,Nat.testBit_lt_two_pow (x:=7) (i:=k) (Nat.lt_of_lt_of_le (show 7<2 ^ 3 by omega) (Nat.pow_le_pow_right (by omega) (by omega))),Bool.and_false]
   rw[this,Bool.not_false,Bool.and_true]
 ·have h1 : n.testBit k = false := Nat.testBit_lt_two_pow (Nat.lt_of_lt_of_le hn (by rw [show 18446744073709551616 = 2 ^ 64 by decide]; exact Nat.pow_le_pow_right (by omega) h))
  rw[h1,Bool.false_and,decide_eq_true (show k≥3 by omega),Bool.true_and,show 3+(k-3)=k by omega,h1]
theorem A8 {a s:Int} (ha:AL a) (hs:0≤s∧s≤4000000):mT .i64 (aH ((aH (s+a))-(1:Int))) (aH (a-(1:Int)))=up a s:=by
 rcases ha with rfl|rfl
 ·rw [cB (n := s + 1) (by omega), show s + 1 - 1 = s by omega, cB (by omega), show aH ((1 : Int) - 1) = 0 from by decide, Jj]
  obtain⟨n,rfl⟩:=Int.eq_ofNat_of_zero_le hs.1
  unfold mT
  have e:(BitVec.ofInt IntKind.i64.bits ((n:Nat):Int) &&& ~~~(BitVec.ofInt IntKind.i64.bits 0)).toNat=n:=by
   show (BitVec.ofInt 64 ((n:Nat):Int) &&& ~~~(BitVec.ofInt 64 0)).toNat=n
   rw[show ~~~(BitVec.ofInt 64 0)=BitVec.allOnes 64 by decide,BitVec.and_allOnes,BitVec.ofInt_natCast,BitVec.toNat_ofNat];omega
  rw[e];exact cB (by omega)
 ·rw [cB (n := s + 8) (by omega), show s + 8 - 1 = s + 7 by omega, cB (by omega), show aH ((8 : Int) - 1) = 7 from by decide, A7]
  obtain⟨n,rfl⟩:=Int.eq_ofNat_of_zero_le hs.1
  unfold mT
  have e:(BitVec.ofInt IntKind.i64.bits ((n:Int)+7) &&& ~~~(BitVec.ofInt IntKind.i64.bits 7)).toNat=(n+7) / 8*8:=by
   show (BitVec.ofInt 64 ((n:Int)+7) &&& ~~~(BitVec.ofInt 64 7)).toNat=_
   rw[show (n:Int)+7=((n+7:Nat):Int) by omega,BitVec.ofInt_natCast,show BitVec.ofInt 64 7=7#64 from rfl]
   exact Tp _ (by omega)
  rw[e,show IntKind.i64.wrap (((n+7) / 8*8:Nat):Int)=(((n+7) / 8*8:Nat):Int) from cB (by omega)]
  omega
abbrev Ex:=Int×Int
noncomputable def qT (x:List Ex) (i:Int):Ex:=x.getD i.toNat (0,1)
noncomputable def qU (C:Int) (x:List Ex):Int→Int→List Field→List Int×Int×Int
 |s,a,[]=>([],s,a)
 |s,a,f :: r=>
  let q:=qU C x (min C (up (qT x f.2).2 s+(qT x f.2).1)) (max a (qT x f.2).2) r
  (up (qT x f.2).2 s :: q.1,q.2.1,q.2.2)
noncomputable def EX (C:Int) (x:List Ex):Prop:=∀ e,e∈x→AL e.2∧0≤e.1∧e.1≤C
theorem EX.get {C:Int} (hC:0≤C) {x:List Ex} (h:EX C x) (i:Int):AL (qT x i).2∧0≤(qT x i).1∧(qT x i).1≤C:=by
 unfold qT
 rw[List.getD_eq_getElem?_getD]
 cases e:x[i.toNat]? with
 |none=>exact⟨.inl rfl,by show (0:Int)≤0;omega,hC⟩
 |some y=>exact h y (cz e)
theorem AL.max {a b:Int} (ha:AL a) (hb:AL b):AL (max a b):=by
 rcases ha with rfl|rfl<;>rcases hb with rfl|rfl
 ·exact .inl rfl
 ·exact .inr rfl
 ·exact .inr rfl
 ·exact .inr rfl
theorem Eh {C:Int} (hC:0≤C) {x:List Ex} (hx:EX C x):∀ (fs:List Field) (s a:Int),0≤s→s≤C→AL a→(0≤(qU C x s a fs).2.1∧(qU C x s a fs).2.1≤C)∧AL (qU C x s a fs).2.2∧(qU C x s a fs).1.length=fs.length
 |[],s,a,h0,hs,ha=>⟨⟨h0,hs⟩,ha,rfl⟩
 |f :: r,s,a,h0,hs,ha=>by
  obtain⟨e1,e2,e3⟩:=hx.get hC f.2
  have hu:=PO e1 h0
  obtain⟨g1,g2,g3⟩:=Eh hC hx r (min C (up (qT x f.2).2 s+(qT x f.2).1)) (max a (qT x f.2).2) (by omega) (by omega) (ha.max e1)
  simp only[qU]
  exact⟨g1,g2,by rw[List.length_cons,List.length_cons,g3]⟩
theorem Ei {x:List Ex} {i:Int} (h:0≤i∧i<x.length):idx x i=some (qT x i):=by
 refine Az h.1 ?_
 unfold qT
 rw[List.getD_eq_getElem?_getD,List.getElem?_eq_getElem (by omega)];rfl
theorem KH {a b:List Ex} {i:Int} (h:0≤i∧i<a.length):qT (a++b) i=qT a i:=A6 _ (by omega)
theorem PS {N:Nat} {x b:List Ex} (hx:EX 1048576 x) {fs:List Field} (hl:fs.length≤1000) (c1 c2:Int):∀ (r pre:List Field) (os:List Int) (s a:Int) (k:Nat),fs=pre++r→os.length=pre.length→(∀ f,f∈r→0≤f.2∧f.2<x.length)→0≤s→s≤1048576→AL a→r.length<k→
  f154.dD N k (x++b,fs,(fs.length:Int),(pre.length:Int),c1,c2,os++List.replicate r.length 0,s,a)=some (c1,c2,os++(qU 1048576 x s a r).1,(qU 1048576 x s a r).2.1,(qU 1048576 x s a r).2.2):=by
 intro r
 induction r with
 |nil=>
  intro pre os s a k he _ _ _ _ _ hk
  obtain⟨k,rfl⟩:∃ k',k=k'+1:=⟨k-1,by simp at hk;omega⟩
  rw[List.append_nil] at he;subst he
  rw[f154.dD.eq_2,bZ,aS];rfl
 | cons f r ih =>
  intro pre os s a k he ho hf h0 hs ha hk
  obtain⟨k,rfl⟩:∃ k',k=k'+1:=⟨k-1,by simp at hk;omega⟩
  have hlen:pre.length+(r.length+1)=fs.length:=by rw[he];simp
  have hxf:idx fs (pre.length:Int)=some f:=by rw[he];exact yC _ _ _
  have hf2:=hf f List.mem_cons_self
  have hif:idx (x++b) f.2=some (qT x f.2):=by rw[Ei (by rw[List.length_append];omega),KH hf2]
  obtain⟨e1,e2,e3⟩:=hx.get (by omega) f.2
  have hu:=PO e1 h0
  have huc:=PR (C:=1048576) e1 (by omega) hs
  have hol:(os++List.replicate (f :: r).length (0:Int)).length=fs.length:=by simp[ho];omega
  have PM:∀ v:Int,(os++List.replicate (f :: r).length (0:Int)).set pre.length v=(os++[v])++List.replicate r.length 0:=fun v=>by
   rw[List.set_append_right _ _ (by omega),List.length_cons,List.replicate_succ,show pre.length-os.length=0 by omega,List.set_cons_zero,List.append_assoc];rfl
  have ih:=ih (pre++[f]) (os++[up (qT x f.2).2 s]) (min 1048576 (up (qT x f.2).2 s+(qT x f.2).1)) (max a (qT x f.2).2) k (by rw[he];simp) (by simp[ho]) (fun g h=>hf g (List.mem_cons_of_mem _ h)) (by omega) (by omega) (ha.max e1) (by simp at hk;omega)
  rw[f154.dD.eq_2,bY (by omega),aV,hxf,Option.bind_some,hif,Option.bind_some,oZ (by rw[hol];omega),aF,A8 e1 ⟨h0,by omega⟩,Int.toNat_natCast,n6 (by rw[hol];omega),Option.bind_some,PM,oZ (by simp[ho];omega),aF]
  have hg:(os++[up (qT x f.2).2 s]++List.replicate r.length (0:Int))[pre.length]?=some (up (qT x f.2).2 s):=by
   rw[List.append_assoc,List.getElem?_append_right (by omega),ho,Nat.sub_self];rfl
  rw[hg,Option.bind_some,aW (by omega),cB (by omega)]
  rw[show ((pre++[f]).length:Int)=((pre.length+1:Nat):Int) by simp] at ih
  rw[ih]
  simp only[qU]
  rw[List.append_assoc];rfl
theorem Yk {N:Nat} {x b:List Ex} (hN:1100<N) (hx:EX 1048576 x) {fs:List Field} (hl:fs.length≤1000) (hf:∀ f,f∈fs→0≤f.2∧f.2<x.length) :
  IZ N (x++b,fs)=some ((qU 1048576 x 0 1 fs).1,up (qU 1048576 x 0 1 fs).2.2 (qU 1048576 x 0 1 fs).2.1,(qU 1048576 x 0 1 fs).2.2):=by
 have h0:decide (0≤(fs.length:Int))=true:=decide_eq_true (by omega)
 have hr:(decide (Int.toNat (fs.length:Int)≤Int.toNat (fs.length:Int))&&room (Int.toNat (fs.length:Int)) 8)=true:=by
  rw[decide_eq_true (Nat.le_refl _),Int.toNat_natCast,aI (by omega) (by omega)];rfl
 have:=PS (N:=N) (b:=b) hx hl 0 0 fs [] [] 0 1 N rfl rfl hf (by omega) (by omega) (.inl rfl) (by omega)
 rw[show (([]:List Field).length:Int)=0 from rfl,List.nil_append,List.nil_append] at this
 obtain⟨b1,b2,_⟩:=Eh (C:=1048576) (by omega) hx fs 0 1 (by omega) (by omega) (.inl rfl)
 rw[IZ.eq_1,h0,aF,aF,hr,aF,Int.toNat_natCast,this,Option.bind_some]
 simp only
 rw[A8 b2 ⟨b1.1,by omega⟩]
noncomputable def A9 (C:Int) (out:List Ex) (t:aq):Ex:=
 if t.1=1 then (1,1) else if t.1=3 then (16,8) else if t.1=7 then (24,8)
 else if t.1=6 then (min C (t.2.2.1*(qT out t.2.1).1),(qT out t.2.1).2)
 else if t.1=5 then (up (qU C out 0 1 t.2.2.2).2.2 (qU C out 0 1 t.2.2.2).2.1,(qU C out 0 1 t.2.2.2).2.2)
 else (8,8)
noncomputable def jj (C:Int) (l:List aq):Nat→List Ex
 |0=>[]
 |i+1=>jj C l i++[A9 C (jj C l i) (j4 l i)]
theorem Ba (C:Int) (l:List aq):∀ i,(jj C l i).length=i
 |0=>rfl
 |i+1=>by simp[jj,Ba C l i]
theorem G8 {a b C:Int} (ha:1≤a∧a≤16) (hb:0≤b∧b≤C) (_hC:0≤C):0≤a*b∧a*b≤16*C:=
 ⟨Int.mul_nonneg (by omega) hb.1,Int.mul_le_mul ha.2 hb.2 hb.1 (by omega)⟩
theorem PT {C:Int} (hC:1000≤C) (h8:C % 8=0) {out:List Ex} (ho:EX C out) {n i:Nat} {t:aq} (ht:dW n i t):AL (A9 C out t).2∧0≤(A9 C out t).1∧(A9 C out t).1≤C:=by
 unfold A9
 have ha:=ho.get (by omega) t.2.1
 obtain⟨b1,b2,_⟩:=Eh (C:=C) (by omega) ho t.2.2.2 0 1 (by omega) (by omega) (.inl rfl)
 have hc:=PR b2 h8 b1.2
 have hu:=PO b2 b1.1
 split
 ·exact⟨.inl rfl,by show (0:Int)≤1;omega,by show (1:Int)≤C;omega⟩
 ·split
  ·exact⟨.inr rfl,by show (0:Int)≤16;omega,by show (16:Int)≤C;omega⟩
  ·split
   ·exact⟨.inr rfl,by show (0:Int)≤24;omega,by show (24:Int)≤C;omega⟩
   ·split
    ·rename_i h6
     have:=G8 (ht.arr h6).2 ha.2 (by omega)
     exact⟨ha.1,by show 0≤min C _;omega,by show min C _≤C;omega⟩
    ·split
     ·exact⟨b2,by show 0≤up _ _;omega,hc⟩
     ·exact⟨.inr rfl,by show (0:Int)≤8;omega,by show (8:Int)≤C;omega⟩
theorem Ej {C:Int} (hC:1000≤C) (h8:C % 8=0) {l:List aq} (ht:Ji l):∀ i,i≤l.length→EX C (jj C l i)
 |0,_=>fun e he=>by cases he
 |i+1,hi=>fun e he=>by
  simp only[jj,List.mem_append,List.mem_singleton] at he
  rcases he with he|rfl
  ·exact Ej hC h8 ht i (by omega) e he
  ·exact PT hC h8 (Ej hC h8 ht i (by omega)) (ht i (by omega))
theorem Yl {a:List Ex} {n i:Nat} {v:Ex} (ha:a.length=i) (hi:i<n):(a++List.replicate (n-i) (0,0)).set i v=(a++[v])++List.replicate (n-(i+1)) (0,0):=by
 rw[List.set_append_right _ _ (by omega),show n-i=(n-(i+1))+1 by omega,List.replicate_succ,show i-a.length=0 by omega,List.set_cons_zero,List.append_assoc];rfl
open Go Go.bI Go.Sym
open Classical
theorem G9 {n i:Nat} {t:aq} (h:dW n i t):t.1=1∨t.1=2∨t.1=3∨t.1=4∨t.1=5∨t.1=6∨t.1=7:=by
 unfold dW at h
 split at h
 ·omega
 ·split at h
  ·omega
  ·split at h
   ·omega
   ·split at h
    ·omega
    ·exact h.elim
theorem Jk {N:Nat} {l:List aq} (hN:1100<N) (hl:l.length≤100) (ht:Ji l):Md N l=some (jj 1048576 l l.length):=by
 have h0:decide (0≤(l.length:Int))=true:=decide_eq_true (by omega)
 have hr:(decide (Int.toNat (l.length:Int)≤Int.toNat (l.length:Int))&&room (Int.toNat (l.length:Int)) 16)=true:=by
  rw[decide_eq_true (Nat.le_refl _),Int.toNat_natCast,aI (by omega) (by omega)];rfl
 rw[Md.eq_1,h0,aF,aF,hr,aF,Int.toNat_natCast]
 have key := uU (n := l.length) (Lf := fun k i => f147.dD N k (l, (l.length : Int), i, jj 1048576 l i.toNat ++ List.replicate (l.length - i.toNat) (0, 0))) (g := fun _ => some (jj 1048576 l l.length)) (fun k => by
   simp only[f147.dD.eq_2,bZ,aS,Int.toNat_natCast,Nat.sub_self,List.replicate_zero,List.append_nil]) (fun k i hi ih=>by
   have e:idx l (i:Int)=some (j4 l i):=jY _ hi
   have ht':=ht i hi
   have hff:=ht'.fields
   have hE:=Ej (C:=1048576) (by omega) (by omega) ht i (by omega)
   have hol:=Ba 1048576 l i
   have hnl:(jj 1048576 l i++List.replicate (l.length-i) ((0:Int),(0:Int))).length=l.length:=by simp[hol];omega
   have PM:∀ v:Ex,(jj 1048576 l i++List.replicate (l.length-i) (0,0)).set i v=(jj 1048576 l i++[v])++List.replicate (l.length-(i+1)) (0,0):=fun v=>Yl hol hi
   obtain⟨w,hw⟩:=vN (l:=jj 1048576 l i++List.replicate (l.length-i) ((0:Int),(0:Int))) (i:=i) (by omega)
   simp only[Int.toNat_natCast] at ih ⊢
   rw[jj] at ih
   have fin:∀ v:Ex,v=A9 1048576 (jj 1048576 l i) (j4 l i)→f147.dD N k (l,(l.length:Int),((i+1:Nat):Int),(jj 1048576 l i++[v])++List.replicate (l.length-(i+1)) (0,0))=some (jj 1048576 l l.length):=by
    rintro _ rfl;exact ih
   have hin:jq (i:Int) (jj 1048576 l i++List.replicate (l.length-i) ((0:Int),(0:Int))).length=true:=by rw[hnl];exact dR hi
   simp only[f147.dD.eq_2,bY hi,aV,e,Option.bind_some,Int.toNat_natCast,hin,hw,PM,aF,aW (show i<9223372036854775807 by omega),lu]
   unfold A9 at fin
   rcases G9 ht' with h|h|h|h|h|h|h
   ·rw[h];exact fin _ (by rw[if_pos h])
   ·rw[h];exact fin _ (by rw[h];rfl)
   ·rw[h];exact fin _ (by rw[h];rfl)
   ·rw[h];exact fin _ (by rw[h];rfl)
   ·rw [h] at fin ⊢
    have:=Yk (N:=N) (b:=List.replicate (l.length-i) (0,0)) hN hE (fs:=(j4 l i).2.2.2) (by omega) (fun f hf=>by rw[hol];exact hff.2.2 f hf)
    have hq:(Option.bind (IZ N (jj 1048576 l i++List.replicate (l.length-i) (0,0),(j4 l i).2.2.2)) fun AQ=>
      f147.dD N k (l,(l.length:Int),((i+1:Nat):Int),(jj 1048576 l i++[AQ.2])++List.replicate (l.length-(i+1)) (0,0)))=some (jj 1048576 l l.length):=by
     rw[this,Option.bind_some];exact fin _ rfl
    exact hq
   ·have hp := ht'.arr h
    have ha:=hE.get (by omega) (j4 l i).2.1
    have hm:=G8 hp.2 ha.2 (by omega)
    have hx:(jj 1048576 l i++List.replicate (l.length-i) ((0:Int),(0:Int)))[(j4 l i).2.1.toNat]?=some (qT (jj 1048576 l i) (j4 l i).2.1):=by
     have:=(Ae (Ei (x:=jj 1048576 l i++List.replicate (l.length-i) ((0:Int),(0:Int))) (i:=(j4 l i).2.1) (by rw[hnl];omega))).2
     rw[this,KH (by rw[hol];exact hp.1)]
    have hq:(aZ (jq (j4 l i).2.1 (jj 1048576 l i++List.replicate (l.length-i) ((0:Int),(0:Int))).length) (Option.bind ((jj 1048576 l i++List.replicate (l.length-i) ((0:Int),(0:Int)))[(Int.toNat (j4 l i).2.1)]?) fun pH=>
      f147.dD N k (l,(l.length:Int),((i+1:Nat):Int),(jj 1048576 l i++[((min (1048576:Int) (aH ((j4 l i).2.2.1*pH.1))),pH.2)])++List.replicate (l.length-(i+1)) (0,0))))=some (jj 1048576 l l.length):=by
     rw[oZ (by rw[hnl];omega),aF,hx,Option.bind_some]
     refine fin _ ?_
     rw[cB (by omega),h];rfl
    rw[h];exact hq
   ·rw[h];exact fin _ (by rw[h];rfl)) N 0 (by omega) (by omega)
 have:f147.dD N N (l,(l.length:Int),(0:Int),List.replicate l.length (0,0))=some (jj 1048576 l l.length):=by simpa[jj] using key
 rw[this];rfl
noncomputable def Rel (a b:Ex):Prop:=(a.1=b.1∨(256<a.1∧256<b.1))∧a.2=b.2
noncomputable def exs (l:List aq):List Ex:=jj 1048576 l l.length
noncomputable def KI (l:List aq):Prop:=∀ i:Nat,i<l.length→(qT (exs l) i).1≤256
theorem Tq (l:List aq):(exs l).length=l.length:=Ba _ _ _
theorem Tt {N:Nat} {l:List aq} (hN:1300<N) (hl:PN l) (ht:o6 l) {i:Int} (hi:0≤i∧i<l.length) :
  I0 N (l,i)=some (if (qT (exs l) i).1≤256 then ((qT (exs l) i).1,(qT (exs l) i).2,0) else (0,0,16)):=by
 have e:idx (exs l) i=some (qT (exs l) i):=Ei (by rw[Tq];exact hi)
 rw[I0.eq_1,OT.eq_1,CZ hN hl,if_pos ht,Option.bind_some,Jf,aS,decide_eq_false (show ¬i<0 by omega),aS,Option.bind_some,decide_eq_false (show ¬i≥(l.length:Int) by omega),aS,Jk (by omega) hl.1 ht.2.1,Option.bind_some,show jj 1048576 l l.length=exs l from rfl,e,Option.bind_some]
 by_cases h:(qT (exs l) i).1≤256
 ·rw [if_pos h, decide_eq_false (show ¬ (qT (exs l) i).1 > 256 by omega), aS, Option.bind_some]
  simp only
  rw[Jf,aS,e];rfl
 ·rw[if_neg h,decide_eq_true (show (qT (exs l) i).1>256 by omega),aV];rfl
open Go Go.bI Go.Sym
open Classical
noncomputable def Jl (l:List Field) (n:Nat):Prop:=∀ f,f∈l→0≤f.2∧f.2<n
noncomputable def mD (n:Nat) (f:Func):Prop:=
 n4 f.1=true∧f.2.2.2.1.length≤16∧dU f.2.2.2.1∧(0≤f.2.1∧f.2.1≤f.2.2.2.1.length)∧(-1≤f.2.2.1∧f.2.2.1<n)∧Jl f.2.2.2.1 n∧
 (1≤f.2.2.2.2.1.length∧f.2.2.2.2.1.length≤200)∧(∀ x,x∈f.2.2.2.2.1→jX x=true)∧iE f.2.2.2.2.2.1 f.2.2.2.2.1.length∧iE f.2.2.2.2.2.2 f.2.2.2.2.1.length
noncomputable def vc (f:Func):Prop:=f.2.2.2.1.length≤300∧f.2.2.2.2.1.length≤1000∧f.2.2.2.2.2.1.length≤1000∧f.2.2.2.2.2.2.length≤1000∧(∀ x,x∈f.2.2.2.2.1→QN x)∧CU f.2.2.2.2.2.1∧CU f.2.2.2.2.2.2
theorem PU {N:Nat} {l:List Field} {ts:List aq} (hN:l.length<N) (hl:l.length≤1000) (a:List UInt8) (b c:Int) (d:List Field) (e:List Instr) (f g:List bD) :
  f114.cc N N (ts,l,(l.length:Int),(0:Int),a,b,c,d,e,f,g)=some (if Jl l ts.length then .inr (a,b,c,d,e,f,g) else .inl false):=by
 have key:=qC (l:=l) (a:=(.inr (a,b,c,d,e,f,g):Bool⊕(List UInt8×Int×Int×List Field×List Instr×List bD×List bD))) (b:=.inl false) (p:=fun x=>!decide (0≤x.2∧x.2<(ts.length:Int)))
  (Lf := fun k i => f114.cc N k (ts, l, (l.length : Int), i, a, b, c, d, e, f, g)) (fun k _ => by
   simp only[f114.cc.eq_2,bZ,aS]) (fun k i x hx hm=>by
   simp only[f114.cc.eq_2,bY (bp hx),aV,bE hx,Option.bind_some,aW (show i<9223372036854775807 by have:=bp hx;omega),lu]
   by_cases h:0≤x.2∧x.2<(ts.length:Int)
   ·rw[ja h,eO (show ¬x.2<0 by omega),eO (show ¬x.2≥(ts.length:Int) by omega)];rfl
   ·rw [eO h]
    by_cases h1:x.2<0
    ·rw[ja h1];rfl
    ·rw[ja (show x.2≥(ts.length:Int) by omega),Bool.or_true];rfl) (k:=N) hN
 rw[key,yM]
 simp only[decide_eq_true_eq]
 exact congrArg some (Sj Iff.rfl)
theorem Tu {N:Nat} {l:List Instr} (hN:l.length<N) (hl:l.length≤1000) (a:List UInt8) (b c:Int) (d:List Field) (e:List Instr) (f g:List bD) :
  f114.lG N N (l,(l.length:Int),(0:Int),a,b,c,d,e,f,g)=some (if ∀ x,x∈l→jX x=true then .inr (a,b,c,d,e,f,g) else .inl false):=by
 have key:=qC (l:=l) (a:=(.inr (a,b,c,d,e,f,g):Bool⊕(List UInt8×Int×Int×List Field×List Instr×List bD×List bD))) (b:=.inl false) (p:=fun x=>!jX x)
  (Lf := fun k i => f114.lG N k (l, (l.length : Int), i, a, b, c, d, e, f, g)) (fun k _ => by
   simp only[f114.lG.eq_2,bZ,aS]) (fun k i x hx hm=>by
   simp only[f114.lG.eq_2,bY (bp hx),aV,bE hx,Option.bind_some,aW (show i<9223372036854775807 by have:=bp hx;omega),rH]
   by_cases h:jX x=true
   ·simp[h]
   ·simp[h]) (k:=N) hN
 rw[key,yM]
theorem He {N:Nat} {ts:List aq} {f:Func} (hN:1300<N) (hf:vc f):Mi N (ts,f.1,f.2.1,f.2.2.1,f.2.2.2.1,f.2.2.2.2.1,f.2.2.2.2.2.1,f.2.2.2.2.2.2)=some (decide (mD ts.length f)):=by
 obtain⟨nm,pa,re,sl,co,si,li⟩:=f
 obtain⟨g1,g2,g3,g4,g5,g6,g7⟩:=hf
 simp only at g1 g2 g3 g4 g5 g6 g7 ⊢
 rw[Mi.eq_1,A3 (by omega),G3 (by omega) (by omega)]
 simp only[Option.bind_some,lu]
 have no:∀ {p:Prop},(mD ts.length (nm,pa,re,sl,co,si,li)→p)→¬p→decide (mD ts.length (nm,pa,re,sl,co,si,li))=false:=fun h hp=>eO fun h'=>hp (h h')
 by_cases hA:n4 nm=true∧sl.length≤16∧dU sl∧(0≤pa∧pa≤sl.length)∧-1≤re∧re<ts.length
 ·obtain ⟨a1, a2, a3, a4, a5, a6⟩ := hA
  rw[a1,eO (show ¬(sl.length:Int)>16 by omega),ja a3,eO (show ¬pa<0 by omega),eO (show ¬pa>(sl.length:Int) by omega),eO (show ¬re < -1 by omega),eO (show ¬re≥(ts.length:Int) by omega),show (!true||(false||(!true||(false||(false||(false||false))))))=false from rfl,aS,PU (by omega) (by omega),Option.bind_some]
  by_cases hr:Jl sl ts.length
  ·rw [if_pos hr]
   simp only
   rw[Tu (by omega) (by omega),Option.bind_some]
   by_cases hc:∀ x,x∈co→jX x=true
   ·rw [if_pos hc]
    simp only
    rw[we (by omega) (by omega),we (by omega) (by omega),Option.bind_some,Option.bind_some]
    by_cases hn:co.length<1∨co.length>200
    ·rw[if_pos hn,no (p:=1≤co.length∧co.length≤200) (fun h=>h.2.2.2.2.2.2.1) (by omega)];rfl
    ·rw [if_neg hn, if_neg hn]
     by_cases hs:iE si co.length
     ·rw [if_pos hs]
      by_cases hv:iE li co.length
      ·rw[if_pos hv,ja (show mD ts.length (nm,pa,re,sl,co,si,li) from⟨a1,a2,a3,a4,⟨a5,a6⟩,hr,by simp only;omega,hc,hs,hv⟩)];rfl
      ·rw[if_neg hv,no (fun h=>h.2.2.2.2.2.2.2.2.2) hv];rfl
     ·rw[if_neg hs,no (fun h=>h.2.2.2.2.2.2.2.2.1) hs];rfl
   ·rw[if_neg hc,no (fun h=>h.2.2.2.2.2.2.2.1) hc]
  ·rw[if_neg hr,no (fun h=>h.2.2.2.2.2.1) hr]
 ·rw [no (fun h => ⟨h.1, h.2.1, h.2.2.1, h.2.2.2.1, h.2.2.2.2.1.1, h.2.2.2.2.1.2⟩) hA]
  have:(!n4 nm||(decide ((sl.length:Int)>16)||(!decide (dU sl)||(decide (pa<0)||(decide (pa>(sl.length:Int))||(decide (re < -1)||decide (re≥(ts.length:Int))))))))=true:=by
   false_or_by_contra
   rename_i h
   apply hA
   simp only[Bool.not_eq_true,Bool.or_eq_false_iff,Bool.not_eq_false',decide_eq_false_iff_not,decide_eq_true_eq] at h
   obtain⟨k1,k2,k3,k4,k5,k6,k7⟩:=h
   exact⟨k1,by omega,k3,by omega,by omega,by omega⟩
  rw[this,aV]
noncomputable def fn0:Func:=([],0,0,[],[],[],[])
noncomputable def C0 (l:List Func) (i:Nat):Func:=l.getD i fn0
noncomputable def Hf (l:List Func) (i:Nat):Prop:=∃ j,j<i∧(C0 l j).1=(C0 l i).1
noncomputable def Mt (n:Nat) (l:List Func) (i:Nat):Bool:=decide (mD n (C0 l i)) && !decide (Hf l i)
noncomputable def ju (ts:List aq) (xs:List (List UInt8)) (fs:List Func):Prop:=
 o6 ts∧xs.length≤32∧(1≤fs.length∧fs.length≤32)∧KI ts∧(∀ s,s∈xs→s.length≤64)∧∀ i,i<fs.length→Mt ts.length fs i=true
noncomputable def PV (ts:List aq) (xs:List (List UInt8)) (fs:List Func):Prop:=PN ts∧xs.length≤50∧(∀ s,s∈xs→s.length≤1000)∧fs.length≤50∧∀ f,f∈fs→vc f
theorem Bb {l:List Func} {i:Nat} (hi:i<l.length):hasB ((l.take i).map (·.1)) (C0 l i).1=decide (Hf l i):=by
 unfold hasB
 by_cases h:Hf l i
 ·rw [decide_eq_true h, List.any_eq_true]
  obtain⟨j,h1,h2⟩:=h
  refine⟨(C0 l j).1,List.mem_map.2 ⟨C0 l j,?_,rfl⟩,decide_eq_true h2.symm⟩
  rw[C0,List.getD_eq_getElem?_getD,List.getElem?_eq_getElem (by omega)]
  exact List.mem_take_iff_getElem.2 ⟨j,by omega,rfl⟩
 ·rw [decide_eq_false h]
  cases ha:((l.take i).map (·.1)).any fun q=>decide ((C0 l i).1=q) with
  |false=>rfl
  |true=>
   exfalso
   obtain⟨q,h1,h2⟩:=List.any_eq_true.1 ha
   obtain⟨f,h3,rfl⟩:=List.mem_map.1 h1
   obtain⟨j,h4,rfl⟩:=List.mem_take_iff_getElem.1 h3
   refine h ⟨j,by omega,?_⟩
   rw[of_decide_eq_true h2]
   rw[C0,List.getD_eq_getElem?_getD,List.getElem?_eq_getElem (by omega)];rfl
theorem Tv {l:List Func} {i:Nat} (hi:i<l.length):l[i]?=some (C0 l i):=by
 rw[C0,List.getD_eq_getElem?_getD,List.getElem?_eq_getElem hi];rfl
theorem Jm {l:List Func} {i:Nat} (hi:i<l.length) (h:¬Hf l i):pQ ((l.take i).map (·.1)) (C0 l i).1=(l.take (i+1)).map (·.1):=by
 unfold pQ
 rw[Bb hi,decide_eq_false h,take_succ (Tv hi),List.map_append]
 rfl
theorem KJ {N:Nat} {ts:List aq} {xs:List (List UInt8)} {fs:List Func} (hN:1300<N) (hm:PV ts xs fs):WV N (ts,xs,fs)=some (decide (ju ts xs fs)):=by
 obtain⟨m1,m2,m3,m4,m5⟩:=hm
 have no:∀ {p:Prop},(ju ts xs fs→p)→¬p→decide (ju ts xs fs)=false:=fun h hp=>eO fun h'=>hp (h h')
 have htl:=m1.1
 rw[WV.eq_1,CZ hN m1]
 simp only[Option.bind_some,lu]
 by_cases hA:o6 ts∧xs.length≤32∧1≤fs.length∧fs.length≤32
 ·obtain ⟨a1, a2, a3, a4⟩ := hA
  rw[if_pos a1,Jf,eO (show ¬(xs.length:Int)>32 by omega),yL (show ¬fs.length=0 by omega),eO (show ¬(fs.length:Int)>32 by omega),show (false||(false||(false||false)))=false from rfl,aS]
  have key:=mq (n:=ts.length) (a:=(.inr (ts,xs,fs):Bool⊕(List aq×List (List UInt8)×List Func))) (b:=.inl false) (q:=fun i=>!decide ((qT (exs ts) i).1≤256)) (Lf:=fun k i=>f70.cc N k ((ts.length:Int),i,ts,xs,fs)) (fun k _=>by
    simp only[f70.cc.eq_2,bZ,aS]) (fun k i hi _=>by
    simp only[f70.cc.eq_2,bY hi,aV,Tt hN m1 a1 (show 0≤(i:Int)∧(i:Int)<ts.length by omega),Option.bind_some,aW (show i<9223372036854775807 by omega)]
    by_cases h:(qT (exs ts) i).1≤256
    ·rw[if_pos h,ja h];rfl
    ·rw[if_neg h,eO h];rfl) (k:=N) (by omega)
  rw[key,A2,Option.bind_some]
  by_cases hs:KI ts
  ·rw [if_pos fun i hi => ja (hs i hi)]
   simp only
   have Yj:=qC (l:=xs) (a:=(.inr (ts,xs,fs):Bool⊕(List aq×List (List UInt8)×List Func))) (b:=.inl false) (p:=fun s=>!decide (s.length≤64)) (Lf:=fun k i=>f70.AR N k (xs,(xs.length:Int),i,ts,xs,fs)) (fun k _=>by
     simp only[f70.AR.eq_2,bZ,aS]) (fun k i x hx hm=>by
     simp only[f70.AR.eq_2,bY (bp hx),aV,bE hx,Option.bind_some,aW (show i<9223372036854775807 by have:=bp hx;omega)]
     by_cases h:x.length≤64
     ·rw[ja h,eO (show ¬(x.length:Int)>64 by omega)];rfl
     ·rw[eO h,ja (show (x.length:Int)>64 by omega)];rfl) (k:=N) (by omega)
   rw[Yj,yM,Option.bind_some]
   by_cases hx:∀ s,s∈xs→s.length≤64
   ·rw [if_pos fun s h => ja (hx s h)]
    simp only
    have acG:=mq (n:=fs.length) (a:=(.inr ():Bool⊕Unit)) (b:=.inl false) (q:=fun i=>!Mt ts.length fs i) (Lf:=fun k i=>f70.lF N k (fs,(fs.length:Int),i,ts,xs,fs,(fs.take i.toNat).map (·.1))) (fun k _=>by
      simp only[f70.lF.eq_2,bZ,aS]) (fun k i hi _=>by
      have e:idx fs (i:Int)=some (C0 fs i):=jY _ hi
      simp only[f70.lF.eq_2,bY hi,aV,e,Option.bind_some,Int.toNat_natCast,Bb hi,aW (show i<9223372036854775807 by omega)]
      have hfk:=He (ts:=ts) hN (m5 _ (u7 fn0 hi))
      rw[show fs.getD i fn0=C0 fs i from rfl] at hfk
      rw[hfk,Option.bind_some]
      unfold Mt
      by_cases hd:Hf fs i
      ·rw[ja hd,Bool.not_true,Bool.and_false];rfl
      ·rw [Jm hi hd, eO hd]
       by_cases hk:mD ts.length (C0 fs i)
       ·rw[ja hk];rfl
       ·rw[eO hk];rfl) (k:=N) (by omega)
    rw[show (0:Int).toNat=0 from rfl,List.take_zero,List.map_nil] at acG
    rw[acG,A2,Option.bind_some]
    by_cases hf:∀ i,i<fs.length→Mt ts.length fs i=true
    ·rw[if_pos hf,ja (show ju ts xs fs from⟨a1,a2,⟨a3,a4⟩,hs,hx,hf⟩)]
    ·rw[if_neg hf,no (fun h=>h.2.2.2.2.2) hf]
   ·rw[if_neg fun h=>hx fun s hs=>of_decide_eq_true (h s hs),no (fun h=>h.2.2.2.2.1) hx]
  ·rw[if_neg fun h=>hs fun i hi=>of_decide_eq_true (h i hi),no (fun h=>h.2.2.2.1) hs]
 ·rw [no (fun h => ⟨h.1, h.2.1, h.2.2.1⟩) hA]
  have:(((if o6 ts then (0:Int) else 8) != 0)||(decide ((xs.length:Int)>32)||(((fs.length:Int)==0)||decide ((fs.length:Int)>32))))=true:=by
   false_or_by_contra
   rename_i h
   apply hA
   simp only[Bool.not_eq_true,Bool.or_eq_false_iff,decide_eq_false_iff_not,Tn] at h
   obtain⟨k1,k2,k3,k4⟩:=h
   refine⟨?_,by omega,by omega,by omega⟩
   false_or_by_contra
   rename_i h
   rw[if_neg h] at k1
   cases k1
  rw[this,aV]
open Go Go.bI Go.Sym
open Classical
noncomputable def mE (f:Field):List Int:=said f.1++V f.2.toNat
noncomputable def mW (l:List Field):List Int:=V l.length++l.flatMap mE
noncomputable def qV (t:aq):List Int:=
 [t.1]++if t.1=4∨t.1=7 then V t.2.1.toNat else if t.1=6 then V t.2.1.toNat++V t.2.2.1.toNat else if t.1=5 then mW t.2.2.2 else []
noncomputable def qW (f:Func):List Int:=
 said f.1++(V f.2.1.toNat++(V (Ku f.2.2.1)++(mW f.2.2.2.1++(V f.2.2.2.2.1.length++(f.2.2.2.2.1.flatMap encI++(mC f.2.2.2.2.2.1++mC f.2.2.2.2.2.2))))))
noncomputable def qX (ts:List aq) (xs:List (List UInt8)) (fs:List Func):List Int:=
 V ts.length++(ts.flatMap qV++(V xs.length++(xs.flatMap said++(V fs.length++fs.flatMap qW))))
theorem jk {N n:Nat} (hN:20<N) (hn:n≤1000000):fU N (dn (n:Int))=some (V n):=by
 rw[AB (by omega),u5 hN (by omega)]
theorem o7 {f:Field} (h:n4 f.1=true):(mE f).length≤40:=by
 have:=n5 h;have:=u6 f.1;have:=dH f.2.toNat
 rw[mE,List.length_append];omega
noncomputable def FW (l:List Field):Prop:=l.length≤16∧∀ f,f∈l→n4 f.1=true∧0≤f.2∧f.2≤1000
theorem ve {l:List Field} (h:dU l):∀ f,f∈l→n4 f.1=true:=fun f hf=>by
 obtain⟨i,hi,rfl⟩:=qS ([],0) hf
 have:=h i hi
 unfold okF at this
 rw[Bool.and_eq_true] at this
 exact this.1
theorem xI {l:List Field} (h:FW l):(mW l).length≤700:=by
 have:=dH l.length
 have:=iA (l:=l) (enc:=mE) (m:=40) fun f hf=>o7 (h.2 f hf).1
 have:=h.1
 rw[mW,List.length_append];omega
theorem dW.FW {n i:Nat} {t:aq} (h:dW n i t) (hi:i≤32) (h5:t.1=5):FW t.2.2.2:=by
 have hf:=h.fields
 unfold dW at h
 rw[if_neg (by omega),if_neg (by omega),if_neg (by omega),if_pos h5] at h
 have hn:=ve h.2.2.2.1
 exact⟨by omega,fun f hm=>⟨hn f hm,by have:=hf.2.2 f hm;omega⟩⟩
theorem C1 {n i:Nat} {t:aq} (h:dW n i t) (hi:i≤32):(qV t).length≤800:=by
 have:=dH t.2.1.toNat;have:=dH t.2.2.1.toNat
 unfold qV
 rw[List.length_append,List.length_singleton]
 split
 ·omega
 ·split
  ·rw[List.length_append];omega
  ·split
   ·have:=xI (h.FW hi ‹_›);omega
   ·simp
theorem mD.FW {n:Nat} {f:Func} (h:mD n f) (hn:n≤32):FW f.2.2.2.1:=
 ⟨h.2.1,fun g hg=>⟨ve h.2.2.1 g hg,by have:=h.2.2.2.2.2.1 g hg;omega⟩⟩
theorem C2 {n:Nat} {f:Func} (h:mD n f) (hn:n≤32) (hf:vc f):(qW f).length≤30000:=by
 have:=dH f.2.1.toNat;have:=dH (Ku f.2.2.1);have:=dH f.2.2.2.2.1.length
 have:=xI (h.FW hn)
 have:=u6 f.1;have:=n5 h.1
 have PW:=h.2.2.2.2.2.2.1
 have:=iA (l:=f.2.2.2.2.1) (enc:=encI) (m:=31) fun x _=>qR x
 have:=rI f.2.2.2.2.2.1;have:=rI f.2.2.2.2.2.2
 have:=G0 h.2.2.2.2.2.2.2.2.1;have:=G0 h.2.2.2.2.2.2.2.2.2
 simp only[qW,List.length_append];omega
section
variable {N:Nat}
theorem Mu (hN:1300<N) {l:List Field} (hl:FW l) {s:List Int} (hs:s.length≤4000000) (a:List aq) (b:List (List UInt8)) (c:List Func) :
  f49.de N N (l,(l.length:Int),(0:Int),s,a,b,c)=some (s++l.flatMap mE,a,b,c):=by
 have h16:=hl.1
 refine nX (l:=l) (enc:=mE) (g:=fun s=>(s,a,b,c)) (B:=5000000) (m:=40) (Lf:=fun k i s=>f49.de N k (l,(l.length:Int),i,s,a,b,c)) (fun k s=>by
  simp only[f49.de.eq_2,bZ,aS]) (fun k i x s hx hm hB=>?_) (fun x hx=>o7 (hl.2 x hx).1) (by omega) (by omega)
 have hx2:=hl.2 x hm
 have hnl:=n5 hx2.1
 have v1:=dH x.1.length
 have v2:=dH x.2.toNat
 simp only[f49.de.eq_2,bY (bp hx),aV,bE hx,Option.bind_some,jk (show 20<N by omega) (show x.1.length≤1000000 by omega),kZ (show 20<N by omega) (show 0≤x.2∧x.2≤9223372036854775807 by omega),
  aI (show s.length+(V x.1.length).length≤10000000 by omega) (show 1≤1000 by omega),aI (show (s++V x.1.length).length+(cu x.1).length≤10000000 by rw[List.length_append,cM];omega) (show 1≤1000 by omega),aI (show ((s++V x.1.length)++cu x.1).length+(V x.2.toNat).length≤10000000 by rw[List.length_append,List.length_append,cM];omega) (show 1≤1000 by omega),aF,aW (show i<9223372036854775807 by have:=bp hx;omega)]
 simp only[mE,said,List.append_assoc]
theorem PX (hN:1300<N) {l:List Field} (hl:FW l) {s:List Int} (hs:s.length≤4000000) (nm:List UInt8) (pa re:Int) (sl:List Field) (co:List Instr) (si li:List bD) :
  f49.dh N N (l,(l.length:Int),(0:Int),s,nm,pa,re,sl,co,si,li)=some (s++l.flatMap mE,nm,pa,re,sl,co,si,li):=by
 have h16:=hl.1
 refine nX (l:=l) (enc:=mE) (g:=fun s=>(s,nm,pa,re,sl,co,si,li)) (B:=5000000) (m:=40) (Lf:=fun k i s=>f49.dh N k (l,(l.length:Int),i,s,nm,pa,re,sl,co,si,li)) (fun k s=>by
  simp only[f49.dh.eq_2,bZ,aS]) (fun k i x s hx hm hB=>?_) (fun x hx=>o7 (hl.2 x hx).1) (by omega) (by omega)
 have hx2:=hl.2 x hm
 have hnl:=n5 hx2.1
 have v1:=dH x.1.length
 have v2:=dH x.2.toNat
 simp only[f49.dh.eq_2,bY (bp hx),aV,bE hx,Option.bind_some,jk (show 20<N by omega) (show x.1.length≤1000000 by omega),kZ (show 20<N by omega) (show 0≤x.2∧x.2≤9223372036854775807 by omega),
  aI (show s.length+(V x.1.length).length≤10000000 by omega) (show 1≤1000 by omega),aI (show (s++V x.1.length).length+(cu x.1).length≤10000000 by rw[List.length_append,cM];omega) (show 1≤1000 by omega),aI (show ((s++V x.1.length)++cu x.1).length+(V x.2.toNat).length≤10000000 by rw[List.length_append,List.length_append,cM];omega) (show 1≤1000 by omega),aF,aW (show i<9223372036854775807 by have:=bp hx;omega)]
 simp only[mE,said,List.append_assoc]
noncomputable def TW (ts:List aq):Prop:=ts.length≤32∧∀ t,t∈ts→∃ n i,i≤32∧n≤32∧dW n i t
theorem o6.TW {ts:List aq} (h:o6 ts):TW ts:=⟨h.1,fun t ht=>by
 obtain⟨i,hi,rfl⟩:=qS ty0 ht
 exact⟨ts.length,i,by have:=h.1;omega,h.1,h.2.1 i hi⟩⟩
theorem PY (hN:1300<N) {l:List aq} (hl:TW l) {s:List Int} (hs:s.length≤1000000) (a:List aq) (b:List (List UInt8)) (c:List Func) :
  f49.eT N N (l,(l.length:Int),(0:Int),s,a,b,c)=some (a,b,c,s++l.flatMap qV):=by
 have h16:=hl.1
 refine nX (l:=l) (enc:=qV) (g:=fun s=>(a,b,c,s)) (B:=2000000) (m:=800) (Lf:=fun k i s=>f49.eT N k (l,(l.length:Int),i,s,a,b,c)) (fun k s=>by
  simp only[f49.eT.eq_2,bZ,aS]) (fun k i t s hx hm hB=>?_) (fun x hx=>by
  obtain⟨n,i,hi,_,ht⟩:=hl.2 x hx
  exact C1 ht hi) (by omega) (by omega)
 obtain⟨n,j,hj,hn,ht⟩:=hl.2 t hm
 have v1:=dH t.2.1.toNat
 have v2:=dH t.2.2.1.toNat
 have v3:=dH t.2.2.2.length
 have r0:room (s.length+1) 1=true:=aI (by omega) (by omega)
 have r1:room ((s++[t.1]).length+(V t.2.1.toNat).length) 1=true:=aI (by simp only[List.length_append,List.length_singleton];omega) (by omega)
 have r2:room (((s++[t.1])++V t.2.1.toNat).length+(V t.2.2.1.toNat).length) 1=true:=aI (by simp only[List.length_append,List.length_singleton];omega) (by omega)
 have r3:room ((s++[t.1]).length+(V t.2.2.2.length).length) 1=true:=aI (by simp only[List.length_append,List.length_singleton];omega) (by omega)
 simp only[f49.eT.eq_2,bY (bp hx),aV,bE hx,Option.bind_some,r0,aF,aW (show i<9223372036854775807 by have:=bp hx;omega),lu,KF]
 unfold qV
 by_cases h47:t.1=4∨t.1=7
 ·have hp := ht.ptr h47
  rw[if_pos h47,show (decide (t.1=4)||decide (t.1=7))=true by simpa using h47,aV,kZ (by omega) (by omega),Option.bind_some,r1,aF,List.append_assoc]
 ·rw [if_neg h47, show (decide (t.1 = 4) || decide (t.1 = 7)) = false by simpa using h47, aS]
  by_cases h6:t.1=6
  ·have hp := ht.arr h6
   rw[if_pos h6,decide_eq_true h6,aV,kZ (by omega) (by omega),Option.bind_some,r1,aF,kZ (by omega) (by omega),Option.bind_some,r2,aF,List.append_assoc,List.append_assoc]
  ·rw [if_neg h6, decide_eq_false h6, aS]
   by_cases h5:t.1=5
   ·have hw := ht.FW hj h5
    rw[if_pos h5,decide_eq_true h5,aV,jk (by omega) (by have:=hw.1;omega),Option.bind_some,r3,aF,Mu hN hw (by simp only[List.length_append,List.length_singleton];omega),Option.bind_some,mW,List.append_assoc,List.append_assoc]
   ·rw[if_neg h5,decide_eq_false h5,aS,List.append_nil]
noncomputable def XW (xs:List (List UInt8)):Prop:=xs.length≤32∧∀ s,s∈xs→s.length≤64
theorem PZ (hN:1300<N) {l:List (List UInt8)} (hl:XW l) {s:List Int} (hs:s.length≤1000000) (a:List aq) (b:List (List UInt8)) (c:List Func) :
  f49.rM N N (l,(l.length:Int),(0:Int),a,b,c,s)=some (a,b,c,s++l.flatMap said):=by
 have h16:=hl.1
 refine nX (l:=l) (enc:=said) (g:=fun s=>(a,b,c,s)) (B:=2000000) (m:=100) (Lf:=fun k i s=>f49.rM N k (l,(l.length:Int),i,a,b,c,s)) (fun k s=>by
  simp only[f49.rM.eq_2,bZ,aS]) (fun k i x s hx hm hB=>?_) (fun x hx=>by have:=u6 x;have:=hl.2 x hx;omega) (by omega) (by omega)
 have h64:=hl.2 x hm
 have v1:=dH x.length
 simp only[f49.rM.eq_2,bY (bp hx),aV,bE hx,Option.bind_some,jk (show 20<N by omega) (show x.length≤1000000 by omega),
  aI (show s.length+(V x.length).length≤10000000 by omega) (show 1≤1000 by omega),aI (show (s++V x.length).length+(cu x).length≤10000000 by rw[List.length_append,cM];omega) (show 1≤1000 by omega),aF,aW (show i<9223372036854775807 by have:=bp hx;omega)]
 simp only[said,List.append_assoc]
noncomputable def CW (l:List Instr):Prop:=l.length≤200∧∀ x,x∈l→jX x=true∧QN x
theorem Tw (hN:1300<N) {l:List Instr} (hl:CW l) {s:List Int} (hs:s.length≤4000000) (nm:List UInt8) (pa re:Int) (sl:List Field) (co:List Instr) (si li:List bD) :
  f49.iB N N (l,(l.length:Int),(0:Int),s,nm,pa,re,sl,co,si,li)=some (.inr (s++l.flatMap encI,nm,pa,re,sl,co,si,li)):=by
 have h16:=hl.1
 refine nX (l:=l) (enc:=encI) (g:=fun s=>(.inr (s,nm,pa,re,sl,co,si,li):(Int×List Int)⊕(List Int×List UInt8×Int×Int×List Field×List Instr×List bD×List bD))) (B:=5000000) (m:=31) (Lf:=fun k i s=>f49.iB N k (l,(l.length:Int),i,s,nm,pa,re,sl,co,si,li)) (fun k s=>by
  simp only[f49.iB.eq_2,bZ,aS]) (fun k i x s hx hm hB=>?_) (fun x hx=>qR x) (by omega) (by omega)
 have hx2:=hl.2 x hm
 have v1:=qR x
 simp only[f49.iB.eq_2,bY (bp hx),aV,bE hx,Option.bind_some,Tl (N:=N) (by omega) hx2.2 hx2.1,Jf,aS,
  aI (show s.length+(encI x).length≤10000000 by omega) (show 1≤1000 by omega),aF,aW (show i<9223372036854775807 by have:=bp hx;omega)]
noncomputable def FnW (l:List Func):Prop:=l.length≤32∧∀ f,f∈l→vc f∧i64 f.2.2.1∧∃ n,n≤32∧mD n f
theorem C3 {x:List bD} {j:Int} {l2:List (List bD)} (hN:1300<N) {n:Nat} (h1:iE x n) (g1:x.length≤1000) (o1:CU x) {s:List Int} (hs:s.length≤4500000) {co:List Instr} (hc:co.length=n) (hn:1≤n∧n≤200) (nm:List UInt8) (pa re:Int) (sl:List Field) (si li:List bD) (hj:decide (j<2)=true) (hx:idx l2 j=some x) {j2:Int} (hj2:aH (j+1)=j2) (k:Nat) :
  f49.eG N (k+1) (l2,(2:Int),j,s,nm,pa,re,sl,co,si,li)=f49.eG N k (l2,(2:Int),j2,s++mC x,nm,pa,re,sl,co,si,li):=by
 subst hc
 have e1:=Tm (N:=N) (by omega) g1 h1 hn.1 hn.2 o1
 have l1:=rI x
 rw[f49.eG.eq_2,hj,aV,hx,Option.bind_some,e1,Option.bind_some]
 simp only[Jf,aS,aI (show s.length+(mC x).length≤10000000 by omega) (show 1≤1000 by omega),aF,hj2]
theorem Tx (hN:1300<N) {si li:List bD} {n:Nat} (h1:iE si n) (h2:iE li n) (g1:si.length≤1000) (g2:li.length≤1000) (o1:CU si) (o2:CU li) {s:List Int} (hs:s.length≤4000000) {co:List Instr} (hc:co.length=n) (hn:1≤n∧n≤200) (nm:List UInt8) (pa re:Int) (sl:List Field) :
  f49.eG N N ([si,li],(2:Int),(0:Int),s,nm,pa,re,sl,co,si,li)=some (.inr (s++(mC si++mC li))):=by
 have l1:=rI si
 have key:∀ k,f49.eG N (k+1+1+1) ([si,li],(2:Int),(0:Int),s,nm,pa,re,sl,co,si,li)=some (.inr (s++(mC si++mC li))):=fun k=>by
  rw[C3 hN h1 g1 o1 (by omega) hc hn nm pa re sl si li rfl rfl (j2:=1) (by decide),C3 hN h2 g2 o2 (by rw[List.length_append];omega) hc hn nm pa re sl si li rfl rfl (j2:=2) (by decide),f49.eG.eq_2,show decide ((2:Int)<2)=false from rfl,aS,List.append_assoc]
 have:=key (N-3)
 rwa[show N-3+1+1+1=N by omega] at this
theorem P0 (hN:1300<N) {l:List Func} (hl:FnW l) {s:List Int} (hs:s.length≤1000000) :
  f49.jB N N (l,(l.length:Int),(0:Int),s)=some (.inr (s++l.flatMap qW)):=by
 have h16:=hl.1
 refine nX (l:=l) (enc:=qW) (g:=fun s=>(.inr s:Int⊕List Int)) (B:=2500000) (m:=30000) (Lf:=fun k i s=>f49.jB N k (l,(l.length:Int),i,s)) (fun k s=>by
  simp only[f49.jB.eq_2,bZ,aS]) (fun k i x s hx hm hB=>?_) (fun x hx=>by
  obtain⟨hf,_,n,hn,ho⟩:=hl.2 x hx
  exact C2 ho hn hf) (by omega) (by omega)
 obtain⟨⟨g1,g2,g3,g4,g5,g6,g7⟩,h64,n,hn,ho⟩:=hl.2 x hm
 have hw:=ho.FW hn
 have hnl:=n5 ho.1
 have hp:=ho.2.2.2.1
 have PW:=ho.2.2.2.2.2.2.1
 have hcw:CW x.2.2.2.2.1:=⟨PW.2,fun y hy=>⟨ho.2.2.2.2.2.2.2.1 y hy,g5 y hy⟩⟩
 have bV:=hw.1
 have v1:=dH x.1.length
 have v2:=dH x.2.1.toNat
 have v3:=dH (Ku x.2.2.1)
 have v4:=dH x.2.2.2.1.length
 have v5:=dH x.2.2.2.2.1.length
 have v6:=iA (l:=x.2.2.2.1) (enc:=mE) (m:=40) fun f hf=>o7 (hw.2 f hf).1
 have v7:=iA (l:=x.2.2.2.2.1) (enc:=encI) (m:=31) fun y _=>qR y
 have r1:room (s.length+(V x.1.length).length) 1=true:=aI (by omega) (by omega)
 have r2:room ((s++V x.1.length).length+(cu x.1).length) 1=true:=aI (by simp only[List.length_append,cM];omega) (by omega)
 have r3:room (((s++V x.1.length)++cu x.1).length+(V x.2.1.toNat).length) 1=true:=aI (by simp only[List.length_append,cM];omega) (by omega)
 have r4:room ((((s++V x.1.length)++cu x.1)++V x.2.1.toNat).length+(V (Ku x.2.2.1)).length) 1=true:=aI (by simp only[List.length_append,cM];omega) (by omega)
 have r5:room (((((s++V x.1.length)++cu x.1)++V x.2.1.toNat)++V (Ku x.2.2.1)).length+(V x.2.2.2.1.length).length) 1=true:=aI (by simp only[List.length_append,cM];omega) (by omega)
 simp only[f49.jB.eq_2,bY (bp hx),aV,bE hx,Option.bind_some,jk (show 20<N by omega) (show x.1.length≤1000000 by omega),kZ (show 20<N by omega) (show 0≤x.2.1∧x.2.1≤9223372036854775807 by omega),CT (show 20<N by omega) h64,jk (show 20<N by omega) (show x.2.2.2.1.length≤1000000 by omega),r1,r2,r3,r4,r5,aF,aW (show i<9223372036854775807 by have:=bp hx;omega)]
 have e1:=PX hN hw (s:=((((s++V x.1.length)++cu x.1)++V x.2.1.toNat)++V (Ku x.2.2.1))++V x.2.2.2.1.length) (by simp only[List.length_append,cM];omega) x.1 x.2.1 x.2.2.1 x.2.2.2.1 x.2.2.2.2.1 x.2.2.2.2.2.1 x.2.2.2.2.2.2
 rw[e1,Option.bind_some]
 simp only
 rw[jk (by omega) (by omega),Option.bind_some,aI (by simp only[List.length_append,cM];omega) (by omega),aF,Tw hN hcw (by simp only[List.length_append,cM];omega),Option.bind_some]
 simp only
 rw[Tx hN ho.2.2.2.2.2.2.2.2.1 ho.2.2.2.2.2.2.2.2.2 g3 g4 g6 g7 (by simp only[List.length_append,cM];omega) rfl PW,Option.bind_some]
 simp only[qW,mW,said,List.append_assoc]
end
open Go Go.bI Go.Sym
open Classical
noncomputable def Bc (ts:List aq) (xs:List (List UInt8)) (fs:List Func):Prop:=PV ts xs fs∧∀ f,f∈fs→i64 f.2.2.1
theorem ju.XW {ts:List aq} {xs:List (List UInt8)} {fs:List Func} (h:ju ts xs fs):XW xs:=⟨h.2.1,h.2.2.2.2.1⟩
theorem ju.func {ts:List aq} {xs:List (List UInt8)} {fs:List Func} (h:ju ts xs fs) {i:Nat} (hi:i<fs.length):mD ts.length (C0 fs i):=by
 have:=h.2.2.2.2.2 i hi
 unfold Mt at this
 rw[Bool.and_eq_true,decide_eq_true_eq] at this
 exact this.1
theorem ju.FnW {ts:List aq} {xs:List (List UInt8)} {fs:List Func} (h:ju ts xs fs) (hm:Bc ts xs fs):FnW fs:=⟨h.2.2.1.2,fun f hf=>by
 refine⟨hm.1.2.2.2.2 f hf,hm.2 f hf,ts.length,h.1.1,?_⟩
 obtain⟨i,hi,rfl⟩:=qS fn0 hf
 exact h.func hi⟩
noncomputable def BI (ts:List aq) (xs:List (List UInt8)) (fs:List Func):Int:=if ju ts xs fs then (if (qX ts xs fs).length≤20000 then 0 else 4) else 8
section
variable {N:Nat} {ts:List aq} {xs:List (List UInt8)} {fs:List Func}
theorem Mv (h:ju ts xs fs) (hm:Bc ts xs fs):(ts.flatMap qV).length≤25600∧(xs.flatMap said).length≤3200∧(fs.flatMap qW).length≤960000:=by
 have hT:=h.1.TW
 have hX:=h.XW
 have hF:=h.FnW hm
 have h1:=iA (l:=ts) (enc:=qV) (m:=800) fun x hx=>by
  obtain⟨n,i,hi,_,ht⟩:=hT.2 x hx
  exact C1 ht hi
 have h2:=iA (l:=xs) (enc:=said) (m:=100) fun x hx=>by have:=u6 x;have:=hX.2 x hx;omega
 have h3:=iA (l:=fs) (enc:=qW) (m:=30000) fun x hx=>by
  obtain⟨hf,_,n,hn,ho⟩:=hF.2 x hx
  exact C2 ho hn hf
 have a1:=hT.1;have a2:=hX.1;have a3:=hF.1
 exact⟨by omega,by omega,by omega⟩
theorem Mw (hN:1300<N) (hm:Bc ts xs fs):Zb N (ts,xs,fs)=some (if BI ts xs fs=0 then qX ts xs fs else [],BI ts xs fs):=by
 rw[Zb.eq_1,KJ hN hm.1,Option.bind_some]
 unfold BI
 by_cases h:ju ts xs fs
 ·rw [ja h, Bool.not_true, aS, if_pos h]
  obtain⟨b1,b2,b3⟩:=Mv h hm
  have c1:=dH ts.length;have c2:=dH xs.length;have c3:=dH fs.length
  have d1:=hm.1.1.1;have d2:=hm.1.2.1;have d3:=hm.1.2.2.2.1
  rw[jk (by omega) (by omega),Option.bind_some,aI (by omega) (by omega),aF,PY hN h.1.TW (by omega),Option.bind_some]
  simp only
  rw[jk (by omega) (by omega),Option.bind_some,aI (by simp only[List.length_append];omega) (by omega),aF,PZ hN h.XW (by simp only[List.length_append];omega),Option.bind_some]
  simp only
  rw[jk (by omega) (by omega),Option.bind_some,aI (by simp only[List.length_append];omega) (by omega),aF,P0 hN (h.FnW hm) (by simp only[List.length_append];omega),Option.bind_some]
  have e:(((((V ts.length++ts.flatMap qV)++V xs.length)++xs.flatMap said)++V fs.length)++fs.flatMap qW)=qX ts xs fs:=by simp only[qX,List.append_assoc]
  simp only
  rw[e]
  by_cases hl:(qX ts xs fs).length≤20000
  ·rw[if_pos hl,eO (show ¬((qX ts xs fs).length:Int)>20000 by omega),aS,if_pos rfl]
  ·rw[if_neg hl,ja (show ((qX ts xs fs).length:Int)>20000 by omega),aV,if_neg (by decide)]
 ·rw[eO h,Bool.not_false,aV,if_neg h,if_neg (by decide)]
theorem P3 (hN:1300<N) (hm:Bc ts xs fs):W2 N (ts,xs,fs)=some (BI ts xs fs):=by
 rw[W2.eq_1,Mw hN hm,Option.bind_some]
noncomputable def Ym (fs:List Func) (f i:Int):Prop:=0≤f∧f<fs.length∧0≤i∧i<(C0 fs f.toNat).2.2.2.2.1.length
noncomputable def ahT (ts:List aq) (xs:List (List UInt8)) (fs:List Func) (f i:Int):Int×Int:=
 if BI ts xs fs=0 then (if Ym fs f i then (256*(f+1)+i,0) else (0,2)) else (0,BI ts xs fs)
noncomputable def agv (fs:List Func) (a:Nat):Prop:=1≤a / 256∧a / 256≤fs.length∧a % 256<(C0 fs (a / 256-1)).2.2.2.2.1.length
noncomputable def ahU (ts:List aq) (xs:List (List UInt8)) (fs:List Func) (a:Nat):Int×Int×Int:=
 if BI ts xs fs=0 then (if agv fs a then (((a / 256-1:Nat):Int),((a % 256:Nat):Int),0) else (0,0,6)) else (0,0,BI ts xs fs)
end
open Go Go.bI Go.Sym
open Classical
noncomputable def ahV (ts:List aq) (fs:List Func):Prop:=
 (∀ t,t∈ts→i64 t.2.2.1)∧∀ f,f∈fs→i64 f.2.2.1∧(∀ x,x∈f.2.2.2.2.1→QN x)∧CU f.2.2.2.2.2.1∧CU f.2.2.2.2.2.2
section
variable {N:Nat} {ts:List aq} {xs:List (List UInt8)} {fs:List Func}
theorem Zq {α : Type} (l:List α):l.flatMap (fun x=>[x])=l:=(xH id l).trans (List.map_id l)
theorem wg {α β : Type} {l:List α} {m:List β} : ((l.length:Int) != (m.length:Int)) = !decide (l.length=m.length):=by
 by_cases h:l.length=m.length
 ·rw[decide_eq_true h,h];simp
 ·rw[decide_eq_false h,bne_iff_ne.2 (by omega)];rfl
theorem Tz (a b:Int):(a != b) = !decide (a=b):=by by_cases h:a=b<;>simp[h]
theorem P4 (x y:Field):(x.1==y.1&&(x.2==y.2&&true))=decide (x=y):=by
 obtain⟨a,b⟩:=x;obtain⟨c,d⟩:=y
 by_cases h1:a=c<;>by_cases h2:b=d<;>simp[h1,h2]
theorem run_eq (x y:bD):(x.1==y.1&&(x.2==y.2&&true))=decide (x=y):=by
 obtain⟨a,b⟩:=x;obtain⟨c,d⟩:=y
 by_cases h1:a=c<;>by_cases h2:b=d<;>simp[h1,h2]
theorem instr_eq (x y:Instr):(x.1==y.1&&(x.2.1==y.2.1&&(x.2.2.1==y.2.2.1&&(x.2.2.2==y.2.2.2&&true))))=decide (x=y):=by
 obtain⟨a,b,c,d⟩:=x;obtain⟨a',b',c',d'⟩:=y
 by_cases h1:a=a'<;>by_cases h2:b=b'<;>by_cases h3:c=c'<;>by_cases h4:d=d'<;>simp[h1,h2,h3,h4]
theorem Hg {l m:List Field} (hl:l.length≤1000) (hN:1300<N):X4 N (l,m)=some (decide (l=m)):=by
 rw[X4.eq_1,wg]
 by_cases h:l.length=m.length
 ·rw [ja h, Bool.not_true, aS, rG (l := l) (m := m) (a := (.inr () : Bool ⊕ Unit)) (b := .inl false) (Lf := fun k i => f25.cc N k (l, m, i)) h (fun k => by simp only [f25.cc.eq_2, bZ, aS]) (fun k i x y hx hy h1 h2 => by
   simp only[f25.cc.eq_2,bY (bp h1),aV,bE h1,bE h2,Option.bind_some,P4,aW (show i<9223372036854775807 by have:=bp h1;omega)]
   by_cases he:x=y<;>simp[he]) N (by omega),Option.bind_some]
  by_cases he:l=m
  ·rw[if_pos he,ja he]
  ·rw[if_neg he,eO he]
 ·rw[eO h,Bool.not_false,aV,eO fun e=>h (by rw[e])]
theorem Hh {l m:List bD} (hl:l.length≤1000) (hN:1300<N):UJ N (l,m)=some (decide (l=m)):=by
 rw[UJ.eq_1,wg]
 by_cases h:l.length=m.length
 ·rw [ja h, Bool.not_true, aS, rG (l := l) (m := m) (a := (.inr () : Bool ⊕ Unit)) (b := .inl false) (Lf := fun k i => f10.cc N k (l, m, i)) h (fun k => by simp only [f10.cc.eq_2, bZ, aS]) (fun k i x y hx hy h1 h2 => by
   simp only[f10.cc.eq_2,bY (bp h1),aV,bE h1,bE h2,Option.bind_some,run_eq,aW (show i<9223372036854775807 by have:=bp h1;omega)]
   by_cases he:x=y<;>simp[he]) N (by omega),Option.bind_some]
  by_cases he:l=m
  ·rw[if_pos he,ja he]
  ·rw[if_neg he,eO he]
 ·rw[eO h,Bool.not_false,aV,eO fun e=>h (by rw[e])]
theorem Hi {l m:List Instr} (hl:l.length≤1000) (hN:1300<N):F7 N (l,m)=some (decide (l=m)):=by
 rw[F7.eq_1,wg]
 by_cases h:l.length=m.length
 ·rw [ja h, Bool.not_true, aS, rG (l := l) (m := m) (a := (.inr () : Bool ⊕ Unit)) (b := .inl false) (Lf := fun k i => f7.cc N k (l, m, i)) h (fun k => by simp only [f7.cc.eq_2, bZ, aS]) (fun k i x y hx hy h1 h2 => by
   simp only[f7.cc.eq_2,bY (bp h1),aV,bE h1,bE h2,Option.bind_some,instr_eq,aW (show i<9223372036854775807 by have:=bp h1;omega)]
   by_cases he:x=y<;>simp[he]) N (by omega),Option.bind_some]
  by_cases he:l=m
  ·rw[if_pos he,ja he]
  ·rw[if_neg he,eO he]
 ·rw[eO h,Bool.not_false,aV,eO fun e=>h (by rw[e])]
theorem P5 {l m:List aq} (hl:l.length≤1000) (hf:∀ t,t∈l→t.2.2.2.length≤1000) (hN:1300<N):Zn N (l,m)=some (decide (l=m)):=by
 rw[Zn.eq_1,wg]
 by_cases h:l.length=m.length
 ·rw [ja h, Bool.not_true, aS, rG (l := l) (m := m) (a := (.inr () : Bool ⊕ Unit)) (b := .inl false) (Lf := fun k i => f16.cc N k (l, m, i)) h (fun k => by simp only [f16.cc.eq_2, bZ, aS]) (fun k i x y hx hy h1 h2 => by
   simp only[f16.cc.eq_2,bY (bp h1),aV,bE h1,bE h2,Option.bind_some,Hg (hf x hx) hN,lu,Tz,aW (show i<9223372036854775807 by have:=bp h1;omega)]
   obtain⟨a,b,c,d⟩:=x;obtain⟨a',b',c',d'⟩:=y
   by_cases e1:a=a'<;>by_cases e2:b=b'<;>by_cases e3:c=c'<;>by_cases e4:d=d'<;>simp[e1,e2,e3,e4]) N (by omega),Option.bind_some]
  by_cases he:l=m
  ·rw[if_pos he,ja he]
  ·rw[if_neg he,eO he]
 ·rw[eO h,Bool.not_false,aV,eO fun e=>h (by rw[e])]
theorem Mx {f g:Func} (hf:vc f) (hN:1300<N):Zo N (f.1,f.2.1,f.2.2.1,f.2.2.2.1,f.2.2.2.2.1,f.2.2.2.2.2.1,f.2.2.2.2.2.2,g.1,g.2.1,g.2.2.1,g.2.2.2.1,g.2.2.2.2.1,g.2.2.2.2.2.1,g.2.2.2.2.2.2)=some (decide (f=g)):=by
 obtain⟨g1,g2,g3,g4,_⟩:=hf
 rw[Zo.eq_1]
 simp only[Hg (N:=N) (show f.2.2.2.1.length≤1000 by omega) hN,Hi (N:=N) (show f.2.2.2.2.1.length≤1000 by omega) hN,Hh (N:=N) (show f.2.2.2.2.2.1.length≤1000 by omega) hN,Hh (N:=N) (show f.2.2.2.2.2.2.length≤1000 by omega) hN,Option.bind_some,Ef]
 obtain⟨a,b,c,d,e,i,j⟩:=f;obtain⟨a',b',c',d',e',i',j'⟩:=g
 simp only
 congr 1
 by_cases e1:a=a'
 ·by_cases e2 : b = b'
  ·by_cases e3 : c = c'
   ·by_cases e4 : d = d'
    ·by_cases e5 : e = e'
     ·by_cases e6:i=i'<;>by_cases e7:j=j'<;>simp[e1,e2,e3,e4,e5,e6,e7]
     ·simp[e5]
    ·simp[e4]
   ·simp[e3]
  ·simp[e2]
 ·simp[e1]
theorem KK {ts':List aq} {xs':List (List UInt8)} {fs':List Func} (hN:1300<N) (hm:Bc ts xs fs):F6 N (ts,xs,fs,ts',xs',fs')=some (decide (ts=ts'∧xs=xs'∧fs=fs')):=by
 obtain⟨⟨m1,m2,m3,m4,m5⟩,_⟩:=hm
 have htl:=m1.1
 have htf:∀ t,t∈ts→t.2.2.2.length≤1000:=fun t h=>by
  obtain⟨j,hj,rfl⟩:=qS ty0 h
  exact (m1.2 j hj).1
 rw[F6.eq_1,P5 (by omega) htf hN,wg,wg]
 simp only[Option.bind_some,lu]
 by_cases ht:ts=ts'
 ·by_cases hx : xs.length = xs'.length
  ·by_cases hf : fs.length = fs'.length
   ·rw [ja ht, ja hx, ja hf, show (!true || (!true || !true)) = false from rfl, aS, rG (l := xs) (m := xs') (a := (.inr (ts, xs, fs, ts', xs', fs') : Bool ⊕ (List aq × List (List UInt8) × List Func × List aq × List (List UInt8) × List Func))) (b := .inl false) (Lf := fun k i => f6.cc N k (i, ts, xs, fs, ts', xs', fs')) hx (fun k => by simp only [f6.cc.eq_2, bZ, aS]) (fun k i x y hx hy h1 h2 => by
     simp only[f6.cc.eq_2,bY (bp h1),aV,bE h1,bE h2,Option.bind_some,aW (show i<9223372036854775807 by have:=bp h1;omega)]
     by_cases he:x=y
     ·simp[he]
     ·rw[show (x==y)=false by simpa using he,if_neg he];rfl) N (by omega),Option.bind_some]
    by_cases Hz:xs=xs'
    ·rw [if_pos Hz]
     simp only
     rw[rG (l:=fs) (m:=fs') (a:=(.inr ():Bool⊕Unit)) (b:=.inl false) (Lf:=fun k i=>f6.A0 N k (i,ts,xs,fs,ts',xs',fs')) hf (fun k=>by simp only[f6.A0.eq_2,bZ,aS]) (fun k i x y hx hy h1 h2=>by
      simp only[f6.A0.eq_2,bY (bp h1),aV,bE h1,bE h2,Option.bind_some,Mx (m5 x hx) hN,aW (show i<9223372036854775807 by have:=bp h1;omega)]
      by_cases he:x=y<;>simp[he]) N (by omega),Option.bind_some]
     by_cases hfe:fs=fs'
     ·rw[if_pos hfe,ja ⟨ht,Hz,hfe⟩]
     ·rw[if_neg hfe,eO fun h=>hfe h.2.2]
    ·rw[if_neg Hz,eO fun h=>Hz h.2.1]
   ·rw[eO hf,Bool.not_false,Bool.or_true,Bool.or_true,aV,eO fun h=>hf (by rw[h.2.2])]
  ·rw[eO hx,Bool.not_false,Bool.true_or,Bool.or_true,aV,eO fun h=>hx (by rw[h.2.1])]
 ·rw[eO ht,Bool.not_false,Bool.true_or,aV,eO fun h=>ht h.1]
end
open Go Go.bI Go.Sym
noncomputable def BN (c:UInt8) (v:Int):Bool:=(U c).2.2.1&&decide (v≥0)
noncomputable def P6 (c:UInt8) (v:Int):Bool:=(U c).2.2.2&&decide (v≥0)
noncomputable def one (b:Bool) (v:Int):List Int:=bif b then [v] else []
noncomputable def dV (f:UInt8→Int→Bool) (x:Instr):List Int:=
 match Jd x.1 with
 |some (a,b,c)=>(one (f a x.2.1) x.2.1++one (f b x.2.2.1) x.2.2.1)++one (f c x.2.2.2) x.2.2.2
 |none=>[]
theorem P7 (N:Nat) (x:Instr):UD N (x.1,x.2.1,x.2.2.1,x.2.2.2)=some (bif jX x then (dV BN x,dV P6 x,0) else ([],[],8)):=by
 have h:=tj N x.1
 rw[UD.eq_1,rH,h]
 unfold dV
 cases hc:jX x with
 |false=>rfl
 | true =>
  simp only[aV,Option.bind_some,SO.eq_1]
  cases hs:Jd x.1 with
  |none=>simp[jX,hs] at hc
  | some s =>
   obtain⟨a,b,c⟩:=s
   simp only[Ef,Option.bind_some,BN,P6]
   cases ((U a).2.2.1&&decide (x.2.1≥0))<;>cases ((U a).2.2.2&&decide (x.2.1≥0))<;>cases ((U b).2.2.1&&decide (x.2.2.1≥0))<;>cases ((U b).2.2.2&&decide (x.2.2.1≥0))<;>
    cases ((U c).2.2.1&&decide (x.2.2.2≥0))<;>cases ((U c).2.2.2&&decide (x.2.2.2≥0))<;>rfl
open Go Go.bI Go.Sym
noncomputable def Ek (n:Int) (x:Instr):Bool:=(x.1==22&&decide (x.2.1≥n))||(x.1==23&&decide (x.2.2.1≥n))
noncomputable def My (n:Int) (x:Instr):Bool:=!jX x||Ek n x
noncomputable def TA (x:Instr):Bool:=x.1==(34:Int)&&(x.2.1==(-1:Int)&&(x.2.2.1==(0:Int)&&(x.2.2.2==(0:Int)&&true)))
noncomputable def qY (l:List Instr):Instr:=l.getD (l.length-1) (0,0,0,0)
noncomputable def mF (l:List Instr):Bool:=decide (1≤l.length)&&(decide (l.length≤200)&&(!(l.any (My (l.length:Int)))&&TA (qY l)))
theorem P8 {l:List Instr} (h:1≤l.length) (h2:l.length≤9223372036854775807):idx l (aH ((l.length:Int)-1))=some (qY l):=by
 have e:aH ((l.length:Int)-1)=((l.length-1:Nat):Int):=by rw[cB (by omega)];omega
 rw[e]
 refine bE ?_
 simp only[qY,List.getD_eq_getElem?_getD]
 rw[List.getElem?_eq_getElem (by omega)]
 rfl
theorem TB (x:Instr) (n:Int):(bif (x.1==(22:Int)) then (bif (decide (x.2.1≥n)) then some true else (bif (x.1==(23:Int)) then some (decide (x.2.2.1≥n)) else some false)) else (bif (x.1==(23:Int)) then some (decide (x.2.2.1≥n)) else some false))=some (Ek n x):=by
 unfold Ek
 cases (x.1==(22:Int))<;>cases (x.1==(23:Int))<;>cases decide (x.2.1≥n)<;>cases decide (x.2.2.1≥n)<;>rfl
theorem Jn {N:Nat} {l:List Instr} (hN:210<N) (hl:l.length≤9223372036854775807):UC N l=some (bif mF l then 0 else 8):=by
 rw[UC.eq_1]
 unfold mF
 by_cases h1:1≤l.length
 ·rw [show ((l.length : Int) == 0) = false by simp; intro h; simp [h] at h1, aS, decide_eq_true h1, Bool.true_and]
  by_cases h2:l.length≤200
  ·rw [show decide ((l.length : Int) > 200) = false by simp; omega, aS, decide_eq_true h2, Bool.true_and, P8 h1 hl, Option.bind_some]
   show (bif !(TA (qY l)) then _ else _)=_
   cases TA (qY l) with
   |false=>simp
   | true =>
    have key:=GA (l:=l) (a:=(.inr ():Int⊕Unit)) (b:=.inl 8) (p:=My (l.length:Int)) (Lf:=fun k i=>f75.fA N k ((l.length:Int),l,(l.length:Int),i))
     (fun k => by simp only [f75.fA.eq_2, bZ, aS]) (fun k i x hx hi => by
      simp only[f75.fA.eq_2,bY (bp hi),aV,bE hi,Option.bind_some,rH,TB,aW (show i<9223372036854775807 by have:=bp hi;omega)]
      cases h1:jX x<;>cases h2:Ek (l.length:Int) x<;>simp[My,h1,h2]) N (by omega)
    rw[Bool.not_true,aS,key,Option.bind_some]
    cases l.any (My (l.length:Int))<;>rfl
  ·rw[show decide ((l.length:Int)>200)=true by simp;omega,aV,show decide (l.length≤200)=false by simp;omega];rfl
 ·have : l = [] := by cases l with | nil => rfl | cons a r => simp at h1
  subst this;rfl
structure VC (l:List Instr):Prop where
 pos:1≤l.length
 le:l.length≤200
 aZ:∀ (i:Nat) x,l[i]?=some x→jX x=true
 jmp:∀ (i:Nat) x,l[i]?=some x→x.1=22→0≤x.2.1∧x.2.1<l.length
 br:∀ (i:Nat) x,l[i]?=some x→x.1=23→0≤x.2.2.1∧x.2.2.1<l.length
 last:∀ x,l[l.length-1]?=some x→x.1=34
theorem acK {x:Instr} (h:jX x=true) (hx:x.1=22):0≤x.2.1:=by
 have e:Jd 22=some (105,45,45):=rfl
 simp only[jX,hx,e,fits,Bool.and_eq_true,decide_eq_true_eq] at h
 exact h.1.1
theorem acL {x:Instr} (h:jX x=true) (hx:x.1=23):0≤x.2.2.1:=by
 have e:Jd 23=some (114,105,45):=rfl
 simp only[jX,hx,e,fits,Bool.and_eq_true,decide_eq_true_eq] at h
 exact h.2.1.1
theorem yO {l:List Instr} (h:mF l=true):VC l:=by
 simp only[mF,Bool.and_eq_true,decide_eq_true_eq,Bool.not_eq_true',List.any_eq_false] at h
 obtain⟨h1,h2,h3,h4⟩:=h
 have hb:∀ (i:Nat) x,l[i]?=some x→jX x=true∧Ek (l.length:Int) x=false:=fun i x hi=>by
  have:=h3 x (List.mem_of_getElem? hi)
  simp only[My,Bool.or_eq_true,Bool.not_eq_true',not_or,Bool.not_eq_false,Bool.not_eq_true] at this
  exact this
 refine⟨h1,h2,fun i x hi=>(hb i x hi).1,fun i x hi hx=>⟨acK (hb i x hi).1 hx,?_⟩,fun i x hi hx=>⟨acL (hb i x hi).1 hx,?_⟩,fun x hi=>?_⟩
 ·have := (hb i x hi).2
  simp only[Ek,hx,Bool.or_eq_false_iff] at this
  have:=this.1
  simp at this;exact this
 ·have := (hb i x hi).2
  simp only[Ek,hx,Bool.or_eq_false_iff] at this
  have:=this.2
  simp at this;exact this
 ·have e : qY l = x := by simp only [qY, List.getD_eq_getElem?_getD, hi]; rfl
  rw[e] at h4
  simp only[TA,Bool.and_eq_true,beq_iff_eq] at h4
  exact h4.1
noncomputable def cN (l:List Nat):List Int:=List.map (fun n:Nat=>(n:Int)) l
noncomputable def nx (l:List Instr) (i:Nat):List Nat:=
 match l[i]? with
 |none=>[]
 |some x=>
  if x.1=34∨x.1=28∨x.1=30 then []
  else if x.1=22 then [x.2.1.toNat]
  else if x.1=23 then if x.2.2.1.toNat=i+1 then [i+1] else [min (i+1) x.2.2.1.toNat,max (i+1) x.2.2.1.toNat]
  else [i+1]
theorem P9 {l:List Instr} (h:VC l) {i k:Nat} (hk:k∈nx l i):k<l.length:=by
 unfold nx at hk
 split at hk
 ·cases hk
 ·rename_i x hi
  have hlt:=bp hi
  have hs:x.1≠34→i+1<l.length:=fun hx=>by
   by_cases h1:i=l.length-1
   ·subst h1;exact absurd (h.last x hi) hx
   ·omega
  split at hk
  ·cases hk
  ·rename_i hne
   simp only[not_or] at hne
   have:=hs hne.1
   split at hk
   ·rename_i h22
    have:=h.jmp i x hi h22
    simp only[List.mem_singleton] at hk
    omega
   ·split at hk
    ·rename_i h23
     have:=h.br i x hi h23
     split at hk
     ·simp only[List.mem_singleton] at hk;omega
     ·simp only[List.mem_cons,List.not_mem_nil,or_false] at hk;omega
    ·simp only[List.mem_singleton] at hk;omega
theorem Bd (l:List Instr) (i:Nat):(nx l i).length≤2:=by
 unfold nx
 split
 ·simp
 ·repeat' split
  all_goals simp
theorem TC (x:Instr):((x.1==(34:Int))||((x.1==(28:Int))||(x.1==(30:Int))))=decide (x.1=34∨x.1=28∨x.1=30):=by
 by_cases h1:x.1=34<;>by_cases h2:x.1=28<;>by_cases h3:x.1=30<;>simp[h1,h2,h3]
theorem Qa (a b:Nat):min (a:Int) (b:Int)=((min a b:Nat):Int):=by omega
theorem Qb (a b:Nat):max (a:Int) (b:Int)=((max a b:Nat):Int):=by omega
theorem Yn {l:List Instr} (h:VC l) {i:Nat} (hi:i<l.length) :
 (Option.bind (idx l (i:Int)) fun x0=>
 (Option.bind ((bif (x0.1 == (34 : Int))
  then some true
  else (Option.bind ((bif (x0.1==(28:Int))
    then some true
    else some (x0.1==(30:Int)))) fun b1=>
   some b1))) fun b2=>
 (bif b2
 then some []
 else (bif (x0.1==(22:Int))
  then some [x0.2.1]
  else (bif (x0.1==(23:Int))
   then (bif (x0.2.2.1==(aH ((i:Int)+(1:Int))))
    then some [(aH ((i:Int)+(1:Int)))]
    else some [(min (aH ((i:Int)+(1:Int))) x0.2.2.1),(max (aH ((i:Int)+(1:Int))) x0.2.2.1)])
   else some [(aH ((i:Int)+(1:Int)))])))))=some (cN (nx l i)):=by
 have e1:=List.getElem?_eq_getElem hi
 generalize l[i]=x at e1
 have hle:=h.le
 have e2:aH ((i:Int)+1)=((i+1:Nat):Int):=aW (by omega)
 rw[bE e1]
 simp only[Option.bind_some,lu,e2,TC,nx,e1]
 by_cases h1:x.1=34∨x.1=28∨x.1=30
 ·simp[h1,cN]
 ·rw [decide_eq_false h1, aS, if_neg h1]
  by_cases h2:x.1=22
  ·have := h.jmp i x e1 h2
   simp only[h2,beq_self_eq_true,aV,if_true,cN,List.map_cons,List.map_nil,Int.toNat_of_nonneg this.1]
  ·rw [show (x.1 == (22 : Int)) = false by simpa using h2, aS, if_neg h2]
   by_cases h3:x.1=23
   ·have := h.br i x e1 h3
    have hq:x.2.2.1=((x.2.2.1.toNat:Nat):Int):=by omega
    simp only[h3,beq_self_eq_true,aV,if_true]
    by_cases h4:x.2.2.1.toNat=i+1
    ·rw[hq,h4];simp[cN]
    ·rw [if_neg h4, show (x.2.2.1 == ((i + 1 : Nat) : Int)) = false by simp; omega, aS]
     generalize x.2.2.1.toNat=b at hq
     rw[hq,Qa,Qb]
     rfl
   ·rw [show (x.1 == (23 : Int)) = false by simpa using h3, aS, if_neg h3]
    rfl
theorem acM (a b:Int):gT (jc [a,b])=if b=a then [a] else [min a b,max a b]:=by
 simp only[jc,xN]
 by_cases h1:a≤b
 ·rw [decide_eq_true h1]
  by_cases h2:a=b
  ·subst h2;simp[gT]
  ·rw [if_neg (Ne.symm h2)]
   simp[gT,h2];omega
 ·rw [decide_eq_false h1]
  rw[if_neg (by omega)]
  simp[gT,xN,show ¬b=a by omega];omega
theorem Jo {N:Nat} {l:List Instr} (h:VC l) {i:Nat} (hi:i<l.length):GO N (l,(i:Int))=some (cN (nx l i)):=by
 rw[←Yn h hi,GO.eq_1]
 congr 1
 funext x
 congr 1
 funext b
 cases b with
 |true=>rfl
 | false =>
  simp only[aS]
  congr 1
  congr 1
  have hlen:∀ q:Int,decide ((jc [aH ((i:Int)+1),q]).length<4611686018427387904)=true:=fun q=>by
   simp only[jc,xN]
   cases decide (aH ((i:Int)+1)≤q)<;>rfl
  rw[hlen]
  simp only[acM]
  by_cases h4:x.2.2.1=aH ((i:Int)+1)
  ·rw[if_pos h4,show (x.2.2.1==aH ((i:Int)+1))=true by simpa using h4];rfl
  ·rw[if_neg h4,show (x.2.2.1==aH ((i:Int)+1))=false by simpa using h4];rfl
open Go Go.bI Go.Sym
open Classical
theorem rQ {σ β : Type} {Lf:Nat→σ→List Nat→Option β} {Inv : σ→List Nat→Prop} {μ : σ→Nat} {g : σ→β} (h0:∀ k s,Inv s []→Lf (k+1) s []=some (g s))
  (hs:∀ k s o i,Inv s (o++[i])→∃ s' p,Inv s' (o++p)∧μ s'+p.length≤μ s∧Lf (k+1) s (o++[i])=Lf k s' (o++p)) :
  ∀ k s o,Inv s o→μ s+o.length<k→∃ s',Inv s' []∧Lf k s o=some (g s')
 |0,_,_,_,h=>by omega
 | k + 1, s, o, hI, hk => by
  rcases List.eq_nil_or_concat o with rfl|⟨o',i,ho⟩
  ·exact⟨s,hI,h0 k s hI⟩
  ·rw [List.concat_eq_append] at ho; subst ho
   rw[List.length_append,List.length_singleton] at hk
   obtain⟨s',p,h1,h2,h3⟩:=hs k s o' i hI
   obtain⟨s'',h4,h5⟩:=rQ h0 hs k s' (o'++p) h1 (by simp only[List.length_append];omega)
   exact⟨s'',h4,by rw[h3,h5]⟩
theorem rounds {σ β : Type} {Lf:Nat→Bool→σ→Option β} {Inv Yo : σ→Prop} {μ : σ→Nat} {g : σ→β} (h0:∀ k s,Inv s→Yo s→Lf (k+1) false s=some (g s))
  (hs:∀ k s,Inv s→∃ s' c,Inv s'∧(c=false→Yo s')∧(c=true→μ s' < μ s)∧Lf (k+1) true s=Lf k c s') :
  ∀ k s,Inv s→μ s+1<k→∃ s',Inv s'∧Yo s'∧Lf k true s=some (g s')
 |0,_,_,h=>by omega
 | k + 1, s, hI, hk => by
  obtain⟨s',c,h1,h2,h3,h4⟩:=hs k s hI
  cases c with
  |false=>
   obtain⟨k',rfl⟩:∃ q,k=q+1:=⟨k-1,by omega⟩
   exact⟨s',h1,h2 rfl,by rw[h4,h0 k' s' h1 (h2 rfl)]⟩
  |true=>
   obtain⟨s'',h5,h6,h7⟩:=rounds h0 hs k s' h1 (by have:=h3 rfl;omega)
   exact⟨s'',h5,h6,by rw[h4,h7]⟩
inductive Reach (l:List Instr):Nat→Prop where
 |zero:Reach l 0
 |step {i k:Nat} : Reach l i→k∈nx l i→Reach l k
theorem Reach.lt {l:List Instr} (h:VC l) {i:Nat} (hi:Reach l i):i<l.length:=by
 cases hi with
 |zero=>exact h.pos
 |step _ hk=>exact P9 h hk
abbrev T (b:List Bool) (k:Nat):Prop:=b[k]?=some true
theorem eY {b:List Bool} {i k:Nat} (hi:i<b.length):T (b.set i true) k↔k=i∨T b k:=by
 unfold T
 rw[List.getElem?_set]
 by_cases h:i=k
 ·subst h;simp[hi]
 ·rw[if_neg h];simp[Ne.symm h]
noncomputable def cntF (b:List Bool):Nat:=b.countP fun x=>!x
theorem Hj {b:List Bool} {i:Nat} (h:b[i]?=some false):cntF (b.set i true)+1=cntF b:=by
 induction b generalizing i with
 |nil=>simp at h
 | cons x r ih =>
  cases i with
  |zero=>simp at h;subst h;simp[cntF]
  |succ i=>
   simp only[List.getElem?_cons_succ] at h
   have:=ih h
   simp only[cntF,List.set_cons_succ,List.countP_cons] at this ⊢
   omega
theorem rJ (b:List Bool):cntF b≤b.length:=List.countP_le_length
theorem Jp {l:List Nat} {i:Nat} {x:Int} (h:(cN l)[i]?=some x):∃ k,l[i]?=some k∧x=(k:Int):=by
 simp only[cN,List.getElem?_map,Option.map_eq_some_iff] at h
 obtain⟨k,h1,h2⟩:=h
 exact⟨k,h1,h2.symm⟩
theorem BO {b:List Bool} {i:Nat} (h:T b i):b.set i true=b:=GB h
end Go.Proofs.YtokjmkblnafppaaGreatDoor
