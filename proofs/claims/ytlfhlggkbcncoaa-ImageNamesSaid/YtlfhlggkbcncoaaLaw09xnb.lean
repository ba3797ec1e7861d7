/- The plain law, in one text. -/
import Derived.Test.YtlfhlggkbcncoaaGen09xnb
import Derived.Test.YtlfhlggkbcncoaaPlain
import Derived.Test.YtlfhlggkbcncoaaPlain2
import Derived.Test.YtlfhlggkbcncoaaSymO
namespace Go.Proofs.Ytlfhlggkbcncoaa
set_option linter.unusedSimpArgs false
set_option linter.unusedVariables false
open Go Go.Eng Go.Sym
open Go Go.Eng Go.Sym
theorem bif_tt (a b:Bool):(bif a then some true else some b:Option Bool)=some (a||b):=by cases a<;>rfl
theorem bif_ff (a b:Bool):(bif a then some b else some false:Option Bool)=some (a&&b):=by cases a<;>rfl
theorem bif_l {α : Type} (a b : α):(bif true then a else b)=a:=rfl
theorem bif_r {α : Type} (a b : α):(bif false then a else b)=b:=rfl
noncomputable def U (c:UInt8):Int×Int×Bool×Bool:=
 if c=119 then (0,15,false,true) else if c=114 then (0,15,true,false) else if c=110 then (-9223372036854775808,9223372036854775807,false,false)
 else if c=116 then (0,31,false,false) else if c=99 then (0,31,false,false) else if c=98 then (0,1,false,false) else if c=102 then (0,7,false,false)
 else if c=105 then (0,199,false,false) else if c=103 then (-1,15,false,true) else if c=101 then (-1,15,true,false) else (0,0,false,false)
noncomputable def kindOK (c:UInt8):Bool:=[119,114,110,116,99,98,102,105,103,101,45].contains c
noncomputable def shpL:List (UInt8×UInt8×UInt8):=[(119,110,45),(119,116,45),(119,98,45),(119,45,45),(119,114,45),(119,114,114),(119,114,114),(119,114,114),(119,114,114),(119,114,114),(119,114,114),(119,114,45),(119,114,102),(114,102,114),(119,45,45),(119,114,45),(114,114,45),(119,114,45),(119,114,114),(114,114,114),(119,114,45),(105,45,45),(114,105,45),(114,45,45),(103,99,45),(99,45,45),(99,45,45),(114,45,45),(119,119,45),(45,45,45),(45,45,45),(114,45,45),(119,114,45),(101,45,45)]
noncomputable def shp (op:Int):Option (UInt8×UInt8×UInt8):=if 1≤op∧op≤34 then shpL[(op-1).toNat]? else none
theorem ops_cases (p0:Int):(1≤p0∧p0≤34)∨∀ k:Int,1≤k→k≤34→(p0==k)=false:=by
 by_cases h:1≤p0∧p0≤34
 ·exact .inl h
 ·exact .inr fun k h1 h2=>by simp;omega
theorem shapeO_out {N:Nat} {p0:Int} (ne:∀ k:Int,1≤k→k≤34→(p0==k)=false):F83 N p0=some ((0:Int),(0:Int),false,false,(0:Int),(0:Int),false,false,(0:Int),(0:Int),false,false,(-1:Int)):=by
 simp only[F83_eq,ne 1 (by decide) (by decide),ne 2 (by decide) (by decide),ne 3 (by decide) (by decide),ne 4 (by decide) (by decide),ne 5 (by decide) (by decide),ne 6 (by decide) (by decide),ne 7 (by decide) (by decide),ne 8 (by decide) (by decide),ne 9 (by decide) (by decide),ne 10 (by decide) (by decide),ne 11 (by decide) (by decide),ne 12 (by decide) (by decide),ne 13 (by decide) (by decide),ne 14 (by decide) (by decide),ne 15 (by decide) (by decide),ne 16 (by decide) (by decide),ne 17 (by decide) (by decide),ne 18 (by decide) (by decide),ne 19 (by decide) (by decide),ne 20 (by decide) (by decide),ne 21 (by decide) (by decide),ne 22 (by decide) (by decide),ne 23 (by decide) (by decide),ne 24 (by decide) (by decide),ne 25 (by decide) (by decide),ne 26 (by decide) (by decide),ne 27 (by decide) (by decide),ne 28 (by decide) (by decide),ne 29 (by decide) (by decide),ne 30 (by decide) (by decide),ne 31 (by decide) (by decide),ne 32 (by decide) (by decide),ne 33 (by decide) (by decide),ne 34 (by decide) (by decide),bif_r,bif_tt,Bool.or_false,Option.bind_some]
theorem shp_out {p0:Int} (ne:∀ k:Int,1≤k→k≤34→(p0==k)=false):shp p0=none:=by
 unfold shp
 rw[if_neg fun h=>by have:=ne p0 h.1 h.2;simp at this]
theorem shp_all:(shpL.all fun s=>(kindOK s.1&&(kindOK s.2.1&&kindOK s.2.2))&&((!(s.1==45)||s.2.1==45)&&(!(s.2.1==45)||s.2.2==45)))=true:=by decide
theorem shp_mem {p0:Int} {s:UInt8×UInt8×UInt8} (h:shp p0=some s):s∈shpL:=by
 unfold shp at h
 split at h
 ·exact List.mem_of_getElem? h
 ·cases h
noncomputable def cnt (a b c:UInt8):Int:=if c≠45 then 3 else if b≠45 then 2 else if a≠45 then 1 else 0
theorem cnt_nn (a b c:UInt8):decide (cnt a b c<0)=false:=by
 unfold cnt
 split
 ·rfl
 ·split
  ·rfl
  ·split<;>rfl
theorem shapeO_shp (N:Nat) (p0:Int):F83 N p0=some (match shp p0 with
  |some (a,b,c)=>((U a).1,(U a).2.1,(U a).2.2.1,(U a).2.2.2,(U b).1,(U b).2.1,(U b).2.2.1,(U b).2.2.2,(U c).1,(U c).2.1,(U c).2.2.1,(U c).2.2.2,cnt a b c)
  |none=>((0:Int),(0:Int),false,false,(0:Int),(0:Int),false,false,(0:Int),(0:Int),false,false,(-1:Int))):=by
 rcases ops_cases p0 with h|ne
 ·have : p0 = 1 ∨ p0 = 2 ∨ p0 = 3 ∨ p0 = 4 ∨ p0 = 5 ∨ p0 = 6 ∨ p0 = 7 ∨ p0 = 8 ∨ p0 = 9 ∨ p0 = 10 ∨ p0 = 11 ∨ p0 = 12 ∨ p0 = 13 ∨ p0 = 14 ∨ p0 = 15 ∨ p0 = 16 ∨ p0 = 17 ∨ p0 = 18 ∨ p0 = 19 ∨ p0 = 20 ∨ p0 = 21 ∨ p0 = 22 ∨ p0 = 23 ∨ p0 = 24 ∨ p0 = 25 ∨ p0 = 26 ∨ p0 = 27 ∨ p0 = 28 ∨ p0 = 29 ∨ p0 = 30 ∨ p0 = 31 ∨ p0 = 32 ∨ p0 = 33 ∨ p0 = 34 := by omega
  rcases this with rfl|rfl|rfl|rfl|rfl|rfl|rfl|rfl|rfl|rfl|rfl|rfl|rfl|rfl|rfl|rfl|rfl|rfl|rfl|rfl|rfl|rfl|rfl|rfl|rfl|rfl|rfl|rfl|rfl|rfl|rfl|rfl|rfl|rfl<;>(simp only[F83_eq,F106_eq,F107_eq,F108_eq,F109_eq,Option.bind_some];rfl)
 ·rw[shapeO_out ne,shp_out ne]
theorem shp_mono {p0:Int} {a b c:UInt8} (h:shp p0=some (a,b,c)):(a=45→b=45)∧(b=45→c=45):=by
 have:=List.all_eq_true.1 shp_all _ (shp_mem h)
 simp only[Bool.and_eq_true,Bool.or_eq_true,Bool.not_eq_true',beq_eq_false_iff_ne,beq_iff_eq] at this
 exact⟨fun e=>this.2.1.resolve_left fun n=>n e,fun e=>this.2.2.resolve_left fun n=>n e⟩
noncomputable def i64 (v:Int):Prop:=-9223372036854775808≤v∧v≤9223372036854775807
noncomputable def fits (c:UInt8) (v:Int):Bool:=decide ((U c).1≤v)&&decide (v≤(U c).2.1)
noncomputable def chkI (x:Instr):Bool:=
 match shp x.1 with
 |some (a,b,c)=>fits a x.2.1&&(fits b x.2.2.1&&fits c x.2.2.2)
 |none=>false
noncomputable def okI (x:Instr):Prop:=i64 x.2.1∧i64 x.2.2.1∧i64 x.2.2.2
theorem nfits (c:UInt8) (v:Int):(decide (v<(U c).1)||decide (v>(U c).2.1)) = !fits c v:=by
 unfold fits
 by_cases h1:v<(U c).1
 ·simp[h1,show ¬(U c).1≤v by omega]
 ·by_cases h2 : v > (U c).2.1
  ·simp[h2,show ¬v≤(U c).2.1 by omega]
  ·simp[h1,h2,show (U c).1≤v by omega,show v≤(U c).2.1 by omega]
theorem checkO_ok (N:Nat) (x:Instr):F80 N (x.1,x.2.1,x.2.2.1,x.2.2.2)=some (bif chkI x then 0 else 8):=by
 rw[F80_eq,shapeO_shp,Option.bind_some]
 unfold chkI
 cases shp x.1 with
 |none=>rfl
 |some s=>
  obtain⟨a,b,c⟩:=s
  simp only[F84_eq,Option.bind_some,cnt_nn,bif_r,bif_tt,nfits]
  cases fits a x.2.1<;>cases fits b x.2.2.1<;>cases fits c x.2.2.2<;>rfl
open Go Go.Eng Go.Sym
theorem vary_loop (N:Nat):∀ (j k n:Nat) (pre:List Int),n<128 ^ (j+1)→j<k→pre.length+j≤1000→∃ (m:Nat) (l:List Int),f55.L0_100004 N k ((n:Int),pre)=some ((m:Int),pre++l)∧vary j n=l++[(m:Int)]∧m<128∧l.length≤j
 |j,0,n,pre,_,h,_=>by omega
 |0,k+1,n,pre,hn,_,_=>by
  refine⟨n,[],?_,rfl,by omega,by simp⟩
  rw[f55.L0_100004_succ,decide_eq_false (by omega),bif_r,List.append_nil]
 | j + 1, k + 1, n, pre, hn, hk, hp => by
  rw[f55.L0_100004_succ]
  by_cases h:n<128
  ·refine ⟨n, [], ?_, by rw [vary, if_pos h]; rfl, h, by simp⟩
   rw[decide_eq_false (by omega),bif_r,List.append_nil]
  ·obtain ⟨m, l, h1, h2, h3, h4⟩ := vary_loop N j k (n / 128) (pre ++ [((n % 128 + 128 : Nat) : Int)]) (by rw [Nat.pow_succ] at hn; omega) (by omega) (by simp; omega)
   refine⟨m,((n % 128+128:Nat):Int) :: l,?_,by rw[vary,if_neg h,h2];rfl,h3,by simp;omega⟩
   rw[decide_eq_true (by omega),bif_l,room_small (by omega) (by omega),chk_true,wu8_nat,ior128 _ (Nat.mod_lt _ (by omega)),show (128:Int)=((128:Nat):Int) from rfl,fdiv_nat,show n % 256 % 128=n % 128 by omega,h1,List.append_assoc]
   rfl
theorem vary_ok {N n:Nat} (hN:20<N) (hn:n<18446744073709551616):F55 N (n:Int)=some (V n):=by
 rw[F55_eq]
 unfold V
 by_cases h:n<128
 ·rw[decide_eq_false (by omega),bif_r,room_small (by omega) (by omega),chk_true,vary,if_pos h,wu8_nat,Nat.mod_eq_of_lt (by omega)]
 ·rw [decide_eq_true (by omega), bif_l, room_small (by omega) (by omega), chk_true]
  obtain⟨m,l,h1,h2,h3,h4⟩:=vary_loop N 8 N (n / 128) [((n % 128+128:Nat):Int)] (by omega) (by omega) (by simp)
  rw[wu8_nat,ior128 _ (Nat.mod_lt _ (by omega)),show (128:Int)=((128:Nat):Int) from rfl,fdiv_nat,show n % 256 % 128=n % 128 by omega,h1,Option.bind_some,room_small (by simp;omega) (by omega),chk_true,vary,if_neg h,h2,wu8_nat,show m % 256=m by omega]
  rfl
noncomputable def said (s:List UInt8):List Int:=V s.length++bytesL s
theorem said_len (s:List UInt8):(said s).length≤10+s.length:=by
 have:=V_len s.length
 rw[said,List.length_append,bytesL_len];omega
theorem wrap_u64 (n:Int):IntKind.u64.wrap n=n % 18446744073709551616:=rfl
theorem zig_bits {n:Int} (h : -9223372036854775808≤n∧n≤9223372036854775807):ixor .u64 (wu64 ((wu64 n)*2)) (wu64 (Int.fdiv n 9223372036854775808))=(zig n:Int):=by
 unfold zig
 by_cases h0:0≤n
 ·rw [if_pos h0, wu64_in (n := n) (by omega), Int.fdiv_eq_ediv_of_nonneg _ (by omega), Int.ediv_eq_zero_of_lt h0 (by omega), wu64_in (n := n * 2) (by omega), wu64_in (n := 0) (by omega)]
  have e:n*2=(((2*n).toNat:Nat):Int):=by omega
  rw[e]
  unfold ixor
  have e2:(BitVec.ofInt IntKind.u64.bits (((2*n).toNat:Nat):Int) ^^^ BitVec.ofInt IntKind.u64.bits 0).toNat=(2*n).toNat:=by
   show (BitVec.ofInt 64 (((2*n).toNat:Nat):Int) ^^^ BitVec.ofInt 64 0).toNat=(2*n).toNat
   rw[show BitVec.ofInt 64 0=0#64 from rfl,BitVec.xor_zero,BitVec.ofInt_natCast,BitVec.toNat_ofNat]
   omega
  rw[e2]
  exact wu64_in (by omega)
 ·rw [if_neg h0]
  have e1:wu64 n=n+18446744073709551616:=by
   show IntKind.u64.wrap n=_
   rw[wrap_u64];omega
  have e3:Int.fdiv n 9223372036854775808 = -1:=by
   rw[Int.fdiv_eq_ediv_of_nonneg _ (by omega)];omega
  have e4:wu64 (-1)=18446744073709551615:=by decide
  have e5:wu64 ((n+18446744073709551616)*2)=((18446744073709551615-(-2*n-1).toNat:Nat):Int):=by
   show IntKind.u64.wrap _=_
   rw[wrap_u64];omega
  rw[e1,e3,e4,e5]
  unfold ixor
  have hlt:(-2*n-1).toNat<18446744073709551616:=by omega
  generalize (-2*n-1).toNat=m at hlt
  have e2:(BitVec.ofInt IntKind.u64.bits ((18446744073709551615-m:Nat):Int) ^^^ BitVec.ofInt IntKind.u64.bits 18446744073709551615).toNat=m:=by
   show (BitVec.ofInt 64 ((18446744073709551615-m:Nat):Int) ^^^ BitVec.ofInt 64 18446744073709551615).toNat=m
   rw[show BitVec.ofInt 64 18446744073709551615=BitVec.allOnes 64 from by decide,BitVec.xor_allOnes,BitVec.toNat_not,BitVec.ofInt_natCast,BitVec.toNat_ofNat]
   omega
  rw[e2]
  exact wu64_in (by omega)
theorem signed_ok {N:Nat} {n:Int} (hN:20<N) (h : -9223372036854775808≤n∧n≤9223372036854775807):F56 N n=some (V (zig n)):=by
 rw[F56_eq,zig_bits h,vary_ok hN (zig_lt h)];rfl
open Go Go.Eng Go.Sym
theorem varyI_ok {N:Nat} {v:Int} (hN:20<N) (h:0≤v∧v≤9223372036854775807):F55 N (wu64 v)=some (V v.toNat):=by
 obtain⟨n,rfl⟩:=Int.eq_ofNat_of_zero_le h.1
 rw[wu64_nat (by omega),vary_ok hN (by omega)];rfl
theorem ne00:((0:Int) != (0:Int))=false:=rfl
noncomputable def encK (c:UInt8) (v:Int):List Int:=if c=45 then [] else if c=110∨c=103∨c=101 then V (zig v) else V v.toNat
noncomputable def encI (x:Instr):List Int:=
 match shp x.1 with
 |some (a,b,c)=>x.1 :: (encK a x.2.1++(encK b x.2.2.1++encK c x.2.2.2))
 |none=>[x.1]
theorem encI_len (x:Instr):(encI x).length≤31:=by
 have hk:∀ c v,(encK c v).length≤10:=fun c v=>by
  unfold encK
  split
  ·simp
  ·split
   ·exact (V_len _).2
   ·exact (V_len _).2
 unfold encI
 split
 ·rename_i a b c _
  have:=hk a x.2.1;have:=hk b x.2.2.1;have:=hk c x.2.2.2
  simp only[List.length_cons,List.length_append];omega
 ·simp
noncomputable def sgn (c:UInt8):Bool:=c==110||(c==103||c==101)
theorem sgn_iff {c:UInt8} : sgn c=true↔c=110∨c=103∨c=101:=by simp[sgn]
theorem neg_sgn (c:UInt8):decide ((U c).1<0)=sgn c:=by
 unfold U sgn
 repeat' split
 all_goals first
  |(subst_vars;rfl)
  |(rename_i h1 h2 h3 h4 h5 h6 h7 h8 h9 h10;simp[h3,h9,h10])
theorem encK_45 (v:Int):encK 45 v=[]:=rfl
theorem encK_len (c:UInt8) (v:Int):(encK c v).length≤10:=by
 unfold encK
 split
 ·simp
 ·split
  ·exact (V_len _).2
  ·exact (V_len _).2
theorem fits_pos {c:UInt8} {v:Int} (h:fits c v=true) (hs:sgn c=false):0≤v:=by
 rw[←neg_sgn,decide_eq_false_iff_not] at hs
 unfold fits at h
 rw[Bool.and_eq_true,decide_eq_true_eq] at h
 have:=h.1
 omega
theorem bif_bind {α β : Type} (c:Bool) (x y:Option α) (k : α→Option β):(bif c then Option.bind x k else Option.bind y k)=Option.bind (bif c then x else y) k:=by cases c<;>rfl
theorem opO {N:Nat} (hN:20<N) {c:UInt8} {v:Int} (h:fits c v=true) (h45:c≠45) (hv:i64 v):(bif sgn c then F56 N v else F55 N (wu64 v))=some (encK c v):=by
 unfold encK
 rw[if_neg h45]
 cases hs:sgn c with
 |true=>rw[bif_l,if_pos (sgn_iff.1 hs),signed_ok hN hv]
 |false=>rw[bif_r,if_neg (fun e=>by rw[sgn_iff.2 e] at hs;cases hs),varyI_ok hN ⟨fits_pos h hs,hv.2⟩]
theorem chk_shp {x:Instr} (hc:chkI x=true):∃ a b c,shp x.1=some (a,b,c)∧fits a x.2.1=true∧fits b x.2.2.1=true∧fits c x.2.2.2=true:=by
 unfold chkI at hc
 split at hc
 ·rename_i a b c hs
  rw[Bool.and_eq_true,Bool.and_eq_true] at hc
  exact⟨a,b,c,hs,hc.1,hc.2.1,hc.2.2⟩
 ·cases hc
theorem cases45 {a b c:UInt8} (h:(a=45→b=45)∧(b=45→c=45)):(a=45∧b=45∧c=45)∨(a≠45∧b=45∧c=45)∨(a≠45∧b≠45∧c=45)∨(a≠45∧b≠45∧c≠45):=by
 by_cases ha:a=45
 ·exact .inl ⟨ha,h.1 ha,h.2 (h.1 ha)⟩
 ·by_cases hb : b = 45
  ·exact .inr (.inl ⟨ha,hb,h.2 hb⟩)
  ·by_cases hc : c = 45
   ·exact .inr (.inr (.inl ⟨ha,hb,hc⟩))
   ·exact .inr (.inr (.inr ⟨ha,hb,hc⟩))
theorem roomK1 (c:UInt8) (v:Int):room (1+(encK c v).length) 1=true:=by have:=encK_len c v;exact room_small (by omega) (by omega)
theorem roomK2 (p:Int) (c d:UInt8) (v w:Int):room (([p]++encK c v).length+(encK d w).length) 1=true:=by
 have:=encK_len c v;have:=encK_len d w
 exact room_small (by simp only[List.length_append,List.length_singleton];omega) (by omega)
theorem roomK3 (p:Int) (c d e:UInt8) (v w u:Int):room ((([p]++encK c v)++encK d w).length+(encK e u).length) 1=true:=by
 have:=encK_len c v;have:=encK_len d w;have:=encK_len e u
 exact room_small (by simp only[List.length_append,List.length_singleton];omega) (by omega)
theorem encO_ok {N:Nat} (hN:20<N) {x:Instr} (hx:okI x) (hc:chkI x=true):F57 N (x.1,x.2.1,x.2.2.1,x.2.2.2)=some (encI x,0):=by
 rw[F57_eq,checkO_ok,hc]
 obtain⟨a,b,c,hs,h1,h2,h3⟩:=chk_shp hc
 obtain⟨i1,i2,i3⟩:=hx
 have g00:decide ((0:Int)≥0)=true:=rfl
 have g01:decide ((0:Int)≥1)=false:=rfl
 have g02:decide ((0:Int)≥2)=false:=rfl
 have g03:decide ((0:Int)≥3)=false:=rfl
 have g10:decide ((1:Int)≥0)=true:=rfl
 have g11:decide ((1:Int)≥1)=true:=rfl
 have g12:decide ((1:Int)≥2)=false:=rfl
 have g13:decide ((1:Int)≥3)=false:=rfl
 have g20:decide ((2:Int)≥0)=true:=rfl
 have g21:decide ((2:Int)≥1)=true:=rfl
 have g22:decide ((2:Int)≥2)=true:=rfl
 have g23:decide ((2:Int)≥3)=false:=rfl
 simp only[bif_l,ne00,bif_r,Option.bind_some,shapeO_shp,hs,F84_eq,encI,neg_sgn]
 rcases cases45 (shp_mono hs) with⟨rfl,rfl,rfl⟩|⟨ha,rfl,rfl⟩|⟨ha,hb,rfl⟩|⟨ha,hb,hc⟩
 ·simp only[show cnt 45 45 45=0 from rfl,g00,g10,g20,bif_l,encK_45,List.append_nil]
 ·simp only [show cnt a 45 45 = 1 by simp [cnt, ha], g01, g11, g21, bif_l, bif_r, bif_bind, opO hN h1 ha i1, Option.bind_some, roomK1, chk_true, encK_45, List.append_nil]
  simp only[List.cons_append,List.nil_append]
 ·simp only [show cnt a b 45 = 2 by simp [cnt, hb], g02, g12, g22, bif_l, bif_r, bif_bind, opO hN h1 ha i1, opO hN h2 hb i2, Option.bind_some, roomK1, roomK2, chk_true, encK_45, List.append_nil]
  simp only[List.cons_append,List.nil_append]
 ·simp only [show cnt a b c = 3 by simp [cnt, hc], g03, g13, g23, bif_r, bif_bind, opO hN h1 ha i1, opO hN h2 hb i2, opO hN h3 hc i3, Option.bind_some, roomK1, roomK2, roomK3, chk_true]
  simp only[List.cons_append,List.nil_append,List.append_assoc]
open Go Go.Eng Go.Sym
open Classical
theorem idx_getD {α : Type} {l:List α} {i:Nat} (d : α) (h:i<l.length):idx l (i:Int)=some (l.getD i d):=by
 refine idx_get ?_
 rw[List.getD_eq_getElem?_getD,List.getElem?_eq_getElem h];rfl
theorem getD_mem {α : Type} {l:List α} {i:Nat} (d : α) (h:i<l.length):l.getD i d∈l:=by
 rw[List.getD_eq_getElem?_getD,List.getElem?_eq_getElem h];exact List.getElem_mem h
theorem mem_getD {α : Type} {l:List α} {x : α} (d : α) (h:x∈l):∃ i,i<l.length∧l.getD i d=x:=by
 obtain⟨i,hi,rfl⟩:=List.mem_iff_getElem.1 h
 exact⟨i,hi,by rw[List.getD_eq_getElem?_getD,List.getElem?_eq_getElem hi];rfl⟩
theorem wi64_pred {i:Nat} (h0:0<i) (h:i≤9223372036854775807):wi64 ((i:Int)-1)=((i-1:Nat):Int):=by rw[wi64_in (by omega)];omega
theorem len_ne0 {α : Type} {l:List α} (h:¬l.length=0):((l.length:Int)==(0:Int))=false:=by rw[beq_eq_false_iff_ne];omega
noncomputable def rn (l:List Run) (i:Nat):Run:=l.getD i (0,0)
noncomputable def RunsOK (l:List Run) (n:Int):Prop:=
 0<l.length∧(rn l 0).1=0∧(∀ i,i+1<l.length→(rn l i).1<(rn l (i+1)).1∧(rn l i).2≠(rn l (i+1)).2)∧∀ i,i<l.length→(rn l i).1<n
theorem RunsOK.mono {l:List Run} {n:Int} (h:RunsOK l n) {i:Nat} : ∀ {j:Nat},i≤j→j<l.length→(rn l i).1≤(rn l j).1
 |0,h1,_=>by rw[Nat.le_zero.1 h1];exact Int.le_refl _
 | j + 1, h1, h2 => by
  by_cases e:i=j+1
  ·rw[e];exact Int.le_refl _
  ·have := h.mono (i := i) (j := j) (by omega) (by omega)
   have:=(h.2.2.1 j h2).1
   omega
theorem fineO_ok {N : Nat} {l : List Run} {n : Int} (hN : l.length < N) (hl : l.length ≤ 1000000) : F104 N (l, n) = some (decide (RunsOK l n)) := by
 rw[F104_eq]
 by_cases h0:l.length=0
 ·rw[show ((l.length:Int)==(0:Int))=true by rw[h0];rfl,bif_l,Option.bind_some,bif_l,decide_eq_false fun h=>by have:=h.1;omega]
 ·have e0 : idx l (0 : Int) = some (rn l 0) := idx_getD (i := 0) (0, 0) (by omega)
  have e1:idx l (wi64 ((l.length:Int)-1))=some (rn l (l.length-1)):=by
   rw[wi64_pred (by omega) (by omega)];exact idx_getD _ (by omega)
  rw[len_ne0 h0,bif_r,e0,Option.bind_some,e1,Option.bind_some]
  by_cases h1:(rn l 0).1=0
  ·rw [show ((rn l 0).1 != (0 : Int)) = false by simp [h1], bif_r, Option.bind_some]
   by_cases h2:(rn l (l.length-1)).1≥n
   ·rw[decide_eq_true h2,bif_l,decide_eq_false fun h=>by have:=h.2.2.2 (l.length-1) (by omega);omega]
   ·rw [decide_eq_false h2, bif_r, Option.bind_some, decide_eq_true (show 1 ≤ l.length by omega), chk_true]
    have hd:(l.drop 1).length=l.length-1:=by simp
    have key:=loop_rng (n:=(l.drop 1).length) (a:=(.inr ():Bool⊕Unit)) (b:=.inl false) (q:=fun i=>decide ((rn l (i+1)).1≤(rn l i).1)||((rn l (i+1)).2==(rn l i).2))
     (Lf := fun k i => f104.L0_7 N k (l.drop 1, ((l.drop 1).length : Int), i, (rn l i.toNat).1, (rn l i.toNat).2)) (fun k _ => by
      simp only[f104.L0_7_succ,ge_dec,bif_r]) (fun k i hi _=>by
      have e:idx (l.drop 1) (i:Int)=some (rn l (i+1)):=by
       refine idx_get ?_
       rw[List.getElem?_drop,rn,List.getD_eq_getElem?_getD,Nat.add_comm 1 i,List.getElem?_eq_getElem (by omega)];rfl
      simp only[f104.L0_7_succ,lt_dec hi,bif_l,e,Option.bind_some,wi64_succ (show i<9223372036854775807 by omega),Int.toNat_natCast,beq_self_eq_true,Bool.true_and,Bool.and_true]
      by_cases ha:(rn l (i+1)).1≤(rn l i).1
      ·simp[ha]
      ·cases hb:((rn l (i+1)).2==(rn l i).2)<;>simp[ha]) (k:=N) (by omega)
    simp only[Int.toNat_zero] at key
    rw[key,Option.bind_some]
    by_cases hex:∃ i,i<(l.drop 1).length∧(decide ((rn l (i+1)).1≤(rn l i).1)||((rn l (i+1)).2==(rn l i).2))=true
    ·rw [if_pos hex, decide_eq_false]
     rintro⟨_,_,h3,_⟩
     obtain⟨i,hi,hq⟩:=hex
     obtain⟨g1,g2⟩:=h3 i (by omega)
     rw[Bool.or_eq_true,decide_eq_true_eq,beq_iff_eq] at hq
     rcases hq with hq|hq
     ·omega
     ·exact g2 hq.symm
    ·rw [if_neg hex, decide_eq_true]
     have h3:∀ i,i+1<l.length→(rn l i).1<(rn l (i+1)).1∧(rn l i).2≠(rn l (i+1)).2:=fun i hi=>by
      have:¬(decide ((rn l (i+1)).1≤(rn l i).1)||((rn l (i+1)).2==(rn l i).2))=true:=fun h=>hex ⟨i,by omega,h⟩
      rw[Bool.or_eq_true,decide_eq_true_eq,beq_iff_eq,not_or] at this
      exact⟨by omega,fun h=>this.2 h.symm⟩
     have m:∀ j,j<l.length→∀ i,i≤j→(rn l i).1≤(rn l j).1:=by
      intro j
      induction j with
      |zero=>intro _ i hi;rw[Nat.le_zero.1 hi];exact Int.le_refl _
      | succ j ih =>
       intro hj i hi
       by_cases e:i=j+1
       ·rw[e];exact Int.le_refl _
       ·have := ih (by omega) i (by omega)
        have:=(h3 j hj).1
        omega
     exact⟨by omega,h1,h3,fun i hi=>by have:=m (l.length-1) (by omega) i (by omega);omega⟩
  ·rw[show ((rn l 0).1 != (0:Int))=true by simp[h1],bif_l,Option.bind_some,bif_l,decide_eq_false fun h=>h1 h.2.1]
theorem checkT_ok {N:Nat} {l:List Run} {n:Nat} (hN:l.length<N) (hl:l.length≤1000000):F81 N (l,(n:Int))=some (if n<1∨n>200 then 2 else if RunsOK l n then 0 else 8):=by
 rw[F81_eq,F103_eq,fineO_ok hN hl]
 by_cases h:n<1∨n>200
 ·rw [if_pos h]
  rcases h with h|h
  ·rw[decide_eq_true (show (n:Int)<1 by omega)];rfl
  ·rw[decide_eq_true (show (n:Int)>200 by omega)];cases decide ((n:Int)<1)<;>rfl
 ·rw [if_neg h, decide_eq_false (show ¬ (n : Int) < 1 by omega), decide_eq_false (show ¬ (n : Int) > 200 by omega)]
  by_cases hr:RunsOK l n
  ·rw[if_pos hr,decide_eq_true hr];rfl
  ·rw[if_neg hr,decide_eq_false hr];rfl
theorem runs_len {l:List Run} {n:Nat} (h:RunsOK l n):l.length≤n:=by
 have key:∀ i:Nat,i<l.length→(i:Int)≤(rn l i).1:=by
  intro i
  induction i with
  |zero=>intro _;have:=h.2.1;omega
  |succ i ih=>
   intro hi
   have:=ih (by omega)
   have:=(h.2.2.1 i hi).1
   omega
 have h0:=h.1
 have:=key (l.length-1) (by omega)
 have:=h.2.2.2 (l.length-1) (by omega)
 omega
noncomputable def encR:Int→List Run→List Int
 |_,[]=>[]
 |was,x :: r=>V (x.1-was).toNat++(V x.2.toNat++encR x.1 r)
noncomputable def runsE (l:List Run):List Int:=V l.length++encR 0 l
noncomputable def Inc:Int→List Run→Prop
 |_,[]=>True
 |was,x :: r=>was≤x.1∧x.1≤1000∧(0≤x.2∧x.2≤18446744073709551615)∧Inc x.1 r
noncomputable def okR (l:List Run):Prop:=∀ x∈l,0≤x.2∧x.2≤18446744073709551615
theorem encR_len:∀ (was:Int) (l:List Run),(encR was l).length≤l.length*20
 |_,[]=>by simp[encR]
 |was,x :: r=>by
  have:=V_len (x.1-was).toNat;have:=V_len x.2.toNat;have:=encR_len x.1 r
  simp only[encR,List.length_append,List.length_cons];omega
theorem runsE_len (l:List Run):(runsE l).length≤10+l.length*20:=by
 have:=V_len l.length;have:=encR_len 0 l
 rw[runsE,List.length_append];omega
theorem RunsOK.inc {l:List Run} {n:Int} (h:RunsOK l n) (hn:n≤1000) (hr:okR l):Inc 0 l:=by
 have key:∀ (m i:Nat) (was:Int),m=l.length-i→was≥0→(i<l.length→was≤(rn l i).1)→Inc was (l.drop i):=by
  intro m
  induction m with
  |zero=>intro i was hm _ _;rw[List.drop_eq_nil_of_le (by omega)];trivial
  |succ m ih=>
   intro i was hm hw hle
   have hi:i<l.length:=by omega
   have e:l[i]=rn l i:=by rw[rn,List.getD_eq_getElem?_getD,List.getElem?_eq_getElem hi];rfl
   rw[List.drop_eq_getElem_cons hi,e]
   refine⟨hle hi,by have:=h.2.2.2 i hi;omega,hr _ (getD_mem _ hi),ih (i+1) _ (by omega) (by have:=hle hi;omega) fun hi'=>?_⟩
   have:=(h.2.2.1 i hi').1
   omega
 have:=key l.length 0 0 (by omega) (by omega) fun _=>by rw[h.2.1];exact Int.le_refl _
 rwa[List.drop_zero] at this
theorem sub_in {a b:Int} (h:0≤b∧b≤a∧a≤1000):wi64 (a-b)=a-b:=wi64_in (by omega)
theorem runO_loop {N:Nat} (hN:20<N) {l:List Run} (hl:l.length≤100000):∀ (r pre:List Run) (was:Int) (out:List Int) (k:Nat),l=pre++r→Inc was r→0≤was→r.length<k→out.length≤100000+pre.length*20→f58.L0_9 N k (was,l,(l.length:Int),(pre.length:Int),out)=some (out++encR was r)
 |[],pre,was,out,k+1,he,_,_,_,_=>by
  rw[List.append_nil] at he;subst he
  rw[f58.L0_9_succ,ge_dec,bif_r,encR,List.append_nil]
 |x :: r,pre,was,out,k+1,he,hi,hw,hk,ho=>by
  obtain⟨i1,i2,i3,i4⟩:=hi
  have hlen:pre.length+(r.length+1)=l.length:=by rw[he];simp
  have:=V_len (x.1-was).toNat;have:=V_len x.2.toNat
  have ih:=runO_loop hN hl r (pre++[x]) x.1 (out++V (x.1-was).toNat++V x.2.toNat) k (by rw[he];simp) i4 (by omega) (by simp at hk;omega) (by simp only[List.length_append,List.length_singleton];omega)
  obtain⟨v,hv⟩:=Int.eq_ofNat_of_zero_le i3.1
  rw[f58.L0_9_succ,lt_dec (by omega),bif_l,he,idx_mid,Option.bind_some,←he,sub_in ⟨hw,i1,i2⟩,varyI_ok hN (by omega),Option.bind_some,room_small (by omega) (by omega),chk_true,hv,vary_ok hN (by omega),Option.bind_some,room_small (by simp only[List.length_append];have:=V_len v;omega) (by omega),chk_true,wi64_succ (by omega)]
  rw[show ((pre++[x]).length:Int)=((pre.length+1:Nat):Int) by simp] at ih
  rw[hv] at ih
  simp only[Int.toNat_natCast] at ih
  rw[ih,encR,hv]
  simp[List.append_assoc]
 |_,_,_,_,0,_,_,_,h,_=>by omega
theorem encT_ok {N:Nat} (hN:1000<N) {l:List Run} {n:Nat} (hl:l.length≤1000) (h:RunsOK l n) (h1:1≤n) (h2:n≤200) (hr:okR l):F58 N (l,(n:Int))=some (runsE l,0):=by
 have hi:=h.inc (by omega) hr
 have hv:=V_len l.length
 rw[F58_eq,checkT_ok (by omega) (by omega),if_neg (by omega),if_pos h,Option.bind_some,ne00,bif_r,wu64_nat (by omega),vary_ok (by omega) (by omega),Option.bind_some]
 have:=runO_loop (N:=N) (by omega) (l:=l) (by omega) l [] 0 (V l.length) N rfl hi (by omega) (by omega) (by simp;omega)
 rw[show (([]:List Run).length:Int)=0 from rfl] at this
 rw[this];rfl
open Go Go.Eng Go.Sym
open Classical
noncomputable def letN (n:Nat):Bool:=(decide (97≤n)&&decide (n≤122))||(decide (65≤n)&&decide (n≤90))
noncomputable def chrN (n:Nat):Bool:=letN n||(decide (48≤n)&&decide (n≤57))
noncomputable def nameB (s:List UInt8):Bool:=decide (1≤s.length)&&(decide (s.length≤16)&&(letN ((s.getD 0 0).toNat)&&s.all fun c=>chrN c.toNat))
theorem chr_nest:∀ n:Nat,n<256→((bif (decide ((ior .u8 ((n:Nat):Int) (32:Int))<(97:Int)))
   then (bif (decide (((n:Nat):Int)<(48:Int)))
    then some true
    else some (decide (((n:Nat):Int)>(57:Int))))
   else (bif (decide ((ior .u8 ((n:Nat):Int) (32:Int))>(122:Int)))
    then (bif (decide (((n:Nat):Int)<(48:Int)))
     then some true
     else some (decide (((n:Nat):Int)>(57:Int))))
    else (bif ((iand .u8 ((n:Nat):Int) (64:Int))==(0:Int))
     then (bif (decide (((n:Nat):Int)<(48:Int)))
      then some true
      else some (decide (((n:Nat):Int)>(57:Int))))
     else some false))):Option Bool)=some (!chrN n):=by decide +kernel
theorem first_let:∀ n:Nat,n<256→((!decide (((n:Nat):Int)≤57))&&chrN n)=(letN n&&chrN n):=by decide +kernel
theorem ex_not {α : Type} {n:Nat} {q:Nat→Bool} {a b : α} : (if ∃ i,i<n∧(!q i)=true then b else a)=if ∀ i,i<n→q i=true then a else b:=by
 by_cases h:∀ i,i<n→q i=true
 ·rw [if_pos h, if_neg]
  rintro⟨i,hi,hq⟩
  rw[h i hi] at hq;cases hq
 ·rw [if_neg h, if_pos]
  simp only[not_forall] at h
  obtain⟨i,hi,hq⟩:=h
  exact⟨i,hi,by simpa using hq⟩
theorem ex_notL {α β : Type} {l:List α} {p : α→Bool} {a b : β} : (if ∃ x,x∈l∧(!p x)=true then b else a)=if ∀ x,x∈l→p x=true then a else b:=by
 by_cases h:∀ x,x∈l→p x=true
 ·rw [if_pos h, if_neg]
  rintro⟨x,hx,hp⟩
  rw[h x hx] at hp;cases hp
 ·rw [if_neg h, if_pos]
  simp only[not_forall] at h
  obtain⟨x,hx,hp⟩:=h
  exact⟨x,hx,by simpa using hp⟩
theorem all_ex {α : Type} {l:List α} {p : α→Bool} : (if ∃ x,x∈l∧(!p x)=true then (Sum.inl false:Bool⊕Unit) else .inr ())=if l.all p=true then .inr () else .inl false:=by
 by_cases h:l.all p=true
 ·rw [if_pos h, if_neg]
  rintro⟨x,hx,hp⟩
  rw[List.all_eq_true.1 h x hx] at hp;cases hp
 ·rw [if_neg h, if_pos]
  rw[List.all_eq_true] at h
  simp only[not_forall] at h
  obtain⟨x,hx,hp⟩:=h
  exact⟨x,hx,by simpa using hp⟩
theorem named_ok {N:Nat} {s:List UInt8} (hN:100<N):F78 N s=some (nameB s):=by
 rw[F78_eq]
 unfold nameB
 by_cases h0:s.length=0
 ·rw[show ((s.length:Int)==(0:Int))=true by rw[h0];rfl,bif_l,Option.bind_some,bif_l,decide_eq_false (by omega),Bool.false_and]
 ·rw [len_ne0 h0, bif_r, decide_eq_true (show 1 ≤ s.length by omega), Bool.true_and]
  by_cases h1:s.length≤16
  ·have e0 : idx s (0 : Int) = some (s.getD 0 0) := idx_getD (i := 0) 0 (by omega)
   rw[decide_eq_false (show ¬(s.length:Int)>16 by omega),bif_r,e0,Option.bind_some,Option.bind_some,decide_eq_true h1,Bool.true_and]
   have hlt:=(s.getD 0 0).toNat_lt
   have hall:s.all (fun c=>chrN c.toNat)=true→chrN (s.getD 0 0).toNat=true:=fun h=>List.all_eq_true.1 h _ (getD_mem 0 (by omega))
   have hf:=first_let _ hlt
   have key:=loop_lst (l:=bytesL s) (a:=(.inr ():Bool⊕Unit)) (b:=.inl false) (p:=fun x=>!chrN x.toNat) (Lf:=fun k i=>f78.L0_6 N k (bytesL s,((bytesL s).length:Int),i)) (fun k _=>by
     simp only[f78.L0_6_succ,ge_dec,bif_r]) (fun k i x hx hm=>by
     obtain⟨c,hc,rfl⟩:=List.mem_map.1 hm
     have hi:=len_pos hx
     rw[bytesL_len] at hi
     simp only[f78.L0_6_succ,lt_dec (len_pos hx),bif_l,idx_get hx,Option.bind_some,chr_nest _ c.toNat_lt,wi64_succ (show i<9223372036854775807 by omega),Int.toNat_natCast]
     by_cases hb:chrN c.toNat=true<;>simp[hb]) (k:=N) (by rw[bytesL_len];omega)
   rw[key,all_ex (p:=fun x:Int=>chrN x.toNat)]
   have e2:(bytesL s).all (fun x=>chrN x.toNat)=s.all fun c=>chrN c.toNat:=by
    unfold bytesL;rw[List.all_map];rfl
   rw[e2]
   cases ha:s.all fun c=>chrN c.toNat
   ·rw [if_neg (by simp), Bool.and_false, Option.bind_some]
    cases decide (((s.getD 0 0).toNat:Int)≤57)<;>rfl
   ·rw [hall ha, Bool.and_true, Bool.and_true] at hf
    rw[if_pos rfl,Bool.and_true,Option.bind_some,←hf]
    cases decide (((s.getD 0 0).toNat:Int)≤57)<;>rfl
  ·rw[decide_eq_true (show (s.length:Int)>16 by omega),bif_l,Option.bind_some,bif_l,decide_eq_false h1];rfl
theorem nameB_len {s:List UInt8} (h:nameB s=true):s.length≤16:=by
 unfold nameB at h
 simp only[Bool.and_eq_true,decide_eq_true_eq] at h
 exact h.2.1
noncomputable def fl (l:List Field) (i:Nat):Field:=l.getD i ([],0)
noncomputable def dupF (l:List Field) (i:Nat):Prop:=∃ j,j<i∧(fl l j).1=(fl l i).1
noncomputable def okF (l:List Field) (i:Nat):Bool:=nameB (fl l i).1 && !decide (dupF l i)
noncomputable def FieldsOK (l:List Field):Prop:=∀ i,i<l.length→okF l i=true
theorem imgNamed_inner {N:Nat} {l:List Field} {i:Nat} (hi:i≤l.length) (hN:l.length<N) (hl:l.length≤1000000) (s:List UInt8) (v:Int) :
  (∃ j:Int,0≤j∧f79.L1021001007000_3 N N (l.take i,((l.take i).length:Int),0,s,v)=some (.inl j)∧∃ j,j<i∧(fl l j).1=s)∨
  (f79.L1021001007000_3 N N (l.take i,((l.take i).length:Int),0,s,v)=some (.inr ())∧¬ ∃ j,j<i∧(fl l j).1=s):=by
 have hlen:(l.take i).length=i:=by simp;omega
 have key : ∀ k j, j ≤ i → i - j < k → (∀ m, m < j → (fl l m).1 ≠ s) →
   (∃ q:Int,0≤q∧f79.L1021001007000_3 N k (l.take i,((l.take i).length:Int),(j:Int),s,v)=some (.inl q)∧∃ j,j<i∧(fl l j).1=s)∨
   (f79.L1021001007000_3 N k (l.take i,((l.take i).length:Int),(j:Int),s,v)=some (.inr ())∧¬ ∃ j,j<i∧(fl l j).1=s):=by
  intro k
  induction k with
  |zero=>intro j _ h;omega
  | succ k ih =>
   intro j hj hk hm
   by_cases he:j=i
   ·subst he
    refine .inr ⟨?_,fun⟨m,h1,h2⟩=>hm m h1 h2⟩
    rw[f79.L1021001007000_3_succ,hlen,ge_dec,bif_r]
   ·have e : idx (l.take i) (j : Int) = some (fl l j) := by
     refine idx_get ?_
     rw[List.getElem?_take,if_pos (by omega),fl,List.getD_eq_getElem?_getD,List.getElem?_eq_getElem (by omega)];rfl
    rw[f79.L1021001007000_3_succ,hlen,lt_dec (by omega),bif_l,e,Option.bind_some]
    by_cases hq:(fl l j).1=s
    ·rw [show ((fl l j).1 == s) = true by simpa using hq, bif_l]
     exact .inl ⟨j,by omega,rfl,j,by omega,hq⟩
    ·rw [show ((fl l j).1 == s) = false by simpa using hq, bif_r, wi64_succ (by omega)]
     have:=ih (j+1) (by omega) (by omega) fun m h=>by
      by_cases e:m=j
      ·subst e;exact hq
      ·exact hm m (by omega)
     rw[hlen] at this
     exact this
 exact key N 0 (by omega) (by omega) fun m h=>by omega
theorem imgNamed_ok {N:Nat} {l:List Field} (hN:l.length+100<N) (hl:l.length≤1000000):F79 N l=some (decide (FieldsOK l)):=by
 rw[F79_eq]
 have key:=loop_rng (n:=l.length) (a:=(.inr ():Bool⊕Unit)) (b:=.inl false) (q:=fun i=>!okF l i) (Lf:=fun k i=>f79.L0_3 N k (l,l,(l.length:Int),i)) (fun k _=>by
   simp only[f79.L0_3_succ,ge_dec,bif_r]) (fun k i hi _=>by
   have e:idx l (i:Int)=some (fl l i):=idx_getD _ hi
   simp only[f79.L0_3_succ,lt_dec hi,bif_l,e,Option.bind_some,named_ok (show 100<N by omega)]
   cases hn:nameB (fl l i).1
   ·simp[okF,hn]
   ·rw [Bool.not_true, bif_r, decide_eq_true (show (0 : Int) ≤ (i : Int) by omega), chk_true, Int.toNat_natCast, decide_eq_true (show i ≤ l.length by omega), chk_true, wi64_succ (by omega)]
    rcases imgNamed_inner (l:=l) (i:=i) (by omega) (show l.length<N by omega) hl (fl l i).1 (fl l i).2 with⟨j,h1,h2,h3⟩|⟨h2,h3⟩
    ·rw [h2, Option.bind_some]
     simp only[decide_eq_true (show j≥0 from h1),bif_l]
     rw[if_pos (by unfold okF;rw[decide_eq_true (show dupF l i from h3)];simp)]
    ·rw [h2, Option.bind_some]
     simp only
     rw[if_neg (by unfold okF;rw[hn,decide_eq_false (show ¬dupF l i from h3)];simp)]) (k:=N) (by omega)
 rw[key,ex_not,Option.bind_some]
 by_cases h:FieldsOK l
 ·rw[if_pos (show ∀ i,i<l.length→okF l i=true from h),decide_eq_true h]
 ·rw[if_neg (show ¬ ∀ i,i<l.length→okF l i=true from h),decide_eq_false h]
theorem zero_ok {N:Nat} {l:List Int} (hN:l.length<N) (hl:l.length≤1000):F99 N l=some (l.all fun x=>x==0):=by
 rw[F99_eq]
 have key:∀ (r pre:List Int) k,l=pre++r→r.length<k→
   (r.all (fun x=>x==0)=true∧f99.L1004001007000_3 N k (l,(l.length:Int),(pre.length:Int))=some (.inr ()))∨
   (r.all (fun x=>x==0)=false∧∃ j:Int,0≤j∧f99.L1004001007000_3 N k (l,(l.length:Int),(pre.length:Int))=some (.inl j)):=by
  intro r
  induction r with
  |nil=>
   intro pre k he hk
   obtain⟨k,rfl⟩:∃ k',k=k'+1:=⟨k-1,by simp at hk;omega⟩
   rw[List.append_nil] at he;subst he
   exact .inl ⟨rfl,by rw[f99.L1004001007000_3_succ,ge_dec,bif_r]⟩
  | cons x r ih =>
   intro pre k he hk
   obtain⟨k,rfl⟩:∃ k',k=k'+1:=⟨k-1,by simp at hk;omega⟩
   have hlen:pre.length+(r.length+1)=l.length:=by rw[he];simp
   have hx:idx l (pre.length:Int)=some x:=by rw[he];exact idx_mid _ _ _
   rw[f99.L1004001007000_3_succ,lt_dec (by omega),bif_l,hx,Option.bind_some,F116_eq,Option.bind_some]
   by_cases h0:x=0
   ·rw [show (x != 0) = false by simp [h0], bif_r, wi64_succ (by omega), List.all_cons, show (x == 0) = true by simp [h0], Bool.true_and]
    have:=ih (pre++[x]) k (by rw[he];simp) (by simp at hk;omega)
    rwa[show ((pre++[x]).length:Int)=((pre.length+1:Nat):Int) by simp] at this
   ·rw [show (x != 0) = true by simp [h0], bif_l, List.all_cons, show (x == 0) = false by simp [h0], Bool.false_and]
    exact .inr ⟨rfl,pre.length,by omega,rfl⟩
 rcases key l [] N rfl hN with⟨h1,h2⟩|⟨h1,j,h2,h3⟩
 ·rw [show (([] : List Int).length : Int) = 0 from rfl] at h2
  rw[h2,h1];rfl
 ·rw [show (([] : List Int).length : Int) = 0 from rfl] at h3
  rw[h3,h1,Option.bind_some]
  simp only[decide_eq_true (show j≥0 from h2)];rfl
theorem within_ok (N:Nat) (a b:Int):F98 N (a,b)=some (decide (0≤a∧a<b)):=by
 rw[F98_eq,bif_ff,Option.bind_some]
 by_cases h1:0≤a<;>by_cases h2:a<b<;>simp[h1,h2]
 all_goals omega
noncomputable def ty0:GType:=(0,0,0,[])
noncomputable def tyn (l:List GType) (i:Nat):GType:=l.getD i ty0
noncomputable def TypeOK (n i:Nat) (t:GType):Prop:=
 if t.1=1∨t.1=2∨t.1=3 then t.2.1=0∧t.2.2.1=0∧t.2.2.2.length=0
 else if t.1=4∨t.1=7 then (0≤t.2.1∧t.2.1<n)∧t.2.2.1=0∧t.2.2.2.length=0
 else if t.1=6 then (0≤t.2.1∧t.2.1<i)∧(1≤t.2.2.1∧t.2.2.1≤16)∧t.2.2.2.length=0
 else if t.1=5 then t.2.1=0∧t.2.2.1=0∧(0<t.2.2.2.length∧t.2.2.2.length≤8)∧FieldsOK t.2.2.2∧∀ f,f∈t.2.2.2→0≤f.2∧f.2<i
 else False
theorem hasB_take {l:List Field} {i:Nat} (hi:i<l.length):hasB ((l.take i).map (·.1)) (fl l i).1=decide (dupF l i):=by
 unfold hasB
 by_cases h:dupF l i
 ·rw [decide_eq_true h, List.any_eq_true]
  obtain⟨j,h1,h2⟩:=h
  refine⟨(fl l j).1,List.mem_map.2 ⟨fl l j,?_,rfl⟩,decide_eq_true h2.symm⟩
  rw[fl,List.getD_eq_getElem?_getD,List.getElem?_eq_getElem (by omega)]
  exact List.mem_take_iff_getElem.2 ⟨j,by omega,rfl⟩
 ·rw [decide_eq_false h]
  cases ha:((l.take i).map (·.1)).any fun q=>decide ((fl l i).1=q) with
  |false=>rfl
  |true=>
   exfalso
   obtain⟨q,h1,h2⟩:=List.any_eq_true.1 ha
   obtain⟨f,h3,rfl⟩:=List.mem_map.1 h1
   obtain⟨j,h4,rfl⟩:=List.mem_take_iff_getElem.1 h3
   refine h ⟨j,by omega,?_⟩
   rw[of_decide_eq_true h2]
   rw[fl,List.getD_eq_getElem?_getD,List.getElem?_eq_getElem (by omega)];rfl
theorem fl_get {l:List Field} {i:Nat} (hi:i<l.length):l[i]?=some (fl l i):=by
 rw[fl,List.getD_eq_getElem?_getD,List.getElem?_eq_getElem hi];rfl
theorem addB_take {l:List Field} {i:Nat} (hi:i<l.length) (h:¬dupF l i):addB ((l.take i).map (·.1)) (fl l i).1=(l.take (i+1)).map (·.1):=by
 unfold addB
 rw[hasB_take hi,decide_eq_false h,take_succ (fl_get hi),List.map_append]
 rfl
theorem struct_loop {N:Nat} {l:List Field} {p:Nat} (hN:l.length+100<N) (hl:l.length≤1000000) (a b c:Int) :
  f75.L0_25 N N ((p:Int),l,(l.length:Int),(0:Int),a,b,c,l,([]:List (List UInt8)))=some (if FieldsOK l∧(∀ f,f∈l→0≤f.2∧f.2<p) then .inr (a,b,c,l) else .inl false):=by
 have key:=loop_rng (n:=l.length) (a:=(.inr (a,b,c,l):Bool⊕(Int×Int×Int×List Field))) (b:=.inl false) (q:=fun i=>!(okF l i&&decide (0≤(fl l i).2∧(fl l i).2<p)))
  (Lf := fun k i => f75.L0_25 N k ((p : Int), l, (l.length : Int), i, a, b, c, l, (l.take i.toNat).map (·.1))) (fun k _ => by
   simp only[f75.L0_25_succ,ge_dec,bif_r]) (fun k i hi _=>by
   have e:idx l (i:Int)=some (fl l i):=idx_getD _ hi
   simp only[f75.L0_25_succ,lt_dec hi,bif_l,e,Option.bind_some,named_ok (show 100<N by omega),Int.toNat_natCast,hasB_take hi,within_ok,wi64_succ (show i<9223372036854775807 by omega)]
   cases hn:nameB (fl l i).1
   ·simp[okF,hn]
   ·by_cases hd : dupF l i
    ·simp[okF,hd]
    ·rw [addB_take hi hd]
     unfold okF
     rw[hn,decide_eq_false hd]
     cases decide (0≤(fl l i).2∧(fl l i).2<(p:Int))<;>rfl) (k:=N) (by omega)
 rw[show (0:Int).toNat=0 from rfl,List.take_zero,List.map_nil] at key
 rw[key,ex_not]
 have hiff:(∀ i,i<l.length→(okF l i&&decide (0≤(fl l i).2∧(fl l i).2<(p:Int)))=true)↔FieldsOK l∧∀ f,f∈l→0≤f.2∧f.2<(p:Int):=by
  simp only[Bool.and_eq_true,decide_eq_true_eq]
  refine⟨fun h=>⟨fun i hi=>(h i hi).1,fun f hf=>?_⟩,fun h i hi=>⟨h.1 i hi,h.2 _ (getD_mem _ hi)⟩⟩
  obtain⟨i,hi,rfl⟩:=mem_getD ([],0) hf
  exact (h i hi).2
 by_cases h:FieldsOK l∧∀ f,f∈l→0≤f.2∧f.2<(p:Int)
 ·rw[if_pos h,if_pos (hiff.2 h)]
 ·rw[if_neg h,if_neg fun h'=>h (hiff.1 h')]
theorem beq_dec (a b:Int):(a==b)=decide (a=b):=by by_cases h:a=b<;>simp[h]
theorem len_dec {α : Type} (l:List α):((l.length:Int)==0)=decide (l.length=0):=by
 by_cases h:l.length=0
 ·rw[decide_eq_true h,h];rfl
 ·rw[len_ne0 h,decide_eq_false h]
theorem pred16 {v:Int} (h:i64 v):decide (0≤wi64 (v-1)∧wi64 (v-1)<16)=decide (1≤v∧v≤16):=by
 unfold i64 at h
 by_cases h1:v = -9223372036854775808
 ·subst h1;rfl
 ·rw [wi64_in (by omega)]
  by_cases h2:1≤v∧v≤16
  ·rw[decide_eq_true h2,decide_eq_true (by omega)]
  ·rw[decide_eq_false h2,decide_eq_false (by omega)]
theorem fineK_ok {N : Nat} {l : List GType} {i : Nat} (hN : 1100 < N) (hi : i < l.length) (hf : (tyn l i).2.2.2.length ≤ 1000) (hb : i64 (tyn l i).2.2.1) : F75 N (l, (i : Int)) = some (decide (TypeOK l.length i (tyn l i))) := by
 have e:idx l (i:Int)=some (tyn l i):=idx_getD _ hi
 rw[F75_eq,e,Option.bind_some]
 unfold TypeOK
 generalize tyn l i=t at hf hb
 obtain⟨k,el,le,fs⟩:=t
 simp only at hf hb ⊢
 rw[struct_loop (by omega) (by omega)]
 simp only[beq_dec,bif_tt,Option.bind_some,within_ok,zero_ok (show [el,le,(fs.length:Int)].length<N by simp;omega) (by simp),zero_ok (show [le,(fs.length:Int)].length<N by simp;omega) (by simp),zero_ok (show [(fs.length:Int)].length<N by simp;omega) (by simp),pred16 hb,List.all_cons,List.all_nil,Bool.and_true]
 by_cases h1:k=1∨k=2∨k=3
 ·rw [show (decide (k = 1) || (decide (k = 2) || decide (k = 3))) = true by simpa using h1, bif_l, if_pos h1]
  congr 1
  by_cases a1:el=0<;>by_cases a2:le=0<;>by_cases a3:fs.length=0<;>simp[a1,a2,a3]
  all_goals (intro h;simp[h] at a3)
 ·rw [show (decide (k = 1) || (decide (k = 2) || decide (k = 3))) = false by simpa using h1, bif_r, if_neg h1]
  by_cases h2:k=4∨k=7
  ·rw [show (decide (k = 4) || decide (k = 7)) = true by simpa using h2, bif_l, if_pos h2, bif_ff]
   congr 1
   by_cases a1:0≤el∧el<(l.length:Int)<;>by_cases a2:le=0<;>by_cases a3:fs.length=0<;>simp[a1,a2,a3]
   all_goals (intro h;simp[h] at a3)
  ·rw [show (decide (k = 4) || decide (k = 7)) = false by simpa using h2, bif_r, if_neg h2]
   by_cases h3:k=6
   ·rw [decide_eq_true h3, bif_l, if_pos h3]
    by_cases a1:0≤el∧el<(i:Int)<;>by_cases a2:1≤le∧le≤16<;>by_cases a3:fs.length=0<;>simp[a1,a2,a3]
    all_goals (intro h;simp[h] at a3)
   ·rw [decide_eq_false h3, bif_r, if_neg h3]
    by_cases h4:k=5
    ·rw [decide_eq_true h4, bif_l, if_pos h4]
     by_cases hq:FieldsOK fs∧∀ f,f∈fs→0≤f.2∧f.2<(i:Int)
     ·rw [if_pos hq]
      simp only
      rw[zero_ok (show [el,le].length<N by simp;omega) (by simp),Option.bind_some]
      simp only[List.all_cons,List.all_nil,Bool.and_true]
      have g3:decide ((fs.length:Int)>0)=decide (0<fs.length):=by rw[decide_eq_decide];omega
      have g4:decide ((fs.length:Int)≤8)=decide (fs.length≤8):=by rw[decide_eq_decide];omega
      rw[g3,g4]
      by_cases a1:el=0
      ·by_cases a2 : le = 0
       ·by_cases a3 : 0 < fs.length
        ·by_cases a4 : fs.length ≤ 8
         ·rw [decT (p := el = 0 ∧ le = 0 ∧ (0 < fs.length ∧ fs.length ≤ 8) ∧ FieldsOK fs ∧ ∀ f, f ∈ fs → 0 ≤ f.2 ∧ f.2 < (i : Int)) ⟨a1, a2, ⟨a3, a4⟩, hq⟩]
          simp[a1,a2,a3,a4]
         ·rw [decF (p := el = 0 ∧ le = 0 ∧ (0 < fs.length ∧ fs.length ≤ 8) ∧ FieldsOK fs ∧ ∀ f, f ∈ fs → 0 ≤ f.2 ∧ f.2 < (i : Int)) fun h => a4 h.2.2.1.2]
          simp[a1,a2,a3,a4]
        ·rw [decF (p := el = 0 ∧ le = 0 ∧ (0 < fs.length ∧ fs.length ≤ 8) ∧ FieldsOK fs ∧ ∀ f, f ∈ fs → 0 ≤ f.2 ∧ f.2 < (i : Int)) fun h => a3 h.2.2.1.1, decide_eq_false a3]
         simp[a1,a2]
       ·rw [decF (p := el = 0 ∧ le = 0 ∧ (0 < fs.length ∧ fs.length ≤ 8) ∧ FieldsOK fs ∧ ∀ f, f ∈ fs → 0 ≤ f.2 ∧ f.2 < (i : Int)) fun h => a2 h.2.1, show (le == 0) = false by simpa using a2, Bool.and_false]
        rfl
      ·rw [decF (p := el = 0 ∧ le = 0 ∧ (0 < fs.length ∧ fs.length ≤ 8) ∧ FieldsOK fs ∧ ∀ f, f ∈ fs → 0 ≤ f.2 ∧ f.2 < (i : Int)) fun h => a1 h.1, show (el == 0) = false by simpa using a1, Bool.false_and]
       rfl
     ·rw[if_neg hq,decF (p:=el=0∧le=0∧(0<fs.length∧fs.length≤8)∧FieldsOK fs∧∀ f,f∈fs→0≤f.2∧f.2<(i:Int)) fun h=>hq ⟨h.2.2.2.1,h.2.2.2.2⟩]
    ·rw[decide_eq_false h4,bif_r,if_neg h4,decF (p:=False) id]
open Go Go.Eng Go.Sym
open Classical
theorem TypeOK.fields {n i:Nat} {t:GType} (h:TypeOK n i t):(t.1=5∨t.2.2.2=[])∧t.2.2.2.length≤8∧∀ f,f∈t.2.2.2→0≤f.2∧f.2<i:=by
 have nil:t.2.2.2.length=0→(t.1=5∨t.2.2.2=[])∧t.2.2.2.length≤8∧∀ f,f∈t.2.2.2→0≤f.2∧f.2<i:=fun h=>by
  have e:=List.eq_nil_of_length_eq_zero h
  rw[e]
  exact⟨.inr rfl,by simp,fun f hf=>by cases hf⟩
 unfold TypeOK at h
 split at h
 ·exact nil h.2.2
 ·split at h
  ·exact nil h.2.2
  ·split at h
   ·exact nil h.2.2
   ·split at h
    ·rename_i h5
     exact⟨.inl h5,h.2.2.1.2,h.2.2.2.2⟩
    ·exact h.elim
theorem TypeOK.ptr {n i:Nat} {t:GType} (h:TypeOK n i t) (hk:t.1=4∨t.1=7):0≤t.2.1∧t.2.1<n:=by
 unfold TypeOK at h
 rw[if_neg (by omega),if_pos hk] at h
 exact h.1
theorem TypeOK.arr {n i:Nat} {t:GType} (h:TypeOK n i t) (hk:t.1=6):(0≤t.2.1∧t.2.1<i)∧1≤t.2.2.1∧t.2.2.1≤16:=by
 unfold TypeOK at h
 rw[if_neg (by omega),if_neg (by omega),if_pos hk] at h
 exact⟨h.1,h.2.1⟩
noncomputable def sumW (out:List Int):List Field→Int
 |[]=>0
 |f :: r=>out.getD f.2.toNat 0+sumW out r
noncomputable def wstep (below out:List Int) (t:GType):Int:=
 min (1+(if t.1=4 then below.getD t.2.1.toNat 0 else if t.1=7 then 16*below.getD t.2.1.toNat 0 else if t.1=6 then t.2.2.1*out.getD t.2.1.toNat 0 else 0)+sumW out t.2.2.2) 5001
noncomputable def wOut (below:List Int) (l:List GType):Nat→List Int
 |0=>[]
 |i+1=>wOut below l i++[wstep below (wOut below l i) (tyn l i)]
noncomputable def W (l:List Int):Prop:=∀ x,x∈l→0≤x∧x≤5001
theorem wOut_len (below:List Int) (l:List GType):∀ i,(wOut below l i).length=i
 |0=>rfl
 |i+1=>by simp[wOut,wOut_len below l i]
theorem W.getD {l:List Int} (h:W l) (i:Nat):0≤l.getD i 0∧l.getD i 0≤5001:=by
 rw[List.getD_eq_getElem?_getD]
 cases e:l[i]? with
 |none=>simp
 |some x=>exact h x (mem_of_get e)
theorem sumW_bd {out:List Int} (h:W out):∀ fs:List Field,0≤sumW out fs∧sumW out fs≤fs.length*5001
 |[]=>by simp[sumW]
 |f :: r=>by
  have:=sumW_bd h r
  have:=h.getD f.2.toNat
  simp only[sumW,List.length_cons];omega
theorem wstep_bd {below out:List Int} {n i:Nat} {t:GType} (hb:W below) (ho:W out) (ht:TypeOK n i t):0≤wstep below out t∧wstep below out t≤5001:=by
 unfold wstep
 have:=sumW_bd ho t.2.2.2
 refine⟨?_,by omega⟩
 have h1:=hb.getD t.2.1.toNat
 have h2:=ho.getD t.2.1.toNat
 have:0≤(if t.1=4 then below.getD t.2.1.toNat 0 else if t.1=7 then 16*below.getD t.2.1.toNat 0 else if t.1=6 then t.2.2.1*out.getD t.2.1.toNat 0 else 0):=by
  split
  ·omega
  ·split
   ·omega
   ·split
    ·rename_i h6
     exact Int.mul_nonneg (by have:=ht.arr h6;omega) h2.1
    ·omega
 omega
theorem wOut_W {below:List Int} {l:List GType} (hb:W below):∀ i,i≤l.length→(∀ j,j<l.length→TypeOK l.length j (tyn l j))→W (wOut below l i)
 |0,_,_=>fun x hx=>by cases hx
 |i+1,hi,ht=>fun x hx=>by
  simp only[wOut,List.mem_append,List.mem_singleton] at hx
  rcases hx with hx|rfl
  ·exact wOut_W hb i (by omega) ht x hx
  ·exact wstep_bd hb (wOut_W hb i (by omega) ht) (ht i (by omega))
theorem getD_app {α : Type} {a b:List α} {i:Nat} (d : α) (h:i<a.length):(a++b).getD i d=a.getD i d:=by
 rw[List.getD_eq_getElem?_getD,List.getD_eq_getElem?_getD,List.getElem?_append_left h]
theorem sumW_app {a b:List Int} : ∀ {fs:List Field},(∀ f,f∈fs→0≤f.2∧f.2<a.length)→sumW (a++b) fs=sumW a fs
 |[],_=>rfl
 |f :: r,h=>by
  have:=h f List.mem_cons_self
  rw[sumW,sumW,getD_app _ (by omega),sumW_app fun g hg=>h g (List.mem_cons_of_mem _ hg)]
theorem get_getD {l:List Int} {i:Nat} (h:i<l.length):l[i]?=some (l.getD i 0):=by
 rw[List.getD_eq_getElem?_getD,List.getElem?_eq_getElem h];rfl
theorem inR_int {x:Int} {n:Nat} (h:0≤x∧x<n):inR x n=true:=by
 unfold inR
 rw[decide_eq_true h.1,decide_eq_true (by omega)];rfl
theorem inner_ok {N:Nat} {fs:List Field} {now below:List Int} (hnow:W now) (a:List GType) (b c:Int) (d:List GType) (e g:Int) (hl:fs.length≤1000):∀ (r pre:List Field) (n:Int) (k:Nat),fs=pre++r→(∀ f,f∈r→0≤f.2∧f.2<now.length)→0≤n→n≤100000+pre.length*5001→r.length<k→
  f76.L0_30 N k (a,b,n,c,d,e,g,fs,(fs.length:Int),(pre.length:Int),below,now)=some (a,b,n+sumW now r,c,d,e,g,below,now):=by
 intro r
 induction r with
 |nil=>
  intro pre n k he _ _ _ hk
  obtain⟨k,rfl⟩:∃ k',k=k'+1:=⟨k-1,by simp at hk;omega⟩
  rw[List.append_nil] at he;subst he
  rw[f76.L0_30_succ,ge_dec,bif_r,sumW,Int.add_zero]
 |cons x r ih=>
  intro pre n k he hf h0 hn hk
  obtain⟨k,rfl⟩:∃ k',k=k'+1:=⟨k-1,by simp at hk;omega⟩
  have hlen:pre.length+(r.length+1)=fs.length:=by rw[he];simp
  have hx:idx fs (pre.length:Int)=some x:=by rw[he];exact idx_mid _ _ _
  have hx2:=hf x List.mem_cons_self
  have hg:=hnow.getD x.2.toNat
  have ih:=ih (pre++[x]) (n+now.getD x.2.toNat 0) k (by rw[he];simp) (fun f h=>hf f (List.mem_cons_of_mem _ h)) (by omega) (by rw[List.length_append,List.length_singleton];omega) (by simp at hk;omega)
  rw[f76.L0_30_succ,lt_dec (by omega),bif_l,hx,Option.bind_some,inR_int hx2,chk_true,get_getD (by omega),Option.bind_some,wi64_in (by omega),wi64_succ (by omega)]
  rw[show ((pre++[x]).length:Int)=((pre.length+1:Nat):Int) by simp] at ih
  rw[ih,sumW,Int.add_assoc]
theorem rep_W (n:Nat):W (List.replicate n 0):=fun x hx=>by rw[(List.mem_replicate.1 hx).2];omega
theorem W.app {a b:List Int} (ha:W a) (hb:W b):W (a++b):=fun x hx=>(List.mem_append.1 hx).elim (ha x) (hb x)
theorem set_app {a:List Int} {n i:Nat} {v:Int} (ha:a.length=i) (hi:i<n):(a++List.replicate (n-i) 0).set i v=(a++[v])++List.replicate (n-(i+1)) 0:=by
 rw[List.set_append_right _ _ (by omega),show n-i=(n-(i+1))+1 by omega,List.replicate_succ,show i-a.length=0 by omega,List.set_cons_zero,List.append_assoc];rfl
noncomputable def AllT (l:List GType):Prop:=∀ i,i<l.length→TypeOK l.length i (tyn l i)
theorem row_ok {N:Nat} {l:List GType} {below:List Int} (hN:1000<N) (hl:l.length≤100) (ht:AllT l) (hb:W below) (hbl:below.length=l.length) (r:Int) :
  f76.L0_11 N N (l,r,l,(l.length:Int),(0:Int),below,List.replicate l.length 0)=some (l,r,wOut below l l.length):=by
 have key := loop_up (n := l.length) (Lf := fun k i => f76.L0_11 N k (l, r, l, (l.length : Int), i, below, wOut below l i.toNat ++ List.replicate (l.length - i.toNat) 0)) (g := fun _ => some (l, r, wOut below l l.length)) (fun k => by
   simp only[f76.L0_11_succ,ge_dec,bif_r,Int.toNat_natCast,Nat.sub_self,List.replicate_zero,List.append_nil]) (fun k i hi ih=>by
   have e:idx l (i:Int)=some (tyn l i):=idx_getD _ hi
   have ht':=ht i hi
   have hf:=ht'.fields
   have hW:=wOut_W (i:=i) (l:=l) hb (by omega) ht
   have hol:=wOut_len below l i
   have hnl:(wOut below l i++List.replicate (l.length-i) (0:Int)).length=l.length:=by simp[hol];omega
   have hWn:W (wOut below l i++List.replicate (l.length-i) 0):=hW.app (rep_W _)
   have hsum:sumW (wOut below l i++List.replicate (l.length-i) 0) (tyn l i).2.2.2=sumW (wOut below l i) (tyn l i).2.2.2:=sumW_app fun f h=>by have:=hf.2.2 f h;rw[hol];exact this
   have hset:∀ v:Int,(wOut below l i++List.replicate (l.length-i) 0).set i v=(wOut below l i++[v])++List.replicate (l.length-(i+1)) 0:=fun v=>set_app hol hi
   have fin:∀ n:Int,0≤n→n≤100000→1+(if (tyn l i).1=4 then below.getD (tyn l i).2.1.toNat 0 else if (tyn l i).1=7 then 16*below.getD (tyn l i).2.1.toNat 0 else if (tyn l i).1=6 then (tyn l i).2.2.1*(wOut below l i).getD (tyn l i).2.1.toNat 0 else 0)=n→
     (Option.bind (f76.L0_30 N N (l, (i : Int), n, r, l, (l.length : Int), (i : Int), (tyn l i).2.2.2, ((tyn l i).2.2.2.length : Int), (0 : Int), below, wOut below l i ++ List.replicate (l.length - i) 0)) fun y31 =>
      (chk (inR y31.2.1 y31.2.2.2.2.2.2.2.2.length)
      ((Option.bind (y31.2.2.2.2.2.2.2.2[(Int.toNat y31.2.1)]?) fun x32=>
      f76.L0_11 N k (y31.1,y31.2.2.2.1,y31.2.2.2.2.1,y31.2.2.2.2.2.1,(wi64 (y31.2.2.2.2.2.2.1+(1:Int))),y31.2.2.2.2.2.2.2.1,(y31.2.2.2.2.2.2.2.2.set (Int.toNat y31.2.1) (min y31.2.2.1 (5001:Int))))))))=some (l,r,wOut below l l.length):=by
    intro n h0 hn he
    have:=inner_ok (N:=N) (below:=below) hWn l (i:Int) r l (l.length:Int) (i:Int) (fs:=(tyn l i).2.2.2) (by omega) (tyn l i).2.2.2 [] n N rfl (fun f h=>by rw[hnl];have:=hf.2.2 f h;omega) h0 (by simp;omega) (by omega)
    rw[show (([]:List Field).length:Int)=0 from rfl] at this
    rw[this,Option.bind_some]
    simp only[Int.toNat_natCast]
    rw[hnl,inR_lt hi,chk_true,get_getD (by rw[hnl];exact hi),Option.bind_some,wi64_succ (by omega),hset,hsum]
    simp only[Int.toNat_natCast] at ih
    rw[wOut,wstep,he] at ih
    exact ih
   have hbd:=hb.getD (tyn l i).2.1.toNat
   have hod:=hW.getD (tyn l i).2.1.toNat
   simp only[f76.L0_11_succ,lt_dec hi,bif_l,e,Option.bind_some,Int.toNat_natCast]
   by_cases h4:(tyn l i).1=4
   ·have hp := ht'.ptr (.inl h4)
    rw[if_pos h4] at fin
    rw[show ((tyn l i).1==(4:Int))=true by simp[h4],bif_l,inR_int (by omega),chk_true,get_getD (by omega),Option.bind_some,wi64_in (by omega)]
    exact fin _ (by omega) (by omega) rfl
   ·rw [show ((tyn l i).1 == (4 : Int)) = false by simp [h4], bif_r]
    rw[if_neg h4] at fin
    by_cases h7:(tyn l i).1=7
    ·have hp := ht'.ptr (.inr h7)
     rw[if_pos h7] at fin
     rw[show ((tyn l i).1==(7:Int))=true by simp[h7],bif_l,inR_int (by omega),chk_true,get_getD (by omega),Option.bind_some,wi64_in (n:=16*_) (by omega),wi64_in (by omega)]
     exact fin _ (by omega) (by omega) rfl
    ·rw [show ((tyn l i).1 == (7 : Int)) = false by simp [h7], bif_r]
     rw[if_neg h7] at fin
     by_cases h6:(tyn l i).1=6
     ·have hp := ht'.arr h6
      rw[if_pos h6] at fin
      have hm:0≤(tyn l i).2.2.1*(wOut below l i).getD (tyn l i).2.1.toNat 0∧(tyn l i).2.2.1*(wOut below l i).getD (tyn l i).2.1.toNat 0≤16*5001:=⟨Int.mul_nonneg (by omega) hod.1,Int.mul_le_mul (by omega) hod.2 hod.1 (by omega)⟩
      rw[show ((tyn l i).1==(6:Int))=true by simp[h6],bif_l,inR_int (by rw[hnl];omega),chk_true,get_getD (by rw[hnl];omega),Option.bind_some,getD_app _ (by rw[hol];omega),wi64_in (n:=(tyn l i).2.2.1*_) (by omega),wi64_in (by omega)]
      exact fin _ (by omega) (by omega) rfl
     ·rw [show ((tyn l i).1 == (6 : Int)) = false by simp [h6], bif_r]
      rw[if_neg h6] at fin
      exact fin 1 (by omega) (by omega) rfl) N 0 (by omega) (by omega)
 simpa[wOut] using key
noncomputable def wR (l:List GType):Nat→List Int
 |0=>wOut (List.replicate l.length 0) l l.length
 |d+1=>wOut (wR l d) l l.length
theorem wR_W {l:List GType} (ht:AllT l):∀ d,W (wR l d)∧(wR l d).length=l.length
 |0=>⟨wOut_W (rep_W _) _ (by omega) ht,wOut_len _ _ _⟩
 |d+1=>⟨wOut_W (wR_W ht d).1 _ (by omega) ht,wOut_len _ _ _⟩
theorem widths_ok {N:Nat} {l:List GType} (hN:1000<N) (hl:l.length≤100) (ht:AllT l):F76 N l=some (wR l 3):=by
 have hr:(decide (Int.toNat (l.length:Int)≤Int.toNat (l.length:Int))&&room (Int.toNat (l.length:Int)) 8)=true:=by
  rw[decide_eq_true (Nat.le_refl _),Int.toNat_natCast,room_small (by omega) (by omega)];rfl
 have h0:decide (0≤(l.length:Int))=true:=decide_eq_true (by omega)
 have step:∀ (j:Nat) (b:List Int) k,j<4→W b→b.length=l.length→f76.L0_4 N (k+1) (l,(j:Int),b)=f76.L0_4 N k (l,((j+1:Nat):Int),wOut b l l.length):=fun j b k hj hb hbl=>by
  rw[f76.L0_4_succ,decide_eq_true (by omega),bif_l,h0,chk_true,chk_true,hr,chk_true,Int.toNat_natCast,row_ok hN hl ht hb hbl,Option.bind_some]
  simp only
  rw[wi64_succ (by omega)]
 obtain⟨k,rfl⟩:∃ k,N=k+5:=⟨N-5,by omega⟩
 rw[F76_eq,h0,chk_true,chk_true,hr,chk_true,Int.toNat_natCast]
 have s0:=step 0 (List.replicate l.length 0) (k+4) (by omega) (rep_W _) (by simp)
 have s1:=step 1 _ (k+3) (by omega) (wR_W ht 0).1 (wR_W ht 0).2
 have s2:=step 2 _ (k+2) (by omega) (wR_W ht 1).1 (wR_W ht 1).2
 have s3:=step 3 _ (k+1) (by omega) (wR_W ht 2).1 (wR_W ht 2).2
 have e:f76.L0_4 (k+5) (k+5) (l,(0:Int),List.replicate l.length 0)=some (wR l 3):=by
  refine s0.trans (s1.trans (s2.trans (s3.trans ?_)))
  rw[f76.L0_4_succ,decide_eq_false (by omega),bif_r];rfl
 rw[e];rfl
open Go Go.Eng Go.Sym
open Classical
noncomputable def partsOf (t:GType):List Int:=(if t.1=6 then [t.2.1] else [])++t.2.2.2.map (·.2)
noncomputable def byOf (t:GType):Int:=if t.1=6 then t.2.2.1 else 1
noncomputable def accW (out:List Int) (t:GType):Int→List Int→Int
 |n,[]=>n
 |n,q :: r=>accW out t (min (n+byOf t*out.getD q.toNat 0) 5001) r
noncomputable def TableOK (l:List GType):Prop:=l.length≤32∧AllT l∧∀ x,x∈wR l 3→x≤5000
noncomputable def tyFit (l:List GType):Prop:=l.length≤100∧∀ i,i<l.length→(tyn l i).2.2.2.length≤1000∧i64 (tyn l i).2.2.1
theorem checkK_ok {N:Nat} {l:List GType} (hN:1300<N) (hl:tyFit l):F51 N l=some (if TableOK l then 0 else 8):=by
 rw[F51_eq]
 by_cases h32:l.length≤32
 ·rw [decide_eq_false (show ¬ (l.length : Int) > 32 by omega), bif_r]
  have key:=loop_rng (n:=l.length) (a:=(.inr l:Int⊕List GType)) (b:=.inl 8) (q:=fun i=>!decide (TypeOK l.length i (tyn l i))) (Lf:=fun k i=>f51.L0_6 N k (l,(l.length:Int),i)) (fun k _=>by
    simp only[f51.L0_6_succ,ge_dec,bif_r]) (fun k i hi _=>by
    simp only[f51.L0_6_succ,lt_dec hi,bif_l,fineK_ok (show 1100<N by omega) hi (hl.2 i hi).1 (hl.2 i hi).2,Option.bind_some,wi64_succ (show i<9223372036854775807 by omega)]
    by_cases ht:TypeOK l.length i (tyn l i)
    ·rw[decT ht];rfl
    ·rw[decF ht];rfl) (k:=N) (by omega)
  rw[key,ex_not,Option.bind_some]
  by_cases hall:AllT l
  ·rw [if_pos (show ∀ i, i < l.length → decide (TypeOK l.length i (tyn l i)) = true from fun i hi => decT (hall i hi))]
   simp only
   rw[widths_ok (by omega) hl.1 hall,Option.bind_some]
   have hW:=wR_W hall 3
   have key2:=loop_lst (l:=wR l 3) (a:=(.inr ():Int⊕Unit)) (b:=.inl 8) (p:=fun x=>!decide (x≤5000)) (Lf:=fun k i=>f51.L0_17 N k (wR l 3,((wR l 3).length:Int),i)) (fun k _=>by
     simp only[f51.L0_17_succ,ge_dec,bif_r]) (fun k i x hx hm=>by
     simp only[f51.L0_17_succ,lt_dec (len_pos hx),bif_l,idx_get hx,Option.bind_some,wi64_succ (show i<9223372036854775807 by have:=len_pos hx;omega)]
     by_cases h5:x≤5000
     ·rw[decF (show ¬x>5000 by omega),decT h5];rfl
     ·rw[decT (show x>5000 by omega),decF h5];rfl) (k:=N) (by omega)
   rw[key2,ex_notL,Option.bind_some]
   by_cases h5:∀ x,x∈wR l 3→x≤5000
   ·rw[if_pos fun x hx=>decT (h5 x hx),if_pos ⟨h32,hall,h5⟩]
   ·rw[if_neg fun h=>h5 fun x hx=>of_decide_eq_true (h x hx),if_neg fun h=>h5 h.2.2]
  ·rw[if_neg fun h=>hall fun i hi=>of_decide_eq_true (h i hi),if_neg fun h=>hall h.2.1]
 ·rw[decide_eq_true (show (l.length:Int)>32 by omega),bif_l,if_neg fun h=>h32 h.1]
open Go Go.Eng Go.Sym
open Classical
noncomputable def up (a s:Int):Int:=(s+a-1) / a*a
theorem up_one (s:Int):up 1 s=s:=by unfold up;omega
theorem up_eight (s:Int):up 8 s=(s+7) / 8*8:=by unfold up;omega
noncomputable def AL (a:Int):Prop:=a=1∨a=8
theorem up_bd {a s:Int} (ha:AL a) (hs:0≤s):s≤up a s∧up a s≤s+7:=by
 rcases ha with rfl|rfl
 ·rw[up_one];omega
 ·rw[up_eight];omega
theorem up_cap {a s C:Int} (ha:AL a) (hC:C % 8=0) (hs:s≤C):up a s≤C:=by
 rcases ha with rfl|rfl
 ·rw[up_one];omega
 ·rw[up_eight];omega
theorem andnot7 (n:Nat) (hn:n<18446744073709551616):(BitVec.ofNat 64 n &&& ~~~(7#64)).toNat=n / 8*8:=by
 have e:n / 8*8=(n >>> 3) <<< 3:=by rw[Nat.shiftRight_eq_div_pow,Nat.shiftLeft_eq]
 rw[e]
 refine Nat.eq_of_testBit_eq fun k=>?_
 rw[BitVec.toNat_and,Nat.testBit_and,BitVec.toNat_ofNat,Nat.mod_eq_of_lt hn,BitVec.testBit_toNat,BitVec.getLsbD_not,Nat.testBit_shiftLeft,Nat.testBit_shiftRight]
 rcases Nat.lt_or_ge k 64 with h|h
 ·rw [decide_eq_true h, Bool.true_and]
  by_cases h3:k<3
  ·have : k = 0 ∨ k = 1 ∨ k = 2 := by omega
   rcases this with rfl|rfl|rfl<;>simp
  ·rw [decide_eq_true (show k ≥ 3 by omega), Bool.true_and, show 3 + (k - 3) = k by omega]
   have:(7#64).getLsbD k=false:=by
    rw[show (7#64)=BitVec.ofNat 64 7 from rfl,BitVec.getLsbD_ofNat,Nat.testBit_lt_two_pow (x:=7) (i:=k) (Nat.lt_of_lt_of_le (show 7<2 ^ 3 by omega) (Nat.pow_le_pow_right (by omega) (by omega))),Bool.and_false]
   rw[this,Bool.not_false,Bool.and_true]
 ·have h1 : n.testBit k = false := Nat.testBit_lt_two_pow (Nat.lt_of_lt_of_le hn (by rw [show 18446744073709551616 = 2 ^ 64 by decide]; exact Nat.pow_le_pow_right (by omega) h))
  rw[h1,Bool.false_and,decide_eq_true (show k≥3 by omega),Bool.true_and,show 3+(k-3)=k by omega,h1]
theorem iandnot_up {a s:Int} (ha:AL a) (hs:0≤s∧s≤4000000):iandnot .i64 (wi64 ((wi64 (s+a))-(1:Int))) (wi64 (a-(1:Int)))=up a s:=by
 rcases ha with rfl|rfl
 ·rw [wi64_in (n := s + 1) (by omega), show s + 1 - 1 = s by omega, wi64_in (by omega), show wi64 ((1 : Int) - 1) = 0 from by decide, up_one]
  obtain⟨n,rfl⟩:=Int.eq_ofNat_of_zero_le hs.1
  unfold iandnot
  have e:(BitVec.ofInt IntKind.i64.bits ((n:Nat):Int) &&& ~~~(BitVec.ofInt IntKind.i64.bits 0)).toNat=n:=by
   show (BitVec.ofInt 64 ((n:Nat):Int) &&& ~~~(BitVec.ofInt 64 0)).toNat=n
   rw[show ~~~(BitVec.ofInt 64 0)=BitVec.allOnes 64 by decide,BitVec.and_allOnes,BitVec.ofInt_natCast,BitVec.toNat_ofNat];omega
  rw[e];exact wi64_in (by omega)
 ·rw [wi64_in (n := s + 8) (by omega), show s + 8 - 1 = s + 7 by omega, wi64_in (by omega), show wi64 ((8 : Int) - 1) = 7 from by decide, up_eight]
  obtain⟨n,rfl⟩:=Int.eq_ofNat_of_zero_le hs.1
  unfold iandnot
  have e:(BitVec.ofInt IntKind.i64.bits ((n:Int)+7) &&& ~~~(BitVec.ofInt IntKind.i64.bits 7)).toNat=(n+7) / 8*8:=by
   show (BitVec.ofInt 64 ((n:Int)+7) &&& ~~~(BitVec.ofInt 64 7)).toNat=_
   rw[show (n:Int)+7=((n+7:Nat):Int) by omega,BitVec.ofInt_natCast,show BitVec.ofInt 64 7=7#64 from rfl]
   exact andnot7 _ (by omega)
  rw[e,show IntKind.i64.wrap (((n+7) / 8*8:Nat):Int)=(((n+7) / 8*8:Nat):Int) from wi64_in (by omega)]
  omega
abbrev Ex:=Int×Int
noncomputable def exn (x:List Ex) (i:Int):Ex:=x.getD i.toNat (0,1)
noncomputable def layF (C:Int) (x:List Ex):Int→Int→List Field→List Int×Int×Int
 |s,a,[]=>([],s,a)
 |s,a,f :: r=>
  let q:=layF C x (min C (up (exn x f.2).2 s+(exn x f.2).1)) (max a (exn x f.2).2) r
  (up (exn x f.2).2 s :: q.1,q.2.1,q.2.2)
noncomputable def EX (C:Int) (x:List Ex):Prop:=∀ e,e∈x→AL e.2∧0≤e.1∧e.1≤C
theorem EX.get {C:Int} (hC:0≤C) {x:List Ex} (h:EX C x) (i:Int):AL (exn x i).2∧0≤(exn x i).1∧(exn x i).1≤C:=by
 unfold exn
 rw[List.getD_eq_getElem?_getD]
 cases e:x[i.toNat]? with
 |none=>exact⟨.inl rfl,by show (0:Int)≤0;omega,hC⟩
 |some y=>exact h y (mem_of_get e)
theorem AL.max {a b:Int} (ha:AL a) (hb:AL b):AL (max a b):=by
 rcases ha with rfl|rfl<;>rcases hb with rfl|rfl
 ·exact .inl rfl
 ·exact .inr rfl
 ·exact .inr rfl
 ·exact .inr rfl
theorem layF_bd {C:Int} (hC:0≤C) {x:List Ex} (hx:EX C x):∀ (fs:List Field) (s a:Int),0≤s→s≤C→AL a→(0≤(layF C x s a fs).2.1∧(layF C x s a fs).2.1≤C)∧AL (layF C x s a fs).2.2∧(layF C x s a fs).1.length=fs.length
 |[],s,a,h0,hs,ha=>⟨⟨h0,hs⟩,ha,rfl⟩
 |f :: r,s,a,h0,hs,ha=>by
  obtain⟨e1,e2,e3⟩:=hx.get hC f.2
  have hu:=up_bd e1 h0
  obtain⟨g1,g2,g3⟩:=layF_bd hC hx r (min C (up (exn x f.2).2 s+(exn x f.2).1)) (max a (exn x f.2).2) (by omega) (by omega) (ha.max e1)
  simp only[layF]
  exact⟨g1,g2,by rw[List.length_cons,List.length_cons,g3]⟩
theorem idx_exn {x:List Ex} {i:Int} (h:0≤i∧i<x.length):idx x i=some (exn x i):=by
 refine idx_of_get h.1 ?_
 unfold exn
 rw[List.getD_eq_getElem?_getD,List.getElem?_eq_getElem (by omega)];rfl
theorem exn_app {a b:List Ex} {i:Int} (h:0≤i∧i<a.length):exn (a++b) i=exn a i:=getD_app _ (by omega)
theorem lay_loop {N:Nat} {x b:List Ex} (hx:EX 1048576 x) {fs:List Field} (hl:fs.length≤1000) (c1 c2:Int):∀ (r pre:List Field) (os:List Int) (s a:Int) (k:Nat),fs=pre++r→os.length=pre.length→(∀ f,f∈r→0≤f.2∧f.2<x.length)→0≤s→s≤1048576→AL a→r.length<k→
  f117.L0_4 N k (x++b,fs,(fs.length:Int),(pre.length:Int),c1,c2,os++List.replicate r.length 0,s,a)=some (c1,c2,os++(layF 1048576 x s a r).1,(layF 1048576 x s a r).2.1,(layF 1048576 x s a r).2.2):=by
 intro r
 induction r with
 |nil=>
  intro pre os s a k he _ _ _ _ _ hk
  obtain⟨k,rfl⟩:∃ k',k=k'+1:=⟨k-1,by simp at hk;omega⟩
  rw[List.append_nil] at he;subst he
  rw[f117.L0_4_succ,ge_dec,bif_r];rfl
 | cons f r ih =>
  intro pre os s a k he ho hf h0 hs ha hk
  obtain⟨k,rfl⟩:∃ k',k=k'+1:=⟨k-1,by simp at hk;omega⟩
  have hlen:pre.length+(r.length+1)=fs.length:=by rw[he];simp
  have hxf:idx fs (pre.length:Int)=some f:=by rw[he];exact idx_mid _ _ _
  have hf2:=hf f List.mem_cons_self
  have hif:idx (x++b) f.2=some (exn x f.2):=by rw[idx_exn (by rw[List.length_append];omega),exn_app hf2]
  obtain⟨e1,e2,e3⟩:=hx.get (by omega) f.2
  have hu:=up_bd e1 h0
  have huc:=up_cap (C:=1048576) e1 (by omega) hs
  have hol:(os++List.replicate (f :: r).length (0:Int)).length=fs.length:=by simp[ho];omega
  have hset:∀ v:Int,(os++List.replicate (f :: r).length (0:Int)).set pre.length v=(os++[v])++List.replicate r.length 0:=fun v=>by
   rw[List.set_append_right _ _ (by omega),List.length_cons,List.replicate_succ,show pre.length-os.length=0 by omega,List.set_cons_zero,List.append_assoc];rfl
  have ih:=ih (pre++[f]) (os++[up (exn x f.2).2 s]) (min 1048576 (up (exn x f.2).2 s+(exn x f.2).1)) (max a (exn x f.2).2) k (by rw[he];simp) (by simp[ho]) (fun g h=>hf g (List.mem_cons_of_mem _ h)) (by omega) (by omega) (ha.max e1) (by simp at hk;omega)
  rw[f117.L0_4_succ,lt_dec (by omega),bif_l,hxf,Option.bind_some,hif,Option.bind_some,inR_int (by rw[hol];omega),chk_true,iandnot_up e1 ⟨h0,by omega⟩,Int.toNat_natCast,get_getD (by rw[hol];omega),Option.bind_some,hset,inR_int (by simp[ho];omega),chk_true]
  have hg:(os++[up (exn x f.2).2 s]++List.replicate r.length (0:Int))[pre.length]?=some (up (exn x f.2).2 s):=by
   rw[List.append_assoc,List.getElem?_append_right (by omega),ho,Nat.sub_self];rfl
  rw[hg,Option.bind_some,wi64_succ (by omega),wi64_in (by omega)]
  rw[show ((pre++[f]).length:Int)=((pre.length+1:Nat):Int) by simp] at ih
  rw[ih]
  simp only[layF]
  rw[List.append_assoc];rfl
theorem lay_ok {N:Nat} {x b:List Ex} (hN:1100<N) (hx:EX 1048576 x) {fs:List Field} (hl:fs.length≤1000) (hf:∀ f,f∈fs→0≤f.2∧f.2<x.length) :
  F117 N (x++b,fs)=some ((layF 1048576 x 0 1 fs).1,up (layF 1048576 x 0 1 fs).2.2 (layF 1048576 x 0 1 fs).2.1,(layF 1048576 x 0 1 fs).2.2):=by
 have h0:decide (0≤(fs.length:Int))=true:=decide_eq_true (by omega)
 have hr:(decide (Int.toNat (fs.length:Int)≤Int.toNat (fs.length:Int))&&room (Int.toNat (fs.length:Int)) 8)=true:=by
  rw[decide_eq_true (Nat.le_refl _),Int.toNat_natCast,room_small (by omega) (by omega)];rfl
 have:=lay_loop (N:=N) (b:=b) hx hl 0 0 fs [] [] 0 1 N rfl rfl hf (by omega) (by omega) (.inl rfl) (by omega)
 rw[show (([]:List Field).length:Int)=0 from rfl,List.nil_append,List.nil_append] at this
 obtain⟨b1,b2,_⟩:=layF_bd (C:=1048576) (by omega) hx fs 0 1 (by omega) (by omega) (.inl rfl)
 rw[F117_eq,h0,chk_true,chk_true,hr,chk_true,Int.toNat_natCast,this,Option.bind_some]
 simp only
 rw[iandnot_up b2 ⟨b1.1,by omega⟩]
noncomputable def estep (C:Int) (out:List Ex) (t:GType):Ex:=
 if t.1=1 then (1,1) else if t.1=3 then (16,8) else if t.1=7 then (24,8)
 else if t.1=6 then (min C (t.2.2.1*(exn out t.2.1).1),(exn out t.2.1).2)
 else if t.1=5 then (up (layF C out 0 1 t.2.2.2).2.2 (layF C out 0 1 t.2.2.2).2.1,(layF C out 0 1 t.2.2.2).2.2)
 else (8,8)
noncomputable def eOut (C:Int) (l:List GType):Nat→List Ex
 |0=>[]
 |i+1=>eOut C l i++[estep C (eOut C l i) (tyn l i)]
theorem eOut_len (C:Int) (l:List GType):∀ i,(eOut C l i).length=i
 |0=>rfl
 |i+1=>by simp[eOut,eOut_len C l i]
theorem mul_bd16 {a b C:Int} (ha:1≤a∧a≤16) (hb:0≤b∧b≤C) (_hC:0≤C):0≤a*b∧a*b≤16*C:=
 ⟨Int.mul_nonneg (by omega) hb.1,Int.mul_le_mul ha.2 hb.2 hb.1 (by omega)⟩
theorem estep_ex {C:Int} (hC:1000≤C) (h8:C % 8=0) {out:List Ex} (ho:EX C out) {n i:Nat} {t:GType} (ht:TypeOK n i t):AL (estep C out t).2∧0≤(estep C out t).1∧(estep C out t).1≤C:=by
 unfold estep
 have ha:=ho.get (by omega) t.2.1
 obtain⟨b1,b2,_⟩:=layF_bd (C:=C) (by omega) ho t.2.2.2 0 1 (by omega) (by omega) (.inl rfl)
 have hc:=up_cap b2 h8 b1.2
 have hu:=up_bd b2 b1.1
 split
 ·exact⟨.inl rfl,by show (0:Int)≤1;omega,by show (1:Int)≤C;omega⟩
 ·split
  ·exact⟨.inr rfl,by show (0:Int)≤16;omega,by show (16:Int)≤C;omega⟩
  ·split
   ·exact⟨.inr rfl,by show (0:Int)≤24;omega,by show (24:Int)≤C;omega⟩
   ·split
    ·rename_i h6
     have:=mul_bd16 (ht.arr h6).2 ha.2 (by omega)
     exact⟨ha.1,by show 0≤min C _;omega,by show min C _≤C;omega⟩
    ·split
     ·exact⟨b2,by show 0≤up _ _;omega,hc⟩
     ·exact⟨.inr rfl,by show (0:Int)≤8;omega,by show (8:Int)≤C;omega⟩
theorem eOut_EX {C:Int} (hC:1000≤C) (h8:C % 8=0) {l:List GType} (ht:AllT l):∀ i,i≤l.length→EX C (eOut C l i)
 |0,_=>fun e he=>by cases he
 |i+1,hi=>fun e he=>by
  simp only[eOut,List.mem_append,List.mem_singleton] at he
  rcases he with he|rfl
  ·exact eOut_EX hC h8 ht i (by omega) e he
  ·exact estep_ex hC h8 (eOut_EX hC h8 ht i (by omega)) (ht i (by omega))
theorem set_ex {a:List Ex} {n i:Nat} {v:Ex} (ha:a.length=i) (hi:i<n):(a++List.replicate (n-i) (0,0)).set i v=(a++[v])++List.replicate (n-(i+1)) (0,0):=by
 rw[List.set_append_right _ _ (by omega),show n-i=(n-(i+1))+1 by omega,List.replicate_succ,show i-a.length=0 by omega,List.set_cons_zero,List.append_assoc];rfl
open Go Go.Eng Go.Sym
open Classical
theorem kinds_cases {n i:Nat} {t:GType} (h:TypeOK n i t):t.1=1∨t.1=2∨t.1=3∨t.1=4∨t.1=5∨t.1=6∨t.1=7:=by
 unfold TypeOK at h
 split at h
 ·omega
 ·split at h
  ·omega
  ·split at h
   ·omega
   ·split at h
    ·omega
    ·exact h.elim
theorem extents_ok {N:Nat} {l:List GType} (hN:1100<N) (hl:l.length≤100) (ht:AllT l):F100 N l=some (eOut 1048576 l l.length):=by
 have h0:decide (0≤(l.length:Int))=true:=decide_eq_true (by omega)
 have hr:(decide (Int.toNat (l.length:Int)≤Int.toNat (l.length:Int))&&room (Int.toNat (l.length:Int)) 16)=true:=by
  rw[decide_eq_true (Nat.le_refl _),Int.toNat_natCast,room_small (by omega) (by omega)];rfl
 rw[F100_eq,h0,chk_true,chk_true,hr,chk_true,Int.toNat_natCast]
 have key := loop_up (n := l.length) (Lf := fun k i => f100.L0_4 N k (l, (l.length : Int), i, eOut 1048576 l i.toNat ++ List.replicate (l.length - i.toNat) (0, 0))) (g := fun _ => some (eOut 1048576 l l.length)) (fun k => by
   simp only[f100.L0_4_succ,ge_dec,bif_r,Int.toNat_natCast,Nat.sub_self,List.replicate_zero,List.append_nil]) (fun k i hi ih=>by
   have e:idx l (i:Int)=some (tyn l i):=idx_getD _ hi
   have ht':=ht i hi
   have hff:=ht'.fields
   have hE:=eOut_EX (C:=1048576) (by omega) (by omega) ht i (by omega)
   have hol:=eOut_len 1048576 l i
   have hnl:(eOut 1048576 l i++List.replicate (l.length-i) ((0:Int),(0:Int))).length=l.length:=by simp[hol];omega
   have hset:∀ v:Ex,(eOut 1048576 l i++List.replicate (l.length-i) (0,0)).set i v=(eOut 1048576 l i++[v])++List.replicate (l.length-(i+1)) (0,0):=fun v=>set_ex hol hi
   obtain⟨w,hw⟩:=get_of_lt (l:=eOut 1048576 l i++List.replicate (l.length-i) ((0:Int),(0:Int))) (i:=i) (by omega)
   simp only[Int.toNat_natCast] at ih ⊢
   rw[eOut] at ih
   have fin:∀ v:Ex,v=estep 1048576 (eOut 1048576 l i) (tyn l i)→f100.L0_4 N k (l,(l.length:Int),((i+1:Nat):Int),(eOut 1048576 l i++[v])++List.replicate (l.length-(i+1)) (0,0))=some (eOut 1048576 l l.length):=by
    rintro _ rfl;exact ih
   have hin:inR (i:Int) (eOut 1048576 l i++List.replicate (l.length-i) ((0:Int),(0:Int))).length=true:=by rw[hnl];exact inR_lt hi
   simp only[f100.L0_4_succ,lt_dec hi,bif_l,e,Option.bind_some,Int.toNat_natCast,hin,hw,hset,chk_true,wi64_succ (show i<9223372036854775807 by omega),bif_tt]
   unfold estep at fin
   rcases kinds_cases ht' with h|h|h|h|h|h|h
   ·rw[h];exact fin _ (by rw[if_pos h])
   ·rw[h];exact fin _ (by rw[h];rfl)
   ·rw[h];exact fin _ (by rw[h];rfl)
   ·rw[h];exact fin _ (by rw[h];rfl)
   ·rw [h] at fin ⊢
    have:=lay_ok (N:=N) (b:=List.replicate (l.length-i) (0,0)) hN hE (fs:=(tyn l i).2.2.2) (by omega) (fun f hf=>by rw[hol];exact hff.2.2 f hf)
    have hq:(Option.bind (F117 N (eOut 1048576 l i++List.replicate (l.length-i) (0,0),(tyn l i).2.2.2)) fun y12=>
      f100.L0_4 N k (l,(l.length:Int),((i+1:Nat):Int),(eOut 1048576 l i++[y12.2])++List.replicate (l.length-(i+1)) (0,0)))=some (eOut 1048576 l l.length):=by
     rw[this,Option.bind_some];exact fin _ rfl
    exact hq
   ·have hp := ht'.arr h
    have ha:=hE.get (by omega) (tyn l i).2.1
    have hm:=mul_bd16 hp.2 ha.2 (by omega)
    have hx:(eOut 1048576 l i++List.replicate (l.length-i) ((0:Int),(0:Int)))[(tyn l i).2.1.toNat]?=some (exn (eOut 1048576 l i) (tyn l i).2.1):=by
     have:=(idx_some (idx_exn (x:=eOut 1048576 l i++List.replicate (l.length-i) ((0:Int),(0:Int))) (i:=(tyn l i).2.1) (by rw[hnl];omega))).2
     rw[this,exn_app (by rw[hol];exact hp.1)]
    have hq:(chk (inR (tyn l i).2.1 (eOut 1048576 l i++List.replicate (l.length-i) ((0:Int),(0:Int))).length) (Option.bind ((eOut 1048576 l i++List.replicate (l.length-i) ((0:Int),(0:Int)))[(Int.toNat (tyn l i).2.1)]?) fun x10=>
      f100.L0_4 N k (l,(l.length:Int),((i+1:Nat):Int),(eOut 1048576 l i++[((min (1048576:Int) (wi64 ((tyn l i).2.2.1*x10.1))),x10.2)])++List.replicate (l.length-(i+1)) (0,0))))=some (eOut 1048576 l l.length):=by
     rw[inR_int (by rw[hnl];omega),chk_true,hx,Option.bind_some]
     refine fin _ ?_
     rw[wi64_in (by omega),h];rfl
    rw[h];exact hq
   ·rw[h];exact fin _ (by rw[h];rfl)) N 0 (by omega) (by omega)
 have:f100.L0_4 N N (l,(l.length:Int),(0:Int),List.replicate l.length (0,0))=some (eOut 1048576 l l.length):=by simpa[eOut] using key
 rw[this];rfl
noncomputable def Rel (a b:Ex):Prop:=(a.1=b.1∨(256<a.1∧256<b.1))∧a.2=b.2
noncomputable def exs (l:List GType):List Ex:=eOut 1048576 l l.length
noncomputable def SizesOK (l:List GType):Prop:=∀ i:Nat,i<l.length→(exn (exs l) i).1≤256
theorem exs_len (l:List GType):(exs l).length=l.length:=eOut_len _ _ _
theorem size_ok {N:Nat} {l:List GType} (hN:1300<N) (hl:tyFit l) (ht:TableOK l) {i:Int} (hi:0≤i∧i<l.length) :
  F52 N (l,i)=some (if (exn (exs l) i).1≤256 then ((exn (exs l) i).1,(exn (exs l) i).2,0) else (0,0,16)):=by
 have e:idx (exs l) i=some (exn (exs l) i):=idx_exn (by rw[exs_len];exact hi)
 rw[F52_eq,F77_eq,checkK_ok hN hl,if_pos ht,Option.bind_some,ne00,bif_r,decide_eq_false (show ¬i<0 by omega),bif_r,Option.bind_some,decide_eq_false (show ¬i≥(l.length:Int) by omega),bif_r,extents_ok (by omega) hl.1 ht.2.1,Option.bind_some,show eOut 1048576 l l.length=exs l from rfl,e,Option.bind_some]
 by_cases h:(exn (exs l) i).1≤256
 ·rw [if_pos h, decide_eq_false (show ¬ (exn (exs l) i).1 > 256 by omega), bif_r, Option.bind_some]
  simp only
  rw[ne00,bif_r,e];rfl
 ·rw[if_neg h,decide_eq_true (show (exn (exs l) i).1>256 by omega),bif_l];rfl
open Go Go.Eng Go.Sym
open Classical
noncomputable def rangeB (l:List Field) (n:Nat):Prop:=∀ f,f∈l→0≤f.2∧f.2<n
noncomputable def FuncOK (n:Nat) (f:Func):Prop:=
 nameB f.1=true∧f.2.2.2.1.length≤16∧FieldsOK f.2.2.2.1∧(0≤f.2.1∧f.2.1≤f.2.2.2.1.length)∧(-1≤f.2.2.1∧f.2.2.1<n)∧rangeB f.2.2.2.1 n∧
 (1≤f.2.2.2.2.1.length∧f.2.2.2.2.1.length≤200)∧(∀ x,x∈f.2.2.2.2.1→chkI x=true)∧RunsOK f.2.2.2.2.2.1 f.2.2.2.2.1.length∧RunsOK f.2.2.2.2.2.2 f.2.2.2.2.1.length
noncomputable def fnFit (f:Func):Prop:=f.2.2.2.1.length≤300∧f.2.2.2.2.1.length≤1000∧f.2.2.2.2.2.1.length≤1000∧f.2.2.2.2.2.2.length≤1000∧(∀ x,x∈f.2.2.2.2.1→okI x)∧okR f.2.2.2.2.2.1∧okR f.2.2.2.2.2.2
theorem fn_range {N:Nat} {l:List Field} {ts:List GType} (hN:l.length<N) (hl:l.length≤1000) (a:List UInt8) (b c:Int) (d:List Field) (e:List Instr) (f g:List Run) :
  f53.L0_6 N N (ts,l,(l.length:Int),(0:Int),a,b,c,d,e,f,g)=some (if rangeB l ts.length then .inr (a,b,c,d,e,f,g) else .inl false):=by
 have key:=loop_lst (l:=l) (a:=(.inr (a,b,c,d,e,f,g):Bool⊕(List UInt8×Int×Int×List Field×List Instr×List Run×List Run))) (b:=.inl false) (p:=fun x=>!decide (0≤x.2∧x.2<(ts.length:Int)))
  (Lf := fun k i => f53.L0_6 N k (ts, l, (l.length : Int), i, a, b, c, d, e, f, g)) (fun k _ => by
   simp only[f53.L0_6_succ,ge_dec,bif_r]) (fun k i x hx hm=>by
   simp only[f53.L0_6_succ,lt_dec (len_pos hx),bif_l,idx_get hx,Option.bind_some,wi64_succ (show i<9223372036854775807 by have:=len_pos hx;omega),bif_tt]
   by_cases h:0≤x.2∧x.2<(ts.length:Int)
   ·rw[decT h,decF (show ¬x.2<0 by omega),decF (show ¬x.2≥(ts.length:Int) by omega)];rfl
   ·rw [decF h]
    by_cases h1:x.2<0
    ·rw[decT h1];rfl
    ·rw[decT (show x.2≥(ts.length:Int) by omega),Bool.or_true];rfl) (k:=N) hN
 rw[key,ex_notL]
 simp only[decide_eq_true_eq]
 exact congrArg some (ite_iff Iff.rfl)
theorem fn_code {N:Nat} {l:List Instr} (hN:l.length<N) (hl:l.length≤1000) (a:List UInt8) (b c:Int) (d:List Field) (e:List Instr) (f g:List Run) :
  f53.L0_17 N N (l,(l.length:Int),(0:Int),a,b,c,d,e,f,g)=some (if ∀ x,x∈l→chkI x=true then .inr (a,b,c,d,e,f,g) else .inl false):=by
 have key:=loop_lst (l:=l) (a:=(.inr (a,b,c,d,e,f,g):Bool⊕(List UInt8×Int×Int×List Field×List Instr×List Run×List Run))) (b:=.inl false) (p:=fun x=>!chkI x)
  (Lf := fun k i => f53.L0_17 N k (l, (l.length : Int), i, a, b, c, d, e, f, g)) (fun k _ => by
   simp only[f53.L0_17_succ,ge_dec,bif_r]) (fun k i x hx hm=>by
   simp only[f53.L0_17_succ,lt_dec (len_pos hx),bif_l,idx_get hx,Option.bind_some,wi64_succ (show i<9223372036854775807 by have:=len_pos hx;omega),checkO_ok]
   by_cases h:chkI x=true
   ·simp[h]
   ·simp[h]) (k:=N) hN
 rw[key,ex_notL]
theorem function_ok {N:Nat} {ts:List GType} {f:Func} (hN:1300<N) (hf:fnFit f):F53 N (ts,f.1,f.2.1,f.2.2.1,f.2.2.2.1,f.2.2.2.2.1,f.2.2.2.2.2.1,f.2.2.2.2.2.2)=some (decide (FuncOK ts.length f)):=by
 obtain⟨nm,pa,re,sl,co,si,li⟩:=f
 obtain⟨g1,g2,g3,g4,g5,g6,g7⟩:=hf
 simp only at g1 g2 g3 g4 g5 g6 g7 ⊢
 rw[F53_eq,named_ok (by omega),imgNamed_ok (by omega) (by omega)]
 simp only[Option.bind_some,bif_tt]
 have no:∀ {p:Prop},(FuncOK ts.length (nm,pa,re,sl,co,si,li)→p)→¬p→decide (FuncOK ts.length (nm,pa,re,sl,co,si,li))=false:=fun h hp=>decF fun h'=>hp (h h')
 by_cases hA:nameB nm=true∧sl.length≤16∧FieldsOK sl∧(0≤pa∧pa≤sl.length)∧-1≤re∧re<ts.length
 ·obtain ⟨a1, a2, a3, a4, a5, a6⟩ := hA
  rw[a1,decF (show ¬(sl.length:Int)>16 by omega),decT a3,decF (show ¬pa<0 by omega),decF (show ¬pa>(sl.length:Int) by omega),decF (show ¬re < -1 by omega),decF (show ¬re≥(ts.length:Int) by omega),show (!true||(false||(!true||(false||(false||(false||false))))))=false from rfl,bif_r,fn_range (by omega) (by omega),Option.bind_some]
  by_cases hr:rangeB sl ts.length
  ·rw [if_pos hr]
   simp only
   rw[fn_code (by omega) (by omega),Option.bind_some]
   by_cases hc:∀ x,x∈co→chkI x=true
   ·rw [if_pos hc]
    simp only
    rw[checkT_ok (by omega) (by omega),checkT_ok (by omega) (by omega),Option.bind_some,Option.bind_some]
    by_cases hn:co.length<1∨co.length>200
    ·rw[if_pos hn,no (p:=1≤co.length∧co.length≤200) (fun h=>h.2.2.2.2.2.2.1) (by omega)];rfl
    ·rw [if_neg hn, if_neg hn]
     by_cases hs:RunsOK si co.length
     ·rw [if_pos hs]
      by_cases hv:RunsOK li co.length
      ·rw[if_pos hv,decT (show FuncOK ts.length (nm,pa,re,sl,co,si,li) from⟨a1,a2,a3,a4,⟨a5,a6⟩,hr,by simp only;omega,hc,hs,hv⟩)];rfl
      ·rw[if_neg hv,no (fun h=>h.2.2.2.2.2.2.2.2.2) hv];rfl
     ·rw[if_neg hs,no (fun h=>h.2.2.2.2.2.2.2.2.1) hs];rfl
   ·rw[if_neg hc,no (fun h=>h.2.2.2.2.2.2.2.1) hc]
  ·rw[if_neg hr,no (fun h=>h.2.2.2.2.2.1) hr]
 ·rw [no (fun h => ⟨h.1, h.2.1, h.2.2.1, h.2.2.2.1, h.2.2.2.2.1.1, h.2.2.2.2.1.2⟩) hA]
  have:(!nameB nm||(decide ((sl.length:Int)>16)||(!decide (FieldsOK sl)||(decide (pa<0)||(decide (pa>(sl.length:Int))||(decide (re < -1)||decide (re≥(ts.length:Int))))))))=true:=by
   false_or_by_contra
   rename_i h
   apply hA
   simp only[Bool.not_eq_true,Bool.or_eq_false_iff,Bool.not_eq_false',decide_eq_false_iff_not,decide_eq_true_eq] at h
   obtain⟨k1,k2,k3,k4,k5,k6,k7⟩:=h
   exact⟨k1,by omega,k3,by omega,by omega,by omega⟩
  rw[this,bif_l]
noncomputable def fn0:Func:=([],0,0,[],[],[],[])
noncomputable def fnn (l:List Func) (i:Nat):Func:=l.getD i fn0
noncomputable def dupN (l:List Func) (i:Nat):Prop:=∃ j,j<i∧(fnn l j).1=(fnn l i).1
noncomputable def okFn (n:Nat) (l:List Func) (i:Nat):Bool:=decide (FuncOK n (fnn l i)) && !decide (dupN l i)
noncomputable def FineOK (ts:List GType) (xs:List (List UInt8)) (fs:List Func):Prop:=
 TableOK ts∧xs.length≤32∧(1≤fs.length∧fs.length≤32)∧SizesOK ts∧(∀ s,s∈xs→s.length≤64)∧∀ i,i<fs.length→okFn ts.length fs i=true
noncomputable def imgFit (ts:List GType) (xs:List (List UInt8)) (fs:List Func):Prop:=tyFit ts∧xs.length≤50∧(∀ s,s∈xs→s.length≤1000)∧fs.length≤50∧∀ f,f∈fs→fnFit f
theorem hasB_takeN {l:List Func} {i:Nat} (hi:i<l.length):hasB ((l.take i).map (·.1)) (fnn l i).1=decide (dupN l i):=by
 unfold hasB
 by_cases h:dupN l i
 ·rw [decide_eq_true h, List.any_eq_true]
  obtain⟨j,h1,h2⟩:=h
  refine⟨(fnn l j).1,List.mem_map.2 ⟨fnn l j,?_,rfl⟩,decide_eq_true h2.symm⟩
  rw[fnn,List.getD_eq_getElem?_getD,List.getElem?_eq_getElem (by omega)]
  exact List.mem_take_iff_getElem.2 ⟨j,by omega,rfl⟩
 ·rw [decide_eq_false h]
  cases ha:((l.take i).map (·.1)).any fun q=>decide ((fnn l i).1=q) with
  |false=>rfl
  |true=>
   exfalso
   obtain⟨q,h1,h2⟩:=List.any_eq_true.1 ha
   obtain⟨f,h3,rfl⟩:=List.mem_map.1 h1
   obtain⟨j,h4,rfl⟩:=List.mem_take_iff_getElem.1 h3
   refine h ⟨j,by omega,?_⟩
   rw[of_decide_eq_true h2]
   rw[fnn,List.getD_eq_getElem?_getD,List.getElem?_eq_getElem (by omega)];rfl
theorem fnn_get {l:List Func} {i:Nat} (hi:i<l.length):l[i]?=some (fnn l i):=by
 rw[fnn,List.getD_eq_getElem?_getD,List.getElem?_eq_getElem hi];rfl
theorem addB_takeN {l:List Func} {i:Nat} (hi:i<l.length) (h:¬dupN l i):addB ((l.take i).map (·.1)) (fnn l i).1=(l.take (i+1)).map (·.1):=by
 unfold addB
 rw[hasB_takeN hi,decide_eq_false h,take_succ (fnn_get hi),List.map_append]
 rfl
theorem fine_ok {N:Nat} {ts:List GType} {xs:List (List UInt8)} {fs:List Func} (hN:1300<N) (hm:imgFit ts xs fs):F30 N (ts,xs,fs)=some (decide (FineOK ts xs fs)):=by
 obtain⟨m1,m2,m3,m4,m5⟩:=hm
 have no:∀ {p:Prop},(FineOK ts xs fs→p)→¬p→decide (FineOK ts xs fs)=false:=fun h hp=>decF fun h'=>hp (h h')
 have htl:=m1.1
 rw[F30_eq,checkK_ok hN m1]
 simp only[Option.bind_some,bif_tt]
 by_cases hA:TableOK ts∧xs.length≤32∧1≤fs.length∧fs.length≤32
 ·obtain ⟨a1, a2, a3, a4⟩ := hA
  rw[if_pos a1,ne00,decF (show ¬(xs.length:Int)>32 by omega),len_ne0 (show ¬fs.length=0 by omega),decF (show ¬(fs.length:Int)>32 by omega),show (false||(false||(false||false)))=false from rfl,bif_r]
  have key:=loop_rng (n:=ts.length) (a:=(.inr (ts,xs,fs):Bool⊕(List GType×List (List UInt8)×List Func))) (b:=.inl false) (q:=fun i=>!decide ((exn (exs ts) i).1≤256)) (Lf:=fun k i=>f30.L0_6 N k ((ts.length:Int),i,ts,xs,fs)) (fun k _=>by
    simp only[f30.L0_6_succ,ge_dec,bif_r]) (fun k i hi _=>by
    simp only[f30.L0_6_succ,lt_dec hi,bif_l,size_ok hN m1 a1 (show 0≤(i:Int)∧(i:Int)<ts.length by omega),Option.bind_some,wi64_succ (show i<9223372036854775807 by omega)]
    by_cases h:(exn (exs ts) i).1≤256
    ·rw[if_pos h,decT h];rfl
    ·rw[if_neg h,decF h];rfl) (k:=N) (by omega)
  rw[key,ex_not,Option.bind_some]
  by_cases hs:SizesOK ts
  ·rw [if_pos fun i hi => decT (hs i hi)]
   simp only
   have key2:=loop_lst (l:=xs) (a:=(.inr (ts,xs,fs):Bool⊕(List GType×List (List UInt8)×List Func))) (b:=.inl false) (p:=fun s=>!decide (s.length≤64)) (Lf:=fun k i=>f30.L0_18 N k (xs,(xs.length:Int),i,ts,xs,fs)) (fun k _=>by
     simp only[f30.L0_18_succ,ge_dec,bif_r]) (fun k i x hx hm=>by
     simp only[f30.L0_18_succ,lt_dec (len_pos hx),bif_l,idx_get hx,Option.bind_some,wi64_succ (show i<9223372036854775807 by have:=len_pos hx;omega)]
     by_cases h:x.length≤64
     ·rw[decT h,decF (show ¬(x.length:Int)>64 by omega)];rfl
     ·rw[decF h,decT (show (x.length:Int)>64 by omega)];rfl) (k:=N) (by omega)
   rw[key2,ex_notL,Option.bind_some]
   by_cases hx:∀ s,s∈xs→s.length≤64
   ·rw [if_pos fun s h => decT (hx s h)]
    simp only
    have key3:=loop_rng (n:=fs.length) (a:=(.inr ():Bool⊕Unit)) (b:=.inl false) (q:=fun i=>!okFn ts.length fs i) (Lf:=fun k i=>f30.L0_30 N k (fs,(fs.length:Int),i,ts,xs,fs,(fs.take i.toNat).map (·.1))) (fun k _=>by
      simp only[f30.L0_30_succ,ge_dec,bif_r]) (fun k i hi _=>by
      have e:idx fs (i:Int)=some (fnn fs i):=idx_getD _ hi
      simp only[f30.L0_30_succ,lt_dec hi,bif_l,e,Option.bind_some,Int.toNat_natCast,hasB_takeN hi,wi64_succ (show i<9223372036854775807 by omega)]
      have hfk:=function_ok (ts:=ts) hN (m5 _ (getD_mem fn0 hi))
      rw[show fs.getD i fn0=fnn fs i from rfl] at hfk
      rw[hfk,Option.bind_some]
      unfold okFn
      by_cases hd:dupN fs i
      ·rw[decT hd,Bool.not_true,Bool.and_false];rfl
      ·rw [addB_takeN hi hd, decF hd]
       by_cases hk:FuncOK ts.length (fnn fs i)
       ·rw[decT hk];rfl
       ·rw[decF hk];rfl) (k:=N) (by omega)
    rw[show (0:Int).toNat=0 from rfl,List.take_zero,List.map_nil] at key3
    rw[key3,ex_not,Option.bind_some]
    by_cases hf:∀ i,i<fs.length→okFn ts.length fs i=true
    ·rw[if_pos hf,decT (show FineOK ts xs fs from⟨a1,a2,⟨a3,a4⟩,hs,hx,hf⟩)]
    ·rw[if_neg hf,no (fun h=>h.2.2.2.2.2) hf]
   ·rw[if_neg fun h=>hx fun s hs=>of_decide_eq_true (h s hs),no (fun h=>h.2.2.2.2.1) hx]
  ·rw[if_neg fun h=>hs fun i hi=>of_decide_eq_true (h i hi),no (fun h=>h.2.2.2.1) hs]
 ·rw [no (fun h => ⟨h.1, h.2.1, h.2.2.1⟩) hA]
  have:(((if TableOK ts then (0:Int) else 8) != 0)||(decide ((xs.length:Int)>32)||(((fs.length:Int)==0)||decide ((fs.length:Int)>32))))=true:=by
   false_or_by_contra
   rename_i h
   apply hA
   simp only[Bool.not_eq_true,Bool.or_eq_false_iff,decide_eq_false_iff_not,len_dec] at h
   obtain⟨k1,k2,k3,k4⟩:=h
   refine⟨?_,by omega,by omega,by omega⟩
   false_or_by_contra
   rename_i h
   rw[if_neg h] at k1
   cases k1
  rw[this,bif_l]
open Go Go.Eng Go.Sym
open Classical
noncomputable def fieldE (f:Field):List Int:=said f.1++V f.2.toNat
noncomputable def fieldsE (l:List Field):List Int:=V l.length++l.flatMap fieldE
noncomputable def typeE (t:GType):List Int:=
 [t.1]++if t.1=4∨t.1=7 then V t.2.1.toNat else if t.1=6 then V t.2.1.toNat++V t.2.2.1.toNat else if t.1=5 then fieldsE t.2.2.2 else []
noncomputable def funcE (f:Func):List Int:=
 said f.1++(V f.2.1.toNat++(V (zig f.2.2.1)++(fieldsE f.2.2.2.1++(V f.2.2.2.2.1.length++(f.2.2.2.2.1.flatMap encI++(runsE f.2.2.2.2.2.1++runsE f.2.2.2.2.2.2))))))
noncomputable def imageE (ts:List GType) (xs:List (List UInt8)) (fs:List Func):List Int:=
 V ts.length++(ts.flatMap typeE++(V xs.length++(xs.flatMap said++(V fs.length++fs.flatMap funcE))))
theorem varyL_ok {N n:Nat} (hN:20<N) (hn:n≤1000000):F55 N (wu64 (n:Int))=some (V n):=by
 rw[wu64_nat (by omega),vary_ok hN (by omega)]
theorem fieldE_len {f:Field} (h:nameB f.1=true):(fieldE f).length≤40:=by
 have:=nameB_len h;have:=said_len f.1;have:=V_len f.2.toNat
 rw[fieldE,List.length_append];omega
noncomputable def FW (l:List Field):Prop:=l.length≤16∧∀ f,f∈l→nameB f.1=true∧0≤f.2∧f.2≤1000
theorem fields_names {l:List Field} (h:FieldsOK l):∀ f,f∈l→nameB f.1=true:=fun f hf=>by
 obtain⟨i,hi,rfl⟩:=mem_getD ([],0) hf
 have:=h i hi
 unfold okF at this
 rw[Bool.and_eq_true] at this
 exact this.1
theorem fieldsE_len {l:List Field} (h:FW l):(fieldsE l).length≤700:=by
 have:=V_len l.length
 have:=flatMap_len (l:=l) (enc:=fieldE) (m:=40) fun f hf=>fieldE_len (h.2 f hf).1
 have:=h.1
 rw[fieldsE,List.length_append];omega
theorem TypeOK.FW {n i:Nat} {t:GType} (h:TypeOK n i t) (hi:i≤32) (h5:t.1=5):FW t.2.2.2:=by
 have hf:=h.fields
 unfold TypeOK at h
 rw[if_neg (by omega),if_neg (by omega),if_neg (by omega),if_pos h5] at h
 have hn:=fields_names h.2.2.2.1
 exact⟨by omega,fun f hm=>⟨hn f hm,by have:=hf.2.2 f hm;omega⟩⟩
theorem typeE_len {n i:Nat} {t:GType} (h:TypeOK n i t) (hi:i≤32):(typeE t).length≤800:=by
 have:=V_len t.2.1.toNat;have:=V_len t.2.2.1.toNat
 unfold typeE
 rw[List.length_append,List.length_singleton]
 split
 ·omega
 ·split
  ·rw[List.length_append];omega
  ·split
   ·have:=fieldsE_len (h.FW hi ‹_›);omega
   ·simp
theorem FuncOK.FW {n:Nat} {f:Func} (h:FuncOK n f) (hn:n≤32):FW f.2.2.2.1:=
 ⟨h.2.1,fun g hg=>⟨fields_names h.2.2.1 g hg,by have:=h.2.2.2.2.2.1 g hg;omega⟩⟩
theorem funcE_len {n:Nat} {f:Func} (h:FuncOK n f) (hn:n≤32) (hf:fnFit f):(funcE f).length≤30000:=by
 have:=V_len f.2.1.toNat;have:=V_len (zig f.2.2.1);have:=V_len f.2.2.2.2.1.length
 have:=fieldsE_len (h.FW hn)
 have:=said_len f.1;have:=nameB_len h.1
 have h200:=h.2.2.2.2.2.2.1
 have:=flatMap_len (l:=f.2.2.2.2.1) (enc:=encI) (m:=31) fun x _=>encI_len x
 have:=runsE_len f.2.2.2.2.2.1;have:=runsE_len f.2.2.2.2.2.2
 have:=runs_len h.2.2.2.2.2.2.2.2.1;have:=runs_len h.2.2.2.2.2.2.2.2.2
 simp only[funcE,List.length_append];omega
section
variable {N:Nat}
theorem wr_fields (hN:1300<N) {l:List Field} (hl:FW l) {s:List Int} (hs:s.length≤4000000) (a:List GType) (b:List (List UInt8)) (c:List Func) :
  f11.L1015001051000_3 N N (l,(l.length:Int),(0:Int),s,a,b,c)=some (s++l.flatMap fieldE,a,b,c):=by
 have h16:=hl.1
 refine loop_out (l:=l) (enc:=fieldE) (g:=fun s=>(s,a,b,c)) (B:=5000000) (m:=40) (Lf:=fun k i s=>f11.L1015001051000_3 N k (l,(l.length:Int),i,s,a,b,c)) (fun k s=>by
  simp only[f11.L1015001051000_3_succ,ge_dec,bif_r]) (fun k i x s hx hm hB=>?_) (fun x hx=>fieldE_len (hl.2 x hx).1) (by omega) (by omega)
 have hx2:=hl.2 x hm
 have hnl:=nameB_len hx2.1
 have v1:=V_len x.1.length
 have v2:=V_len x.2.toNat
 simp only[f11.L1015001051000_3_succ,lt_dec (len_pos hx),bif_l,idx_get hx,Option.bind_some,varyL_ok (show 20<N by omega) (show x.1.length≤1000000 by omega),varyI_ok (show 20<N by omega) (show 0≤x.2∧x.2≤9223372036854775807 by omega),
  room_small (show s.length+(V x.1.length).length≤10000000 by omega) (show 1≤1000 by omega),room_small (show (s++V x.1.length).length+(bytesL x.1).length≤10000000 by rw[List.length_append,bytesL_len];omega) (show 1≤1000 by omega),room_small (show ((s++V x.1.length)++bytesL x.1).length+(V x.2.toNat).length≤10000000 by rw[List.length_append,List.length_append,bytesL_len];omega) (show 1≤1000 by omega),chk_true,wi64_succ (show i<9223372036854775807 by have:=len_pos hx;omega)]
 simp only[fieldE,said,List.append_assoc]
theorem wr_slots (hN:1300<N) {l:List Field} (hl:FW l) {s:List Int} (hs:s.length≤4000000) (nm:List UInt8) (pa re:Int) (sl:List Field) (co:List Instr) (si li:List Run) :
  f11.L1042001035000_3 N N (l,(l.length:Int),(0:Int),s,nm,pa,re,sl,co,si,li)=some (s++l.flatMap fieldE,nm,pa,re,sl,co,si,li):=by
 have h16:=hl.1
 refine loop_out (l:=l) (enc:=fieldE) (g:=fun s=>(s,nm,pa,re,sl,co,si,li)) (B:=5000000) (m:=40) (Lf:=fun k i s=>f11.L1042001035000_3 N k (l,(l.length:Int),i,s,nm,pa,re,sl,co,si,li)) (fun k s=>by
  simp only[f11.L1042001035000_3_succ,ge_dec,bif_r]) (fun k i x s hx hm hB=>?_) (fun x hx=>fieldE_len (hl.2 x hx).1) (by omega) (by omega)
 have hx2:=hl.2 x hm
 have hnl:=nameB_len hx2.1
 have v1:=V_len x.1.length
 have v2:=V_len x.2.toNat
 simp only[f11.L1042001035000_3_succ,lt_dec (len_pos hx),bif_l,idx_get hx,Option.bind_some,varyL_ok (show 20<N by omega) (show x.1.length≤1000000 by omega),varyI_ok (show 20<N by omega) (show 0≤x.2∧x.2≤9223372036854775807 by omega),
  room_small (show s.length+(V x.1.length).length≤10000000 by omega) (show 1≤1000 by omega),room_small (show (s++V x.1.length).length+(bytesL x.1).length≤10000000 by rw[List.length_append,bytesL_len];omega) (show 1≤1000 by omega),room_small (show ((s++V x.1.length)++bytesL x.1).length+(V x.2.toNat).length≤10000000 by rw[List.length_append,List.length_append,bytesL_len];omega) (show 1≤1000 by omega),chk_true,wi64_succ (show i<9223372036854775807 by have:=len_pos hx;omega)]
 simp only[fieldE,said,List.append_assoc]
noncomputable def TW (ts:List GType):Prop:=ts.length≤32∧∀ t,t∈ts→∃ n i,i≤32∧n≤32∧TypeOK n i t
theorem TableOK.TW {ts:List GType} (h:TableOK ts):TW ts:=⟨h.1,fun t ht=>by
 obtain⟨i,hi,rfl⟩:=mem_getD ty0 ht
 exact⟨ts.length,i,by have:=h.1;omega,h.1,h.2.1 i hi⟩⟩
theorem wr_types (hN:1300<N) {l:List GType} (hl:TW l) {s:List Int} (hs:s.length≤1000000) (a:List GType) (b:List (List UInt8)) (c:List Func) :
  f11.L1015000_3 N N (l,(l.length:Int),(0:Int),s,a,b,c)=some (a,b,c,s++l.flatMap typeE):=by
 have h16:=hl.1
 refine loop_out (l:=l) (enc:=typeE) (g:=fun s=>(a,b,c,s)) (B:=2000000) (m:=800) (Lf:=fun k i s=>f11.L1015000_3 N k (l,(l.length:Int),i,s,a,b,c)) (fun k s=>by
  simp only[f11.L1015000_3_succ,ge_dec,bif_r]) (fun k i t s hx hm hB=>?_) (fun x hx=>by
  obtain⟨n,i,hi,_,ht⟩:=hl.2 x hx
  exact typeE_len ht hi) (by omega) (by omega)
 obtain⟨n,j,hj,hn,ht⟩:=hl.2 t hm
 have v1:=V_len t.2.1.toNat
 have v2:=V_len t.2.2.1.toNat
 have v3:=V_len t.2.2.2.length
 have r0:room (s.length+1) 1=true:=room_small (by omega) (by omega)
 have r1:room ((s++[t.1]).length+(V t.2.1.toNat).length) 1=true:=room_small (by simp only[List.length_append,List.length_singleton];omega) (by omega)
 have r2:room (((s++[t.1])++V t.2.1.toNat).length+(V t.2.2.1.toNat).length) 1=true:=room_small (by simp only[List.length_append,List.length_singleton];omega) (by omega)
 have r3:room ((s++[t.1]).length+(V t.2.2.2.length).length) 1=true:=room_small (by simp only[List.length_append,List.length_singleton];omega) (by omega)
 simp only[f11.L1015000_3_succ,lt_dec (len_pos hx),bif_l,idx_get hx,Option.bind_some,r0,chk_true,wi64_succ (show i<9223372036854775807 by have:=len_pos hx;omega),bif_tt,beq_dec]
 unfold typeE
 by_cases h47:t.1=4∨t.1=7
 ·have hp := ht.ptr h47
  rw[if_pos h47,show (decide (t.1=4)||decide (t.1=7))=true by simpa using h47,bif_l,varyI_ok (by omega) (by omega),Option.bind_some,r1,chk_true,List.append_assoc]
 ·rw [if_neg h47, show (decide (t.1 = 4) || decide (t.1 = 7)) = false by simpa using h47, bif_r]
  by_cases h6:t.1=6
  ·have hp := ht.arr h6
   rw[if_pos h6,decide_eq_true h6,bif_l,varyI_ok (by omega) (by omega),Option.bind_some,r1,chk_true,varyI_ok (by omega) (by omega),Option.bind_some,r2,chk_true,List.append_assoc,List.append_assoc]
  ·rw [if_neg h6, decide_eq_false h6, bif_r]
   by_cases h5:t.1=5
   ·have hw := ht.FW hj h5
    rw[if_pos h5,decide_eq_true h5,bif_l,varyL_ok (by omega) (by have:=hw.1;omega),Option.bind_some,r3,chk_true,wr_fields hN hw (by simp only[List.length_append,List.length_singleton];omega),Option.bind_some,fieldsE,List.append_assoc,List.append_assoc]
   ·rw[if_neg h5,decide_eq_false h5,bif_r,List.append_nil]
noncomputable def XW (xs:List (List UInt8)):Prop:=xs.length≤32∧∀ s,s∈xs→s.length≤64
theorem wr_texts (hN:1300<N) {l:List (List UInt8)} (hl:XW l) {s:List Int} (hs:s.length≤1000000) (a:List GType) (b:List (List UInt8)) (c:List Func) :
  f11.L0_9 N N (l,(l.length:Int),(0:Int),a,b,c,s)=some (a,b,c,s++l.flatMap said):=by
 have h16:=hl.1
 refine loop_out (l:=l) (enc:=said) (g:=fun s=>(a,b,c,s)) (B:=2000000) (m:=100) (Lf:=fun k i s=>f11.L0_9 N k (l,(l.length:Int),i,a,b,c,s)) (fun k s=>by
  simp only[f11.L0_9_succ,ge_dec,bif_r]) (fun k i x s hx hm hB=>?_) (fun x hx=>by have:=said_len x;have:=hl.2 x hx;omega) (by omega) (by omega)
 have h64:=hl.2 x hm
 have v1:=V_len x.length
 simp only[f11.L0_9_succ,lt_dec (len_pos hx),bif_l,idx_get hx,Option.bind_some,varyL_ok (show 20<N by omega) (show x.length≤1000000 by omega),
  room_small (show s.length+(V x.length).length≤10000000 by omega) (show 1≤1000 by omega),room_small (show (s++V x.length).length+(bytesL x).length≤10000000 by rw[List.length_append,bytesL_len];omega) (show 1≤1000 by omega),chk_true,wi64_succ (show i<9223372036854775807 by have:=len_pos hx;omega)]
 simp only[said,List.append_assoc]
noncomputable def CW (l:List Instr):Prop:=l.length≤200∧∀ x,x∈l→chkI x=true∧okI x
theorem wr_code (hN:1300<N) {l:List Instr} (hl:CW l) {s:List Int} (hs:s.length≤4000000) (nm:List UInt8) (pa re:Int) (sl:List Field) (co:List Instr) (si li:List Run) :
  f11.L1042000_8 N N (l,(l.length:Int),(0:Int),s,nm,pa,re,sl,co,si,li)=some (.inr (s++l.flatMap encI,nm,pa,re,sl,co,si,li)):=by
 have h16:=hl.1
 refine loop_out (l:=l) (enc:=encI) (g:=fun s=>(.inr (s,nm,pa,re,sl,co,si,li):(Int×List Int)⊕(List Int×List UInt8×Int×Int×List Field×List Instr×List Run×List Run))) (B:=5000000) (m:=31) (Lf:=fun k i s=>f11.L1042000_8 N k (l,(l.length:Int),i,s,nm,pa,re,sl,co,si,li)) (fun k s=>by
  simp only[f11.L1042000_8_succ,ge_dec,bif_r]) (fun k i x s hx hm hB=>?_) (fun x hx=>encI_len x) (by omega) (by omega)
 have hx2:=hl.2 x hm
 have v1:=encI_len x
 simp only[f11.L1042000_8_succ,lt_dec (len_pos hx),bif_l,idx_get hx,Option.bind_some,encO_ok (N:=N) (by omega) hx2.2 hx2.1,ne00,bif_r,
  room_small (show s.length+(encI x).length≤10000000 by omega) (show 1≤1000 by omega),chk_true,wi64_succ (show i<9223372036854775807 by have:=len_pos hx;omega)]
noncomputable def FnW (l:List Func):Prop:=l.length≤32∧∀ f,f∈l→fnFit f∧i64 f.2.2.1∧∃ n,n≤32∧FuncOK n f
theorem tabs_step {x:List Run} {j:Int} {l2:List (List Run)} (hN:1300<N) {n:Nat} (h1:RunsOK x n) (g1:x.length≤1000) (o1:okR x) {s:List Int} (hs:s.length≤4500000) {co:List Instr} (hc:co.length=n) (hn:1≤n∧n≤200) (nm:List UInt8) (pa re:Int) (sl:List Field) (si li:List Run) (hj:decide (j<2)=true) (hx:idx l2 j=some x) {j2:Int} (hj2:wi64 (j+1)=j2) (k:Nat) :
  f11.L1042000_21 N (k+1) (l2,(2:Int),j,s,nm,pa,re,sl,co,si,li)=f11.L1042000_21 N k (l2,(2:Int),j2,s++runsE x,nm,pa,re,sl,co,si,li):=by
 subst hc
 have e1:=encT_ok (N:=N) (by omega) g1 h1 hn.1 hn.2 o1
 have l1:=runsE_len x
 rw[f11.L1042000_21_succ,hj,bif_l,hx,Option.bind_some,e1,Option.bind_some]
 simp only[ne00,bif_r,room_small (show s.length+(runsE x).length≤10000000 by omega) (show 1≤1000 by omega),chk_true,hj2]
theorem wr_tabs (hN:1300<N) {si li:List Run} {n:Nat} (h1:RunsOK si n) (h2:RunsOK li n) (g1:si.length≤1000) (g2:li.length≤1000) (o1:okR si) (o2:okR li) {s:List Int} (hs:s.length≤4000000) {co:List Instr} (hc:co.length=n) (hn:1≤n∧n≤200) (nm:List UInt8) (pa re:Int) (sl:List Field) :
  f11.L1042000_21 N N ([si,li],(2:Int),(0:Int),s,nm,pa,re,sl,co,si,li)=some (.inr (s++(runsE si++runsE li))):=by
 have l1:=runsE_len si
 have key:∀ k,f11.L1042000_21 N (k+1+1+1) ([si,li],(2:Int),(0:Int),s,nm,pa,re,sl,co,si,li)=some (.inr (s++(runsE si++runsE li))):=fun k=>by
  rw[tabs_step hN h1 g1 o1 (by omega) hc hn nm pa re sl si li rfl rfl (j2:=1) (by decide),tabs_step hN h2 g2 o2 (by rw[List.length_append];omega) hc hn nm pa re sl si li rfl rfl (j2:=2) (by decide),f11.L1042000_21_succ,show decide ((2:Int)<2)=false from rfl,bif_r,List.append_assoc]
 have:=key (N-3)
 rwa[show N-3+1+1+1=N by omega] at this
theorem wr_funcs (hN:1300<N) {l:List Func} (hl:FnW l) {s:List Int} (hs:s.length≤1000000) :
  f11.L0_19 N N (l,(l.length:Int),(0:Int),s)=some (.inr (s++l.flatMap funcE)):=by
 have h16:=hl.1
 refine loop_out (l:=l) (enc:=funcE) (g:=fun s=>(.inr s:Int⊕List Int)) (B:=2500000) (m:=30000) (Lf:=fun k i s=>f11.L0_19 N k (l,(l.length:Int),i,s)) (fun k s=>by
  simp only[f11.L0_19_succ,ge_dec,bif_r]) (fun k i x s hx hm hB=>?_) (fun x hx=>by
  obtain⟨hf,_,n,hn,ho⟩:=hl.2 x hx
  exact funcE_len ho hn hf) (by omega) (by omega)
 obtain⟨⟨g1,g2,g3,g4,g5,g6,g7⟩,h64,n,hn,ho⟩:=hl.2 x hm
 have hw:=ho.FW hn
 have hnl:=nameB_len ho.1
 have hp:=ho.2.2.2.1
 have h200:=ho.2.2.2.2.2.2.1
 have hcw:CW x.2.2.2.2.1:=⟨h200.2,fun y hy=>⟨ho.2.2.2.2.2.2.2.1 y hy,g5 y hy⟩⟩
 have hsl:=hw.1
 have v1:=V_len x.1.length
 have v2:=V_len x.2.1.toNat
 have v3:=V_len (zig x.2.2.1)
 have v4:=V_len x.2.2.2.1.length
 have v5:=V_len x.2.2.2.2.1.length
 have v6:=flatMap_len (l:=x.2.2.2.1) (enc:=fieldE) (m:=40) fun f hf=>fieldE_len (hw.2 f hf).1
 have v7:=flatMap_len (l:=x.2.2.2.2.1) (enc:=encI) (m:=31) fun y _=>encI_len y
 have r1:room (s.length+(V x.1.length).length) 1=true:=room_small (by omega) (by omega)
 have r2:room ((s++V x.1.length).length+(bytesL x.1).length) 1=true:=room_small (by simp only[List.length_append,bytesL_len];omega) (by omega)
 have r3:room (((s++V x.1.length)++bytesL x.1).length+(V x.2.1.toNat).length) 1=true:=room_small (by simp only[List.length_append,bytesL_len];omega) (by omega)
 have r4:room ((((s++V x.1.length)++bytesL x.1)++V x.2.1.toNat).length+(V (zig x.2.2.1)).length) 1=true:=room_small (by simp only[List.length_append,bytesL_len];omega) (by omega)
 have r5:room (((((s++V x.1.length)++bytesL x.1)++V x.2.1.toNat)++V (zig x.2.2.1)).length+(V x.2.2.2.1.length).length) 1=true:=room_small (by simp only[List.length_append,bytesL_len];omega) (by omega)
 simp only[f11.L0_19_succ,lt_dec (len_pos hx),bif_l,idx_get hx,Option.bind_some,varyL_ok (show 20<N by omega) (show x.1.length≤1000000 by omega),varyI_ok (show 20<N by omega) (show 0≤x.2.1∧x.2.1≤9223372036854775807 by omega),signed_ok (show 20<N by omega) h64,varyL_ok (show 20<N by omega) (show x.2.2.2.1.length≤1000000 by omega),r1,r2,r3,r4,r5,chk_true,wi64_succ (show i<9223372036854775807 by have:=len_pos hx;omega)]
 have e1:=wr_slots hN hw (s:=((((s++V x.1.length)++bytesL x.1)++V x.2.1.toNat)++V (zig x.2.2.1))++V x.2.2.2.1.length) (by simp only[List.length_append,bytesL_len];omega) x.1 x.2.1 x.2.2.1 x.2.2.2.1 x.2.2.2.2.1 x.2.2.2.2.2.1 x.2.2.2.2.2.2
 rw[e1,Option.bind_some]
 simp only
 rw[varyL_ok (by omega) (by omega),Option.bind_some,room_small (by simp only[List.length_append,bytesL_len];omega) (by omega),chk_true,wr_code hN hcw (by simp only[List.length_append,bytesL_len];omega),Option.bind_some]
 simp only
 rw[wr_tabs hN ho.2.2.2.2.2.2.2.2.1 ho.2.2.2.2.2.2.2.2.2 g3 g4 g6 g7 (by simp only[List.length_append,bytesL_len];omega) rfl h200,Option.bind_some]
 simp only[funcE,fieldsE,said,List.append_assoc]
end
open Go Go.Eng Go.Sym
open Classical
noncomputable def imgOK (ts:List GType) (xs:List (List UInt8)) (fs:List Func):Prop:=imgFit ts xs fs∧∀ f,f∈fs→i64 f.2.2.1
theorem FineOK.XW {ts:List GType} {xs:List (List UInt8)} {fs:List Func} (h:FineOK ts xs fs):XW xs:=⟨h.2.1,h.2.2.2.2.1⟩
theorem FineOK.func {ts:List GType} {xs:List (List UInt8)} {fs:List Func} (h:FineOK ts xs fs) {i:Nat} (hi:i<fs.length):FuncOK ts.length (fnn fs i):=by
 have:=h.2.2.2.2.2 i hi
 unfold okFn at this
 rw[Bool.and_eq_true,decide_eq_true_eq] at this
 exact this.1
theorem FineOK.FnW {ts:List GType} {xs:List (List UInt8)} {fs:List Func} (h:FineOK ts xs fs) (hm:imgOK ts xs fs):FnW fs:=⟨h.2.2.1.2,fun f hf=>by
 refine⟨hm.1.2.2.2.2 f hf,hm.2 f hf,ts.length,h.1.1,?_⟩
 obtain⟨i,hi,rfl⟩:=mem_getD fn0 hf
 exact h.func hi⟩
noncomputable def chkE (ts:List GType) (xs:List (List UInt8)) (fs:List Func):Int:=if FineOK ts xs fs then (if (imageE ts xs fs).length≤20000 then 0 else 4) else 8
section
variable {N:Nat} {ts:List GType} {xs:List (List UInt8)} {fs:List Func}
theorem flat_lens (h:FineOK ts xs fs) (hm:imgOK ts xs fs):(ts.flatMap typeE).length≤25600∧(xs.flatMap said).length≤3200∧(fs.flatMap funcE).length≤960000:=by
 have hT:=h.1.TW
 have hX:=h.XW
 have hF:=h.FnW hm
 have h1:=flatMap_len (l:=ts) (enc:=typeE) (m:=800) fun x hx=>by
  obtain⟨n,i,hi,_,ht⟩:=hT.2 x hx
  exact typeE_len ht hi
 have h2:=flatMap_len (l:=xs) (enc:=said) (m:=100) fun x hx=>by have:=said_len x;have:=hX.2 x hx;omega
 have h3:=flatMap_len (l:=fs) (enc:=funcE) (m:=30000) fun x hx=>by
  obtain⟨hf,_,n,hn,ho⟩:=hF.2 x hx
  exact funcE_len ho hn hf
 have a1:=hT.1;have a2:=hX.1;have a3:=hF.1
 exact⟨by omega,by omega,by omega⟩
theorem encode_ok (hN:1300<N) (hm:imgOK ts xs fs):F11 N (ts,xs,fs)=some (if chkE ts xs fs=0 then imageE ts xs fs else [],chkE ts xs fs):=by
 rw[F11_eq,fine_ok hN hm.1,Option.bind_some]
 unfold chkE
 by_cases h:FineOK ts xs fs
 ·rw [decT h, Bool.not_true, bif_r, if_pos h]
  obtain⟨b1,b2,b3⟩:=flat_lens h hm
  have c1:=V_len ts.length;have c2:=V_len xs.length;have c3:=V_len fs.length
  have d1:=hm.1.1.1;have d2:=hm.1.2.1;have d3:=hm.1.2.2.2.1
  rw[varyL_ok (by omega) (by omega),Option.bind_some,room_small (by omega) (by omega),chk_true,wr_types hN h.1.TW (by omega),Option.bind_some]
  simp only
  rw[varyL_ok (by omega) (by omega),Option.bind_some,room_small (by simp only[List.length_append];omega) (by omega),chk_true,wr_texts hN h.XW (by simp only[List.length_append];omega),Option.bind_some]
  simp only
  rw[varyL_ok (by omega) (by omega),Option.bind_some,room_small (by simp only[List.length_append];omega) (by omega),chk_true,wr_funcs hN (h.FnW hm) (by simp only[List.length_append];omega),Option.bind_some]
  have e:(((((V ts.length++ts.flatMap typeE)++V xs.length)++xs.flatMap said)++V fs.length)++fs.flatMap funcE)=imageE ts xs fs:=by simp only[imageE,List.append_assoc]
  simp only
  rw[e]
  by_cases hl:(imageE ts xs fs).length≤20000
  ·rw[if_pos hl,decF (show ¬((imageE ts xs fs).length:Int)>20000 by omega),bif_r,if_pos rfl]
  ·rw[if_neg hl,decT (show ((imageE ts xs fs).length:Int)>20000 by omega),bif_l,if_neg (by decide)]
 ·rw[decF h,Bool.not_false,bif_l,if_neg h,if_neg (by decide)]
theorem chk0_fine (h:chkE ts xs fs=0):FineOK ts xs fs∧(imageE ts xs fs).length≤20000:=by
 unfold chkE at h
 split at h
 ·split at h
  ·exact⟨‹_›,‹_›⟩
  ·cases h
 ·cases h
theorem check_ok (hN:1300<N) (hm:imgOK ts xs fs):F17 N (ts,xs,fs)=some (chkE ts xs fs):=by
 rw[F17_eq,encode_ok hN hm,Option.bind_some]
noncomputable def addrOK (fs:List Func) (f i:Int):Prop:=0≤f∧f<fs.length∧0≤i∧i<(fnn fs f.toNat).2.2.2.2.1.length
noncomputable def addrS (ts:List GType) (xs:List (List UInt8)) (fs:List Func) (f i:Int):Int×Int:=
 if chkE ts xs fs=0 then (if addrOK fs f i then (256*(f+1)+i,0) else (0,2)) else (0,chkE ts xs fs)
theorem addr_cond (fs:List Func) (f i:Int):(bif (decide (f<(0:Int))) then some true else (bif (decide (f≥(fs.length:Int))) then some true else (bif (decide (i<(0:Int))) then some true else (Option.bind (idx fs f) fun x1=>some (decide (i≥(x1.2.2.2.2.1.length:Int)))))))=some (!decide (addrOK fs f i)):=by
 by_cases h1:f<0
 ·rw[decT h1,decF (show ¬addrOK fs f i from fun h=>by have:=h.1;omega)];rfl
 ·rw [decF h1, bif_r]
  by_cases h2:f≥(fs.length:Int)
  ·rw[decT h2,decF (show ¬addrOK fs f i from fun h=>by have:=h.2.1;omega)];rfl
  ·rw [decF h2, bif_r]
   by_cases h3:i<0
   ·rw[decT h3,decF (show ¬addrOK fs f i from fun h=>by have:=h.2.2.1;omega)];rfl
   ·obtain ⟨n, rfl⟩ := Int.eq_ofNat_of_zero_le (show 0 ≤ f by omega)
    have e:idx fs ((n:Nat):Int)=some (fnn fs n):=idx_getD _ (by omega)
    rw[decF h3,bif_r,e,Option.bind_some]
    by_cases h4:i≥((fnn fs n).2.2.2.2.1.length:Int)
    ·rw[decT h4,decF (show ¬addrOK fs (n:Int) i from fun h=>by have:=h.2.2.2;rw[Int.toNat_natCast] at this;omega)];rfl
    ·rw[decF h4,decT (show addrOK fs (n:Int) i from⟨by omega,by omega,by omega,by rw[Int.toNat_natCast];omega⟩)];rfl
theorem or_add (a i:Nat) (hi:i<256):256*a ||| i=256*a+i:=by
 have:=Nat.two_pow_add_eq_or_of_lt (i:=8) (b:=i) (by omega) a
 rw[show (256:Nat)=2 ^ 8 from rfl]
 exact this.symm
theorem ior_add {a i:Nat} (ha:a≤1000) (hi:i<256):ior .u64 (((256*a:Nat):Nat):Int) (i:Int)=((256*a+i:Nat):Int):=by
 unfold ior
 have e:(BitVec.ofInt IntKind.u64.bits ((256*a:Nat):Int) ||| BitVec.ofInt IntKind.u64.bits (i:Int)).toNat=256*a+i:=by
  show (BitVec.ofInt 64 ((256*a:Nat):Int) ||| BitVec.ofInt 64 (i:Int)).toNat=_
  rw[BitVec.ofInt_natCast,BitVec.ofInt_natCast,BitVec.toNat_or,BitVec.toNat_ofNat,BitVec.toNat_ofNat,Nat.mod_eq_of_lt (by omega),Nat.mod_eq_of_lt (by omega),or_add a i hi]
 rw[e];exact wu64_in (by omega)
theorem addr_bd (h:FineOK ts xs fs) {f i:Int} (ha:addrOK fs f i):f<32∧i<200:=by
 obtain⟨h1,h2,h3,h4⟩:=ha
 have:=(h.func (i:=f.toNat) (by omega)).2.2.2.2.2.2.1
 have:=h.2.2.1.2
 omega
theorem address_ok (hN:1300<N) (hm:imgOK ts xs fs) (f i:Int):F13 N (ts,xs,fs,f,i)=some (addrS ts xs fs f i):=by
 rw[F13_eq,check_ok hN hm,Option.bind_some]
 unfold addrS
 by_cases hc:chkE ts xs fs=0
 ·rw [hc, ne00, bif_r, if_pos rfl, addr_cond, Option.bind_some]
  by_cases ha:addrOK fs f i
  ·have hb := addr_bd (chk0_fine hc).1 ha
   rw[decT ha,Bool.not_true,bif_r,if_pos ha]
   obtain⟨h1,_,h3,_⟩:=ha
   obtain⟨a,rfl⟩:=Int.eq_ofNat_of_zero_le h1
   obtain⟨b,rfl⟩:=Int.eq_ofNat_of_zero_le h3
   rw[wi64_in (n:=(a:Int)+1) (by omega),wu64_in (n:=(a:Int)+1) (by omega),wu64_in (n:=((a:Int)+1)*256) (by omega),wu64_in (n:=(b:Int)) (by omega),show ((a:Int)+1)*256=((256*(a+1):Nat):Int) by omega,ior_add (by omega) (by omega)]
   congr 2<;>omega
  ·rw[decF ha,Bool.not_false,bif_l,if_neg ha]
 ·rw[show (chkE ts xs fs != 0)=true by simpa using hc,bif_l,if_neg hc]
noncomputable def atOK (fs:List Func) (a:Nat):Prop:=1≤a / 256∧a / 256≤fs.length∧a % 256<(fnn fs (a / 256-1)).2.2.2.2.1.length
noncomputable def findS (ts:List GType) (xs:List (List UInt8)) (fs:List Func) (a:Nat):Int×Int×Int:=
 if chkE ts xs fs=0 then (if atOK fs a then (((a / 256-1:Nat):Int),((a % 256:Nat):Int),0) else (0,0,6)) else (0,0,chkE ts xs fs)
theorem iand255 {a:Nat} (h:a<18446744073709551616):iand .u64 (a:Int) (255:Int)=((a % 256:Nat):Int):=by
 unfold iand
 have e:(BitVec.ofInt IntKind.u64.bits (a:Int) &&& BitVec.ofInt IntKind.u64.bits 255).toNat=a % 256:=by
  show (BitVec.ofInt 64 (a:Int) &&& BitVec.ofInt 64 255).toNat=_
  rw[BitVec.ofInt_natCast,show BitVec.ofInt 64 255=BitVec.ofNat 64 255 from rfl,BitVec.toNat_and,BitVec.toNat_ofNat,BitVec.toNat_ofNat,Nat.mod_eq_of_lt h]
  exact Nat.and_two_pow_sub_one_eq_mod a 8
 rw[e];exact wu64_in (by omega)
theorem find_ok (hN:1300<N) (hm:imgOK ts xs fs) {a:Nat} (ha:a<18446744073709551616):F15 N (ts,xs,fs,(a:Int))=some (findS ts xs fs a):=by
 rw[F15_eq,check_ok hN hm,Option.bind_some]
 unfold findS
 have hfl:=hm.1.2.2.2.1
 by_cases hc:chkE ts xs fs=0
 ·rw [hc, ne00, bif_r, if_pos rfl, show (256 : Int) = ((256 : Nat) : Int) from rfl, fdiv_nat, iand255 ha, wi64_in (n := ((a % 256 : Nat) : Int)) (by omega), wu64_in (n := (fs.length : Int)) (by omega)]
  have hcond:(bif (((a / 256:Nat):Int)==(0:Int)) then some true else (bif (decide (((a / 256:Nat):Int)>(fs.length:Int))) then some true else (Option.bind (idx fs (wu64 (((a / 256:Nat):Int)-(1:Int)))) fun x1=>some (decide (((a % 256:Nat):Int)≥(x1.2.2.2.2.1.length:Int))))))=some (!decide (atOK fs a)):=by
   by_cases h1:a / 256=0
   ·rw[h1,decF (show ¬atOK fs a from fun h=>by have:=h.1;omega)];rfl
   ·rw [show (((a / 256 : Nat) : Int) == (0 : Int)) = false by rw [beq_eq_false_iff_ne]; omega, bif_r]
    by_cases h2:a / 256>fs.length
    ·rw[decT (show ((a / 256:Nat):Int)>(fs.length:Int) by omega),decF (show ¬atOK fs a from fun h=>by have:=h.2.1;omega)];rfl
    ·have e : idx fs (wu64 (((a / 256 : Nat) : Int) - 1)) = some (fnn fs (a / 256 - 1)) := by
      rw[wu64_in (by omega),show ((a / 256:Nat):Int)-1=((a / 256-1:Nat):Int) by omega]
      exact idx_getD _ (by omega)
     rw[decF (show ¬((a / 256:Nat):Int)>(fs.length:Int) by omega),bif_r,e,Option.bind_some]
     by_cases h3:a % 256<(fnn fs (a / 256-1)).2.2.2.2.1.length
     ·rw[decF (show ¬((a % 256:Nat):Int)≥((fnn fs (a / 256-1)).2.2.2.2.1.length:Int) by omega),decT (show atOK fs a from⟨by omega,by omega,h3⟩)];rfl
     ·rw[decT (show ((a % 256:Nat):Int)≥((fnn fs (a / 256-1)).2.2.2.2.1.length:Int) by omega),decF (show ¬atOK fs a from fun h=>h3 h.2.2)];rfl
  rw[hcond,Option.bind_some]
  by_cases hA:atOK fs a
  ·have h1 := hA.1
   rw[decT hA,Bool.not_true,bif_r,if_pos hA,wi64_in (n:=((a / 256:Nat):Int)) (by omega),wi64_in (by omega)]
   congr 2<;>omega
  ·rw[decF hA,Bool.not_false,bif_l,if_neg hA]
 ·rw[show (chkE ts xs fs != 0)=true by simpa using hc,bif_l,if_neg hc]
end
open Go Go.Eng Go.Sym
open Classical
noncomputable def most:Instr:=(1,15,-9223372036854775808,0)
noncomputable def bigF (i:Nat):Func:=([102,UInt8.ofNat (97+i)],0,-1,[],List.replicate 200 most,[(0,0)],[(0,0)])
noncomputable def big (n:Nat):List Func:=(List.range n).map bigF
theorem big_len (n:Nat):(big n).length=n:=by simp[big]
theorem big_mem {n:Nat} {f:Func} (h:f∈big n):∃ i,i<n∧f=bigF i:=by
 obtain⟨i,hi,rfl⟩:=List.mem_map.1 h
 exact⟨i,List.mem_range.1 hi,rfl⟩
theorem big_get {n i:Nat} (h:i<n):fnn (big n) i=bigF i:=by
 simp[fnn,big,List.getD_eq_getElem?_getD,List.getElem?_range h]
theorem big_names:∀ i,i<26→nameB [102,UInt8.ofNat (97+i)]=true:=by decide +kernel
theorem big_other:∀ i,i<26→∀ j,j<i→([102,UInt8.ofNat (97+j)]:List UInt8)≠[102,UInt8.ofNat (97+i)]:=by decide +kernel
theorem most_chk:chkI most=true:=by decide +kernel
theorem run_ok:RunsOK [(0,0)] 200:=⟨by decide,rfl,fun i hi=>absurd hi (by simp),fun i hi=>by
 have:i=0:=by simp at hi;omega
 subst this;decide⟩
theorem bigF_ok {i:Nat} (h:i<26):FuncOK 0 (bigF i):=by
 refine⟨big_names i h,by simp[bigF],fun j hj=>absurd hj (by simp[bigF]),by simp[bigF],by simp[bigF],fun f hf=>absurd hf (by simp[bigF]),by simp only[bigF,List.length_replicate];omega,fun x hx=>?_,?_,?_⟩
 ·rw[(List.mem_replicate.1 hx).2];exact most_chk
 ·simp only[bigF,List.length_replicate];exact run_ok
 ·simp only[bigF,List.length_replicate];exact run_ok
theorem big_fine {n:Nat} (h0:1≤n) (h:n≤26):FineOK [] [] (big n):=by
 refine⟨⟨by decide,?_,?_⟩,by decide,by rw[big_len];omega,fun i hi=>absurd hi (by simp),fun s hs=>absurd hs (by simp),fun i hi=>?_⟩
 ·simp[AllT]
 ·decide +kernel
 ·rw [big_len] at hi
  unfold okFn
  rw[big_get hi,Bool.and_eq_true,decide_eq_true_eq,Bool.not_eq_true',decide_eq_false_iff_not]
  refine⟨bigF_ok (by omega),?_⟩
  rintro⟨j,hj,he⟩
  rw[big_get hi,big_get (show j<n by omega)] at he
  exact big_other i (by omega) j hj he
theorem big_img {n:Nat} (h:n≤26):imgOK [] [] (big n):=by
 refine⟨⟨⟨by decide,fun i hi=>absurd hi (by simp)⟩,by decide,fun s hs=>absurd hs (by simp),by rw[big_len];omega,fun f hf=>?_⟩,fun f hf=>?_⟩
 ·obtain ⟨i, hi, rfl⟩ := big_mem hf
  refine⟨by simp[bigF],by simp only[bigF,List.length_replicate];omega,by simp[bigF],by simp[bigF],fun x hx=>?_,fun x hx=>?_,fun x hx=>?_⟩
  ·rw[(List.mem_replicate.1 hx).2];simp only[okI,most,i64];omega
  ·simp only[bigF,List.mem_singleton] at hx;subst hx;simp
  ·simp only[bigF,List.mem_singleton] at hx;subst hx;simp
 ·obtain ⟨i, hi, rfl⟩ := big_mem hf
  exact (by unfold i64;omega:i64 (-1))
theorem flat_const {α β : Type} {m:Nat} {enc : α→List β} : ∀ {l:List α},(∀ x,x∈l→(enc x).length=m)→(l.flatMap enc).length=l.length*m
 |[],_=>by simp
 |x :: l,h=>by
  rw[List.flatMap_cons,List.length_append,h x (List.mem_cons_self ..),flat_const fun y hy=>h y (List.mem_cons_of_mem _ hy),List.length_cons,Nat.succ_mul];omega
theorem code_len:((List.replicate 200 most).flatMap encI).length=2400:=by
 rw[flat_const (m:=12) fun x hx=>by rw[(List.mem_replicate.1 hx).2];decide +kernel,List.length_replicate]
theorem run_len:(runsE [(0,0)]).length=3:=by decide +kernel
theorem big_funcE {i:Nat} : (funcE (bigF i)).length=2414:=by
 have h1:(said [102,UInt8.ofNat (97+i)]).length=3:=by rw[said,List.length_append,bytesL,List.length_map];exact (by decide +kernel:(V 2).length+2=3)
 have h2:(V 0).length=1:=by decide +kernel
 have h3:(V (zig (-1))).length=1:=by decide +kernel
 have h4:(fieldsE []).length=1:=by decide +kernel
 have h5:(V 200).length=2:=by decide +kernel
 simp only[funcE,bigF,List.length_append,List.length_replicate,code_len,run_len,h1,h3,h4,h5,Int.toNat_zero,h2]
theorem big_size (n:Nat):(imageE [] [] (big n)).length=2+(V n).length+n*2414:=by
 have h2:(V 0).length=1:=by decide +kernel
 simp only[imageE,List.length_append,List.flatMap_nil,List.length_nil,big_len,h2]
 rw[flat_const (m:=2414) fun x hx=>by obtain⟨i,_,rfl⟩:=big_mem hx;exact big_funcE,big_len]
 omega
theorem chk_8:chkE [] [] (big 8)=0:=by
 have h:(V 8).length=1:=by decide +kernel
 unfold chkE
 rw[if_pos (big_fine (by omega) (by omega)),if_pos (by rw[big_size,h];omega)]
theorem chk_9:chkE [] [] (big 9)=4:=by
 unfold chkE
 rw[if_pos (big_fine (by omega) (by omega)),if_neg (by rw[big_size];omega)]
theorem check_8 {N:Nat} (hN:1300<N):F17 N ([],[],big 8)=some 0:=by
 rw[check_ok hN (big_img (by omega)),chk_8]
theorem refused_9 {N:Nat} (hN:1300<N):F24 N ([],[],big 9,4)=some true:=by
 have hm:imgOK [] [] (big 9):=big_img (by omega)
 have ha:addrS [] [] (big 9) (-1) (-1)=(0,4):=by unfold addrS;rw[chk_9,if_neg (by decide)]
 have hf:findS [] [] (big 9) 0=(0,0,4):=by unfold findS;rw[chk_9,if_neg (by decide)]
 rw[F24_eq,encode_ok hN hm,Option.bind_some,address_ok hN hm,Option.bind_some,show (0:Int)=((0:Nat):Int) from rfl,find_ok hN hm (by omega),Option.bind_some,check_ok hN hm,Option.bind_some,chk_9,ha,hf]
 rfl
theorem rep_succ {α : Type} (i:Nat) (x : α):List.replicate i x++[x]=List.replicate (i+1) x:=by rw[←List.replicate_succ']
theorem code_loop {N:Nat} {v7 v8 v10 v11 v12 v13:Int} {v14:List Func} {v15:List UInt8} {v16 v17:Int} {v19 v20:List Run} : ∀ (k i:Nat),i≤200→200-i<k→
  f27.L0_11 N k (v7,v8,(i:Int),v10,v11,v12,v13,v14,v15,v16,v17,List.replicate i (v10,v11,v12,v13),v19,v20)=some (v7,v8,v10,v11,v12,v13,v14,v15,v16,v17,List.replicate 200 (v10,v11,v12,v13),v19,v20)
 |0,i,_,h=>by omega
 | k + 1, i, h0, h => by
  rw[f27.L0_11_succ]
  by_cases hi:i<200
  ·rw [decT (show (i : Int) < 200 by omega), bif_l, List.length_replicate, room_small (by omega) (by omega), chk_true, wi64_succ (by omega), rep_succ]
   exact code_loop k (i+1) (by omega) (by omega)
  ·have : i = 200 := by omega
   subst this
   rw[decF (show ¬((200:Nat):Int)<200 by omega),bif_r]
theorem chk_of {α : Type} {b:Bool} (h:b=true) (k:Option α):chk b k=k:=by subst h;rfl
theorem big_succ (n:Nat):big n++[bigF n]=big (n+1):=by simp[big,List.range_succ]
theorem large_loop {N n:Nat} (hN:200<N) (hn:n≤26):∀ (k i:Nat),i≤n→n-i<k→
  f27.L0_4 N k ((n:Int),(i:Int),1,15,-9223372036854775808,0,big i)=some (big n)
 |0,i,_,h=>by omega
 | k + 1, i, h0, h => by
  rw[f27.L0_4_succ]
  by_cases hi:i<n
  ·have e : ([102] ++ ([(wu8 (wi64 ((97 : Int) + (i : Int))))].map fun (n : Int) => UInt8.ofNat n.toNat) : List UInt8) = [102, UInt8.ofNat (97 + i)] := by
    rw[wi64_in (n:=(97:Int)+(i:Int)) (by omega),show (97:Int)+(i:Int)=((97+i:Nat):Int) by omega,wu8_in (by omega)];rfl
   rw[decT (show (i:Int)<(n:Int) by omega),bif_l,e]
   refine (chk_of ?_ _).trans ?_
   ·rfl
   have hc:f27.L0_11 N N ((n:Int),(i:Int),0,1,15,-9223372036854775808,0,big i,[102,UInt8.ofNat (97+i)],0,-1,[],[(0,0)],[(0,0)]) =
     some ((n:Int),(i:Int),1,15,-9223372036854775808,0,big i,[102,UInt8.ofNat (97+i)],0,-1,List.replicate 200 most,[(0,0)],[(0,0)]):=code_loop N 0 (by omega) (by omega)
   rw[hc,Option.bind_some]
   simp only
   rw[big_len,room_small (by omega) (by omega),chk_true,wi64_succ (by omega)]
   have:=large_loop hN hn k (i+1) (by omega) (by omega)
   rw[←big_succ] at this
   exact this
  ·have : i = n := by omega
   subst this
   rw[decF (show ¬(i:Int)<(i:Int) by omega),bif_r]
theorem large_ok {N n:Nat} (hN:200<N) (hn:n≤26):F27 N ((n:Int),1,15,-9223372036854775808,0)=some ([],[],big n):=by
 rw[F27_eq]
 have:=large_loop hN hn N 0 (by omega) (by omega)
 rw[show f27.L0_4 N N ((n:Int),(0:Int),1,15,-9223372036854775808,0,[])=some (big n) from this,Option.bind_some]
end Go.Proofs.Ytlfhlggkbcncoaa
