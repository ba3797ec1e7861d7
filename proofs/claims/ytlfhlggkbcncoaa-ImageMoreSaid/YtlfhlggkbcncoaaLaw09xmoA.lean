/- The plain law, in one text. -/
import Derived.Test.YtlfhlggkbcncoaaGen09xmo
import Derived.Test.YtlfhlggkbcncoaaPlain
import Derived.Test.YtlfhlggkbcncoaaPlain2
import Derived.Test.YtlfhlggkbcncoaaSymO
namespace Go.Proofs.Ytlfhlggkbcncoaa
set_option linter.unusedSimpArgs false
set_option linter.unusedVariables false
open Go Go.Eng Go.Sym
open Go Go.Eng Go.Sym
theorem bif_tt (a b:Bool):(bif a then some true else some b:Option Bool)=some (a||b):=by cases a<;>rfl
theorem bif_ff (a b:Bool):(bif a then some b else some false:Option Bool)=some (a&&b):=by cases a<;>rfl
theorem bif_ss {α : Type} (c:Bool) (a b : α):(bif c then some a else some b)=some (bif c then a else b):=by cases c<;>rfl
theorem bind_id {α : Type} (o:Option α):(Option.bind o fun x=>some x)=o:=by cases o<;>rfl
theorem bif_l {α : Type} (a b : α):(bif true then a else b)=a:=rfl
theorem bif_r {α : Type} (a b : α):(bif false then a else b)=b:=rfl
noncomputable def U (c:UInt8):Int×Int×Bool×Bool:=
  if c=119 then (0,15,false,true) else if c=114 then (0,15,true,false) else if c=110 then (-9223372036854775808,9223372036854775807,false,false)
  else if c=116 then (0,31,false,false) else if c=99 then (0,31,false,false) else if c=98 then (0,1,false,false) else if c=102 then (0,7,false,false)
  else if c=105 then (0,199,false,false) else if c=103 then (-1,15,false,true) else if c=101 then (-1,15,true,false) else (0,0,false,false)
noncomputable def kindOK (c:UInt8):Bool:=[119,114,110,116,99,98,102,105,103,101,45].contains c
noncomputable def shp (op:Int):Option (UInt8×UInt8×UInt8):=
  match F65 0 op with
  |some [a,b,c]=>some (a,b,c)
  |_=>none
theorem shp_def (op:Int):shp op=(match F65 0 op with
  |some [a,b,c]=>some (a,b,c)
  |_=>none):=by kernel_rfl
noncomputable def opsN (s:Option (UInt8×UInt8×UInt8)):Int:=
  match s with
  |none=>-1
  |some (_,b,c)=>if c≠45 then 3 else if b≠45 then 2 else 1
theorem ops_cases (p0:Int):(1≤p0∧p0≤34)∨∀ k:Int,1≤k→k≤34→(p0==k)=false:=by
  by_cases h:1≤p0∧p0≤34
  · exact .inl h
  · exact .inr fun k h1 h2=>by simp;omega
theorem shape06_out {N:Nat} {p0:Int} (ne:∀ k:Int,1≤k→k≤34→(p0==k)=false):F65 N p0=some []:=by
  simp only[F65_eq,ne 1 (by decide) (by decide),ne 2 (by decide) (by decide),ne 3 (by decide) (by decide),ne 4 (by decide) (by decide),ne 5 (by decide) (by decide),ne 6 (by decide) (by decide),ne 7 (by decide) (by decide),ne 8 (by decide) (by decide),ne 9 (by decide) (by decide),ne 10 (by decide) (by decide),ne 11 (by decide) (by decide),ne 12 (by decide) (by decide),ne 13 (by decide) (by decide),ne 14 (by decide) (by decide),ne 15 (by decide) (by decide),ne 16 (by decide) (by decide),ne 17 (by decide) (by decide),ne 18 (by decide) (by decide),ne 19 (by decide) (by decide),ne 20 (by decide) (by decide),ne 21 (by decide) (by decide),ne 22 (by decide) (by decide),ne 23 (by decide) (by decide),ne 24 (by decide) (by decide),ne 25 (by decide) (by decide),ne 26 (by decide) (by decide),ne 27 (by decide) (by decide),ne 28 (by decide) (by decide),ne 29 (by decide) (by decide),ne 30 (by decide) (by decide),ne 31 (by decide) (by decide),ne 32 (by decide) (by decide),ne 33 (by decide) (by decide),ne 34 (by decide) (by decide),bif_r,bif_tt,Bool.or_false,Option.bind_some]
theorem shapeO_out {N:Nat} {p0:Int} (ne:∀ k:Int,1≤k→k≤34→(p0==k)=false):F83 N p0=some ((0:Int),(0:Int),false,false,(0:Int),(0:Int),false,false,(0:Int),(0:Int),false,false,(-1:Int)):=by
  simp only[F83_eq,ne 1 (by decide) (by decide),ne 2 (by decide) (by decide),ne 3 (by decide) (by decide),ne 4 (by decide) (by decide),ne 5 (by decide) (by decide),ne 6 (by decide) (by decide),ne 7 (by decide) (by decide),ne 8 (by decide) (by decide),ne 9 (by decide) (by decide),ne 10 (by decide) (by decide),ne 11 (by decide) (by decide),ne 12 (by decide) (by decide),ne 13 (by decide) (by decide),ne 14 (by decide) (by decide),ne 15 (by decide) (by decide),ne 16 (by decide) (by decide),ne 17 (by decide) (by decide),ne 18 (by decide) (by decide),ne 19 (by decide) (by decide),ne 20 (by decide) (by decide),ne 21 (by decide) (by decide),ne 22 (by decide) (by decide),ne 23 (by decide) (by decide),ne 24 (by decide) (by decide),ne 25 (by decide) (by decide),ne 26 (by decide) (by decide),ne 27 (by decide) (by decide),ne 28 (by decide) (by decide),ne 29 (by decide) (by decide),ne 30 (by decide) (by decide),ne 31 (by decide) (by decide),ne 32 (by decide) (by decide),ne 33 (by decide) (by decide),ne 34 (by decide) (by decide),bif_r,bif_tt,Bool.or_false,Option.bind_some]
theorem shp_out {p0:Int} (ne:∀ k:Int,1≤k→k≤34→(p0==k)=false):shp p0=none:=by
  rw[shp_def,shape06_out ne]
theorem shape06_shp (N:Nat) (p0:Int):F65 N p0=some (match shp p0 with
    |some (a,b,c)=>[a,b,c]
    |none=>[]):=by
  rcases ops_cases p0 with h|ne
  · have : p0 = 1 ∨ p0 = 2 ∨ p0 = 3 ∨ p0 = 4 ∨ p0 = 5 ∨ p0 = 6 ∨ p0 = 7 ∨ p0 = 8 ∨ p0 = 9 ∨ p0 = 10 ∨ p0 = 11 ∨ p0 = 12 ∨ p0 = 13 ∨ p0 = 14 ∨ p0 = 15 ∨ p0 = 16 ∨ p0 = 17 ∨ p0 = 18 ∨ p0 = 19 ∨ p0 = 20 ∨ p0 = 21 ∨ p0 = 22 ∨ p0 = 23 ∨ p0 = 24 ∨ p0 = 25 ∨ p0 = 26 ∨ p0 = 27 ∨ p0 = 28 ∨ p0 = 29 ∨ p0 = 30 ∨ p0 = 31 ∨ p0 = 32 ∨ p0 = 33 ∨ p0 = 34 := by omega
    rcases this with rfl|rfl|rfl|rfl|rfl|rfl|rfl|rfl|rfl|rfl|rfl|rfl|rfl|rfl|rfl|rfl|rfl|rfl|rfl|rfl|rfl|rfl|rfl|rfl|rfl|rfl|rfl|rfl|rfl|rfl|rfl|rfl|rfl|rfl<;>(simp only[shp_def,F65_eq];rfl)
  · rw[shape06_out ne,shp_out ne]
theorem shp_ok {p0:Int} {a b c:UInt8} (h:shp p0=some (a,b,c)):kindOK a=true∧kindOK b=true∧kindOK c=true:=by
  rcases ops_cases p0 with h'|ne
  · have : p0 = 1 ∨ p0 = 2 ∨ p0 = 3 ∨ p0 = 4 ∨ p0 = 5 ∨ p0 = 6 ∨ p0 = 7 ∨ p0 = 8 ∨ p0 = 9 ∨ p0 = 10 ∨ p0 = 11 ∨ p0 = 12 ∨ p0 = 13 ∨ p0 = 14 ∨ p0 = 15 ∨ p0 = 16 ∨ p0 = 17 ∨ p0 = 18 ∨ p0 = 19 ∨ p0 = 20 ∨ p0 = 21 ∨ p0 = 22 ∨ p0 = 23 ∨ p0 = 24 ∨ p0 = 25 ∨ p0 = 26 ∨ p0 = 27 ∨ p0 = 28 ∨ p0 = 29 ∨ p0 = 30 ∨ p0 = 31 ∨ p0 = 32 ∨ p0 = 33 ∨ p0 = 34 := by omega
    rcases this with rfl|rfl|rfl|rfl|rfl|rfl|rfl|rfl|rfl|rfl|rfl|rfl|rfl|rfl|rfl|rfl|rfl|rfl|rfl|rfl|rfl|rfl|rfl|rfl|rfl|rfl|rfl|rfl|rfl|rfl|rfl|rfl|rfl|rfl<;>(simp only[shp_def,F65_eq] at h;injection h with h;injection h with h1 h2;injection h2 with h2 h3;subst h1 h2 h3;exact⟨by decide,by decide,by decide⟩)
  · rw[shp_out ne] at h;cases h
theorem shapeO_shp (N:Nat) (p0:Int):∃ n,F83 N p0=some (match shp p0 with
    |some (a,b,c)=>((U a).1,(U a).2.1,(U a).2.2.1,(U a).2.2.2,(U b).1,(U b).2.1,(U b).2.2.1,(U b).2.2.2,(U c).1,(U c).2.1,(U c).2.2.1,(U c).2.2.2,n)
    |none=>((0:Int),(0:Int),false,false,(0:Int),(0:Int),false,false,(0:Int),(0:Int),false,false,(-1:Int)))∧0≤n:=by
  rcases ops_cases p0 with h|ne
  · have : p0 = 1 ∨ p0 = 2 ∨ p0 = 3 ∨ p0 = 4 ∨ p0 = 5 ∨ p0 = 6 ∨ p0 = 7 ∨ p0 = 8 ∨ p0 = 9 ∨ p0 = 10 ∨ p0 = 11 ∨ p0 = 12 ∨ p0 = 13 ∨ p0 = 14 ∨ p0 = 15 ∨ p0 = 16 ∨ p0 = 17 ∨ p0 = 18 ∨ p0 = 19 ∨ p0 = 20 ∨ p0 = 21 ∨ p0 = 22 ∨ p0 = 23 ∨ p0 = 24 ∨ p0 = 25 ∨ p0 = 26 ∨ p0 = 27 ∨ p0 = 28 ∨ p0 = 29 ∨ p0 = 30 ∨ p0 = 31 ∨ p0 = 32 ∨ p0 = 33 ∨ p0 = 34 := by omega
    rcases this with rfl|rfl|rfl|rfl|rfl|rfl|rfl|rfl|rfl|rfl|rfl|rfl|rfl|rfl|rfl|rfl|rfl|rfl|rfl|rfl|rfl|rfl|rfl|rfl|rfl|rfl|rfl|rfl|rfl|rfl|rfl|rfl|rfl|rfl<;>(simp only[shp_def,F65_eq,F83_eq,F106_eq,F107_eq,F108_eq,F109_eq,Option.bind_some];exact⟨_,rfl,by decide⟩)
  · exact⟨0,by rw[shapeO_out ne,shp_out ne],by decide⟩
noncomputable def i64 (v:Int):Prop:=-9223372036854775808≤v∧v≤9223372036854775807
noncomputable def fits (c:UInt8) (v:Int):Bool:=decide ((U c).1≤v)&&decide (v≤(U c).2.1)
noncomputable def chkI (x:Instr):Bool:=
  match shp x.1 with
  |some (a,b,c)=>fits a x.2.1&&(fits b x.2.2.1&&fits c x.2.2.2)
  |none=>false
noncomputable def okI (x:Instr):Prop:=i64 x.2.1∧i64 x.2.2.1∧i64 x.2.2.2
theorem nfits (c:UInt8) (v:Int):(decide (v<(U c).1)||decide (v>(U c).2.1)) = !fits c v:=by
  unfold fits
  by_cases h1:v<(U c).1
  · simp[h1,show ¬(U c).1≤v by omega]
  · by_cases h2 : v > (U c).2.1
    · simp[h2,show ¬v≤(U c).2.1 by omega]
    · simp[h1,h2,show (U c).1≤v by omega,show v≤(U c).2.1 by omega]
theorem bif_bif {α : Type} (a b:Bool) (x y : α):(bif a then (bif b then x else y) else y)=bif a&&b then x else y:=by cases a<;>rfl
theorem bif_swap {α : Type} (a:Bool) (x y : α):(bif !a then x else y)=bif a then y else x:=by cases a<;>rfl
theorem checkO_ok (N:Nat) (x:Instr):F80 N (x.1,x.2.1,x.2.2.1,x.2.2.2)=some (bif chkI x then 0 else 8):=by
  obtain⟨n,h,hn⟩:=shapeO_shp N x.1
  rw[F80_eq,h,Option.bind_some]
  unfold chkI
  cases shp x.1 with
  |none=>rfl
  | some s =>
    obtain⟨a,b,c⟩:=s
    simp only[F84_eq,Option.bind_some,show decide (n<0)=false by simp;omega,bif_r,bif_tt,nfits]
    cases fits a x.2.1<;>cases fits b x.2.2.1<;>cases fits c x.2.2.2<;>rfl
theorem and_lt (v:Int) (lo n:Int):(decide (v≥lo)&&decide (v<n))=(decide (lo≤v)&&decide (v≤n-1)):=by
  congr 1;simp only[decide_eq_decide];omega
theorem fits06_ok {N:Nat} {c:UInt8} {v:Int} (hc:kindOK c=true) (hv:i64 v):F113 N ((c.toNat:Int),v)=some (fits c v):=by
  have h:c=119∨c=114∨c=110∨c=116∨c=99∨c=98∨c=102∨c=105∨c=103∨c=101∨c=45:=by simpa[kindOK] using hc
  rw[F113_eq]
  simp only[bif_ff,bif_tt,bind_id,Option.bind_some,and_lt]
  rcases h with rfl|rfl|rfl|rfl|rfl|rfl|rfl|rfl|rfl|rfl|rfl
  all_goals first
    |rfl
    |(simp[fits,U,hv.1,hv.2];done)
    | (show some (v == 0) = some (decide (0 ≤ v) && decide (v ≤ 0))
       by_cases h:v=0
       · subst h;rfl
       · rw [show (v == 0) = false by simpa using h]
         by_cases h1:0≤v
         · simp[show ¬v≤0 by omega]
         · simp[h1])
theorem check06_ok (N:Nat) {x:Instr} (hx:okI x):F90 N (x.1,x.2.1,x.2.2.1,x.2.2.2)=some (bif chkI x then 0 else 8):=by
  rw[F90_eq,shape06_shp,Option.bind_some,F66_eq,Option.bind_some]
  unfold chkI
  cases h:shp x.1 with
  |none=>rfl
  | some s =>
    obtain⟨a,b,c⟩:=s
    obtain⟨h1,h2,h3⟩:=shp_ok h
    have e0:idx [a,b,c] 0=some a:=rfl
    have e1:idx [a,b,c] 1=some b:=rfl
    have e2:idx [a,b,c] 2=some c:=rfl
    simp only[show ((([a,b,c]:List UInt8).length:Int) != 3)=false from rfl,bif_r,e0,e1,e2,Option.bind_some,fits06_ok h1 hx.1,fits06_ok h2 hx.2.1,fits06_ok h3 hx.2.2,bif_swap]
    cases fits a x.2.1<;>cases fits b x.2.2.1<;>cases fits c x.2.2.2<;>rfl
open Go Go.Eng Go.Sym
theorem vary_loop (N:Nat):∀ (j k n:Nat) (pre:List Int),n<128 ^ (j+1)→j<k→pre.length+j≤1000→∃ (m:Nat) (l:List Int),f55.L0_100004 N k ((n:Int),pre)=some ((m:Int),pre++l)∧vary j n=l++[(m:Int)]∧m<128∧l.length≤j
  |j,0,n,pre,_,h,_=>by omega
  | 0, k + 1, n, pre, hn, _, _ => by
    refine⟨n,[],?_,rfl,by omega,by simp⟩
    rw[f55.L0_100004_succ,decide_eq_false (by omega),bif_r,List.append_nil]
  | j + 1, k + 1, n, pre, hn, hk, hp => by
    rw[f55.L0_100004_succ]
    by_cases h:n<128
    · refine ⟨n, [], ?_, by rw [vary, if_pos h]; rfl, h, by simp⟩
      rw[decide_eq_false (by omega),bif_r,List.append_nil]
    · obtain ⟨m, l, h1, h2, h3, h4⟩ := vary_loop N j k (n / 128) (pre ++ [((n % 128 + 128 : Nat) : Int)]) (by rw [Nat.pow_succ] at hn; omega) (by omega) (by simp; omega)
      refine⟨m,((n % 128+128:Nat):Int) :: l,?_,by rw[vary,if_neg h,h2];rfl,h3,by simp;omega⟩
      rw[decide_eq_true (by omega),bif_l,room_small (by omega) (by omega),chk_true,wu8_nat,ior128 _ (Nat.mod_lt _ (by omega)),show (128:Int)=((128:Nat):Int) from rfl,fdiv_nat,show n % 256 % 128=n % 128 by omega,h1,List.append_assoc]
      rfl
theorem vary_ok {N n:Nat} (hN:20<N) (hn:n<18446744073709551616):F55 N (n:Int)=some (V n):=by
  rw[F55_eq]
  unfold V
  by_cases h:n<128
  · rw[decide_eq_false (by omega),bif_r,room_small (by omega) (by omega),chk_true,vary,if_pos h,wu8_nat,Nat.mod_eq_of_lt (by omega)]
  · rw [decide_eq_true (by omega), bif_l, room_small (by omega) (by omega), chk_true]
    obtain⟨m,l,h1,h2,h3,h4⟩:=vary_loop N 8 N (n / 128) [((n % 128+128:Nat):Int)] (by omega) (by omega) (by simp)
    rw[wu8_nat,ior128 _ (Nat.mod_lt _ (by omega)),show (128:Int)=((128:Nat):Int) from rfl,fdiv_nat,show n % 256 % 128=n % 128 by omega,h1,Option.bind_some,room_small (by simp;omega) (by omega),chk_true,vary,if_neg h,h2,wu8_nat,show m % 256=m by omega]
    rfl
theorem minimal_loop (N : Nat) : ∀ (j k n : Nat) (pre : List Int), n < 128 ^ (j + 1) → n < 18446744073709551616 → j < k → pre.length + j ≤ 1000 → ∃ (m : Nat) (l : List Int), f43.L0_3 N k ((n : Int), pre) = some ((m : Int), pre ++ l) ∧ vary j n = l ++ [(m : Int)] ∧ m < 128 ∧ l.length ≤ j
  |j,0,n,pre,_,_,h,_=>by omega
  | 0, k + 1, n, pre, hn, _, _, _ => by
    refine⟨n,[],?_,rfl,by omega,by simp⟩
    rw[f43.L0_3_succ,decide_eq_false (by omega),bif_r,List.append_nil]
  | j + 1, k + 1, n, pre, hn, h64, hk, hp => by
    rw[f43.L0_3_succ]
    by_cases h:n<128
    · refine ⟨n, [], ?_, by rw [vary, if_pos h]; rfl, h, by simp⟩
      rw[decide_eq_false (by omega),bif_r,List.append_nil]
    · obtain ⟨m, l, h1, h2, h3, h4⟩ := minimal_loop N j k (n / 128) (pre ++ [((n % 128 + 128 : Nat) : Int)]) (by rw [Nat.pow_succ] at hn; omega) (by omega) (by omega) (by simp; omega)
      refine⟨m,((n % 128+128:Nat):Int) :: l,?_,by rw[vary,if_neg h,h2];rfl,h3,by simp;omega⟩
      have e:wu8 ((wu8 (Int.tmod (n:Int) (128:Int)))+(128:Int))=((n % 128+128:Nat):Int):=by
        rw[show (128:Int)=((128:Nat):Int) from rfl,tmod_nat,wu8_nat,show ((n % 128 % 256:Nat):Int)+((128:Nat):Int)=((n % 128+128:Nat):Int) by omega,wu8_nat]
        omega
      rw[decide_eq_true (by omega),bif_l,room_small (by omega) (by omega),chk_true,e,show (128:Int)=((128:Nat):Int) from rfl,tdiv_nat,wu64_nat (by omega),h1,List.append_assoc]
      rfl
theorem minimal_ok {N n:Nat} (hN:20<N) (hn:n<18446744073709551616):F43 N (n:Int)=some (V n):=by
  rw[F43_eq]
  unfold V
  obtain⟨m,l,h1,h2,h3,h4⟩:=minimal_loop N 9 N n [] (by omega) hn (by omega) (by simp)
  rw[h1,Option.bind_some,room_small (by simp;omega) (by omega),chk_true,h2,wu8_nat,show m % 256=m by omega]
  rfl
theorem number_ok {N n:Nat} (hN:20<N) (hn:n<18446744073709551616):F40 N (n:Int)=some (V n):=by
  rw[F40_eq,wu64_nat hn,minimal_ok hN hn];rfl
noncomputable def said (s:List UInt8):List Int:=V s.length++bytesL s
theorem said_len (s:List UInt8):(said s).length≤10+s.length:=by
  have:=V_len s.length
  rw[said,List.length_append,bytesL_len];omega
theorem said_ok {N:Nat} {s:List UInt8} (hN:20<N) (hs:s.length≤1000000):F42 N s=some (said s):=by
  have:=V_len s.length
  rw[F42_eq,wu64_nat (by omega),minimal_ok hN (by omega),Option.bind_some,room_small (by rw[bytesL_len];omega) (by omega),chk_true];rfl
theorem wrap_u64 (n:Int):IntKind.u64.wrap n=n % 18446744073709551616:=rfl
theorem zig_bits {n:Int} (h : -9223372036854775808≤n∧n≤9223372036854775807):ixor .u64 (wu64 ((wu64 n)*2)) (wu64 (Int.fdiv n 9223372036854775808))=(zig n:Int):=by
  unfold zig
  by_cases h0:0≤n
  · rw [if_pos h0, wu64_in (n := n) (by omega), Int.fdiv_eq_ediv_of_nonneg _ (by omega), Int.ediv_eq_zero_of_lt h0 (by omega), wu64_in (n := n * 2) (by omega), wu64_in (n := 0) (by omega)]
    have e:n*2=(((2*n).toNat:Nat):Int):=by omega
    rw[e]
    unfold ixor
    have e2:(BitVec.ofInt IntKind.u64.bits (((2*n).toNat:Nat):Int) ^^^ BitVec.ofInt IntKind.u64.bits 0).toNat=(2*n).toNat:=by
      show (BitVec.ofInt 64 (((2*n).toNat:Nat):Int) ^^^ BitVec.ofInt 64 0).toNat=(2*n).toNat
      rw[show BitVec.ofInt 64 0=0#64 from rfl,BitVec.xor_zero,BitVec.ofInt_natCast,BitVec.toNat_ofNat]
      omega
    rw[e2]
    exact wu64_in (by omega)
  · rw [if_neg h0]
    have e1:wu64 n=n+18446744073709551616:=by
      show IntKind.u64.wrap n=_
      rw[wrap_u64];omega
    have e3:Int.fdiv n 9223372036854775808 = -1:=by
      rw[Int.fdiv_eq_ediv_of_nonneg _ (by omega)];omega
    have e4:wu64 (-1)=18446744073709551615:=by decide
    have e5:wu64 ((n+18446744073709551616)*2)=((18446744073709551615-(-2*n-1).toNat:Nat):Int):=by
      show IntKind.u64.wrap _=_
      rw[wrap_u64];omega
    rw[e1,e3,e4,e5]
    unfold ixor
    have hlt:(-2*n-1).toNat<18446744073709551616:=by omega
    generalize (-2*n-1).toNat=m at hlt
    have e2:(BitVec.ofInt IntKind.u64.bits ((18446744073709551615-m:Nat):Int) ^^^ BitVec.ofInt IntKind.u64.bits 18446744073709551615).toNat=m:=by
      show (BitVec.ofInt 64 ((18446744073709551615-m:Nat):Int) ^^^ BitVec.ofInt 64 18446744073709551615).toNat=m
      rw[show BitVec.ofInt 64 18446744073709551615=BitVec.allOnes 64 from by decide,BitVec.xor_allOnes,BitVec.toNat_not,BitVec.ofInt_natCast,BitVec.toNat_ofNat]
      omega
    rw[e2]
    exact wu64_in (by omega)
theorem signed_ok {N:Nat} {n:Int} (hN:20<N) (h : -9223372036854775808≤n∧n≤9223372036854775807):F56 N n=some (V (zig n)):=by
  rw[F56_eq,zig_bits h,vary_ok hN (zig_lt h)];rfl
theorem double_ok {N:Nat} {n:Int} (h : -9223372036854775808≤n∧n≤9223372036854775807):F44 N n=some (zig n:Int):=by
  rw[F44_eq]
  unfold zig
  by_cases h0:0≤n
  · rw[decide_eq_true h0,bif_l,if_pos h0,wu64_in (n:=n) (by omega),wu64_in (by omega)];congr 1;omega
  · rw[decide_eq_false h0,bif_r,if_neg h0,wi64_in (n:=n+1) (by omega),wi64_in (n:=0-(n+1)) (by omega),wu64_in (n:=0-(n+1)) (by omega),wu64_in (n:=(0-(n+1))*2) (by omega),wu64_in (by omega)];congr 1;omega
open Go Go.Eng Go.Sym
theorem varyI_ok {N:Nat} {v:Int} (hN:20<N) (h:0≤v∧v≤9223372036854775807):F55 N (wu64 v)=some (V v.toNat):=by
  obtain⟨n,rfl⟩:=Int.eq_ofNat_of_zero_le h.1
  rw[wu64_nat (by omega),vary_ok hN (by omega)];rfl
theorem minimalI_ok {N:Nat} {v:Int} (hN:20<N) (h:0≤v∧v≤9223372036854775807):F43 N (wu64 v)=some (V v.toNat):=by
  obtain⟨n,rfl⟩:=Int.eq_ofNat_of_zero_le h.1
  rw[wu64_nat (by omega),minimal_ok hN (by omega)];rfl
theorem numberI_ok {N:Nat} {v:Int} (hN:20<N) (h:0≤v∧v≤9223372036854775807):F40 N v=some (V v.toNat):=by
  obtain⟨n,rfl⟩:=Int.eq_ofNat_of_zero_le h.1
  rw[number_ok hN (by omega)];rfl
theorem room1 (a:Nat):room (1+(V a).length) 1=true:=by have:=V_len a;exact room_small (by omega) (by omega)
theorem room2 (p:Int) (a b:Nat):room (([p]++V a).length+(V b).length) 1=true:=by
  have:=V_len a;have:=V_len b
  exact room_small (by simp only[List.length_append,List.length_singleton];omega) (by omega)
theorem room3 (p:Int) (a b c:Nat):room ((([p]++V a)++V b).length+(V c).length) 1=true:=by
  have:=V_len a;have:=V_len b;have:=V_len c
  exact room_small (by simp only[List.length_append,List.length_singleton];omega) (by omega)
theorem ne00:((0:Int) != (0:Int))=false:=rfl
theorem min64_lt:decide ((-9223372036854775808:Int)<0)=true:=rfl
theorem m1_lt:decide ((-1:Int)<0)=true:=rfl
theorem z_lt:decide ((0:Int)<0)=false:=rfl
theorem dg_0_0:decide ((0:Int)≥(0:Int))=true:=rfl
theorem dg_0_1:decide ((0:Int)≥(1:Int))=false:=rfl
theorem dg_0_2:decide ((0:Int)≥(2:Int))=false:=rfl
theorem dg_0_3:decide ((0:Int)≥(3:Int))=false:=rfl
theorem dg_1_0:decide ((1:Int)≥(0:Int))=true:=rfl
theorem dg_1_1:decide ((1:Int)≥(1:Int))=true:=rfl
theorem dg_1_2:decide ((1:Int)≥(2:Int))=false:=rfl
theorem dg_1_3:decide ((1:Int)≥(3:Int))=false:=rfl
theorem dg_2_0:decide ((2:Int)≥(0:Int))=true:=rfl
theorem dg_2_1:decide ((2:Int)≥(1:Int))=true:=rfl
theorem dg_2_2:decide ((2:Int)≥(2:Int))=true:=rfl
theorem dg_2_3:decide ((2:Int)≥(3:Int))=false:=rfl
noncomputable def encK (c:UInt8) (v:Int):List Int:=if c=45 then [] else if c=110∨c=103∨c=101 then V (zig v) else V v.toNat
noncomputable def encI (x:Instr):List Int:=
  match shp x.1 with
  |some (a,b,c)=>x.1 :: (encK a x.2.1++(encK b x.2.2.1++encK c x.2.2.2))
  |none=>[x.1]
theorem encO_1 {N:Nat} (hN:20<N) {p0 p1 p2:Int} (h0:0≤p0∧p0≤9223372036854775807) (h1 : -9223372036854775808≤p1∧p1≤9223372036854775807) (hc:F80 N ((1:Int),p0,p1,p2)=some 0):F57 N ((1:Int),p0,p1,p2)=some ((([(1:Int)]++V p0.toNat)++V (zig p1)),(0:Int)):=by
  have e:F83 N (1:Int)=some ((0:Int),(15:Int),false,true,(-9223372036854775808:Int),(9223372036854775807:Int),false,false,(0:Int),(0:Int),false,false,(2:Int)):=by kernel_rfl
  simp only[F57_eq,hc,e,F84_eq,Option.bind_some,ne00,min64_lt,m1_lt,z_lt,dg_0_0,dg_0_1,dg_0_2,dg_0_3,dg_1_0,dg_1_1,dg_1_2,dg_1_3,dg_2_0,dg_2_1,dg_2_2,dg_2_3,bif_l,bif_r,varyI_ok hN h0,signed_ok hN h1,room1,room2,room3,chk_true]
theorem coded_1 {N:Nat} (hN:20<N) {p0 p1 p2:Int} (h0:0≤p0∧p0≤9223372036854775807) (h1 : -9223372036854775808≤p1∧p1≤9223372036854775807):F45 N ((1:Int),p0,p1,p2)=some (([(1:Int)]++V p0.toNat)++V (zig p1)):=by
  have e:F65 N (1:Int)=some [119,110,45]:=by kernel_rfl
  simp only[F45_eq,e,F66_eq,Option.bind_some,show idx ([119,110,45]:List UInt8) (0:Int)=some 119 from rfl,show idx ([119,110,45]:List UInt8) (1:Int)=some 110 from rfl,show idx ([119,110,45]:List UInt8) (2:Int)=some 45 from rfl,show (((45:UInt8).toNat:Int)==(45:Int))=true from rfl,show (((110:UInt8).toNat:Int)==(45:Int))=false from rfl,show F67 N (((110:UInt8).toNat:Nat):Int)=some true from by kernel_rfl,show (((119:UInt8).toNat:Int)==(45:Int))=false from rfl,show F67 N (((119:UInt8).toNat:Nat):Int)=some false from by kernel_rfl,bif_l,bif_r,minimalI_ok hN h0,double_ok h1,minimal_ok hN (zig_lt h1),room1,room2,room3,chk_true]
theorem encO_2 {N:Nat} (hN:20<N) {p0 p1 p2:Int} (h0:0≤p0∧p0≤9223372036854775807) (h1:0≤p1∧p1≤9223372036854775807) (hc:F80 N ((2:Int),p0,p1,p2)=some 0):F57 N ((2:Int),p0,p1,p2)=some ((([(2:Int)]++V p0.toNat)++V p1.toNat),(0:Int)):=by
  have e:F83 N (2:Int)=some ((0:Int),(15:Int),false,true,(0:Int),(31:Int),false,false,(0:Int),(0:Int),false,false,(2:Int)):=by kernel_rfl
  simp only[F57_eq,hc,e,F84_eq,Option.bind_some,ne00,min64_lt,m1_lt,z_lt,dg_0_0,dg_0_1,dg_0_2,dg_0_3,dg_1_0,dg_1_1,dg_1_2,dg_1_3,dg_2_0,dg_2_1,dg_2_2,dg_2_3,bif_l,bif_r,varyI_ok hN h0,varyI_ok hN h1,room1,room2,room3,chk_true]
theorem coded_2 {N:Nat} (hN:20<N) {p0 p1 p2:Int} (h0:0≤p0∧p0≤9223372036854775807) (h1:0≤p1∧p1≤9223372036854775807):F45 N ((2:Int),p0,p1,p2)=some (([(2:Int)]++V p0.toNat)++V p1.toNat):=by
  have e:F65 N (2:Int)=some [119,116,45]:=by kernel_rfl
  simp only[F45_eq,e,F66_eq,Option.bind_some,show idx ([119,116,45]:List UInt8) (0:Int)=some 119 from rfl,show idx ([119,116,45]:List UInt8) (1:Int)=some 116 from rfl,show idx ([119,116,45]:List UInt8) (2:Int)=some 45 from rfl,show (((45:UInt8).toNat:Int)==(45:Int))=true from rfl,show (((116:UInt8).toNat:Int)==(45:Int))=false from rfl,show F67 N (((116:UInt8).toNat:Nat):Int)=some false from by kernel_rfl,show (((119:UInt8).toNat:Int)==(45:Int))=false from rfl,show F67 N (((119:UInt8).toNat:Nat):Int)=some false from by kernel_rfl,bif_l,bif_r,minimalI_ok hN h0,minimalI_ok hN h1,room1,room2,room3,chk_true]
theorem encO_3 {N:Nat} (hN:20<N) {p0 p1 p2:Int} (h0:0≤p0∧p0≤9223372036854775807) (h1:0≤p1∧p1≤9223372036854775807) (hc:F80 N ((3:Int),p0,p1,p2)=some 0):F57 N ((3:Int),p0,p1,p2)=some ((([(3:Int)]++V p0.toNat)++V p1.toNat),(0:Int)):=by
  have e:F83 N (3:Int)=some ((0:Int),(15:Int),false,true,(0:Int),(1:Int),false,false,(0:Int),(0:Int),false,false,(2:Int)):=by kernel_rfl
  simp only[F57_eq,hc,e,F84_eq,Option.bind_some,ne00,min64_lt,m1_lt,z_lt,dg_0_0,dg_0_1,dg_0_2,dg_0_3,dg_1_0,dg_1_1,dg_1_2,dg_1_3,dg_2_0,dg_2_1,dg_2_2,dg_2_3,bif_l,bif_r,varyI_ok hN h0,varyI_ok hN h1,room1,room2,room3,chk_true]
theorem coded_3 {N:Nat} (hN:20<N) {p0 p1 p2:Int} (h0:0≤p0∧p0≤9223372036854775807) (h1:0≤p1∧p1≤9223372036854775807):F45 N ((3:Int),p0,p1,p2)=some (([(3:Int)]++V p0.toNat)++V p1.toNat):=by
  have e:F65 N (3:Int)=some [119,98,45]:=by kernel_rfl
  simp only[F45_eq,e,F66_eq,Option.bind_some,show idx ([119,98,45]:List UInt8) (0:Int)=some 119 from rfl,show idx ([119,98,45]:List UInt8) (1:Int)=some 98 from rfl,show idx ([119,98,45]:List UInt8) (2:Int)=some 45 from rfl,show (((45:UInt8).toNat:Int)==(45:Int))=true from rfl,show (((98:UInt8).toNat:Int)==(45:Int))=false from rfl,show F67 N (((98:UInt8).toNat:Nat):Int)=some false from by kernel_rfl,show (((119:UInt8).toNat:Int)==(45:Int))=false from rfl,show F67 N (((119:UInt8).toNat:Nat):Int)=some false from by kernel_rfl,bif_l,bif_r,minimalI_ok hN h0,minimalI_ok hN h1,room1,room2,room3,chk_true]
theorem encO_4 {N:Nat} (hN:20<N) {p0 p1 p2:Int} (h0:0≤p0∧p0≤9223372036854775807) (hc:F80 N ((4:Int),p0,p1,p2)=some 0):F57 N ((4:Int),p0,p1,p2)=some (([(4:Int)]++V p0.toNat),(0:Int)):=by
  have e:F83 N (4:Int)=some ((0:Int),(15:Int),false,true,(0:Int),(0:Int),false,false,(0:Int),(0:Int),false,false,(1:Int)):=by kernel_rfl
  simp only[F57_eq,hc,e,F84_eq,Option.bind_some,ne00,min64_lt,m1_lt,z_lt,dg_0_0,dg_0_1,dg_0_2,dg_0_3,dg_1_0,dg_1_1,dg_1_2,dg_1_3,dg_2_0,dg_2_1,dg_2_2,dg_2_3,bif_l,bif_r,varyI_ok hN h0,room1,room2,room3,chk_true]
theorem coded_4 {N:Nat} (hN:20<N) {p0 p1 p2:Int} (h0:0≤p0∧p0≤9223372036854775807):F45 N ((4:Int),p0,p1,p2)=some ([(4:Int)]++V p0.toNat):=by
  have e:F65 N (4:Int)=some [119,45,45]:=by kernel_rfl
  simp only[F45_eq,e,F66_eq,Option.bind_some,show idx ([119,45,45]:List UInt8) (0:Int)=some 119 from rfl,show idx ([119,45,45]:List UInt8) (1:Int)=some 45 from rfl,show idx ([119,45,45]:List UInt8) (2:Int)=some 45 from rfl,show (((45:UInt8).toNat:Int)==(45:Int))=true from rfl,show (((119:UInt8).toNat:Int)==(45:Int))=false from rfl,show F67 N (((119:UInt8).toNat:Nat):Int)=some false from by kernel_rfl,bif_l,bif_r,minimalI_ok hN h0,room1,room2,room3,chk_true]
theorem encO_5 {N:Nat} (hN:20<N) {p0 p1 p2:Int} (h0:0≤p0∧p0≤9223372036854775807) (h1:0≤p1∧p1≤9223372036854775807) (hc:F80 N ((5:Int),p0,p1,p2)=some 0):F57 N ((5:Int),p0,p1,p2)=some ((([(5:Int)]++V p0.toNat)++V p1.toNat),(0:Int)):=by
  have e:F83 N (5:Int)=some ((0:Int),(15:Int),false,true,(0:Int),(15:Int),true,false,(0:Int),(0:Int),false,false,(2:Int)):=by kernel_rfl
  simp only[F57_eq,hc,e,F84_eq,Option.bind_some,ne00,min64_lt,m1_lt,z_lt,dg_0_0,dg_0_1,dg_0_2,dg_0_3,dg_1_0,dg_1_1,dg_1_2,dg_1_3,dg_2_0,dg_2_1,dg_2_2,dg_2_3,bif_l,bif_r,varyI_ok hN h0,varyI_ok hN h1,room1,room2,room3,chk_true]
theorem coded_5 {N:Nat} (hN:20<N) {p0 p1 p2:Int} (h0:0≤p0∧p0≤9223372036854775807) (h1:0≤p1∧p1≤9223372036854775807):F45 N ((5:Int),p0,p1,p2)=some (([(5:Int)]++V p0.toNat)++V p1.toNat):=by
  have e:F65 N (5:Int)=some [119,114,45]:=by kernel_rfl
  simp only[F45_eq,e,F66_eq,Option.bind_some,show idx ([119,114,45]:List UInt8) (0:Int)=some 119 from rfl,show idx ([119,114,45]:List UInt8) (1:Int)=some 114 from rfl,show idx ([119,114,45]:List UInt8) (2:Int)=some 45 from rfl,show (((45:UInt8).toNat:Int)==(45:Int))=true from rfl,show (((114:UInt8).toNat:Int)==(45:Int))=false from rfl,show F67 N (((114:UInt8).toNat:Nat):Int)=some false from by kernel_rfl,show (((119:UInt8).toNat:Int)==(45:Int))=false from rfl,show F67 N (((119:UInt8).toNat:Nat):Int)=some false from by kernel_rfl,bif_l,bif_r,minimalI_ok hN h0,minimalI_ok hN h1,room1,room2,room3,chk_true]
theorem encO_6 {N:Nat} (hN:20<N) {p0 p1 p2:Int} (h0:0≤p0∧p0≤9223372036854775807) (h1:0≤p1∧p1≤9223372036854775807) (h2:0≤p2∧p2≤9223372036854775807) (hc:F80 N ((6:Int),p0,p1,p2)=some 0):F57 N ((6:Int),p0,p1,p2)=some (((([(6:Int)]++V p0.toNat)++V p1.toNat)++V p2.toNat),(0:Int)):=by
  have e:F83 N (6:Int)=some ((0:Int),(15:Int),false,true,(0:Int),(15:Int),true,false,(0:Int),(15:Int),true,false,(3:Int)):=by kernel_rfl
  simp only[F57_eq,hc,e,F84_eq,Option.bind_some,ne00,min64_lt,m1_lt,z_lt,dg_0_0,dg_0_1,dg_0_2,dg_0_3,dg_1_0,dg_1_1,dg_1_2,dg_1_3,dg_2_0,dg_2_1,dg_2_2,dg_2_3,bif_l,bif_r,varyI_ok hN h0,varyI_ok hN h1,varyI_ok hN h2,room1,room2,room3,chk_true]
theorem coded_6 {N:Nat} (hN:20<N) {p0 p1 p2:Int} (h0:0≤p0∧p0≤9223372036854775807) (h1:0≤p1∧p1≤9223372036854775807) (h2:0≤p2∧p2≤9223372036854775807):F45 N ((6:Int),p0,p1,p2)=some ((([(6:Int)]++V p0.toNat)++V p1.toNat)++V p2.toNat):=by
  have e:F65 N (6:Int)=some [119,114,114]:=by kernel_rfl
  simp only[F45_eq,e,F66_eq,Option.bind_some,show idx ([119,114,114]:List UInt8) (0:Int)=some 119 from rfl,show idx ([119,114,114]:List UInt8) (1:Int)=some 114 from rfl,show idx ([119,114,114]:List UInt8) (2:Int)=some 114 from rfl,show (((114:UInt8).toNat:Int)==(45:Int))=false from rfl,show F67 N (((114:UInt8).toNat:Nat):Int)=some false from by kernel_rfl,show (((119:UInt8).toNat:Int)==(45:Int))=false from rfl,show F67 N (((119:UInt8).toNat:Nat):Int)=some false from by kernel_rfl,bif_l,bif_r,minimalI_ok hN h0,minimalI_ok hN h1,minimalI_ok hN h2,room1,room2,room3,chk_true]
theorem encO_7 {N:Nat} (hN:20<N) {p0 p1 p2:Int} (h0:0≤p0∧p0≤9223372036854775807) (h1:0≤p1∧p1≤9223372036854775807) (h2:0≤p2∧p2≤9223372036854775807) (hc:F80 N ((7:Int),p0,p1,p2)=some 0):F57 N ((7:Int),p0,p1,p2)=some (((([(7:Int)]++V p0.toNat)++V p1.toNat)++V p2.toNat),(0:Int)):=by
  have e:F83 N (7:Int)=some ((0:Int),(15:Int),false,true,(0:Int),(15:Int),true,false,(0:Int),(15:Int),true,false,(3:Int)):=by kernel_rfl
  simp only[F57_eq,hc,e,F84_eq,Option.bind_some,ne00,min64_lt,m1_lt,z_lt,dg_0_0,dg_0_1,dg_0_2,dg_0_3,dg_1_0,dg_1_1,dg_1_2,dg_1_3,dg_2_0,dg_2_1,dg_2_2,dg_2_3,bif_l,bif_r,varyI_ok hN h0,varyI_ok hN h1,varyI_ok hN h2,room1,room2,room3,chk_true]
theorem coded_7 {N:Nat} (hN:20<N) {p0 p1 p2:Int} (h0:0≤p0∧p0≤9223372036854775807) (h1:0≤p1∧p1≤9223372036854775807) (h2:0≤p2∧p2≤9223372036854775807):F45 N ((7:Int),p0,p1,p2)=some ((([(7:Int)]++V p0.toNat)++V p1.toNat)++V p2.toNat):=by
  have e:F65 N (7:Int)=some [119,114,114]:=by kernel_rfl
  simp only[F45_eq,e,F66_eq,Option.bind_some,show idx ([119,114,114]:List UInt8) (0:Int)=some 119 from rfl,show idx ([119,114,114]:List UInt8) (1:Int)=some 114 from rfl,show idx ([119,114,114]:List UInt8) (2:Int)=some 114 from rfl,show (((114:UInt8).toNat:Int)==(45:Int))=false from rfl,show F67 N (((114:UInt8).toNat:Nat):Int)=some false from by kernel_rfl,show (((119:UInt8).toNat:Int)==(45:Int))=false from rfl,show F67 N (((119:UInt8).toNat:Nat):Int)=some false from by kernel_rfl,bif_l,bif_r,minimalI_ok hN h0,minimalI_ok hN h1,minimalI_ok hN h2,room1,room2,room3,chk_true]
theorem encO_8 {N:Nat} (hN:20<N) {p0 p1 p2:Int} (h0:0≤p0∧p0≤9223372036854775807) (h1:0≤p1∧p1≤9223372036854775807) (h2:0≤p2∧p2≤9223372036854775807) (hc:F80 N ((8:Int),p0,p1,p2)=some 0):F57 N ((8:Int),p0,p1,p2)=some (((([(8:Int)]++V p0.toNat)++V p1.toNat)++V p2.toNat),(0:Int)):=by
  have e:F83 N (8:Int)=some ((0:Int),(15:Int),false,true,(0:Int),(15:Int),true,false,(0:Int),(15:Int),true,false,(3:Int)):=by kernel_rfl
  simp only[F57_eq,hc,e,F84_eq,Option.bind_some,ne00,min64_lt,m1_lt,z_lt,dg_0_0,dg_0_1,dg_0_2,dg_0_3,dg_1_0,dg_1_1,dg_1_2,dg_1_3,dg_2_0,dg_2_1,dg_2_2,dg_2_3,bif_l,bif_r,varyI_ok hN h0,varyI_ok hN h1,varyI_ok hN h2,room1,room2,room3,chk_true]
theorem coded_8 {N:Nat} (hN:20<N) {p0 p1 p2:Int} (h0:0≤p0∧p0≤9223372036854775807) (h1:0≤p1∧p1≤9223372036854775807) (h2:0≤p2∧p2≤9223372036854775807):F45 N ((8:Int),p0,p1,p2)=some ((([(8:Int)]++V p0.toNat)++V p1.toNat)++V p2.toNat):=by
  have e:F65 N (8:Int)=some [119,114,114]:=by kernel_rfl
  simp only[F45_eq,e,F66_eq,Option.bind_some,show idx ([119,114,114]:List UInt8) (0:Int)=some 119 from rfl,show idx ([119,114,114]:List UInt8) (1:Int)=some 114 from rfl,show idx ([119,114,114]:List UInt8) (2:Int)=some 114 from rfl,show (((114:UInt8).toNat:Int)==(45:Int))=false from rfl,show F67 N (((114:UInt8).toNat:Nat):Int)=some false from by kernel_rfl,show (((119:UInt8).toNat:Int)==(45:Int))=false from rfl,show F67 N (((119:UInt8).toNat:Nat):Int)=some false from by kernel_rfl,bif_l,bif_r,minimalI_ok hN h0,minimalI_ok hN h1,minimalI_ok hN h2,room1,room2,room3,chk_true]
theorem encO_9 {N:Nat} (hN:20<N) {p0 p1 p2:Int} (h0:0≤p0∧p0≤9223372036854775807) (h1:0≤p1∧p1≤9223372036854775807) (h2:0≤p2∧p2≤9223372036854775807) (hc:F80 N ((9:Int),p0,p1,p2)=some 0):F57 N ((9:Int),p0,p1,p2)=some (((([(9:Int)]++V p0.toNat)++V p1.toNat)++V p2.toNat),(0:Int)):=by
  have e:F83 N (9:Int)=some ((0:Int),(15:Int),false,true,(0:Int),(15:Int),true,false,(0:Int),(15:Int),true,false,(3:Int)):=by kernel_rfl
  simp only[F57_eq,hc,e,F84_eq,Option.bind_some,ne00,min64_lt,m1_lt,z_lt,dg_0_0,dg_0_1,dg_0_2,dg_0_3,dg_1_0,dg_1_1,dg_1_2,dg_1_3,dg_2_0,dg_2_1,dg_2_2,dg_2_3,bif_l,bif_r,varyI_ok hN h0,varyI_ok hN h1,varyI_ok hN h2,room1,room2,room3,chk_true]
theorem coded_9 {N:Nat} (hN:20<N) {p0 p1 p2:Int} (h0:0≤p0∧p0≤9223372036854775807) (h1:0≤p1∧p1≤9223372036854775807) (h2:0≤p2∧p2≤9223372036854775807):F45 N ((9:Int),p0,p1,p2)=some ((([(9:Int)]++V p0.toNat)++V p1.toNat)++V p2.toNat):=by
  have e:F65 N (9:Int)=some [119,114,114]:=by kernel_rfl
  simp only[F45_eq,e,F66_eq,Option.bind_some,show idx ([119,114,114]:List UInt8) (0:Int)=some 119 from rfl,show idx ([119,114,114]:List UInt8) (1:Int)=some 114 from rfl,show idx ([119,114,114]:List UInt8) (2:Int)=some 114 from rfl,show (((114:UInt8).toNat:Int)==(45:Int))=false from rfl,show F67 N (((114:UInt8).toNat:Nat):Int)=some false from by kernel_rfl,show (((119:UInt8).toNat:Int)==(45:Int))=false from rfl,show F67 N (((119:UInt8).toNat:Nat):Int)=some false from by kernel_rfl,bif_l,bif_r,minimalI_ok hN h0,minimalI_ok hN h1,minimalI_ok hN h2,room1,room2,room3,chk_true]
theorem encO_10 {N:Nat} (hN:20<N) {p0 p1 p2:Int} (h0:0≤p0∧p0≤9223372036854775807) (h1:0≤p1∧p1≤9223372036854775807) (h2:0≤p2∧p2≤9223372036854775807) (hc:F80 N ((10:Int),p0,p1,p2)=some 0):F57 N ((10:Int),p0,p1,p2)=some (((([(10:Int)]++V p0.toNat)++V p1.toNat)++V p2.toNat),(0:Int)):=by
  have e:F83 N (10:Int)=some ((0:Int),(15:Int),false,true,(0:Int),(15:Int),true,false,(0:Int),(15:Int),true,false,(3:Int)):=by kernel_rfl
  simp only[F57_eq,hc,e,F84_eq,Option.bind_some,ne00,min64_lt,m1_lt,z_lt,dg_0_0,dg_0_1,dg_0_2,dg_0_3,dg_1_0,dg_1_1,dg_1_2,dg_1_3,dg_2_0,dg_2_1,dg_2_2,dg_2_3,bif_l,bif_r,varyI_ok hN h0,varyI_ok hN h1,varyI_ok hN h2,room1,room2,room3,chk_true]
theorem coded_10 {N:Nat} (hN:20<N) {p0 p1 p2:Int} (h0:0≤p0∧p0≤9223372036854775807) (h1:0≤p1∧p1≤9223372036854775807) (h2:0≤p2∧p2≤9223372036854775807):F45 N ((10:Int),p0,p1,p2)=some ((([(10:Int)]++V p0.toNat)++V p1.toNat)++V p2.toNat):=by
  have e:F65 N (10:Int)=some [119,114,114]:=by kernel_rfl
  simp only[F45_eq,e,F66_eq,Option.bind_some,show idx ([119,114,114]:List UInt8) (0:Int)=some 119 from rfl,show idx ([119,114,114]:List UInt8) (1:Int)=some 114 from rfl,show idx ([119,114,114]:List UInt8) (2:Int)=some 114 from rfl,show (((114:UInt8).toNat:Int)==(45:Int))=false from rfl,show F67 N (((114:UInt8).toNat:Nat):Int)=some false from by kernel_rfl,show (((119:UInt8).toNat:Int)==(45:Int))=false from rfl,show F67 N (((119:UInt8).toNat:Nat):Int)=some false from by kernel_rfl,bif_l,bif_r,minimalI_ok hN h0,minimalI_ok hN h1,minimalI_ok hN h2,room1,room2,room3,chk_true]
theorem encO_11 {N:Nat} (hN:20<N) {p0 p1 p2:Int} (h0:0≤p0∧p0≤9223372036854775807) (h1:0≤p1∧p1≤9223372036854775807) (h2:0≤p2∧p2≤9223372036854775807) (hc:F80 N ((11:Int),p0,p1,p2)=some 0):F57 N ((11:Int),p0,p1,p2)=some (((([(11:Int)]++V p0.toNat)++V p1.toNat)++V p2.toNat),(0:Int)):=by
  have e:F83 N (11:Int)=some ((0:Int),(15:Int),false,true,(0:Int),(15:Int),true,false,(0:Int),(15:Int),true,false,(3:Int)):=by kernel_rfl
  simp only[F57_eq,hc,e,F84_eq,Option.bind_some,ne00,min64_lt,m1_lt,z_lt,dg_0_0,dg_0_1,dg_0_2,dg_0_3,dg_1_0,dg_1_1,dg_1_2,dg_1_3,dg_2_0,dg_2_1,dg_2_2,dg_2_3,bif_l,bif_r,varyI_ok hN h0,varyI_ok hN h1,varyI_ok hN h2,room1,room2,room3,chk_true]
theorem coded_11 {N:Nat} (hN:20<N) {p0 p1 p2:Int} (h0:0≤p0∧p0≤9223372036854775807) (h1:0≤p1∧p1≤9223372036854775807) (h2:0≤p2∧p2≤9223372036854775807):F45 N ((11:Int),p0,p1,p2)=some ((([(11:Int)]++V p0.toNat)++V p1.toNat)++V p2.toNat):=by
  have e:F65 N (11:Int)=some [119,114,114]:=by kernel_rfl
  simp only[F45_eq,e,F66_eq,Option.bind_some,show idx ([119,114,114]:List UInt8) (0:Int)=some 119 from rfl,show idx ([119,114,114]:List UInt8) (1:Int)=some 114 from rfl,show idx ([119,114,114]:List UInt8) (2:Int)=some 114 from rfl,show (((114:UInt8).toNat:Int)==(45:Int))=false from rfl,show F67 N (((114:UInt8).toNat:Nat):Int)=some false from by kernel_rfl,show (((119:UInt8).toNat:Int)==(45:Int))=false from rfl,show F67 N (((119:UInt8).toNat:Nat):Int)=some false from by kernel_rfl,bif_l,bif_r,minimalI_ok hN h0,minimalI_ok hN h1,minimalI_ok hN h2,room1,room2,room3,chk_true]
theorem encO_12 {N:Nat} (hN:20<N) {p0 p1 p2:Int} (h0:0≤p0∧p0≤9223372036854775807) (h1:0≤p1∧p1≤9223372036854775807) (hc:F80 N ((12:Int),p0,p1,p2)=some 0):F57 N ((12:Int),p0,p1,p2)=some ((([(12:Int)]++V p0.toNat)++V p1.toNat),(0:Int)):=by
  have e:F83 N (12:Int)=some ((0:Int),(15:Int),false,true,(0:Int),(15:Int),true,false,(0:Int),(0:Int),false,false,(2:Int)):=by kernel_rfl
  simp only[F57_eq,hc,e,F84_eq,Option.bind_some,ne00,min64_lt,m1_lt,z_lt,dg_0_0,dg_0_1,dg_0_2,dg_0_3,dg_1_0,dg_1_1,dg_1_2,dg_1_3,dg_2_0,dg_2_1,dg_2_2,dg_2_3,bif_l,bif_r,varyI_ok hN h0,varyI_ok hN h1,room1,room2,room3,chk_true]
theorem coded_12 {N:Nat} (hN:20<N) {p0 p1 p2:Int} (h0:0≤p0∧p0≤9223372036854775807) (h1:0≤p1∧p1≤9223372036854775807):F45 N ((12:Int),p0,p1,p2)=some (([(12:Int)]++V p0.toNat)++V p1.toNat):=by
  have e:F65 N (12:Int)=some [119,114,45]:=by kernel_rfl
  simp only[F45_eq,e,F66_eq,Option.bind_some,show idx ([119,114,45]:List UInt8) (0:Int)=some 119 from rfl,show idx ([119,114,45]:List UInt8) (1:Int)=some 114 from rfl,show idx ([119,114,45]:List UInt8) (2:Int)=some 45 from rfl,show (((45:UInt8).toNat:Int)==(45:Int))=true from rfl,show (((114:UInt8).toNat:Int)==(45:Int))=false from rfl,show F67 N (((114:UInt8).toNat:Nat):Int)=some false from by kernel_rfl,show (((119:UInt8).toNat:Int)==(45:Int))=false from rfl,show F67 N (((119:UInt8).toNat:Nat):Int)=some false from by kernel_rfl,bif_l,bif_r,minimalI_ok hN h0,minimalI_ok hN h1,room1,room2,room3,chk_true]
theorem encO_13 {N:Nat} (hN:20<N) {p0 p1 p2:Int} (h0:0≤p0∧p0≤9223372036854775807) (h1:0≤p1∧p1≤9223372036854775807) (h2:0≤p2∧p2≤9223372036854775807) (hc:F80 N ((13:Int),p0,p1,p2)=some 0):F57 N ((13:Int),p0,p1,p2)=some (((([(13:Int)]++V p0.toNat)++V p1.toNat)++V p2.toNat),(0:Int)):=by
  have e:F83 N (13:Int)=some ((0:Int),(15:Int),false,true,(0:Int),(15:Int),true,false,(0:Int),(7:Int),false,false,(3:Int)):=by kernel_rfl
  simp only[F57_eq,hc,e,F84_eq,Option.bind_some,ne00,min64_lt,m1_lt,z_lt,dg_0_0,dg_0_1,dg_0_2,dg_0_3,dg_1_0,dg_1_1,dg_1_2,dg_1_3,dg_2_0,dg_2_1,dg_2_2,dg_2_3,bif_l,bif_r,varyI_ok hN h0,varyI_ok hN h1,varyI_ok hN h2,room1,room2,room3,chk_true]
theorem coded_13 {N:Nat} (hN:20<N) {p0 p1 p2:Int} (h0:0≤p0∧p0≤9223372036854775807) (h1:0≤p1∧p1≤9223372036854775807) (h2:0≤p2∧p2≤9223372036854775807):F45 N ((13:Int),p0,p1,p2)=some ((([(13:Int)]++V p0.toNat)++V p1.toNat)++V p2.toNat):=by
  have e:F65 N (13:Int)=some [119,114,102]:=by kernel_rfl
  simp only[F45_eq,e,F66_eq,Option.bind_some,show idx ([119,114,102]:List UInt8) (0:Int)=some 119 from rfl,show idx ([119,114,102]:List UInt8) (1:Int)=some 114 from rfl,show idx ([119,114,102]:List UInt8) (2:Int)=some 102 from rfl,show (((102:UInt8).toNat:Int)==(45:Int))=false from rfl,show F67 N (((102:UInt8).toNat:Nat):Int)=some false from by kernel_rfl,show (((114:UInt8).toNat:Int)==(45:Int))=false from rfl,show F67 N (((114:UInt8).toNat:Nat):Int)=some false from by kernel_rfl,show (((119:UInt8).toNat:Int)==(45:Int))=false from rfl,show F67 N (((119:UInt8).toNat:Nat):Int)=some false from by kernel_rfl,bif_l,bif_r,minimalI_ok hN h0,minimalI_ok hN h1,minimalI_ok hN h2,room1,room2,room3,chk_true]
theorem encO_14 {N:Nat} (hN:20<N) {p0 p1 p2:Int} (h0:0≤p0∧p0≤9223372036854775807) (h1:0≤p1∧p1≤9223372036854775807) (h2:0≤p2∧p2≤9223372036854775807) (hc:F80 N ((14:Int),p0,p1,p2)=some 0):F57 N ((14:Int),p0,p1,p2)=some (((([(14:Int)]++V p0.toNat)++V p1.toNat)++V p2.toNat),(0:Int)):=by
  have e:F83 N (14:Int)=some ((0:Int),(15:Int),true,false,(0:Int),(7:Int),false,false,(0:Int),(15:Int),true,false,(3:Int)):=by kernel_rfl
  simp only[F57_eq,hc,e,F84_eq,Option.bind_some,ne00,min64_lt,m1_lt,z_lt,dg_0_0,dg_0_1,dg_0_2,dg_0_3,dg_1_0,dg_1_1,dg_1_2,dg_1_3,dg_2_0,dg_2_1,dg_2_2,dg_2_3,bif_l,bif_r,varyI_ok hN h0,varyI_ok hN h1,varyI_ok hN h2,room1,room2,room3,chk_true]
theorem coded_14 {N:Nat} (hN:20<N) {p0 p1 p2:Int} (h0:0≤p0∧p0≤9223372036854775807) (h1:0≤p1∧p1≤9223372036854775807) (h2:0≤p2∧p2≤9223372036854775807):F45 N ((14:Int),p0,p1,p2)=some ((([(14:Int)]++V p0.toNat)++V p1.toNat)++V p2.toNat):=by
  have e:F65 N (14:Int)=some [114,102,114]:=by kernel_rfl
  simp only[F45_eq,e,F66_eq,Option.bind_some,show idx ([114,102,114]:List UInt8) (0:Int)=some 114 from rfl,show idx ([114,102,114]:List UInt8) (1:Int)=some 102 from rfl,show idx ([114,102,114]:List UInt8) (2:Int)=some 114 from rfl,show (((102:UInt8).toNat:Int)==(45:Int))=false from rfl,show F67 N (((102:UInt8).toNat:Nat):Int)=some false from by kernel_rfl,show (((114:UInt8).toNat:Int)==(45:Int))=false from rfl,show F67 N (((114:UInt8).toNat:Nat):Int)=some false from by kernel_rfl,bif_l,bif_r,minimalI_ok hN h0,minimalI_ok hN h1,minimalI_ok hN h2,room1,room2,room3,chk_true]
theorem encO_15 {N:Nat} (hN:20<N) {p0 p1 p2:Int} (h0:0≤p0∧p0≤9223372036854775807) (hc:F80 N ((15:Int),p0,p1,p2)=some 0):F57 N ((15:Int),p0,p1,p2)=some (([(15:Int)]++V p0.toNat),(0:Int)):=by
  have e:F83 N (15:Int)=some ((0:Int),(15:Int),false,true,(0:Int),(0:Int),false,false,(0:Int),(0:Int),false,false,(1:Int)):=by kernel_rfl
  simp only[F57_eq,hc,e,F84_eq,Option.bind_some,ne00,min64_lt,m1_lt,z_lt,dg_0_0,dg_0_1,dg_0_2,dg_0_3,dg_1_0,dg_1_1,dg_1_2,dg_1_3,dg_2_0,dg_2_1,dg_2_2,dg_2_3,bif_l,bif_r,varyI_ok hN h0,room1,room2,room3,chk_true]
theorem coded_15 {N:Nat} (hN:20<N) {p0 p1 p2:Int} (h0:0≤p0∧p0≤9223372036854775807):F45 N ((15:Int),p0,p1,p2)=some ([(15:Int)]++V p0.toNat):=by
  have e:F65 N (15:Int)=some [119,45,45]:=by kernel_rfl
  simp only[F45_eq,e,F66_eq,Option.bind_some,show idx ([119,45,45]:List UInt8) (0:Int)=some 119 from rfl,show idx ([119,45,45]:List UInt8) (1:Int)=some 45 from rfl,show idx ([119,45,45]:List UInt8) (2:Int)=some 45 from rfl,show (((45:UInt8).toNat:Int)==(45:Int))=true from rfl,show (((119:UInt8).toNat:Int)==(45:Int))=false from rfl,show F67 N (((119:UInt8).toNat:Nat):Int)=some false from by kernel_rfl,bif_l,bif_r,minimalI_ok hN h0,room1,room2,room3,chk_true]
theorem encO_16 {N:Nat} (hN:20<N) {p0 p1 p2:Int} (h0:0≤p0∧p0≤9223372036854775807) (h1:0≤p1∧p1≤9223372036854775807) (hc:F80 N ((16:Int),p0,p1,p2)=some 0):F57 N ((16:Int),p0,p1,p2)=some ((([(16:Int)]++V p0.toNat)++V p1.toNat),(0:Int)):=by
  have e:F83 N (16:Int)=some ((0:Int),(15:Int),false,true,(0:Int),(15:Int),true,false,(0:Int),(0:Int),false,false,(2:Int)):=by kernel_rfl
  simp only[F57_eq,hc,e,F84_eq,Option.bind_some,ne00,min64_lt,m1_lt,z_lt,dg_0_0,dg_0_1,dg_0_2,dg_0_3,dg_1_0,dg_1_1,dg_1_2,dg_1_3,dg_2_0,dg_2_1,dg_2_2,dg_2_3,bif_l,bif_r,varyI_ok hN h0,varyI_ok hN h1,room1,room2,room3,chk_true]
theorem coded_16 {N:Nat} (hN:20<N) {p0 p1 p2:Int} (h0:0≤p0∧p0≤9223372036854775807) (h1:0≤p1∧p1≤9223372036854775807):F45 N ((16:Int),p0,p1,p2)=some (([(16:Int)]++V p0.toNat)++V p1.toNat):=by
  have e:F65 N (16:Int)=some [119,114,45]:=by kernel_rfl
  simp only[F45_eq,e,F66_eq,Option.bind_some,show idx ([119,114,45]:List UInt8) (0:Int)=some 119 from rfl,show idx ([119,114,45]:List UInt8) (1:Int)=some 114 from rfl,show idx ([119,114,45]:List UInt8) (2:Int)=some 45 from rfl,show (((45:UInt8).toNat:Int)==(45:Int))=true from rfl,show (((114:UInt8).toNat:Int)==(45:Int))=false from rfl,show F67 N (((114:UInt8).toNat:Nat):Int)=some false from by kernel_rfl,show (((119:UInt8).toNat:Int)==(45:Int))=false from rfl,show F67 N (((119:UInt8).toNat:Nat):Int)=some false from by kernel_rfl,bif_l,bif_r,minimalI_ok hN h0,minimalI_ok hN h1,room1,room2,room3,chk_true]
theorem encO_17 {N:Nat} (hN:20<N) {p0 p1 p2:Int} (h0:0≤p0∧p0≤9223372036854775807) (h1:0≤p1∧p1≤9223372036854775807) (hc:F80 N ((17:Int),p0,p1,p2)=some 0):F57 N ((17:Int),p0,p1,p2)=some ((([(17:Int)]++V p0.toNat)++V p1.toNat),(0:Int)):=by
  have e:F83 N (17:Int)=some ((0:Int),(15:Int),true,false,(0:Int),(15:Int),true,false,(0:Int),(0:Int),false,false,(2:Int)):=by kernel_rfl
  simp only[F57_eq,hc,e,F84_eq,Option.bind_some,ne00,min64_lt,m1_lt,z_lt,dg_0_0,dg_0_1,dg_0_2,dg_0_3,dg_1_0,dg_1_1,dg_1_2,dg_1_3,dg_2_0,dg_2_1,dg_2_2,dg_2_3,bif_l,bif_r,varyI_ok hN h0,varyI_ok hN h1,room1,room2,room3,chk_true]
theorem coded_17 {N:Nat} (hN:20<N) {p0 p1 p2:Int} (h0:0≤p0∧p0≤9223372036854775807) (h1:0≤p1∧p1≤9223372036854775807):F45 N ((17:Int),p0,p1,p2)=some (([(17:Int)]++V p0.toNat)++V p1.toNat):=by
  have e:F65 N (17:Int)=some [114,114,45]:=by kernel_rfl
  simp only[F45_eq,e,F66_eq,Option.bind_some,show idx ([114,114,45]:List UInt8) (0:Int)=some 114 from rfl,show idx ([114,114,45]:List UInt8) (1:Int)=some 114 from rfl,show idx ([114,114,45]:List UInt8) (2:Int)=some 45 from rfl,show (((45:UInt8).toNat:Int)==(45:Int))=true from rfl,show (((114:UInt8).toNat:Int)==(45:Int))=false from rfl,show F67 N (((114:UInt8).toNat:Nat):Int)=some false from by kernel_rfl,bif_l,bif_r,minimalI_ok hN h0,minimalI_ok hN h1,room1,room2,room3,chk_true]
theorem encO_18 {N:Nat} (hN:20<N) {p0 p1 p2:Int} (h0:0≤p0∧p0≤9223372036854775807) (h1:0≤p1∧p1≤9223372036854775807) (hc:F80 N ((18:Int),p0,p1,p2)=some 0):F57 N ((18:Int),p0,p1,p2)=some ((([(18:Int)]++V p0.toNat)++V p1.toNat),(0:Int)):=by
  have e:F83 N (18:Int)=some ((0:Int),(15:Int),false,true,(0:Int),(15:Int),true,false,(0:Int),(0:Int),false,false,(2:Int)):=by kernel_rfl
  simp only[F57_eq,hc,e,F84_eq,Option.bind_some,ne00,min64_lt,m1_lt,z_lt,dg_0_0,dg_0_1,dg_0_2,dg_0_3,dg_1_0,dg_1_1,dg_1_2,dg_1_3,dg_2_0,dg_2_1,dg_2_2,dg_2_3,bif_l,bif_r,varyI_ok hN h0,varyI_ok hN h1,room1,room2,room3,chk_true]
theorem coded_18 {N:Nat} (hN:20<N) {p0 p1 p2:Int} (h0:0≤p0∧p0≤9223372036854775807) (h1:0≤p1∧p1≤9223372036854775807):F45 N ((18:Int),p0,p1,p2)=some (([(18:Int)]++V p0.toNat)++V p1.toNat):=by
  have e:F65 N (18:Int)=some [119,114,45]:=by kernel_rfl
  simp only[F45_eq,e,F66_eq,Option.bind_some,show idx ([119,114,45]:List UInt8) (0:Int)=some 119 from rfl,show idx ([119,114,45]:List UInt8) (1:Int)=some 114 from rfl,show idx ([119,114,45]:List UInt8) (2:Int)=some 45 from rfl,show (((45:UInt8).toNat:Int)==(45:Int))=true from rfl,show (((114:UInt8).toNat:Int)==(45:Int))=false from rfl,show F67 N (((114:UInt8).toNat:Nat):Int)=some false from by kernel_rfl,show (((119:UInt8).toNat:Int)==(45:Int))=false from rfl,show F67 N (((119:UInt8).toNat:Nat):Int)=some false from by kernel_rfl,bif_l,bif_r,minimalI_ok hN h0,minimalI_ok hN h1,room1,room2,room3,chk_true]
theorem encO_19 {N:Nat} (hN:20<N) {p0 p1 p2:Int} (h0:0≤p0∧p0≤9223372036854775807) (h1:0≤p1∧p1≤9223372036854775807) (h2:0≤p2∧p2≤9223372036854775807) (hc:F80 N ((19:Int),p0,p1,p2)=some 0):F57 N ((19:Int),p0,p1,p2)=some (((([(19:Int)]++V p0.toNat)++V p1.toNat)++V p2.toNat),(0:Int)):=by
  have e:F83 N (19:Int)=some ((0:Int),(15:Int),false,true,(0:Int),(15:Int),true,false,(0:Int),(15:Int),true,false,(3:Int)):=by kernel_rfl
  simp only[F57_eq,hc,e,F84_eq,Option.bind_some,ne00,min64_lt,m1_lt,z_lt,dg_0_0,dg_0_1,dg_0_2,dg_0_3,dg_1_0,dg_1_1,dg_1_2,dg_1_3,dg_2_0,dg_2_1,dg_2_2,dg_2_3,bif_l,bif_r,varyI_ok hN h0,varyI_ok hN h1,varyI_ok hN h2,room1,room2,room3,chk_true]
theorem coded_19 {N:Nat} (hN:20<N) {p0 p1 p2:Int} (h0:0≤p0∧p0≤9223372036854775807) (h1:0≤p1∧p1≤9223372036854775807) (h2:0≤p2∧p2≤9223372036854775807):F45 N ((19:Int),p0,p1,p2)=some ((([(19:Int)]++V p0.toNat)++V p1.toNat)++V p2.toNat):=by
  have e:F65 N (19:Int)=some [119,114,114]:=by kernel_rfl
  simp only[F45_eq,e,F66_eq,Option.bind_some,show idx ([119,114,114]:List UInt8) (0:Int)=some 119 from rfl,show idx ([119,114,114]:List UInt8) (1:Int)=some 114 from rfl,show idx ([119,114,114]:List UInt8) (2:Int)=some 114 from rfl,show (((114:UInt8).toNat:Int)==(45:Int))=false from rfl,show F67 N (((114:UInt8).toNat:Nat):Int)=some false from by kernel_rfl,show (((119:UInt8).toNat:Int)==(45:Int))=false from rfl,show F67 N (((119:UInt8).toNat:Nat):Int)=some false from by kernel_rfl,bif_l,bif_r,minimalI_ok hN h0,minimalI_ok hN h1,minimalI_ok hN h2,room1,room2,room3,chk_true]
theorem encO_20 {N:Nat} (hN:20<N) {p0 p1 p2:Int} (h0:0≤p0∧p0≤9223372036854775807) (h1:0≤p1∧p1≤9223372036854775807) (h2:0≤p2∧p2≤9223372036854775807) (hc:F80 N ((20:Int),p0,p1,p2)=some 0):F57 N ((20:Int),p0,p1,p2)=some (((([(20:Int)]++V p0.toNat)++V p1.toNat)++V p2.toNat),(0:Int)):=by
  have e:F83 N (20:Int)=some ((0:Int),(15:Int),true,false,(0:Int),(15:Int),true,false,(0:Int),(15:Int),true,false,(3:Int)):=by kernel_rfl
  simp only[F57_eq,hc,e,F84_eq,Option.bind_some,ne00,min64_lt,m1_lt,z_lt,dg_0_0,dg_0_1,dg_0_2,dg_0_3,dg_1_0,dg_1_1,dg_1_2,dg_1_3,dg_2_0,dg_2_1,dg_2_2,dg_2_3,bif_l,bif_r,varyI_ok hN h0,varyI_ok hN h1,varyI_ok hN h2,room1,room2,room3,chk_true]
theorem coded_20 {N:Nat} (hN:20<N) {p0 p1 p2:Int} (h0:0≤p0∧p0≤9223372036854775807) (h1:0≤p1∧p1≤9223372036854775807) (h2:0≤p2∧p2≤9223372036854775807):F45 N ((20:Int),p0,p1,p2)=some ((([(20:Int)]++V p0.toNat)++V p1.toNat)++V p2.toNat):=by
  have e:F65 N (20:Int)=some [114,114,114]:=by kernel_rfl
  simp only[F45_eq,e,F66_eq,Option.bind_some,show idx ([114,114,114]:List UInt8) (0:Int)=some 114 from rfl,show idx ([114,114,114]:List UInt8) (1:Int)=some 114 from rfl,show idx ([114,114,114]:List UInt8) (2:Int)=some 114 from rfl,show (((114:UInt8).toNat:Int)==(45:Int))=false from rfl,show F67 N (((114:UInt8).toNat:Nat):Int)=some false from by kernel_rfl,bif_l,bif_r,minimalI_ok hN h0,minimalI_ok hN h1,minimalI_ok hN h2,room1,room2,room3,chk_true]
theorem encO_21 {N:Nat} (hN:20<N) {p0 p1 p2:Int} (h0:0≤p0∧p0≤9223372036854775807) (h1:0≤p1∧p1≤9223372036854775807) (hc:F80 N ((21:Int),p0,p1,p2)=some 0):F57 N ((21:Int),p0,p1,p2)=some ((([(21:Int)]++V p0.toNat)++V p1.toNat),(0:Int)):=by
  have e:F83 N (21:Int)=some ((0:Int),(15:Int),false,true,(0:Int),(15:Int),true,false,(0:Int),(0:Int),false,false,(2:Int)):=by kernel_rfl
  simp only[F57_eq,hc,e,F84_eq,Option.bind_some,ne00,min64_lt,m1_lt,z_lt,dg_0_0,dg_0_1,dg_0_2,dg_0_3,dg_1_0,dg_1_1,dg_1_2,dg_1_3,dg_2_0,dg_2_1,dg_2_2,dg_2_3,bif_l,bif_r,varyI_ok hN h0,varyI_ok hN h1,room1,room2,room3,chk_true]
theorem coded_21 {N:Nat} (hN:20<N) {p0 p1 p2:Int} (h0:0≤p0∧p0≤9223372036854775807) (h1:0≤p1∧p1≤9223372036854775807):F45 N ((21:Int),p0,p1,p2)=some (([(21:Int)]++V p0.toNat)++V p1.toNat):=by
  have e:F65 N (21:Int)=some [119,114,45]:=by kernel_rfl
  simp only[F45_eq,e,F66_eq,Option.bind_some,show idx ([119,114,45]:List UInt8) (0:Int)=some 119 from rfl,show idx ([119,114,45]:List UInt8) (1:Int)=some 114 from rfl,show idx ([119,114,45]:List UInt8) (2:Int)=some 45 from rfl,show (((45:UInt8).toNat:Int)==(45:Int))=true from rfl,show (((114:UInt8).toNat:Int)==(45:Int))=false from rfl,show F67 N (((114:UInt8).toNat:Nat):Int)=some false from by kernel_rfl,show (((119:UInt8).toNat:Int)==(45:Int))=false from rfl,show F67 N (((119:UInt8).toNat:Nat):Int)=some false from by kernel_rfl,bif_l,bif_r,minimalI_ok hN h0,minimalI_ok hN h1,room1,room2,room3,chk_true]
theorem encO_22 {N:Nat} (hN:20<N) {p0 p1 p2:Int} (h0:0≤p0∧p0≤9223372036854775807) (hc:F80 N ((22:Int),p0,p1,p2)=some 0):F57 N ((22:Int),p0,p1,p2)=some (([(22:Int)]++V p0.toNat),(0:Int)):=by
  have e:F83 N (22:Int)=some ((0:Int),(199:Int),false,false,(0:Int),(0:Int),false,false,(0:Int),(0:Int),false,false,(1:Int)):=by kernel_rfl
  simp only[F57_eq,hc,e,F84_eq,Option.bind_some,ne00,min64_lt,m1_lt,z_lt,dg_0_0,dg_0_1,dg_0_2,dg_0_3,dg_1_0,dg_1_1,dg_1_2,dg_1_3,dg_2_0,dg_2_1,dg_2_2,dg_2_3,bif_l,bif_r,varyI_ok hN h0,room1,room2,room3,chk_true]
theorem coded_22 {N:Nat} (hN:20<N) {p0 p1 p2:Int} (h0:0≤p0∧p0≤9223372036854775807):F45 N ((22:Int),p0,p1,p2)=some ([(22:Int)]++V p0.toNat):=by
  have e:F65 N (22:Int)=some [105,45,45]:=by kernel_rfl
  simp only[F45_eq,e,F66_eq,Option.bind_some,show idx ([105,45,45]:List UInt8) (0:Int)=some 105 from rfl,show idx ([105,45,45]:List UInt8) (1:Int)=some 45 from rfl,show idx ([105,45,45]:List UInt8) (2:Int)=some 45 from rfl,show (((45:UInt8).toNat:Int)==(45:Int))=true from rfl,show (((105:UInt8).toNat:Int)==(45:Int))=false from rfl,show F67 N (((105:UInt8).toNat:Nat):Int)=some false from by kernel_rfl,bif_l,bif_r,minimalI_ok hN h0,room1,room2,room3,chk_true]
theorem encO_23 {N:Nat} (hN:20<N) {p0 p1 p2:Int} (h0:0≤p0∧p0≤9223372036854775807) (h1:0≤p1∧p1≤9223372036854775807) (hc:F80 N ((23:Int),p0,p1,p2)=some 0):F57 N ((23:Int),p0,p1,p2)=some ((([(23:Int)]++V p0.toNat)++V p1.toNat),(0:Int)):=by
  have e:F83 N (23:Int)=some ((0:Int),(15:Int),true,false,(0:Int),(199:Int),false,false,(0:Int),(0:Int),false,false,(2:Int)):=by kernel_rfl
  simp only[F57_eq,hc,e,F84_eq,Option.bind_some,ne00,min64_lt,m1_lt,z_lt,dg_0_0,dg_0_1,dg_0_2,dg_0_3,dg_1_0,dg_1_1,dg_1_2,dg_1_3,dg_2_0,dg_2_1,dg_2_2,dg_2_3,bif_l,bif_r,varyI_ok hN h0,varyI_ok hN h1,room1,room2,room3,chk_true]
theorem coded_23 {N:Nat} (hN:20<N) {p0 p1 p2:Int} (h0:0≤p0∧p0≤9223372036854775807) (h1:0≤p1∧p1≤9223372036854775807):F45 N ((23:Int),p0,p1,p2)=some (([(23:Int)]++V p0.toNat)++V p1.toNat):=by
  have e:F65 N (23:Int)=some [114,105,45]:=by kernel_rfl
  simp only[F45_eq,e,F66_eq,Option.bind_some,show idx ([114,105,45]:List UInt8) (0:Int)=some 114 from rfl,show idx ([114,105,45]:List UInt8) (1:Int)=some 105 from rfl,show idx ([114,105,45]:List UInt8) (2:Int)=some 45 from rfl,show (((45:UInt8).toNat:Int)==(45:Int))=true from rfl,show (((105:UInt8).toNat:Int)==(45:Int))=false from rfl,show F67 N (((105:UInt8).toNat:Nat):Int)=some false from by kernel_rfl,show (((114:UInt8).toNat:Int)==(45:Int))=false from rfl,show F67 N (((114:UInt8).toNat:Nat):Int)=some false from by kernel_rfl,bif_l,bif_r,minimalI_ok hN h0,minimalI_ok hN h1,room1,room2,room3,chk_true]
theorem encO_24 {N:Nat} (hN:20<N) {p0 p1 p2:Int} (h0:0≤p0∧p0≤9223372036854775807) (hc:F80 N ((24:Int),p0,p1,p2)=some 0):F57 N ((24:Int),p0,p1,p2)=some (([(24:Int)]++V p0.toNat),(0:Int)):=by
  have e:F83 N (24:Int)=some ((0:Int),(15:Int),true,false,(0:Int),(0:Int),false,false,(0:Int),(0:Int),false,false,(1:Int)):=by kernel_rfl
  simp only[F57_eq,hc,e,F84_eq,Option.bind_some,ne00,min64_lt,m1_lt,z_lt,dg_0_0,dg_0_1,dg_0_2,dg_0_3,dg_1_0,dg_1_1,dg_1_2,dg_1_3,dg_2_0,dg_2_1,dg_2_2,dg_2_3,bif_l,bif_r,varyI_ok hN h0,room1,room2,room3,chk_true]
theorem coded_24 {N:Nat} (hN:20<N) {p0 p1 p2:Int} (h0:0≤p0∧p0≤9223372036854775807):F45 N ((24:Int),p0,p1,p2)=some ([(24:Int)]++V p0.toNat):=by
  have e:F65 N (24:Int)=some [114,45,45]:=by kernel_rfl
  simp only[F45_eq,e,F66_eq,Option.bind_some,show idx ([114,45,45]:List UInt8) (0:Int)=some 114 from rfl,show idx ([114,45,45]:List UInt8) (1:Int)=some 45 from rfl,show idx ([114,45,45]:List UInt8) (2:Int)=some 45 from rfl,show (((45:UInt8).toNat:Int)==(45:Int))=true from rfl,show (((114:UInt8).toNat:Int)==(45:Int))=false from rfl,show F67 N (((114:UInt8).toNat:Nat):Int)=some false from by kernel_rfl,bif_l,bif_r,minimalI_ok hN h0,room1,room2,room3,chk_true]
theorem encO_25 {N:Nat} (hN:20<N) {p0 p1 p2:Int} (h0 : -9223372036854775808≤p0∧p0≤9223372036854775807) (h1:0≤p1∧p1≤9223372036854775807) (hc:F80 N ((25:Int),p0,p1,p2)=some 0):F57 N ((25:Int),p0,p1,p2)=some ((([(25:Int)]++V (zig p0))++V p1.toNat),(0:Int)):=by
  have e:F83 N (25:Int)=some ((-1:Int),(15:Int),false,true,(0:Int),(31:Int),false,false,(0:Int),(0:Int),false,false,(2:Int)):=by kernel_rfl
  simp only[F57_eq,hc,e,F84_eq,Option.bind_some,ne00,min64_lt,m1_lt,z_lt,dg_0_0,dg_0_1,dg_0_2,dg_0_3,dg_1_0,dg_1_1,dg_1_2,dg_1_3,dg_2_0,dg_2_1,dg_2_2,dg_2_3,bif_l,bif_r,signed_ok hN h0,varyI_ok hN h1,room1,room2,room3,chk_true]
theorem coded_25 {N:Nat} (hN:20<N) {p0 p1 p2:Int} (h0 : -9223372036854775808≤p0∧p0≤9223372036854775807) (h1:0≤p1∧p1≤9223372036854775807):F45 N ((25:Int),p0,p1,p2)=some (([(25:Int)]++V (zig p0))++V p1.toNat):=by
  have e:F65 N (25:Int)=some [103,99,45]:=by kernel_rfl
  simp only[F45_eq,e,F66_eq,Option.bind_some,show idx ([103,99,45]:List UInt8) (0:Int)=some 103 from rfl,show idx ([103,99,45]:List UInt8) (1:Int)=some 99 from rfl,show idx ([103,99,45]:List UInt8) (2:Int)=some 45 from rfl,show (((45:UInt8).toNat:Int)==(45:Int))=true from rfl,show (((99:UInt8).toNat:Int)==(45:Int))=false from rfl,show F67 N (((99:UInt8).toNat:Nat):Int)=some false from by kernel_rfl,show (((103:UInt8).toNat:Int)==(45:Int))=false from rfl,show F67 N (((103:UInt8).toNat:Nat):Int)=some true from by kernel_rfl,bif_l,bif_r,double_ok h0,minimal_ok hN (zig_lt h0),minimalI_ok hN h1,room1,room2,room3,chk_true]
theorem encO_26 {N:Nat} (hN:20<N) {p0 p1 p2:Int} (h0:0≤p0∧p0≤9223372036854775807) (hc:F80 N ((26:Int),p0,p1,p2)=some 0):F57 N ((26:Int),p0,p1,p2)=some (([(26:Int)]++V p0.toNat),(0:Int)):=by
  have e:F83 N (26:Int)=some ((0:Int),(31:Int),false,false,(0:Int),(0:Int),false,false,(0:Int),(0:Int),false,false,(1:Int)):=by kernel_rfl
  simp only[F57_eq,hc,e,F84_eq,Option.bind_some,ne00,min64_lt,m1_lt,z_lt,dg_0_0,dg_0_1,dg_0_2,dg_0_3,dg_1_0,dg_1_1,dg_1_2,dg_1_3,dg_2_0,dg_2_1,dg_2_2,dg_2_3,bif_l,bif_r,varyI_ok hN h0,room1,room2,room3,chk_true]
theorem coded_26 {N:Nat} (hN:20<N) {p0 p1 p2:Int} (h0:0≤p0∧p0≤9223372036854775807):F45 N ((26:Int),p0,p1,p2)=some ([(26:Int)]++V p0.toNat):=by
  have e:F65 N (26:Int)=some [99,45,45]:=by kernel_rfl
  simp only[F45_eq,e,F66_eq,Option.bind_some,show idx ([99,45,45]:List UInt8) (0:Int)=some 99 from rfl,show idx ([99,45,45]:List UInt8) (1:Int)=some 45 from rfl,show idx ([99,45,45]:List UInt8) (2:Int)=some 45 from rfl,show (((45:UInt8).toNat:Int)==(45:Int))=true from rfl,show (((99:UInt8).toNat:Int)==(45:Int))=false from rfl,show F67 N (((99:UInt8).toNat:Nat):Int)=some false from by kernel_rfl,bif_l,bif_r,minimalI_ok hN h0,room1,room2,room3,chk_true]
theorem encO_27 {N:Nat} (hN:20<N) {p0 p1 p2:Int} (h0:0≤p0∧p0≤9223372036854775807) (hc:F80 N ((27:Int),p0,p1,p2)=some 0):F57 N ((27:Int),p0,p1,p2)=some (([(27:Int)]++V p0.toNat),(0:Int)):=by
  have e:F83 N (27:Int)=some ((0:Int),(31:Int),false,false,(0:Int),(0:Int),false,false,(0:Int),(0:Int),false,false,(1:Int)):=by kernel_rfl
  simp only[F57_eq,hc,e,F84_eq,Option.bind_some,ne00,min64_lt,m1_lt,z_lt,dg_0_0,dg_0_1,dg_0_2,dg_0_3,dg_1_0,dg_1_1,dg_1_2,dg_1_3,dg_2_0,dg_2_1,dg_2_2,dg_2_3,bif_l,bif_r,varyI_ok hN h0,room1,room2,room3,chk_true]
theorem coded_27 {N:Nat} (hN:20<N) {p0 p1 p2:Int} (h0:0≤p0∧p0≤9223372036854775807):F45 N ((27:Int),p0,p1,p2)=some ([(27:Int)]++V p0.toNat):=by
  have e:F65 N (27:Int)=some [99,45,45]:=by kernel_rfl
  simp only[F45_eq,e,F66_eq,Option.bind_some,show idx ([99,45,45]:List UInt8) (0:Int)=some 99 from rfl,show idx ([99,45,45]:List UInt8) (1:Int)=some 45 from rfl,show idx ([99,45,45]:List UInt8) (2:Int)=some 45 from rfl,show (((45:UInt8).toNat:Int)==(45:Int))=true from rfl,show (((99:UInt8).toNat:Int)==(45:Int))=false from rfl,show F67 N (((99:UInt8).toNat:Nat):Int)=some false from by kernel_rfl,bif_l,bif_r,minimalI_ok hN h0,room1,room2,room3,chk_true]
theorem encO_28 {N:Nat} (hN:20<N) {p0 p1 p2:Int} (h0:0≤p0∧p0≤9223372036854775807) (hc:F80 N ((28:Int),p0,p1,p2)=some 0):F57 N ((28:Int),p0,p1,p2)=some (([(28:Int)]++V p0.toNat),(0:Int)):=by
  have e:F83 N (28:Int)=some ((0:Int),(15:Int),true,false,(0:Int),(0:Int),false,false,(0:Int),(0:Int),false,false,(1:Int)):=by kernel_rfl
  simp only[F57_eq,hc,e,F84_eq,Option.bind_some,ne00,min64_lt,m1_lt,z_lt,dg_0_0,dg_0_1,dg_0_2,dg_0_3,dg_1_0,dg_1_1,dg_1_2,dg_1_3,dg_2_0,dg_2_1,dg_2_2,dg_2_3,bif_l,bif_r,varyI_ok hN h0,room1,room2,room3,chk_true]
theorem coded_28 {N:Nat} (hN:20<N) {p0 p1 p2:Int} (h0:0≤p0∧p0≤9223372036854775807):F45 N ((28:Int),p0,p1,p2)=some ([(28:Int)]++V p0.toNat):=by
  have e:F65 N (28:Int)=some [114,45,45]:=by kernel_rfl
  simp only[F45_eq,e,F66_eq,Option.bind_some,show idx ([114,45,45]:List UInt8) (0:Int)=some 114 from rfl,show idx ([114,45,45]:List UInt8) (1:Int)=some 45 from rfl,show idx ([114,45,45]:List UInt8) (2:Int)=some 45 from rfl,show (((45:UInt8).toNat:Int)==(45:Int))=true from rfl,show (((114:UInt8).toNat:Int)==(45:Int))=false from rfl,show F67 N (((114:UInt8).toNat:Nat):Int)=some false from by kernel_rfl,bif_l,bif_r,minimalI_ok hN h0,room1,room2,room3,chk_true]
theorem encO_29 {N:Nat} (hN:20<N) {p0 p1 p2:Int} (h0:0≤p0∧p0≤9223372036854775807) (h1:0≤p1∧p1≤9223372036854775807) (hc:F80 N ((29:Int),p0,p1,p2)=some 0):F57 N ((29:Int),p0,p1,p2)=some ((([(29:Int)]++V p0.toNat)++V p1.toNat),(0:Int)):=by
  have e:F83 N (29:Int)=some ((0:Int),(15:Int),false,true,(0:Int),(15:Int),false,true,(0:Int),(0:Int),false,false,(2:Int)):=by kernel_rfl
  simp only[F57_eq,hc,e,F84_eq,Option.bind_some,ne00,min64_lt,m1_lt,z_lt,dg_0_0,dg_0_1,dg_0_2,dg_0_3,dg_1_0,dg_1_1,dg_1_2,dg_1_3,dg_2_0,dg_2_1,dg_2_2,dg_2_3,bif_l,bif_r,varyI_ok hN h0,varyI_ok hN h1,room1,room2,room3,chk_true]
theorem coded_29 {N:Nat} (hN:20<N) {p0 p1 p2:Int} (h0:0≤p0∧p0≤9223372036854775807) (h1:0≤p1∧p1≤9223372036854775807):F45 N ((29:Int),p0,p1,p2)=some (([(29:Int)]++V p0.toNat)++V p1.toNat):=by
  have e:F65 N (29:Int)=some [119,119,45]:=by kernel_rfl
  simp only[F45_eq,e,F66_eq,Option.bind_some,show idx ([119,119,45]:List UInt8) (0:Int)=some 119 from rfl,show idx ([119,119,45]:List UInt8) (1:Int)=some 119 from rfl,show idx ([119,119,45]:List UInt8) (2:Int)=some 45 from rfl,show (((45:UInt8).toNat:Int)==(45:Int))=true from rfl,show (((119:UInt8).toNat:Int)==(45:Int))=false from rfl,show F67 N (((119:UInt8).toNat:Nat):Int)=some false from by kernel_rfl,bif_l,bif_r,minimalI_ok hN h0,minimalI_ok hN h1,room1,room2,room3,chk_true]
theorem encO_30 {N:Nat} {p0 p1 p2:Int} (hc:F80 N ((30:Int),p0,p1,p2)=some 0):F57 N ((30:Int),p0,p1,p2)=some ([(30:Int)],(0:Int)):=by
  have e:F83 N (30:Int)=some ((0:Int),(0:Int),false,false,(0:Int),(0:Int),false,false,(0:Int),(0:Int),false,false,(0:Int)):=by kernel_rfl
  simp only[F57_eq,hc,e,F84_eq,Option.bind_some,ne00,min64_lt,m1_lt,z_lt,dg_0_0,dg_0_1,dg_0_2,dg_0_3,dg_1_0,dg_1_1,dg_1_2,dg_1_3,dg_2_0,dg_2_1,dg_2_2,dg_2_3,bif_l,bif_r,room1,room2,room3,chk_true]
theorem coded_30 {N:Nat} {p0 p1 p2:Int} : F45 N ((30:Int),p0,p1,p2)=some [(30:Int)]:=by
  have e:F65 N (30:Int)=some [45,45,45]:=by kernel_rfl
  simp only[F45_eq,e,F66_eq,Option.bind_some,show idx ([45,45,45]:List UInt8) (0:Int)=some 45 from rfl,show idx ([45,45,45]:List UInt8) (1:Int)=some 45 from rfl,show idx ([45,45,45]:List UInt8) (2:Int)=some 45 from rfl,show (((45:UInt8).toNat:Int)==(45:Int))=true from rfl,bif_l,bif_r,room1,room2,room3,chk_true]
theorem encO_31 {N:Nat} {p0 p1 p2:Int} (hc:F80 N ((31:Int),p0,p1,p2)=some 0):F57 N ((31:Int),p0,p1,p2)=some ([(31:Int)],(0:Int)):=by
  have e:F83 N (31:Int)=some ((0:Int),(0:Int),false,false,(0:Int),(0:Int),false,false,(0:Int),(0:Int),false,false,(0:Int)):=by kernel_rfl
  simp only[F57_eq,hc,e,F84_eq,Option.bind_some,ne00,min64_lt,m1_lt,z_lt,dg_0_0,dg_0_1,dg_0_2,dg_0_3,dg_1_0,dg_1_1,dg_1_2,dg_1_3,dg_2_0,dg_2_1,dg_2_2,dg_2_3,bif_l,bif_r,room1,room2,room3,chk_true]
theorem coded_31 {N:Nat} {p0 p1 p2:Int} : F45 N ((31:Int),p0,p1,p2)=some [(31:Int)]:=by
  have e:F65 N (31:Int)=some [45,45,45]:=by kernel_rfl
  simp only[F45_eq,e,F66_eq,Option.bind_some,show idx ([45,45,45]:List UInt8) (0:Int)=some 45 from rfl,show idx ([45,45,45]:List UInt8) (1:Int)=some 45 from rfl,show idx ([45,45,45]:List UInt8) (2:Int)=some 45 from rfl,show (((45:UInt8).toNat:Int)==(45:Int))=true from rfl,bif_l,bif_r,room1,room2,room3,chk_true]
theorem encO_32 {N:Nat} (hN:20<N) {p0 p1 p2:Int} (h0:0≤p0∧p0≤9223372036854775807) (hc:F80 N ((32:Int),p0,p1,p2)=some 0):F57 N ((32:Int),p0,p1,p2)=some (([(32:Int)]++V p0.toNat),(0:Int)):=by
  have e:F83 N (32:Int)=some ((0:Int),(15:Int),true,false,(0:Int),(0:Int),false,false,(0:Int),(0:Int),false,false,(1:Int)):=by kernel_rfl
  simp only[F57_eq,hc,e,F84_eq,Option.bind_some,ne00,min64_lt,m1_lt,z_lt,dg_0_0,dg_0_1,dg_0_2,dg_0_3,dg_1_0,dg_1_1,dg_1_2,dg_1_3,dg_2_0,dg_2_1,dg_2_2,dg_2_3,bif_l,bif_r,varyI_ok hN h0,room1,room2,room3,chk_true]
theorem coded_32 {N:Nat} (hN:20<N) {p0 p1 p2:Int} (h0:0≤p0∧p0≤9223372036854775807):F45 N ((32:Int),p0,p1,p2)=some ([(32:Int)]++V p0.toNat):=by
  have e:F65 N (32:Int)=some [114,45,45]:=by kernel_rfl
  simp only[F45_eq,e,F66_eq,Option.bind_some,show idx ([114,45,45]:List UInt8) (0:Int)=some 114 from rfl,show idx ([114,45,45]:List UInt8) (1:Int)=some 45 from rfl,show idx ([114,45,45]:List UInt8) (2:Int)=some 45 from rfl,show (((45:UInt8).toNat:Int)==(45:Int))=true from rfl,show (((114:UInt8).toNat:Int)==(45:Int))=false from rfl,show F67 N (((114:UInt8).toNat:Nat):Int)=some false from by kernel_rfl,bif_l,bif_r,minimalI_ok hN h0,room1,room2,room3,chk_true]
theorem encO_33 {N:Nat} (hN:20<N) {p0 p1 p2:Int} (h0:0≤p0∧p0≤9223372036854775807) (h1:0≤p1∧p1≤9223372036854775807) (hc:F80 N ((33:Int),p0,p1,p2)=some 0):F57 N ((33:Int),p0,p1,p2)=some ((([(33:Int)]++V p0.toNat)++V p1.toNat),(0:Int)):=by
  have e:F83 N (33:Int)=some ((0:Int),(15:Int),false,true,(0:Int),(15:Int),true,false,(0:Int),(0:Int),false,false,(2:Int)):=by kernel_rfl
  simp only[F57_eq,hc,e,F84_eq,Option.bind_some,ne00,min64_lt,m1_lt,z_lt,dg_0_0,dg_0_1,dg_0_2,dg_0_3,dg_1_0,dg_1_1,dg_1_2,dg_1_3,dg_2_0,dg_2_1,dg_2_2,dg_2_3,bif_l,bif_r,varyI_ok hN h0,varyI_ok hN h1,room1,room2,room3,chk_true]
theorem coded_33 {N:Nat} (hN:20<N) {p0 p1 p2:Int} (h0:0≤p0∧p0≤9223372036854775807) (h1:0≤p1∧p1≤9223372036854775807):F45 N ((33:Int),p0,p1,p2)=some (([(33:Int)]++V p0.toNat)++V p1.toNat):=by
  have e:F65 N (33:Int)=some [119,114,45]:=by kernel_rfl
  simp only[F45_eq,e,F66_eq,Option.bind_some,show idx ([119,114,45]:List UInt8) (0:Int)=some 119 from rfl,show idx ([119,114,45]:List UInt8) (1:Int)=some 114 from rfl,show idx ([119,114,45]:List UInt8) (2:Int)=some 45 from rfl,show (((45:UInt8).toNat:Int)==(45:Int))=true from rfl,show (((114:UInt8).toNat:Int)==(45:Int))=false from rfl,show F67 N (((114:UInt8).toNat:Nat):Int)=some false from by kernel_rfl,show (((119:UInt8).toNat:Int)==(45:Int))=false from rfl,show F67 N (((119:UInt8).toNat:Nat):Int)=some false from by kernel_rfl,bif_l,bif_r,minimalI_ok hN h0,minimalI_ok hN h1,room1,room2,room3,chk_true]
theorem encO_34 {N:Nat} (hN:20<N) {p0 p1 p2:Int} (h0 : -9223372036854775808≤p0∧p0≤9223372036854775807) (hc:F80 N ((34:Int),p0,p1,p2)=some 0):F57 N ((34:Int),p0,p1,p2)=some (([(34:Int)]++V (zig p0)),(0:Int)):=by
  have e:F83 N (34:Int)=some ((-1:Int),(15:Int),true,false,(0:Int),(0:Int),false,false,(0:Int),(0:Int),false,false,(1:Int)):=by kernel_rfl
  simp only[F57_eq,hc,e,F84_eq,Option.bind_some,ne00,min64_lt,m1_lt,z_lt,dg_0_0,dg_0_1,dg_0_2,dg_0_3,dg_1_0,dg_1_1,dg_1_2,dg_1_3,dg_2_0,dg_2_1,dg_2_2,dg_2_3,bif_l,bif_r,signed_ok hN h0,room1,room2,room3,chk_true]
theorem coded_34 {N:Nat} (hN:20<N) {p0 p1 p2:Int} (h0 : -9223372036854775808≤p0∧p0≤9223372036854775807):F45 N ((34:Int),p0,p1,p2)=some ([(34:Int)]++V (zig p0)):=by
  have e:F65 N (34:Int)=some [101,45,45]:=by kernel_rfl
  simp only[F45_eq,e,F66_eq,Option.bind_some,show idx ([101,45,45]:List UInt8) (0:Int)=some 101 from rfl,show idx ([101,45,45]:List UInt8) (1:Int)=some 45 from rfl,show idx ([101,45,45]:List UInt8) (2:Int)=some 45 from rfl,show (((45:UInt8).toNat:Int)==(45:Int))=true from rfl,show (((101:UInt8).toNat:Int)==(45:Int))=false from rfl,show F67 N (((101:UInt8).toNat:Nat):Int)=some true from by kernel_rfl,bif_l,bif_r,double_ok h0,minimal_ok hN (zig_lt h0),room1,room2,room3,chk_true]
theorem encI_len (x:Instr):(encI x).length≤31:=by
  have hk:∀ c v,(encK c v).length≤10:=fun c v=>by
    unfold encK
    split
    · simp
    · split
      · exact (V_len _).2
      · exact (V_len _).2
  unfold encI
  split
  · rename_i a b c _
    have:=hk a x.2.1;have:=hk b x.2.2.1;have:=hk c x.2.2.2
    simp only[List.length_cons,List.length_append];omega
  · simp
theorem enc_ok {N:Nat} (hN:20<N) {x:Instr} (hx:okI x) (hc:chkI x=true) :
    F57 N (x.1,x.2.1,x.2.2.1,x.2.2.2)=some (encI x,0)∧F45 N (x.1,x.2.1,x.2.2.1,x.2.2.2)=some (encI x):=by
  have hz:F80 N (x.1,x.2.1,x.2.2.1,x.2.2.2)=some 0:=by rw[checkO_ok,hc];rfl
  obtain⟨p,p0,p1,p2⟩:=x
  obtain⟨i0,i1,i2⟩:=hx
  simp only at hz i0 i1 i2 ⊢
  unfold i64 at i0 i1 i2
  rcases ops_cases p with h|ne
  · have : p = 1 ∨ p = 2 ∨ p = 3 ∨ p = 4 ∨ p = 5 ∨ p = 6 ∨ p = 7 ∨ p = 8 ∨ p = 9 ∨ p = 10 ∨ p = 11 ∨ p = 12 ∨ p = 13 ∨ p = 14 ∨ p = 15 ∨ p = 16 ∨ p = 17 ∨ p = 18 ∨ p = 19 ∨ p = 20 ∨ p = 21 ∨ p = 22 ∨ p = 23 ∨ p = 24 ∨ p = 25 ∨ p = 26 ∨ p = 27 ∨ p = 28 ∨ p = 29 ∨ p = 30 ∨ p = 31 ∨ p = 32 ∨ p = 33 ∨ p = 34 := by omega
    rcases this with rfl|rfl|rfl|rfl|rfl|rfl|rfl|rfl|rfl|rfl|rfl|rfl|rfl|rfl|rfl|rfl|rfl|rfl|rfl|rfl|rfl|rfl|rfl|rfl|rfl|rfl|rfl|rfl|rfl|rfl|rfl|rfl|rfl|rfl
    · have hs : shp (1 : Int) = some (119, 110, 45) := by kernel_rfl
      have hc:(fits 119 p0&&(fits 110 p1&&fits 45 p2))=true:=by simpa only[chkI,hs] using hc
      simp only[fits,U,Bool.and_eq_true,decide_eq_true_eq] at hc
      have he:encI ((1:Int),p0,p1,p2)=(1:Int) :: (encK 119 p0++(encK 110 p1++encK 45 p2)):=by simp only[encI,hs]
      rw[he]
      refine⟨(encO_1 hN (⟨hc.1.1,i0.2⟩) i1 hz).trans ?_,(coded_1 hN (⟨hc.1.1,i0.2⟩) i1).trans ?_⟩<;>simp[encK]
    · have hs : shp (2 : Int) = some (119, 116, 45) := by kernel_rfl
      have hc:(fits 119 p0&&(fits 116 p1&&fits 45 p2))=true:=by simpa only[chkI,hs] using hc
      simp only[fits,U,Bool.and_eq_true,decide_eq_true_eq] at hc
      have he:encI ((2:Int),p0,p1,p2)=(2:Int) :: (encK 119 p0++(encK 116 p1++encK 45 p2)):=by simp only[encI,hs]
      rw[he]
      refine⟨(encO_2 hN (⟨hc.1.1,i0.2⟩) (⟨hc.2.1.1,i1.2⟩) hz).trans ?_,(coded_2 hN (⟨hc.1.1,i0.2⟩) (⟨hc.2.1.1,i1.2⟩)).trans ?_⟩<;>simp[encK]
    · have hs : shp (3 : Int) = some (119, 98, 45) := by kernel_rfl
      have hc:(fits 119 p0&&(fits 98 p1&&fits 45 p2))=true:=by simpa only[chkI,hs] using hc
      simp only[fits,U,Bool.and_eq_true,decide_eq_true_eq] at hc
      have he:encI ((3:Int),p0,p1,p2)=(3:Int) :: (encK 119 p0++(encK 98 p1++encK 45 p2)):=by simp only[encI,hs]
      rw[he]
      refine⟨(encO_3 hN (⟨hc.1.1,i0.2⟩) (⟨hc.2.1.1,i1.2⟩) hz).trans ?_,(coded_3 hN (⟨hc.1.1,i0.2⟩) (⟨hc.2.1.1,i1.2⟩)).trans ?_⟩<;>simp[encK]
    · have hs : shp (4 : Int) = some (119, 45, 45) := by kernel_rfl
      have hc:(fits 119 p0&&(fits 45 p1&&fits 45 p2))=true:=by simpa only[chkI,hs] using hc
      simp only[fits,U,Bool.and_eq_true,decide_eq_true_eq] at hc
      have he:encI ((4:Int),p0,p1,p2)=(4:Int) :: (encK 119 p0++(encK 45 p1++encK 45 p2)):=by simp only[encI,hs]
      rw[he]
      refine⟨(encO_4 hN (⟨hc.1.1,i0.2⟩) hz).trans ?_,(coded_4 hN (⟨hc.1.1,i0.2⟩)).trans ?_⟩<;>simp[encK]
    · have hs : shp (5 : Int) = some (119, 114, 45) := by kernel_rfl
      have hc:(fits 119 p0&&(fits 114 p1&&fits 45 p2))=true:=by simpa only[chkI,hs] using hc
      simp only[fits,U,Bool.and_eq_true,decide_eq_true_eq] at hc
      have he:encI ((5:Int),p0,p1,p2)=(5:Int) :: (encK 119 p0++(encK 114 p1++encK 45 p2)):=by simp only[encI,hs]
      rw[he]
      refine⟨(encO_5 hN (⟨hc.1.1,i0.2⟩) (⟨hc.2.1.1,i1.2⟩) hz).trans ?_,(coded_5 hN (⟨hc.1.1,i0.2⟩) (⟨hc.2.1.1,i1.2⟩)).trans ?_⟩<;>simp[encK]
    · have hs : shp (6 : Int) = some (119, 114, 114) := by kernel_rfl
      have hc:(fits 119 p0&&(fits 114 p1&&fits 114 p2))=true:=by simpa only[chkI,hs] using hc
      simp only[fits,U,Bool.and_eq_true,decide_eq_true_eq] at hc
      have he:encI ((6:Int),p0,p1,p2)=(6:Int) :: (encK 119 p0++(encK 114 p1++encK 114 p2)):=by simp only[encI,hs]
      rw[he]
      refine⟨(encO_6 hN (⟨hc.1.1,i0.2⟩) (⟨hc.2.1.1,i1.2⟩) (⟨hc.2.2.1,i2.2⟩) hz).trans ?_,(coded_6 hN (⟨hc.1.1,i0.2⟩) (⟨hc.2.1.1,i1.2⟩) (⟨hc.2.2.1,i2.2⟩)).trans ?_⟩<;>simp[encK]
    · have hs : shp (7 : Int) = some (119, 114, 114) := by kernel_rfl
      have hc:(fits 119 p0&&(fits 114 p1&&fits 114 p2))=true:=by simpa only[chkI,hs] using hc
      simp only[fits,U,Bool.and_eq_true,decide_eq_true_eq] at hc
      have he:encI ((7:Int),p0,p1,p2)=(7:Int) :: (encK 119 p0++(encK 114 p1++encK 114 p2)):=by simp only[encI,hs]
      rw[he]
      refine⟨(encO_7 hN (⟨hc.1.1,i0.2⟩) (⟨hc.2.1.1,i1.2⟩) (⟨hc.2.2.1,i2.2⟩) hz).trans ?_,(coded_7 hN (⟨hc.1.1,i0.2⟩) (⟨hc.2.1.1,i1.2⟩) (⟨hc.2.2.1,i2.2⟩)).trans ?_⟩<;>simp[encK]
    · have hs : shp (8 : Int) = some (119, 114, 114) := by kernel_rfl
      have hc:(fits 119 p0&&(fits 114 p1&&fits 114 p2))=true:=by simpa only[chkI,hs] using hc
      simp only[fits,U,Bool.and_eq_true,decide_eq_true_eq] at hc
      have he:encI ((8:Int),p0,p1,p2)=(8:Int) :: (encK 119 p0++(encK 114 p1++encK 114 p2)):=by simp only[encI,hs]
      rw[he]
      refine⟨(encO_8 hN (⟨hc.1.1,i0.2⟩) (⟨hc.2.1.1,i1.2⟩) (⟨hc.2.2.1,i2.2⟩) hz).trans ?_,(coded_8 hN (⟨hc.1.1,i0.2⟩) (⟨hc.2.1.1,i1.2⟩) (⟨hc.2.2.1,i2.2⟩)).trans ?_⟩<;>simp[encK]
    · have hs : shp (9 : Int) = some (119, 114, 114) := by kernel_rfl
      have hc:(fits 119 p0&&(fits 114 p1&&fits 114 p2))=true:=by simpa only[chkI,hs] using hc
      simp only[fits,U,Bool.and_eq_true,decide_eq_true_eq] at hc
      have he:encI ((9:Int),p0,p1,p2)=(9:Int) :: (encK 119 p0++(encK 114 p1++encK 114 p2)):=by simp only[encI,hs]
      rw[he]
      refine⟨(encO_9 hN (⟨hc.1.1,i0.2⟩) (⟨hc.2.1.1,i1.2⟩) (⟨hc.2.2.1,i2.2⟩) hz).trans ?_,(coded_9 hN (⟨hc.1.1,i0.2⟩) (⟨hc.2.1.1,i1.2⟩) (⟨hc.2.2.1,i2.2⟩)).trans ?_⟩<;>simp[encK]
    · have hs : shp (10 : Int) = some (119, 114, 114) := by kernel_rfl
      have hc:(fits 119 p0&&(fits 114 p1&&fits 114 p2))=true:=by simpa only[chkI,hs] using hc
      simp only[fits,U,Bool.and_eq_true,decide_eq_true_eq] at hc
      have he:encI ((10:Int),p0,p1,p2)=(10:Int) :: (encK 119 p0++(encK 114 p1++encK 114 p2)):=by simp only[encI,hs]
      rw[he]
      refine⟨(encO_10 hN (⟨hc.1.1,i0.2⟩) (⟨hc.2.1.1,i1.2⟩) (⟨hc.2.2.1,i2.2⟩) hz).trans ?_,(coded_10 hN (⟨hc.1.1,i0.2⟩) (⟨hc.2.1.1,i1.2⟩) (⟨hc.2.2.1,i2.2⟩)).trans ?_⟩<;>simp[encK]
    · have hs : shp (11 : Int) = some (119, 114, 114) := by kernel_rfl
      have hc:(fits 119 p0&&(fits 114 p1&&fits 114 p2))=true:=by simpa only[chkI,hs] using hc
      simp only[fits,U,Bool.and_eq_true,decide_eq_true_eq] at hc
      have he:encI ((11:Int),p0,p1,p2)=(11:Int) :: (encK 119 p0++(encK 114 p1++encK 114 p2)):=by simp only[encI,hs]
      rw[he]
      refine⟨(encO_11 hN (⟨hc.1.1,i0.2⟩) (⟨hc.2.1.1,i1.2⟩) (⟨hc.2.2.1,i2.2⟩) hz).trans ?_,(coded_11 hN (⟨hc.1.1,i0.2⟩) (⟨hc.2.1.1,i1.2⟩) (⟨hc.2.2.1,i2.2⟩)).trans ?_⟩<;>simp[encK]
    · have hs : shp (12 : Int) = some (119, 114, 45) := by kernel_rfl
      have hc:(fits 119 p0&&(fits 114 p1&&fits 45 p2))=true:=by simpa only[chkI,hs] using hc
      simp only[fits,U,Bool.and_eq_true,decide_eq_true_eq] at hc
      have he:encI ((12:Int),p0,p1,p2)=(12:Int) :: (encK 119 p0++(encK 114 p1++encK 45 p2)):=by simp only[encI,hs]
      rw[he]
      refine⟨(encO_12 hN (⟨hc.1.1,i0.2⟩) (⟨hc.2.1.1,i1.2⟩) hz).trans ?_,(coded_12 hN (⟨hc.1.1,i0.2⟩) (⟨hc.2.1.1,i1.2⟩)).trans ?_⟩<;>simp[encK]
    · have hs : shp (13 : Int) = some (119, 114, 102) := by kernel_rfl
      have hc:(fits 119 p0&&(fits 114 p1&&fits 102 p2))=true:=by simpa only[chkI,hs] using hc
      simp only[fits,U,Bool.and_eq_true,decide_eq_true_eq] at hc
      have he:encI ((13:Int),p0,p1,p2)=(13:Int) :: (encK 119 p0++(encK 114 p1++encK 102 p2)):=by simp only[encI,hs]
      rw[he]
      refine⟨(encO_13 hN (⟨hc.1.1,i0.2⟩) (⟨hc.2.1.1,i1.2⟩) (⟨hc.2.2.1,i2.2⟩) hz).trans ?_,(coded_13 hN (⟨hc.1.1,i0.2⟩) (⟨hc.2.1.1,i1.2⟩) (⟨hc.2.2.1,i2.2⟩)).trans ?_⟩<;>simp[encK]
    · have hs : shp (14 : Int) = some (114, 102, 114) := by kernel_rfl
      have hc:(fits 114 p0&&(fits 102 p1&&fits 114 p2))=true:=by simpa only[chkI,hs] using hc
      simp only[fits,U,Bool.and_eq_true,decide_eq_true_eq] at hc
      have he:encI ((14:Int),p0,p1,p2)=(14:Int) :: (encK 114 p0++(encK 102 p1++encK 114 p2)):=by simp only[encI,hs]
      rw[he]
      refine⟨(encO_14 hN (⟨hc.1.1,i0.2⟩) (⟨hc.2.1.1,i1.2⟩) (⟨hc.2.2.1,i2.2⟩) hz).trans ?_,(coded_14 hN (⟨hc.1.1,i0.2⟩) (⟨hc.2.1.1,i1.2⟩) (⟨hc.2.2.1,i2.2⟩)).trans ?_⟩<;>simp[encK]
    · have hs : shp (15 : Int) = some (119, 45, 45) := by kernel_rfl
      have hc:(fits 119 p0&&(fits 45 p1&&fits 45 p2))=true:=by simpa only[chkI,hs] using hc
      simp only[fits,U,Bool.and_eq_true,decide_eq_true_eq] at hc
      have he:encI ((15:Int),p0,p1,p2)=(15:Int) :: (encK 119 p0++(encK 45 p1++encK 45 p2)):=by simp only[encI,hs]
      rw[he]
      refine⟨(encO_15 hN (⟨hc.1.1,i0.2⟩) hz).trans ?_,(coded_15 hN (⟨hc.1.1,i0.2⟩)).trans ?_⟩<;>simp[encK]
    · have hs : shp (16 : Int) = some (119, 114, 45) := by kernel_rfl
      have hc:(fits 119 p0&&(fits 114 p1&&fits 45 p2))=true:=by simpa only[chkI,hs] using hc
      simp only[fits,U,Bool.and_eq_true,decide_eq_true_eq] at hc
      have he:encI ((16:Int),p0,p1,p2)=(16:Int) :: (encK 119 p0++(encK 114 p1++encK 45 p2)):=by simp only[encI,hs]
      rw[he]
      refine⟨(encO_16 hN (⟨hc.1.1,i0.2⟩) (⟨hc.2.1.1,i1.2⟩) hz).trans ?_,(coded_16 hN (⟨hc.1.1,i0.2⟩) (⟨hc.2.1.1,i1.2⟩)).trans ?_⟩<;>simp[encK]
    · have hs : shp (17 : Int) = some (114, 114, 45) := by kernel_rfl
      have hc:(fits 114 p0&&(fits 114 p1&&fits 45 p2))=true:=by simpa only[chkI,hs] using hc
      simp only[fits,U,Bool.and_eq_true,decide_eq_true_eq] at hc
      have he:encI ((17:Int),p0,p1,p2)=(17:Int) :: (encK 114 p0++(encK 114 p1++encK 45 p2)):=by simp only[encI,hs]
      rw[he]
      refine⟨(encO_17 hN (⟨hc.1.1,i0.2⟩) (⟨hc.2.1.1,i1.2⟩) hz).trans ?_,(coded_17 hN (⟨hc.1.1,i0.2⟩) (⟨hc.2.1.1,i1.2⟩)).trans ?_⟩<;>simp[encK]
    · have hs : shp (18 : Int) = some (119, 114, 45) := by kernel_rfl
      have hc:(fits 119 p0&&(fits 114 p1&&fits 45 p2))=true:=by simpa only[chkI,hs] using hc
      simp only[fits,U,Bool.and_eq_true,decide_eq_true_eq] at hc
      have he:encI ((18:Int),p0,p1,p2)=(18:Int) :: (encK 119 p0++(encK 114 p1++encK 45 p2)):=by simp only[encI,hs]
      rw[he]
      refine⟨(encO_18 hN (⟨hc.1.1,i0.2⟩) (⟨hc.2.1.1,i1.2⟩) hz).trans ?_,(coded_18 hN (⟨hc.1.1,i0.2⟩) (⟨hc.2.1.1,i1.2⟩)).trans ?_⟩<;>simp[encK]
    · have hs : shp (19 : Int) = some (119, 114, 114) := by kernel_rfl
      have hc:(fits 119 p0&&(fits 114 p1&&fits 114 p2))=true:=by simpa only[chkI,hs] using hc
      simp only[fits,U,Bool.and_eq_true,decide_eq_true_eq] at hc
      have he:encI ((19:Int),p0,p1,p2)=(19:Int) :: (encK 119 p0++(encK 114 p1++encK 114 p2)):=by simp only[encI,hs]
      rw[he]
      refine⟨(encO_19 hN (⟨hc.1.1,i0.2⟩) (⟨hc.2.1.1,i1.2⟩) (⟨hc.2.2.1,i2.2⟩) hz).trans ?_,(coded_19 hN (⟨hc.1.1,i0.2⟩) (⟨hc.2.1.1,i1.2⟩) (⟨hc.2.2.1,i2.2⟩)).trans ?_⟩<;>simp[encK]
    · have hs : shp (20 : Int) = some (114, 114, 114) := by kernel_rfl
      have hc:(fits 114 p0&&(fits 114 p1&&fits 114 p2))=true:=by simpa only[chkI,hs] using hc
      simp only[fits,U,Bool.and_eq_true,decide_eq_true_eq] at hc
      have he:encI ((20:Int),p0,p1,p2)=(20:Int) :: (encK 114 p0++(encK 114 p1++encK 114 p2)):=by simp only[encI,hs]
      rw[he]
      refine⟨(encO_20 hN (⟨hc.1.1,i0.2⟩) (⟨hc.2.1.1,i1.2⟩) (⟨hc.2.2.1,i2.2⟩) hz).trans ?_,(coded_20 hN (⟨hc.1.1,i0.2⟩) (⟨hc.2.1.1,i1.2⟩) (⟨hc.2.2.1,i2.2⟩)).trans ?_⟩<;>simp[encK]
    · have hs : shp (21 : Int) = some (119, 114, 45) := by kernel_rfl
      have hc:(fits 119 p0&&(fits 114 p1&&fits 45 p2))=true:=by simpa only[chkI,hs] using hc
      simp only[fits,U,Bool.and_eq_true,decide_eq_true_eq] at hc
      have he:encI ((21:Int),p0,p1,p2)=(21:Int) :: (encK 119 p0++(encK 114 p1++encK 45 p2)):=by simp only[encI,hs]
      rw[he]
      refine⟨(encO_21 hN (⟨hc.1.1,i0.2⟩) (⟨hc.2.1.1,i1.2⟩) hz).trans ?_,(coded_21 hN (⟨hc.1.1,i0.2⟩) (⟨hc.2.1.1,i1.2⟩)).trans ?_⟩<;>simp[encK]
    · have hs : shp (22 : Int) = some (105, 45, 45) := by kernel_rfl
      have hc:(fits 105 p0&&(fits 45 p1&&fits 45 p2))=true:=by simpa only[chkI,hs] using hc
      simp only[fits,U,Bool.and_eq_true,decide_eq_true_eq] at hc
      have he:encI ((22:Int),p0,p1,p2)=(22:Int) :: (encK 105 p0++(encK 45 p1++encK 45 p2)):=by simp only[encI,hs]
      rw[he]
      refine⟨(encO_22 hN (⟨hc.1.1,i0.2⟩) hz).trans ?_,(coded_22 hN (⟨hc.1.1,i0.2⟩)).trans ?_⟩<;>simp[encK]
    · have hs : shp (23 : Int) = some (114, 105, 45) := by kernel_rfl
      have hc:(fits 114 p0&&(fits 105 p1&&fits 45 p2))=true:=by simpa only[chkI,hs] using hc
      simp only[fits,U,Bool.and_eq_true,decide_eq_true_eq] at hc
      have he:encI ((23:Int),p0,p1,p2)=(23:Int) :: (encK 114 p0++(encK 105 p1++encK 45 p2)):=by simp only[encI,hs]
      rw[he]
      refine⟨(encO_23 hN (⟨hc.1.1,i0.2⟩) (⟨hc.2.1.1,i1.2⟩) hz).trans ?_,(coded_23 hN (⟨hc.1.1,i0.2⟩) (⟨hc.2.1.1,i1.2⟩)).trans ?_⟩<;>simp[encK]
    · have hs : shp (24 : Int) = some (114, 45, 45) := by kernel_rfl
      have hc:(fits 114 p0&&(fits 45 p1&&fits 45 p2))=true:=by simpa only[chkI,hs] using hc
      simp only[fits,U,Bool.and_eq_true,decide_eq_true_eq] at hc
      have he:encI ((24:Int),p0,p1,p2)=(24:Int) :: (encK 114 p0++(encK 45 p1++encK 45 p2)):=by simp only[encI,hs]
      rw[he]
      refine⟨(encO_24 hN (⟨hc.1.1,i0.2⟩) hz).trans ?_,(coded_24 hN (⟨hc.1.1,i0.2⟩)).trans ?_⟩<;>simp[encK]
    · have hs : shp (25 : Int) = some (103, 99, 45) := by kernel_rfl
      have hc:(fits 103 p0&&(fits 99 p1&&fits 45 p2))=true:=by simpa only[chkI,hs] using hc
      simp only[fits,U,Bool.and_eq_true,decide_eq_true_eq] at hc
      have he:encI ((25:Int),p0,p1,p2)=(25:Int) :: (encK 103 p0++(encK 99 p1++encK 45 p2)):=by simp only[encI,hs]
      rw[he]
      refine⟨(encO_25 hN i0 (⟨hc.2.1.1,i1.2⟩) hz).trans ?_,(coded_25 hN i0 (⟨hc.2.1.1,i1.2⟩)).trans ?_⟩<;>simp[encK]
    · have hs : shp (26 : Int) = some (99, 45, 45) := by kernel_rfl
      have hc:(fits 99 p0&&(fits 45 p1&&fits 45 p2))=true:=by simpa only[chkI,hs] using hc
      simp only[fits,U,Bool.and_eq_true,decide_eq_true_eq] at hc
      have he:encI ((26:Int),p0,p1,p2)=(26:Int) :: (encK 99 p0++(encK 45 p1++encK 45 p2)):=by simp only[encI,hs]
      rw[he]
      refine⟨(encO_26 hN (⟨hc.1.1,i0.2⟩) hz).trans ?_,(coded_26 hN (⟨hc.1.1,i0.2⟩)).trans ?_⟩<;>simp[encK]
    · have hs : shp (27 : Int) = some (99, 45, 45) := by kernel_rfl
      have hc:(fits 99 p0&&(fits 45 p1&&fits 45 p2))=true:=by simpa only[chkI,hs] using hc
      simp only[fits,U,Bool.and_eq_true,decide_eq_true_eq] at hc
      have he:encI ((27:Int),p0,p1,p2)=(27:Int) :: (encK 99 p0++(encK 45 p1++encK 45 p2)):=by simp only[encI,hs]
      rw[he]
      refine⟨(encO_27 hN (⟨hc.1.1,i0.2⟩) hz).trans ?_,(coded_27 hN (⟨hc.1.1,i0.2⟩)).trans ?_⟩<;>simp[encK]
    · have hs : shp (28 : Int) = some (114, 45, 45) := by kernel_rfl
      have hc:(fits 114 p0&&(fits 45 p1&&fits 45 p2))=true:=by simpa only[chkI,hs] using hc
      simp only[fits,U,Bool.and_eq_true,decide_eq_true_eq] at hc
      have he:encI ((28:Int),p0,p1,p2)=(28:Int) :: (encK 114 p0++(encK 45 p1++encK 45 p2)):=by simp only[encI,hs]
      rw[he]
      refine⟨(encO_28 hN (⟨hc.1.1,i0.2⟩) hz).trans ?_,(coded_28 hN (⟨hc.1.1,i0.2⟩)).trans ?_⟩<;>simp[encK]
    · have hs : shp (29 : Int) = some (119, 119, 45) := by kernel_rfl
      have hc:(fits 119 p0&&(fits 119 p1&&fits 45 p2))=true:=by simpa only[chkI,hs] using hc
      simp only[fits,U,Bool.and_eq_true,decide_eq_true_eq] at hc
      have he:encI ((29:Int),p0,p1,p2)=(29:Int) :: (encK 119 p0++(encK 119 p1++encK 45 p2)):=by simp only[encI,hs]
      rw[he]
      refine⟨(encO_29 hN (⟨hc.1.1,i0.2⟩) (⟨hc.2.1.1,i1.2⟩) hz).trans ?_,(coded_29 hN (⟨hc.1.1,i0.2⟩) (⟨hc.2.1.1,i1.2⟩)).trans ?_⟩<;>simp[encK]
    · have hs : shp (30 : Int) = some (45, 45, 45) := by kernel_rfl
      have hc:(fits 45 p0&&(fits 45 p1&&fits 45 p2))=true:=by simpa only[chkI,hs] using hc
      simp only[fits,U,Bool.and_eq_true,decide_eq_true_eq] at hc
      have he:encI ((30:Int),p0,p1,p2)=(30:Int) :: (encK 45 p0++(encK 45 p1++encK 45 p2)):=by simp only[encI,hs]
      rw[he]
      refine⟨(encO_30 hz).trans ?_,(coded_30).trans ?_⟩<;>simp[encK]
    · have hs : shp (31 : Int) = some (45, 45, 45) := by kernel_rfl
      have hc:(fits 45 p0&&(fits 45 p1&&fits 45 p2))=true:=by simpa only[chkI,hs] using hc
      simp only[fits,U,Bool.and_eq_true,decide_eq_true_eq] at hc
      have he:encI ((31:Int),p0,p1,p2)=(31:Int) :: (encK 45 p0++(encK 45 p1++encK 45 p2)):=by simp only[encI,hs]
      rw[he]
      refine⟨(encO_31 hz).trans ?_,(coded_31).trans ?_⟩<;>simp[encK]
    · have hs : shp (32 : Int) = some (114, 45, 45) := by kernel_rfl
      have hc:(fits 114 p0&&(fits 45 p1&&fits 45 p2))=true:=by simpa only[chkI,hs] using hc
      simp only[fits,U,Bool.and_eq_true,decide_eq_true_eq] at hc
      have he:encI ((32:Int),p0,p1,p2)=(32:Int) :: (encK 114 p0++(encK 45 p1++encK 45 p2)):=by simp only[encI,hs]
      rw[he]
      refine⟨(encO_32 hN (⟨hc.1.1,i0.2⟩) hz).trans ?_,(coded_32 hN (⟨hc.1.1,i0.2⟩)).trans ?_⟩<;>simp[encK]
    · have hs : shp (33 : Int) = some (119, 114, 45) := by kernel_rfl
      have hc:(fits 119 p0&&(fits 114 p1&&fits 45 p2))=true:=by simpa only[chkI,hs] using hc
      simp only[fits,U,Bool.and_eq_true,decide_eq_true_eq] at hc
      have he:encI ((33:Int),p0,p1,p2)=(33:Int) :: (encK 119 p0++(encK 114 p1++encK 45 p2)):=by simp only[encI,hs]
      rw[he]
      refine⟨(encO_33 hN (⟨hc.1.1,i0.2⟩) (⟨hc.2.1.1,i1.2⟩) hz).trans ?_,(coded_33 hN (⟨hc.1.1,i0.2⟩) (⟨hc.2.1.1,i1.2⟩)).trans ?_⟩<;>simp[encK]
    · have hs : shp (34 : Int) = some (101, 45, 45) := by kernel_rfl
      have hc:(fits 101 p0&&(fits 45 p1&&fits 45 p2))=true:=by simpa only[chkI,hs] using hc
      simp only[fits,U,Bool.and_eq_true,decide_eq_true_eq] at hc
      have he:encI ((34:Int),p0,p1,p2)=(34:Int) :: (encK 101 p0++(encK 45 p1++encK 45 p2)):=by simp only[encI,hs]
      rw[he]
      refine⟨(encO_34 hN i0 hz).trans ?_,(coded_34 hN i0).trans ?_⟩<;>simp[encK]
  · exfalso
    rw[chkI,show shp p=none from shp_out ne] at hc
    cases hc
open Go Go.Eng Go.Sym
open Classical
theorem idx_getD {α : Type} {l:List α} {i:Nat} (d : α) (h:i<l.length):idx l (i:Int)=some (l.getD i d):=by
  refine idx_get ?_
  rw[List.getD_eq_getElem?_getD,List.getElem?_eq_getElem h];rfl
theorem getD_mem {α : Type} {l:List α} {i:Nat} (d : α) (h:i<l.length):l.getD i d∈l:=by
  rw[List.getD_eq_getElem?_getD,List.getElem?_eq_getElem h];exact List.getElem_mem h
theorem mem_getD {α : Type} {l:List α} {x : α} (d : α) (h:x∈l):∃ i,i<l.length∧l.getD i d=x:=by
  obtain⟨i,hi,rfl⟩:=List.mem_iff_getElem.1 h
  exact⟨i,hi,by rw[List.getD_eq_getElem?_getD,List.getElem?_eq_getElem hi];rfl⟩
theorem wi64_pred {i:Nat} (h0:0<i) (h:i≤9223372036854775807):wi64 ((i:Int)-1)=((i-1:Nat):Int):=by rw[wi64_in (by omega)];omega
theorem len_ne0 {α : Type} {l:List α} (h:¬l.length=0):((l.length:Int)==(0:Int))=false:=by rw[beq_eq_false_iff_ne];omega
noncomputable def rn (l:List Run) (i:Nat):Run:=l.getD i (0,0)
noncomputable def RunsOK (l:List Run) (n:Int):Prop:=
  0<l.length∧(rn l 0).1=0∧(∀ i,i+1<l.length→(rn l i).1<(rn l (i+1)).1∧(rn l i).2≠(rn l (i+1)).2)∧∀ i,i<l.length→(rn l i).1<n
theorem RunsOK.mono {l:List Run} {n:Int} (h:RunsOK l n) {i:Nat} : ∀ {j:Nat},i≤j→j<l.length→(rn l i).1≤(rn l j).1
  |0,h1,_=>by rw[Nat.le_zero.1 h1];exact Int.le_refl _
  | j + 1, h1, h2 => by
    by_cases e:i=j+1
    · rw[e];exact Int.le_refl _
    · have := h.mono (i := i) (j := j) (by omega) (by omega)
      have:=(h.2.2.1 j h2).1
      omega
theorem fineO_ok {N : Nat} {l : List Run} {n : Int} (hN : l.length < N) (hl : l.length ≤ 1000000) : F104 N (l, n) = some (decide (RunsOK l n)) := by
  rw[F104_eq]
  by_cases h0:l.length=0
  · rw[show ((l.length:Int)==(0:Int))=true by rw[h0];rfl,bif_l,Option.bind_some,bif_l,decide_eq_false fun h=>by have:=h.1;omega]
  · have e0 : idx l (0 : Int) = some (rn l 0) := idx_getD (i := 0) (0, 0) (by omega)
    have e1:idx l (wi64 ((l.length:Int)-1))=some (rn l (l.length-1)):=by
      rw[wi64_pred (by omega) (by omega)];exact idx_getD _ (by omega)
    rw[len_ne0 h0,bif_r,e0,Option.bind_some,e1,Option.bind_some]
    by_cases h1:(rn l 0).1=0
    · rw [show ((rn l 0).1 != (0 : Int)) = false by simp [h1], bif_r, Option.bind_some]
      by_cases h2:(rn l (l.length-1)).1≥n
      · rw[decide_eq_true h2,bif_l,decide_eq_false fun h=>by have:=h.2.2.2 (l.length-1) (by omega);omega]
      · rw [decide_eq_false h2, bif_r, Option.bind_some, decide_eq_true (show 1 ≤ l.length by omega), chk_true]
        have hd:(l.drop 1).length=l.length-1:=by simp
        have key:=loop_rng (n:=(l.drop 1).length) (a:=(.inr ():Bool⊕Unit)) (b:=.inl false) (q:=fun i=>decide ((rn l (i+1)).1≤(rn l i).1)||((rn l (i+1)).2==(rn l i).2))
          (Lf := fun k i => f104.L0_7 N k (l.drop 1, ((l.drop 1).length : Int), i, (rn l i.toNat).1, (rn l i.toNat).2)) (fun k _ => by
            simp only[f104.L0_7_succ,ge_dec,bif_r]) (fun k i hi _=>by
            have e:idx (l.drop 1) (i:Int)=some (rn l (i+1)):=by
              refine idx_get ?_
              rw[List.getElem?_drop,rn,List.getD_eq_getElem?_getD,Nat.add_comm 1 i,List.getElem?_eq_getElem (by omega)];rfl
            simp only[f104.L0_7_succ,lt_dec hi,bif_l,e,Option.bind_some,wi64_succ (show i<9223372036854775807 by omega),Int.toNat_natCast,beq_self_eq_true,Bool.true_and,Bool.and_true]
            by_cases ha:(rn l (i+1)).1≤(rn l i).1
            · simp[ha]
            · cases hb:((rn l (i+1)).2==(rn l i).2)<;>simp[ha]) (k:=N) (by omega)
        simp only[Int.toNat_zero] at key
        rw[key,Option.bind_some]
        by_cases hex:∃ i,i<(l.drop 1).length∧(decide ((rn l (i+1)).1≤(rn l i).1)||((rn l (i+1)).2==(rn l i).2))=true
        · rw [if_pos hex, decide_eq_false]
          rintro⟨_,_,h3,_⟩
          obtain⟨i,hi,hq⟩:=hex
          obtain⟨g1,g2⟩:=h3 i (by omega)
          rw[Bool.or_eq_true,decide_eq_true_eq,beq_iff_eq] at hq
          rcases hq with hq|hq
          · omega
          · exact g2 hq.symm
        · rw [if_neg hex, decide_eq_true]
          have h3:∀ i,i+1<l.length→(rn l i).1<(rn l (i+1)).1∧(rn l i).2≠(rn l (i+1)).2:=fun i hi=>by
            have:¬(decide ((rn l (i+1)).1≤(rn l i).1)||((rn l (i+1)).2==(rn l i).2))=true:=fun h=>hex ⟨i,by omega,h⟩
            rw[Bool.or_eq_true,decide_eq_true_eq,beq_iff_eq,not_or] at this
            exact⟨by omega,fun h=>this.2 h.symm⟩
          have m:∀ j,j<l.length→∀ i,i≤j→(rn l i).1≤(rn l j).1:=by
            intro j
            induction j with
            |zero=>intro _ i hi;rw[Nat.le_zero.1 hi];exact Int.le_refl _
            | succ j ih =>
              intro hj i hi
              by_cases e:i=j+1
              · rw[e];exact Int.le_refl _
              · have := ih (by omega) i (by omega)
                have:=(h3 j hj).1
                omega
          exact⟨by omega,h1,h3,fun i hi=>by have:=m (l.length-1) (by omega) i (by omega);omega⟩
    · rw[show ((rn l 0).1 != (0:Int))=true by simp[h1],bif_l,Option.bind_some,bif_l,decide_eq_false fun h=>h1 h.2.1]
theorem checkT_ok {N:Nat} {l:List Run} {n:Nat} (hN:l.length<N) (hl:l.length≤1000000):F81 N (l,(n:Int))=some (if n<1∨n>200 then 2 else if RunsOK l n then 0 else 8):=by
  rw[F81_eq,F103_eq,fineO_ok hN hl]
  by_cases h:n<1∨n>200
  · rw [if_pos h]
    rcases h with h|h
    · rw[decide_eq_true (show (n:Int)<1 by omega)];rfl
    · rw[decide_eq_true (show (n:Int)>200 by omega)];cases decide ((n:Int)<1)<;>rfl
  · rw [if_neg h, decide_eq_false (show ¬ (n : Int) < 1 by omega), decide_eq_false (show ¬ (n : Int) > 200 by omega)]
    by_cases hr:RunsOK l n
    · rw[if_pos hr,decide_eq_true hr];rfl
    · rw[if_neg hr,decide_eq_false hr];rfl
theorem fine08_ok {N : Nat} {l : List Run} {n : Int} (hN : l.length < N) (hl : l.length ≤ 1000000) : F91 N (l, n) = some (decide (RunsOK l n)) := by
  rw[F91_eq]
  by_cases h0:l.length=0
  · rw[show decide ((l.length:Int)<1)=true by rw[h0];rfl,bif_l,Option.bind_some,bif_l,decide_eq_false fun h=>by have:=h.1;omega]
  · have e0 : idx l (0 : Int) = some (rn l 0) := idx_getD (i := 0) (0, 0) (by omega)
    rw[decide_eq_false (show ¬(l.length:Int)<1 by omega),bif_r,e0,Option.bind_some,Option.bind_some]
    by_cases h1:(rn l 0).1=0
    · rw [show ((rn l 0).1 != (0 : Int)) = false by simp [h1], bif_r]
      have key := loop_rng (n := l.length) (a := (.inr () : Bool ⊕ Unit)) (b := .inl false) (q := fun i => decide ((rn l i).1 ≥ n ∨ 0 < i ∧ ((rn l (i - 1)).1 ≥ (rn l i).1 ∨ (rn l (i - 1)).2 = (rn l i).2)))
        (Lf := fun k i => f91.L0_6 N k (l, n, i)) (fun k _ => by
          simp only[f91.L0_6_succ,ge_dec,bif_r]) (fun k i hi _=>by
          have e:idx l (i:Int)=some (rn l i):=idx_getD _ hi
          simp only[f91.L0_6_succ,lt_dec hi,bif_l,e,Option.bind_some,wi64_succ (show i<9223372036854775807 by omega)]
          by_cases ha:(rn l i).1≥n
          · simp[ha]
          · by_cases hz : 0 < i
            · have e' : idx l (wi64 ((i : Int) - 1)) = some (rn l (i - 1)) := by rw [wi64_pred hz (by omega)]; exact idx_getD _ (by omega)
              simp only[ha,e',decide_false,bif_r,decide_eq_true (show (i:Int)>0 by omega),bif_l,Option.bind_some,hz,true_and,false_or]
              by_cases hb:(rn l (i-1)).1≥(rn l i).1
              · simp[hb]
              · by_cases hd : (rn l (i - 1)).2 = (rn l i).2
                · simp[hb,hd]
                · rw [show ((rn l (i - 1)).2 == (rn l i).2) = false by simpa using hd]
                  simp[hb,hd]
            · simp only [ha, decide_false, bif_r, decide_eq_false (show ¬ (i : Int) > 0 by omega), Option.bind_some, hz, false_and, or_self]
              simp) (k:=N) hN
      rw[key,Option.bind_some]
      by_cases hex:∃ i,i<l.length∧decide ((rn l i).1≥n∨0<i∧((rn l (i-1)).1≥(rn l i).1∨(rn l (i-1)).2=(rn l i).2))=true
      · rw [if_pos hex, decide_eq_false]
        rintro⟨_,_,h3,h4⟩
        obtain⟨i,hi,hq⟩:=hex
        rcases of_decide_eq_true hq with hq|⟨hz,hq⟩
        · have:=h4 i hi;omega
        · obtain ⟨g1, g2⟩ := h3 (i - 1) (by omega)
          rw[show i-1+1=i by omega] at g1 g2
          rcases hq with hq|hq
          · omega
          · exact g2 hq
      · rw [if_neg hex, decide_eq_true]
        have hno:∀ i,i<l.length→¬((rn l i).1≥n∨0<i∧((rn l (i-1)).1≥(rn l i).1∨(rn l (i-1)).2=(rn l i).2)):=fun i hi h=>hex ⟨i,hi,decide_eq_true h⟩
        refine⟨by omega,h1,fun i hi=>?_,fun i hi=>?_⟩
        · have := hno (i + 1) hi
          simp only[Nat.add_sub_cancel,not_or,not_and] at this
          have:=this.2 (by omega)
          exact⟨by omega,this.2⟩
        · have := hno i hi
          simp only[not_or] at this
          omega
    · rw[show ((rn l 0).1 != (0:Int))=true by simp[h1],bif_l,decide_eq_false fun h=>h1 h.2.1]
noncomputable def encR:Int→List Run→List Int
  |_,[]=>[]
  |was,x :: r=>V (x.1-was).toNat++(V x.2.toNat++encR x.1 r)
noncomputable def runsE (l:List Run):List Int:=V l.length++encR 0 l
noncomputable def Inc:Int→List Run→Prop
  |_,[]=>True
  |was,x :: r=>was≤x.1∧x.1≤1000∧(0≤x.2∧x.2≤18446744073709551615)∧Inc x.1 r
noncomputable def okR (l:List Run):Prop:=∀ x∈l,0≤x.2∧x.2≤18446744073709551615
theorem encR_len:∀ (was:Int) (l:List Run),(encR was l).length≤l.length*20
  |_,[]=>by simp[encR]
  | was, x :: r => by
    have:=V_len (x.1-was).toNat;have:=V_len x.2.toNat;have:=encR_len x.1 r
    simp only[encR,List.length_append,List.length_cons];omega
theorem runsE_len (l:List Run):(runsE l).length≤10+l.length*20:=by
  have:=V_len l.length;have:=encR_len 0 l
  rw[runsE,List.length_append];omega
theorem RunsOK.inc {l:List Run} {n:Int} (h:RunsOK l n) (hn:n≤1000) (hr:okR l):Inc 0 l:=by
  have key:∀ (m i:Nat) (was:Int),m=l.length-i→was≥0→(i<l.length→was≤(rn l i).1)→Inc was (l.drop i):=by
    intro m
    induction m with
    |zero=>intro i was hm _ _;rw[List.drop_eq_nil_of_le (by omega)];trivial
    | succ m ih =>
      intro i was hm hw hle
      have hi:i<l.length:=by omega
      have e:l[i]=rn l i:=by rw[rn,List.getD_eq_getElem?_getD,List.getElem?_eq_getElem hi];rfl
      rw[List.drop_eq_getElem_cons hi,e]
      refine⟨hle hi,by have:=h.2.2.2 i hi;omega,hr _ (getD_mem _ hi),ih (i+1) _ (by omega) (by have:=hle hi;omega) fun hi'=>?_⟩
      have:=(h.2.2.1 i hi').1
      omega
  have:=key l.length 0 0 (by omega) (by omega) fun _=>by rw[h.2.1];exact Int.le_refl _
  rwa[List.drop_zero] at this
theorem sub_in {a b:Int} (h:0≤b∧b≤a∧a≤1000):wi64 (a-b)=a-b:=wi64_in (by omega)
theorem runO_loop {N:Nat} (hN:20<N) {l:List Run} (hl:l.length≤100000):∀ (r pre:List Run) (was:Int) (out:List Int) (k:Nat),l=pre++r→Inc was r→0≤was→r.length<k→out.length≤100000+pre.length*20→f58.L0_9 N k (was,l,(l.length:Int),(pre.length:Int),out)=some (out++encR was r)
  | [], pre, was, out, k + 1, he, _, _, _, _ => by
    rw[List.append_nil] at he;subst he
    rw[f58.L0_9_succ,ge_dec,bif_r,encR,List.append_nil]
  | x :: r, pre, was, out, k + 1, he, hi, hw, hk, ho => by
    obtain⟨i1,i2,i3,i4⟩:=hi
    have hlen:pre.length+(r.length+1)=l.length:=by rw[he];simp
    have:=V_len (x.1-was).toNat;have:=V_len x.2.toNat
    have ih:=runO_loop hN hl r (pre++[x]) x.1 (out++V (x.1-was).toNat++V x.2.toNat) k (by rw[he];simp) i4 (by omega) (by simp at hk;omega) (by simp only[List.length_append,List.length_singleton];omega)
    obtain⟨v,hv⟩:=Int.eq_ofNat_of_zero_le i3.1
    rw[f58.L0_9_succ,lt_dec (by omega),bif_l,he,idx_mid,Option.bind_some,←he,sub_in ⟨hw,i1,i2⟩,varyI_ok hN (by omega),Option.bind_some,room_small (by omega) (by omega),chk_true,hv,vary_ok hN (by omega),Option.bind_some,room_small (by simp only[List.length_append];have:=V_len v;omega) (by omega),chk_true,wi64_succ (by omega)]
    rw[show ((pre++[x]).length:Int)=((pre.length+1:Nat):Int) by simp] at ih
    rw[hv] at ih
    simp only[Int.toNat_natCast] at ih
    rw[ih,encR,hv]
    simp[List.append_assoc]
  |_,_,_,_,0,_,_,_,h,_=>by omega
theorem run08_loop {N:Nat} (hN:20<N) {l:List Run} (hl:l.length≤100000):∀ (r pre:List Run) (was:Int) (out:List Int) (k:Nat),l=pre++r→Inc was r→0≤was→r.length<k→out.length≤100000+pre.length*20→f46.L0_5 N k (l,was,(pre.length:Int),out)=some (out++encR was r)
  | [], pre, was, out, k + 1, he, _, _, _, _ => by
    rw[List.append_nil] at he;subst he
    rw[f46.L0_5_succ,ge_dec,bif_r,encR,List.append_nil]
  | x :: r, pre, was, out, k + 1, he, hi, hw, hk, ho => by
    obtain⟨i1,i2,i3,i4⟩:=hi
    have hlen:pre.length+(r.length+1)=l.length:=by rw[he];simp
    have:=V_len (x.1-was).toNat;have:=V_len x.2.toNat
    have ih:=run08_loop hN hl r (pre++[x]) x.1 (out++V (x.1-was).toNat++V x.2.toNat) k (by rw[he];simp) i4 (by omega) (by simp at hk;omega) (by simp only[List.length_append,List.length_singleton];omega)
    obtain⟨v,hv⟩:=Int.eq_ofNat_of_zero_le i3.1
    have hx:idx l (pre.length:Int)=some x:=by rw[he];exact idx_mid _ _ _
    simp only[f46.L0_5_succ,lt_dec (show pre.length<l.length by omega),bif_l,hx,Option.bind_some,sub_in ⟨hw,i1,i2⟩,minimalI_ok hN (show 0≤x.1-was∧x.1-was≤9223372036854775807 by omega),room_small (show out.length+(V (x.1-was).toNat).length≤10000000 by omega) (show 1≤1000 by omega),chk_true,hv,minimal_ok hN (show v<18446744073709551616 by omega),room_small (show (out++V (x.1-was).toNat).length+(V v).length≤10000000 by simp only[List.length_append];have:=V_len v;omega) (show 1≤1000 by omega),wi64_succ (show pre.length<9223372036854775807 by omega)]
    rw[show ((pre++[x]).length:Int)=((pre.length+1:Nat):Int) by simp] at ih
    rw[hv] at ih
    simp only[Int.toNat_natCast] at ih
    rw[ih,encR,hv]
    simp[List.append_assoc]
  |_,_,_,_,0,_,_,_,h,_=>by omega
theorem encT_ok {N:Nat} (hN:1000<N) {l:List Run} {n:Nat} (hl:l.length≤300) (h:RunsOK l n) (h1:1≤n) (h2:n≤200) (hr:okR l):F58 N (l,(n:Int))=some (runsE l,0)∧F46 N l=some (runsE l):=by
  have hi:=h.inc (by omega) hr
  have hv:=V_len l.length
  constructor
  · rw [F58_eq, checkT_ok (by omega) (by omega), if_neg (by omega), if_pos h, Option.bind_some, ne00, bif_r, wu64_nat (by omega), vary_ok (by omega) (by omega), Option.bind_some]
    have:=runO_loop (N:=N) (by omega) (l:=l) (by omega) l [] 0 (V l.length) N rfl hi (by omega) (by omega) (by simp;omega)
    rw[show (([]:List Run).length:Int)=0 from rfl] at this
    rw[this];rfl
  · rw [F46_eq, wu64_nat (by omega), minimal_ok (by omega) (by omega), Option.bind_some]
    have:=run08_loop (N:=N) (by omega) (l:=l) (by omega) l [] 0 (V l.length) N rfl hi (by omega) (by omega) (by simp;omega)
    rw[show (([]:List Run).length:Int)=0 from rfl] at this
    rw[this];rfl
open Go Go.Eng Go.Sym
open Classical
noncomputable def letN (n:Nat):Bool:=(decide (97≤n)&&decide (n≤122))||(decide (65≤n)&&decide (n≤90))
noncomputable def chrN (n:Nat):Bool:=letN n||(decide (48≤n)&&decide (n≤57))
noncomputable def nameB (s:List UInt8):Bool:=decide (1≤s.length)&&(decide (s.length≤16)&&(letN ((s.getD 0 0).toNat)&&s.all fun c=>chrN c.toNat))
theorem let_nest : ∀ n : Nat, n < 256 → (bif (decide (((n : Nat) : Int) ≥ (97 : Int)))
    then (bif (decide (((n:Nat):Int)≤(122:Int)))
      then some true
      else (bif (decide (((n:Nat):Int)≥(65:Int)))
        then some (decide (((n:Nat):Int)≤(90:Int)))
        else some false))
    else (bif (decide (((n:Nat):Int)≥(65:Int)))
      then some (decide (((n:Nat):Int)≤(90:Int)))
      else some false))=some (letN n):=by decide +kernel
theorem letter_ok (N:Nat) (c:UInt8):F112 N (c.toNat:Int)=some (letN c.toNat):=by
  rw[F112_eq,let_nest _ c.toNat_lt];rfl
theorem chr_nest : ∀ n : Nat, n < 256 → ((bif (decide ((ior .u8 ((n : Nat) : Int) (32 : Int)) < (97 : Int)))
      then (bif (decide (((n:Nat):Int)<(48:Int)))
        then some true
        else some (decide (((n:Nat):Int)>(57:Int))))
      else (bif (decide ((ior .u8 ((n : Nat) : Int) (32 : Int)) > (122 : Int)))
        then (bif (decide (((n:Nat):Int)<(48:Int)))
          then some true
          else some (decide (((n:Nat):Int)>(57:Int))))
        else (bif ((iand .u8 ((n:Nat):Int) (64:Int))==(0:Int))
          then (bif (decide (((n:Nat):Int)<(48:Int)))
            then some true
            else some (decide (((n:Nat):Int)>(57:Int))))
          else some false))):Option Bool)=some (!chrN n):=by decide +kernel
theorem first_let:∀ n:Nat,n<256→((!decide (((n:Nat):Int)≤57))&&chrN n)=(letN n&&chrN n):=by decide +kernel
theorem ex_not {α : Type} {n:Nat} {q:Nat→Bool} {a b : α} : (if ∃ i,i<n∧(!q i)=true then b else a)=if ∀ i,i<n→q i=true then a else b:=by
  by_cases h:∀ i,i<n→q i=true
  · rw [if_pos h, if_neg]
    rintro⟨i,hi,hq⟩
    rw[h i hi] at hq;cases hq
  · rw [if_neg h, if_pos]
    simp only[not_forall] at h
    obtain⟨i,hi,hq⟩:=h
    exact⟨i,hi,by simpa using hq⟩
theorem ex_notL {α β : Type} {l:List α} {p : α→Bool} {a b : β} : (if ∃ x,x∈l∧(!p x)=true then b else a)=if ∀ x,x∈l→p x=true then a else b:=by
  by_cases h:∀ x,x∈l→p x=true
  · rw [if_pos h, if_neg]
    rintro⟨x,hx,hp⟩
    rw[h x hx] at hp;cases hp
  · rw [if_neg h, if_pos]
    simp only[not_forall] at h
    obtain⟨x,hx,hp⟩:=h
    exact⟨x,hx,by simpa using hp⟩
theorem all_ex {α : Type} {l:List α} {p : α→Bool} : (if ∃ x,x∈l∧(!p x)=true then (Sum.inl false:Bool⊕Unit) else .inr ())=if l.all p=true then .inr () else .inl false:=by
  by_cases h:l.all p=true
  · rw [if_pos h, if_neg]
    rintro⟨x,hx,hp⟩
    rw[List.all_eq_true.1 h x hx] at hp;cases hp
  · rw [if_neg h, if_pos]
    rw[List.all_eq_true] at h
    simp only[not_forall] at h
    obtain⟨x,hx,hp⟩:=h
    exact⟨x,hx,by simpa using hp⟩
theorem named_ok {N : Nat} {s : List UInt8} (hN : 100 < N) : F78 N s = some (nameB s) := by
  rw[F78_eq]
  unfold nameB
  by_cases h0:s.length=0
  · rw[show ((s.length:Int)==(0:Int))=true by rw[h0];rfl,bif_l,Option.bind_some,bif_l,decide_eq_false (by omega),Bool.false_and]
  · rw [len_ne0 h0, bif_r, decide_eq_true (show 1 ≤ s.length by omega), Bool.true_and]
    by_cases h1:s.length≤16
    · have e0 : idx s (0 : Int) = some (s.getD 0 0) := idx_getD (i := 0) 0 (by omega)
      rw[decide_eq_false (show ¬(s.length:Int)>16 by omega),bif_r,e0,Option.bind_some,Option.bind_some,decide_eq_true h1,Bool.true_and]
      have hlt:=(s.getD 0 0).toNat_lt
      have hall:s.all (fun c=>chrN c.toNat)=true→chrN (s.getD 0 0).toNat=true:=fun h=>List.all_eq_true.1 h _ (getD_mem 0 (by omega))
      have hf:=first_let _ hlt
      have key:=loop_lst (l:=bytesL s) (a:=(.inr ():Bool⊕Unit)) (b:=.inl false) (p:=fun x=>!chrN x.toNat) (Lf:=fun k i=>f78.L0_6 N k (bytesL s,((bytesL s).length:Int),i)) (fun k _=>by
          simp only[f78.L0_6_succ,ge_dec,bif_r]) (fun k i x hx hm=>by
          obtain⟨c,hc,rfl⟩:=List.mem_map.1 hm
          have hi:=len_pos hx
          rw[bytesL_len] at hi
          simp only[f78.L0_6_succ,lt_dec (len_pos hx),bif_l,idx_get hx,Option.bind_some,chr_nest _ c.toNat_lt,wi64_succ (show i<9223372036854775807 by omega),Int.toNat_natCast]
          by_cases hb:chrN c.toNat=true<;>simp[hb]) (k:=N) (by rw[bytesL_len];omega)
      rw[key,all_ex (p:=fun x:Int=>chrN x.toNat)]
      have e2:(bytesL s).all (fun x=>chrN x.toNat)=s.all fun c=>chrN c.toNat:=by
        unfold bytesL;rw[List.all_map];rfl
      rw[e2]
      cases ha:s.all fun c=>chrN c.toNat
      · rw [if_neg (by simp), Bool.and_false, Option.bind_some]
        cases decide (((s.getD 0 0).toNat:Int)≤57)<;>rfl
      · rw [hall ha, Bool.and_true, Bool.and_true] at hf
        rw[if_pos rfl,Bool.and_true,Option.bind_some,←hf]
        cases decide (((s.getD 0 0).toNat:Int)≤57)<;>rfl
    · rw[decide_eq_true (show (s.length:Int)>16 by omega),bif_l,Option.bind_some,bif_l,decide_eq_false h1];rfl
theorem dig_nest:∀ n:Nat,n<256→(bif (!letN n) then (bif (decide (((n:Nat):Int)<(48:Int))) then some true else some (decide (((n:Nat):Int)>(57:Int)))) else some false)=some (!chrN n):=by decide +kernel
theorem named04_ok {N : Nat} {s : List UInt8} (hN : 100 < N) : F88 N s = some (nameB s) := by
  rw[F88_eq]
  unfold nameB
  by_cases h0:1≤s.length
  · rw [decide_eq_false (show ¬ (s.length : Int) < 1 by omega), bif_r, decide_eq_true h0, Bool.true_and]
    by_cases h1:s.length≤16
    · have e0 : idx s (0 : Int) = some (s.getD 0 0) := idx_getD (i := 0) 0 (by omega)
      rw[decide_eq_false (show ¬(s.length:Int)>16 by omega),bif_r,e0,Option.bind_some,letter_ok,Option.bind_some,Option.bind_some,decide_eq_true h1,Bool.true_and]
      have key:=loop_lst (l:=s) (a:=(.inr ():Bool⊕Unit)) (b:=.inl false) (p:=fun c=>!chrN c.toNat) (Lf:=fun k i=>f88.L0_6 N k (s,i)) (fun k _=>by
          simp only[f88.L0_6_succ,ge_dec,bif_r]) (fun k i x hx hm=>by
          have hi:=len_pos hx
          simp only[f88.L0_6_succ,lt_dec (len_pos hx),bif_l,idx_get hx,Option.bind_some,letter_ok,dig_nest _ x.toNat_lt,wi64_succ (show i<9223372036854775807 by omega)]
          by_cases hb:chrN x.toNat=true<;>simp[hb]) (k:=N) (by omega)
      rw[key,all_ex (p:=fun c:UInt8=>chrN c.toNat)]
      cases ha:s.all fun c=>chrN c.toNat
      · rw [if_neg (by simp), Bool.and_false]
        cases letN (s.getD 0 0).toNat<;>rfl
      · rw [if_pos rfl, Bool.and_true]
        cases letN (s.getD 0 0).toNat<;>rfl
    · rw[decide_eq_true (show (s.length:Int)>16 by omega),bif_l,Option.bind_some,bif_l,decide_eq_false h1];rfl
  · rw[decide_eq_true (show (s.length:Int)<1 by omega),bif_l,Option.bind_some,bif_l,decide_eq_false h0,Bool.false_and]
theorem nameB_len {s:List UInt8} (h:nameB s=true):s.length≤16:=by
  unfold nameB at h
  simp only[Bool.and_eq_true,decide_eq_true_eq] at h
  exact h.2.1
noncomputable def fl (l:List Field) (i:Nat):Field:=l.getD i ([],0)
noncomputable def dupF (l:List Field) (i:Nat):Prop:=∃ j,j<i∧(fl l j).1=(fl l i).1
noncomputable def okF (l:List Field) (i:Nat):Bool:=nameB (fl l i).1 && !decide (dupF l i)
noncomputable def FieldsOK (l:List Field):Prop:=∀ i,i<l.length→okF l i=true
theorem imgNamed_inner {N : Nat} {l : List Field} {i : Nat} (hi : i ≤ l.length) (hN : l.length < N) (hl : l.length ≤ 1000000) (s : List UInt8) (v : Int) :
    (∃ j:Int,0≤j∧f79.L1021001007000_3 N N (l.take i,((l.take i).length:Int),0,s,v)=some (.inl j)∧∃ j,j<i∧(fl l j).1=s)∨
    (f79.L1021001007000_3 N N (l.take i,((l.take i).length:Int),0,s,v)=some (.inr ())∧¬ ∃ j,j<i∧(fl l j).1=s):=by
  have hlen:(l.take i).length=i:=by simp;omega
  have key:∀ k j,j≤i→i-j<k→(∀ m,m<j→(fl l m).1≠s)→
      (∃ q:Int,0≤q∧f79.L1021001007000_3 N k (l.take i,((l.take i).length:Int),(j:Int),s,v)=some (.inl q)∧∃ j,j<i∧(fl l j).1=s)∨
      (f79.L1021001007000_3 N k (l.take i,((l.take i).length:Int),(j:Int),s,v)=some (.inr ())∧¬ ∃ j,j<i∧(fl l j).1=s):=by
    intro k
    induction k with
    |zero=>intro j _ h;omega
    | succ k ih =>
      intro j hj hk hm
      by_cases he:j=i
      · subst he
        refine .inr ⟨?_,fun⟨m,h1,h2⟩=>hm m h1 h2⟩
        rw[f79.L1021001007000_3_succ,hlen,ge_dec,bif_r]
      · have e : idx (l.take i) (j : Int) = some (fl l j) := by
          refine idx_get ?_
          rw[List.getElem?_take,if_pos (by omega),fl,List.getD_eq_getElem?_getD,List.getElem?_eq_getElem (by omega)];rfl
        rw[f79.L1021001007000_3_succ,hlen,lt_dec (by omega),bif_l,e,Option.bind_some]
        by_cases hq:(fl l j).1=s
        · rw [show ((fl l j).1 == s) = true by simpa using hq, bif_l]
          exact .inl ⟨j,by omega,rfl,j,by omega,hq⟩
        · rw [show ((fl l j).1 == s) = false by simpa using hq, bif_r, wi64_succ (by omega)]
          have:=ih (j+1) (by omega) (by omega) fun m h=>by
            by_cases e:m=j
            · subst e;exact hq
            · exact hm m (by omega)
          rw[hlen] at this
          exact this
  exact key N 0 (by omega) (by omega) fun m h=>by omega
theorem imgNamed_ok {N : Nat} {l : List Field} (hN : l.length + 100 < N) (hl : l.length ≤ 1000000) : F79 N l = some (decide (FieldsOK l)) := by
  rw[F79_eq]
  have key:=loop_rng (n:=l.length) (a:=(.inr ():Bool⊕Unit)) (b:=.inl false) (q:=fun i=>!okF l i) (Lf:=fun k i=>f79.L0_3 N k (l,l,(l.length:Int),i)) (fun k _=>by
      simp only[f79.L0_3_succ,ge_dec,bif_r]) (fun k i hi _=>by
      have e:idx l (i:Int)=some (fl l i):=idx_getD _ hi
      simp only[f79.L0_3_succ,lt_dec hi,bif_l,e,Option.bind_some,named_ok (show 100<N by omega)]
      cases hn:nameB (fl l i).1
      · simp[okF,hn]
      · rw [Bool.not_true, bif_r, decide_eq_true (show (0 : Int) ≤ (i : Int) by omega), chk_true, Int.toNat_natCast, decide_eq_true (show i ≤ l.length by omega), chk_true, wi64_succ (by omega)]
        rcases imgNamed_inner (l:=l) (i:=i) (by omega) (show l.length<N by omega) hl (fl l i).1 (fl l i).2 with⟨j,h1,h2,h3⟩|⟨h2,h3⟩
        · rw [h2, Option.bind_some]
          simp only[decide_eq_true (show j≥0 from h1),bif_l]
          rw[if_pos (by unfold okF;rw[decide_eq_true (show dupF l i from h3)];simp)]
        · rw [h2, Option.bind_some]
          simp only
          rw[if_neg (by unfold okF;rw[hn,decide_eq_false (show ¬dupF l i from h3)];simp)]) (k:=N) (by omega)
  rw[key,ex_not,Option.bind_some]
  by_cases h:FieldsOK l
  · rw[if_pos (show ∀ i,i<l.length→okF l i=true from h),decide_eq_true h]
  · rw[if_neg (show ¬ ∀ i,i<l.length→okF l i=true from h),decide_eq_false h]
theorem fields04_ok {N : Nat} {l : List Field} (hN : l.length + 100 < N) (hl : l.length ≤ 1000000) (m : Int) : F89 N (l, m) = some (decide ((l.length : Int) ≤ m ∧ FieldsOK l)) := by
  rw[F89_eq]
  by_cases hm:(l.length:Int)≤m
  · rw [decide_eq_false (show ¬ (l.length : Int) > m by omega), bif_r]
    have key:=loop_rng (n:=l.length) (a:=(.inr ():Bool⊕Unit)) (b:=.inl false) (q:=fun i=>!okF l i) (Lf:=fun k i=>f89.L0_6 N k (l,i)) (fun k _=>by
        simp only[f89.L0_6_succ,ge_dec,bif_r]) (fun k i hi _=>by
        have e:idx l (i:Int)=some (fl l i):=idx_getD _ hi
        simp only[f89.L0_6_succ,lt_dec hi,bif_l,e,Option.bind_some,named04_ok (show 100<N by omega)]
        cases hn:nameB (fl l i).1
        · simp[okF,hn]
        · have inner := loop_rng (n := i) (a := (.inr (l, (i : Int)) : Bool ⊕ (List Field × Int))) (b := .inl false) (q := fun j => (fl l j).1 == (fl l i).1) (Lf := fun k j => f89.L0_15 N k (l, (i : Int), j)) (fun k _ => by
            simp only[f89.L0_15_succ,ge_dec,bif_r]) (fun k j hj _=>by
            have ej:idx l (j:Int)=some (fl l j):=idx_getD _ (by omega)
            simp only[f89.L0_15_succ,lt_dec hj,bif_l,e,ej,Option.bind_some,wi64_succ (show j<9223372036854775807 by omega)]
            by_cases hb:((fl l j).1==(fl l i).1)=true<;>simp[hb]) (k:=N) (by omega)
          rw[Bool.not_true,bif_r,inner,Option.bind_some]
          by_cases hd:dupF l i
          · rw [if_pos, if_pos (by unfold okF; rw [decide_eq_true hd]; simp)]
            obtain⟨j,h1,h2⟩:=hd
            exact⟨j,h1,by simpa using h2⟩
          · rw [if_neg, if_neg (by unfold okF; rw [hn, decide_eq_false hd]; simp)]
            · simp only;rw[wi64_succ (by omega)]
            · rintro ⟨j, h1, h2⟩
              exact hd ⟨j,h1,by simpa using h2⟩) (k:=N) (by omega)
    rw[key,ex_not,Option.bind_some]
    by_cases h:FieldsOK l
    · rw[if_pos (show ∀ i,i<l.length→okF l i=true from h),decide_eq_true ⟨hm,h⟩]
    · rw[if_neg (show ¬ ∀ i,i<l.length→okF l i=true from h),decide_eq_false fun h'=>h h'.2]
  · rw[decide_eq_true (show (l.length:Int)>m by omega),bif_l,decide_eq_false fun h=>hm h.1]
theorem zero_ok {N : Nat} {l : List Int} (hN : l.length < N) (hl : l.length ≤ 1000) : F99 N l = some (l.all fun x => x == 0) := by
  rw[F99_eq]
  have key:∀ (r pre:List Int) k,l=pre++r→r.length<k→
      (r.all (fun x=>x==0)=true∧f99.L1004001007000_3 N k (l,(l.length:Int),(pre.length:Int))=some (.inr ()))∨
      (r.all (fun x=>x==0)=false∧∃ j:Int,0≤j∧f99.L1004001007000_3 N k (l,(l.length:Int),(pre.length:Int))=some (.inl j)):=by
    intro r
    induction r with
    | nil =>
      intro pre k he hk
      obtain⟨k,rfl⟩:∃ k',k=k'+1:=⟨k-1,by simp at hk;omega⟩
      rw[List.append_nil] at he;subst he
      exact .inl ⟨rfl,by rw[f99.L1004001007000_3_succ,ge_dec,bif_r]⟩
    | cons x r ih =>
      intro pre k he hk
      obtain⟨k,rfl⟩:∃ k',k=k'+1:=⟨k-1,by simp at hk;omega⟩
      have hlen:pre.length+(r.length+1)=l.length:=by rw[he];simp
      have hx:idx l (pre.length:Int)=some x:=by rw[he];exact idx_mid _ _ _
      rw[f99.L1004001007000_3_succ,lt_dec (by omega),bif_l,hx,Option.bind_some,F116_eq,Option.bind_some]
      by_cases h0:x=0
      · rw [show (x != 0) = false by simp [h0], bif_r, wi64_succ (by omega), List.all_cons, show (x == 0) = true by simp [h0], Bool.true_and]
        have:=ih (pre++[x]) k (by rw[he];simp) (by simp at hk;omega)
        rwa[show ((pre++[x]).length:Int)=((pre.length+1:Nat):Int) by simp] at this
      · rw [show (x != 0) = true by simp [h0], bif_l, List.all_cons, show (x == 0) = false by simp [h0], Bool.false_and]
        exact .inr ⟨rfl,pre.length,by omega,rfl⟩
  rcases key l [] N rfl hN with⟨h1,h2⟩|⟨h1,j,h2,h3⟩
  · rw [show (([] : List Int).length : Int) = 0 from rfl] at h2
    rw[h2,h1];rfl
  · rw [show (([] : List Int).length : Int) = 0 from rfl] at h3
    rw[h3,h1,Option.bind_some]
    simp only[decide_eq_true (show j≥0 from h2)];rfl
theorem within_ok (N:Nat) (a b:Int):F98 N (a,b)=some (decide (0≤a∧a<b)):=by
  rw[F98_eq,bif_ff,Option.bind_some]
  by_cases h1:0≤a<;>by_cases h2:a<b<;>simp[h1,h2]
  all_goals omega
noncomputable def ty0:GType:=(0,0,0,[])
noncomputable def tyn (l:List GType) (i:Nat):GType:=l.getD i ty0
noncomputable def TypeOK (n i:Nat) (t:GType):Prop:=
  if t.1=1∨t.1=2∨t.1=3 then t.2.1=0∧t.2.2.1=0∧t.2.2.2.length=0
  else if t.1=4∨t.1=7 then (0≤t.2.1∧t.2.1<n)∧t.2.2.1=0∧t.2.2.2.length=0
  else if t.1=6 then (0≤t.2.1∧t.2.1<i)∧(1≤t.2.2.1∧t.2.2.1≤16)∧t.2.2.2.length=0
  else if t.1=5 then t.2.1=0∧t.2.2.1=0∧(0<t.2.2.2.length∧t.2.2.2.length≤8)∧FieldsOK t.2.2.2∧∀ f,f∈t.2.2.2→0≤f.2∧f.2<i
  else False
theorem hasB_take {l:List Field} {i:Nat} (hi:i<l.length):hasB ((l.take i).map (·.1)) (fl l i).1=decide (dupF l i):=by
  unfold hasB
  by_cases h:dupF l i
  · rw [decide_eq_true h, List.any_eq_true]
    obtain⟨j,h1,h2⟩:=h
    refine⟨(fl l j).1,List.mem_map.2 ⟨fl l j,?_,rfl⟩,decide_eq_true h2.symm⟩
    rw[fl,List.getD_eq_getElem?_getD,List.getElem?_eq_getElem (by omega)]
    exact List.mem_take_iff_getElem.2 ⟨j,by omega,rfl⟩
  · rw [decide_eq_false h]
    cases ha:((l.take i).map (·.1)).any fun q=>decide ((fl l i).1=q) with
    |false=>rfl
    | true =>
      exfalso
      obtain⟨q,h1,h2⟩:=List.any_eq_true.1 ha
      obtain⟨f,h3,rfl⟩:=List.mem_map.1 h1
      obtain⟨j,h4,rfl⟩:=List.mem_take_iff_getElem.1 h3
      refine h ⟨j,by omega,?_⟩
      rw[of_decide_eq_true h2]
      rw[fl,List.getD_eq_getElem?_getD,List.getElem?_eq_getElem (by omega)];rfl
theorem fl_get {l:List Field} {i:Nat} (hi:i<l.length):l[i]?=some (fl l i):=by
  rw[fl,List.getD_eq_getElem?_getD,List.getElem?_eq_getElem hi];rfl
theorem addB_take {l:List Field} {i:Nat} (hi:i<l.length) (h:¬dupF l i):addB ((l.take i).map (·.1)) (fl l i).1=(l.take (i+1)).map (·.1):=by
  unfold addB
  rw[hasB_take hi,decide_eq_false h,take_succ (fl_get hi),List.map_append]
  rfl
theorem struct_loop {N : Nat} {l : List Field} {p : Nat} (hN : l.length + 100 < N) (hl : l.length ≤ 1000000) (a b c : Int) :
    f75.L0_25 N N ((p:Int),l,(l.length:Int),(0:Int),a,b,c,l,([]:List (List UInt8)))=some (if FieldsOK l∧(∀ f,f∈l→0≤f.2∧f.2<p) then .inr (a,b,c,l) else .inl false):=by
  have key:=loop_rng (n:=l.length) (a:=(.inr (a,b,c,l):Bool⊕(Int×Int×Int×List Field))) (b:=.inl false) (q:=fun i=>!(okF l i&&decide (0≤(fl l i).2∧(fl l i).2<p)))
    (Lf := fun k i => f75.L0_25 N k ((p : Int), l, (l.length : Int), i, a, b, c, l, (l.take i.toNat).map (·.1))) (fun k _ => by
      simp only[f75.L0_25_succ,ge_dec,bif_r]) (fun k i hi _=>by
      have e:idx l (i:Int)=some (fl l i):=idx_getD _ hi
      simp only[f75.L0_25_succ,lt_dec hi,bif_l,e,Option.bind_some,named_ok (show 100<N by omega),Int.toNat_natCast,hasB_take hi,within_ok,wi64_succ (show i<9223372036854775807 by omega)]
      cases hn:nameB (fl l i).1
      · simp[okF,hn]
      · by_cases hd : dupF l i
        · simp[okF,hd]
        · rw [addB_take hi hd]
          unfold okF
          rw[hn,decide_eq_false hd]
          cases decide (0≤(fl l i).2∧(fl l i).2<(p:Int))<;>rfl) (k:=N) (by omega)
  rw[show (0:Int).toNat=0 from rfl,List.take_zero,List.map_nil] at key
  rw[key,ex_not]
  have hiff:(∀ i,i<l.length→(okF l i&&decide (0≤(fl l i).2∧(fl l i).2<(p:Int)))=true)↔FieldsOK l∧∀ f,f∈l→0≤f.2∧f.2<(p:Int):=by
    simp only[Bool.and_eq_true,decide_eq_true_eq]
    refine⟨fun h=>⟨fun i hi=>(h i hi).1,fun f hf=>?_⟩,fun h i hi=>⟨h.1 i hi,h.2 _ (getD_mem _ hi)⟩⟩
    obtain⟨i,hi,rfl⟩:=mem_getD ([],0) hf
    exact (h i hi).2
  by_cases h:FieldsOK l∧∀ f,f∈l→0≤f.2∧f.2<(p:Int)
  · rw[if_pos h,if_pos (hiff.2 h)]
  · rw[if_neg h,if_neg fun h'=>h (hiff.1 h')]
theorem range_loop {N : Nat} {l : List Field} {p : Nat} (hN : l.length < N) (hl : l.length ≤ 1000000) (a b c : Int) :
    f85.L0_23 N N ((p:Int),(0:Int),a,b,c,l)=some (if ∀ f,f∈l→0≤f.2∧f.2<p then .inr (a,b,c,l) else .inl false):=by
  have key:=loop_lst (l:=l) (a:=(.inr (a,b,c,l):Bool⊕(Int×Int×Int×List Field))) (b:=.inl false) (p:=fun f=>!decide (0≤f.2∧f.2<(p:Int)))
    (Lf := fun k i => f85.L0_23 N k ((p : Int), i, a, b, c, l)) (fun k _ => by
      simp only[f85.L0_23_succ,ge_dec,bif_r]) (fun k i x hx hm=>by
      simp only[f85.L0_23_succ,lt_dec (len_pos hx),bif_l,idx_get hx,Option.bind_some,wi64_succ (show i<9223372036854775807 by have:=len_pos hx;omega)]
      by_cases h1:x.2<0
      · rw[decide_eq_true h1,decide_eq_false (show ¬(0≤x.2∧x.2<(p:Int)) by omega)];rfl
      · by_cases h2 : x.2 ≥ (p : Int)
        · rw[decide_eq_false h1,decide_eq_true h2,decide_eq_false (show ¬(0≤x.2∧x.2<(p:Int)) by omega)];rfl
        · rw[decide_eq_false h1,decide_eq_false h2,decide_eq_true (show 0≤x.2∧x.2<(p:Int) by omega)];rfl) (k:=N) hN
  rw[key,ex_notL]
  simp only[decide_eq_true_eq]
theorem beq_dec (a b:Int):(a==b)=decide (a=b):=by by_cases h:a=b<;>simp[h]
theorem len_dec {α : Type} (l:List α):((l.length:Int)==0)=decide (l.length=0):=by
  by_cases h:l.length=0
  · rw[decide_eq_true h,h];rfl
  · rw[len_ne0 h,decide_eq_false h]
theorem pred16 {v:Int} (h:i64 v):decide (0≤wi64 (v-1)∧wi64 (v-1)<16)=decide (1≤v∧v≤16):=by
  unfold i64 at h
  by_cases h1:v = -9223372036854775808
  · subst h1;rfl
  · rw [wi64_in (by omega)]
    by_cases h2:1≤v∧v≤16
    · rw[decide_eq_true h2,decide_eq_true (by omega)]
    · rw[decide_eq_false h2,decide_eq_false (by omega)]
theorem fineK_ok {N : Nat} {l : List GType} {i : Nat} (hN : 1100 < N) (hi : i < l.length) (hf : (tyn l i).2.2.2.length ≤ 1000) (hb : i64 (tyn l i).2.2.1) : F75 N (l, (i : Int)) = some (decide (TypeOK l.length i (tyn l i))) := by
  have e:idx l (i:Int)=some (tyn l i):=idx_getD _ hi
  rw[F75_eq,e,Option.bind_some]
  unfold TypeOK
  generalize tyn l i=t at hf hb
  obtain⟨k,el,le,fs⟩:=t
  simp only at hf hb ⊢
  rw[struct_loop (by omega) (by omega)]
  simp only[beq_dec,bif_tt,Option.bind_some,within_ok,zero_ok (show [el,le,(fs.length:Int)].length<N by simp;omega) (by simp),zero_ok (show [le,(fs.length:Int)].length<N by simp;omega) (by simp),zero_ok (show [(fs.length:Int)].length<N by simp;omega) (by simp),pred16 hb,List.all_cons,List.all_nil,Bool.and_true]
  by_cases h1:k=1∨k=2∨k=3
  · rw [show (decide (k = 1) || (decide (k = 2) || decide (k = 3))) = true by simpa using h1, bif_l, if_pos h1]
    congr 1
    by_cases a1:el=0<;>by_cases a2:le=0<;>by_cases a3:fs.length=0<;>simp[a1,a2,a3]
    all_goals (intro h;simp[h] at a3)
  · rw [show (decide (k = 1) || (decide (k = 2) || decide (k = 3))) = false by simpa using h1, bif_r, if_neg h1]
    by_cases h2:k=4∨k=7
    · rw [show (decide (k = 4) || decide (k = 7)) = true by simpa using h2, bif_l, if_pos h2, bif_ff]
      congr 1
      by_cases a1:0≤el∧el<(l.length:Int)<;>by_cases a2:le=0<;>by_cases a3:fs.length=0<;>simp[a1,a2,a3]
      all_goals (intro h;simp[h] at a3)
    · rw [show (decide (k = 4) || decide (k = 7)) = false by simpa using h2, bif_r, if_neg h2]
      by_cases h3:k=6
      · rw [decide_eq_true h3, bif_l, if_pos h3]
        by_cases a1:0≤el∧el<(i:Int)<;>by_cases a2:1≤le∧le≤16<;>by_cases a3:fs.length=0<;>simp[a1,a2,a3]
        all_goals (intro h;simp[h] at a3)
      · rw [decide_eq_false h3, bif_r, if_neg h3]
        by_cases h4:k=5
        · rw [decide_eq_true h4, bif_l, if_pos h4]
          by_cases hq:FieldsOK fs∧∀ f,f∈fs→0≤f.2∧f.2<(i:Int)
          · rw [if_pos hq]
            simp only
            rw[zero_ok (show [el,le].length<N by simp;omega) (by simp),Option.bind_some]
            simp only[List.all_cons,List.all_nil,Bool.and_true]
            have g3:decide ((fs.length:Int)>0)=decide (0<fs.length):=by rw[decide_eq_decide];omega
            have g4:decide ((fs.length:Int)≤8)=decide (fs.length≤8):=by rw[decide_eq_decide];omega
            rw[g3,g4]
            by_cases a1:el=0
            · by_cases a2 : le = 0
              · by_cases a3 : 0 < fs.length
                · by_cases a4 : fs.length ≤ 8
                  · rw [decT (p := el = 0 ∧ le = 0 ∧ (0 < fs.length ∧ fs.length ≤ 8) ∧ FieldsOK fs ∧ ∀ f, f ∈ fs → 0 ≤ f.2 ∧ f.2 < (i : Int)) ⟨a1, a2, ⟨a3, a4⟩, hq⟩]
                    simp[a1,a2,a3,a4]
                  · rw [decF (p := el = 0 ∧ le = 0 ∧ (0 < fs.length ∧ fs.length ≤ 8) ∧ FieldsOK fs ∧ ∀ f, f ∈ fs → 0 ≤ f.2 ∧ f.2 < (i : Int)) fun h => a4 h.2.2.1.2]
                    simp[a1,a2,a3,a4]
                · rw [decF (p := el = 0 ∧ le = 0 ∧ (0 < fs.length ∧ fs.length ≤ 8) ∧ FieldsOK fs ∧ ∀ f, f ∈ fs → 0 ≤ f.2 ∧ f.2 < (i : Int)) fun h => a3 h.2.2.1.1, decide_eq_false a3]
                  simp[a1,a2]
              · rw [decF (p := el = 0 ∧ le = 0 ∧ (0 < fs.length ∧ fs.length ≤ 8) ∧ FieldsOK fs ∧ ∀ f, f ∈ fs → 0 ≤ f.2 ∧ f.2 < (i : Int)) fun h => a2 h.2.1, show (le == 0) = false by simpa using a2, Bool.and_false]
                rfl
            · rw [decF (p := el = 0 ∧ le = 0 ∧ (0 < fs.length ∧ fs.length ≤ 8) ∧ FieldsOK fs ∧ ∀ f, f ∈ fs → 0 ≤ f.2 ∧ f.2 < (i : Int)) fun h => a1 h.1, show (el == 0) = false by simpa using a1, Bool.false_and]
              rfl
          · rw[if_neg hq,decF (p:=el=0∧le=0∧(0<fs.length∧fs.length≤8)∧FieldsOK fs∧∀ f,f∈fs→0≤f.2∧f.2<(i:Int)) fun h=>hq ⟨h.2.2.2.1,h.2.2.2.2⟩]
        · rw[decide_eq_false h4,bif_r,if_neg h4,decF (p:=False) id]
open Go Go.Eng Go.Sym
open Classical
theorem fine04_ok {N : Nat} {l : List GType} {i : Nat} (hN : 1200 < N) (hi : i < l.length) (hf : (tyn l i).2.2.2.length ≤ 1000) : F85 N (l, (i : Int)) = some (decide (TypeOK l.length i (tyn l i))) := by
  have e:idx l (i:Int)=some (tyn l i):=idx_getD _ hi
  rw[F85_eq,e,Option.bind_some]
  unfold TypeOK
  generalize tyn l i=t at hf
  obtain⟨k,el,le,fs⟩:=t
  simp only at hf ⊢
  rw[range_loop (by omega) (by omega)]
  simp only[beq_dec,bif_tt,bif_ff,Option.bind_some,fields04_ok (show fs.length+100<N by omega) (show fs.length≤1000000 by omega)]
  have g0:decide ((fs.length:Int)=0)=decide (fs.length=0):=by rw[decide_eq_decide];omega
  by_cases h1:k=1∨k=2∨k=3
  · rw [show (decide (k = 1) || (decide (k = 2) || decide (k = 3))) = true by simpa using h1, bif_l, if_pos h1, g0]
    congr 1
    by_cases a1:el=0<;>by_cases a2:le=0<;>by_cases a3:fs.length=0<;>simp[a1,a2,a3]
    all_goals (intro h;simp[h] at a3)
  · rw [show (decide (k = 1) || (decide (k = 2) || decide (k = 3))) = false by simpa using h1, bif_r, if_neg h1]
    by_cases h2:k=4∨k=7
    · rw [show (decide (k = 4) || decide (k = 7)) = true by simpa using h2, bif_l, if_pos h2, g0]
      congr 1
      by_cases b1:0≤el<;>by_cases b2:el<(l.length:Int)<;>by_cases a2:le=0<;>by_cases a3:fs.length=0<;>simp[b1,b2,a2,a3]
      all_goals (intro h;simp[h] at a3)
    · rw [show (decide (k = 4) || decide (k = 7)) = false by simpa using h2, bif_r, if_neg h2]
      by_cases h3:k=6
      · rw [decide_eq_true h3, bif_l, if_pos h3, g0]
        congr 1
        by_cases b1:0≤el<;>by_cases b2:el<(i:Int)<;>by_cases a1:1≤le<;>by_cases a2:le≤16<;>by_cases a3:fs.length=0<;>simp[b1,b2,a1,a2,a3]
        all_goals (intro h;simp[h] at a3)
      · rw [decide_eq_false h3, bif_r, if_neg h3]
        by_cases h4:k=5
        · rw [decide_eq_true h4, bif_l, if_pos h4]
          have g3:decide ((fs.length:Int)>0)=decide (0<fs.length):=by rw[decide_eq_decide];omega
          by_cases hq:∀ f,f∈fs→0≤f.2∧f.2<(i:Int)
          · rw [if_pos hq]
            simp only[g3,fields04_ok (show fs.length+100<N by omega) (show fs.length≤1000000 by omega),Option.bind_some,bif_ff]
            by_cases a5:FieldsOK fs
            · by_cases a1 : el = 0 <;> by_cases a2 : le = 0 <;> by_cases a3 : 0 < fs.length <;> by_cases a4 : fs.length ≤ 8
              all_goals first
                |(rw[decT (p:=el=0∧le=0∧(0<fs.length∧fs.length≤8)∧FieldsOK fs∧∀ f,f∈fs→0≤f.2∧f.2<(i:Int)) ⟨a1,a2,⟨a3,a4⟩,a5,hq⟩,decT a1,decT a2,decT a3,decT (p:=(fs.length:Int)≤8∧FieldsOK fs) ⟨by omega,a5⟩];rfl)
                |(rw[decF (p:=el=0∧le=0∧(0<fs.length∧fs.length≤8)∧FieldsOK fs∧∀ f,f∈fs→0≤f.2∧f.2<(i:Int)) fun h=>a1 h.1,decF a1,Bool.false_and];done)
                |(rw[decF (p:=el=0∧le=0∧(0<fs.length∧fs.length≤8)∧FieldsOK fs∧∀ f,f∈fs→0≤f.2∧f.2<(i:Int)) fun h=>a2 h.2.1,decF a2,Bool.false_and,Bool.and_false];done)
                |(rw[decF (p:=el=0∧le=0∧(0<fs.length∧fs.length≤8)∧FieldsOK fs∧∀ f,f∈fs→0≤f.2∧f.2<(i:Int)) fun h=>a3 h.2.2.1.1,decF a3,Bool.false_and,Bool.and_false,Bool.and_false];done)
                |(rw[decF (p:=el=0∧le=0∧(0<fs.length∧fs.length≤8)∧FieldsOK fs∧∀ f,f∈fs→0≤f.2∧f.2<(i:Int)) fun h=>a4 h.2.2.1.2,decF (p:=(fs.length:Int)≤8∧FieldsOK fs) fun h=>a4 (by omega),Bool.and_false,Bool.and_false,Bool.and_false];done)
            · rw[decF (p:=el=0∧le=0∧(0<fs.length∧fs.length≤8)∧FieldsOK fs∧∀ f,f∈fs→0≤f.2∧f.2<(i:Int)) fun h=>a5 h.2.2.2.1,decF (p:=(fs.length:Int)≤8∧FieldsOK fs) fun h=>a5 h.2,Bool.and_false,Bool.and_false,Bool.and_false]
          · rw[if_neg hq,decF (p:=el=0∧le=0∧(0<fs.length∧fs.length≤8)∧FieldsOK fs∧∀ f,f∈fs→0≤f.2∧f.2<(i:Int)) fun h=>hq h.2.2.2.2]
        · rw[decide_eq_false h4,bif_r,if_neg h4,decF (p:=False) id]
theorem TypeOK.fields {n i : Nat} {t : GType} (h : TypeOK n i t) : (t.1 = 5 ∨ t.2.2.2 = []) ∧ t.2.2.2.length ≤ 8 ∧ ∀ f, f ∈ t.2.2.2 → 0 ≤ f.2 ∧ f.2 < i := by
  have nil:t.2.2.2.length=0→(t.1=5∨t.2.2.2=[])∧t.2.2.2.length≤8∧∀ f,f∈t.2.2.2→0≤f.2∧f.2<i:=fun h=>by
    have e:=List.eq_nil_of_length_eq_zero h
    rw[e]
    exact⟨.inr rfl,by simp,fun f hf=>by cases hf⟩
  unfold TypeOK at h
  split at h
  · exact nil h.2.2
  · split at h
    · exact nil h.2.2
    · split at h
      · exact nil h.2.2
      · split at h
        · rename_i h5
          exact⟨.inl h5,h.2.2.1.2,h.2.2.2.2⟩
        · exact h.elim
theorem TypeOK.ptr {n i:Nat} {t:GType} (h:TypeOK n i t) (hk:t.1=4∨t.1=7):0≤t.2.1∧t.2.1<n:=by
  unfold TypeOK at h
  rw[if_neg (by omega),if_pos hk] at h
  exact h.1
theorem TypeOK.arr {n i:Nat} {t:GType} (h:TypeOK n i t) (hk:t.1=6):(0≤t.2.1∧t.2.1<i)∧1≤t.2.2.1∧t.2.2.1≤16:=by
  unfold TypeOK at h
  rw[if_neg (by omega),if_neg (by omega),if_pos hk] at h
  exact⟨h.1,h.2.1⟩
noncomputable def sumW (out:List Int):List Field→Int
  |[]=>0
  |f :: r=>out.getD f.2.toNat 0+sumW out r
noncomputable def wstep (below out:List Int) (t:GType):Int:=
  min (1+(if t.1=4 then below.getD t.2.1.toNat 0 else if t.1=7 then 16*below.getD t.2.1.toNat 0 else if t.1=6 then t.2.2.1*out.getD t.2.1.toNat 0 else 0)+sumW out t.2.2.2) 5001
noncomputable def wOut (below:List Int) (l:List GType):Nat→List Int
  |0=>[]
  |i+1=>wOut below l i++[wstep below (wOut below l i) (tyn l i)]
noncomputable def W (l:List Int):Prop:=∀ x,x∈l→0≤x∧x≤5001
theorem wOut_len (below:List Int) (l:List GType):∀ i,(wOut below l i).length=i
  |0=>rfl
  |i+1=>by simp[wOut,wOut_len below l i]
theorem W.getD {l:List Int} (h:W l) (i:Nat):0≤l.getD i 0∧l.getD i 0≤5001:=by
  rw[List.getD_eq_getElem?_getD]
  cases e:l[i]? with
  |none=>simp
  |some x=>exact h x (mem_of_get e)
theorem sumW_bd {out:List Int} (h:W out):∀ fs:List Field,0≤sumW out fs∧sumW out fs≤fs.length*5001
  |[]=>by simp[sumW]
  | f :: r => by
    have:=sumW_bd h r
    have:=h.getD f.2.toNat
    simp only[sumW,List.length_cons];omega
theorem wstep_bd {below out : List Int} {n i : Nat} {t : GType} (hb : W below) (ho : W out) (ht : TypeOK n i t) : 0 ≤ wstep below out t ∧ wstep below out t ≤ 5001 := by
  unfold wstep
  have:=sumW_bd ho t.2.2.2
  refine⟨?_,by omega⟩
  have h1:=hb.getD t.2.1.toNat
  have h2:=ho.getD t.2.1.toNat
  have:0≤(if t.1=4 then below.getD t.2.1.toNat 0 else if t.1=7 then 16*below.getD t.2.1.toNat 0 else if t.1=6 then t.2.2.1*out.getD t.2.1.toNat 0 else 0):=by
    split
    · omega
    · split
      · omega
      · split
        · rename_i h6
          exact Int.mul_nonneg (by have:=ht.arr h6;omega) h2.1
        · omega
  omega
theorem wOut_W {below:List Int} {l:List GType} (hb:W below):∀ i,i≤l.length→(∀ j,j<l.length→TypeOK l.length j (tyn l j))→W (wOut below l i)
  |0,_,_=>fun x hx=>by cases hx
  | i + 1, hi, ht => fun x hx => by
    simp only[wOut,List.mem_append,List.mem_singleton] at hx
    rcases hx with hx|rfl
    · exact wOut_W hb i (by omega) ht x hx
    · exact wstep_bd hb (wOut_W hb i (by omega) ht) (ht i (by omega))
theorem getD_app {α : Type} {a b:List α} {i:Nat} (d : α) (h:i<a.length):(a++b).getD i d=a.getD i d:=by
  rw[List.getD_eq_getElem?_getD,List.getD_eq_getElem?_getD,List.getElem?_append_left h]
theorem sumW_app {a b:List Int} : ∀ {fs:List Field},(∀ f,f∈fs→0≤f.2∧f.2<a.length)→sumW (a++b) fs=sumW a fs
  |[],_=>rfl
  | f :: r, h => by
    have:=h f List.mem_cons_self
    rw[sumW,sumW,getD_app _ (by omega),sumW_app fun g hg=>h g (List.mem_cons_of_mem _ hg)]
theorem get_getD {l:List Int} {i:Nat} (h:i<l.length):l[i]?=some (l.getD i 0):=by
  rw[List.getD_eq_getElem?_getD,List.getElem?_eq_getElem h];rfl
theorem inR_int {x:Int} {n:Nat} (h:0≤x∧x<n):inR x n=true:=by
  unfold inR
  rw[decide_eq_true h.1,decide_eq_true (by omega)];rfl
theorem inner_ok {N:Nat} {fs:List Field} {now below:List Int} (hnow:W now) (a:List GType) (b c:Int) (d:List GType) (e g:Int) (hl:fs.length≤1000):∀ (r pre:List Field) (n:Int) (k:Nat),fs=pre++r→(∀ f,f∈r→0≤f.2∧f.2<now.length)→0≤n→n≤100000+pre.length*5001→r.length<k→
    f76.L0_30 N k (a,b,n,c,d,e,g,fs,(fs.length:Int),(pre.length:Int),below,now)=some (a,b,n+sumW now r,c,d,e,g,below,now):=by
  intro r
  induction r with
  | nil =>
    intro pre n k he _ _ _ hk
    obtain⟨k,rfl⟩:∃ k',k=k'+1:=⟨k-1,by simp at hk;omega⟩
    rw[List.append_nil] at he;subst he
    rw[f76.L0_30_succ,ge_dec,bif_r,sumW,Int.add_zero]
  | cons x r ih =>
    intro pre n k he hf h0 hn hk
    obtain⟨k,rfl⟩:∃ k',k=k'+1:=⟨k-1,by simp at hk;omega⟩
    have hlen:pre.length+(r.length+1)=fs.length:=by rw[he];simp
    have hx:idx fs (pre.length:Int)=some x:=by rw[he];exact idx_mid _ _ _
    have hx2:=hf x List.mem_cons_self
    have hg:=hnow.getD x.2.toNat
    have ih:=ih (pre++[x]) (n+now.getD x.2.toNat 0) k (by rw[he];simp) (fun f h=>hf f (List.mem_cons_of_mem _ h)) (by omega) (by rw[List.length_append,List.length_singleton];omega) (by simp at hk;omega)
    rw[f76.L0_30_succ,lt_dec (by omega),bif_l,hx,Option.bind_some,inR_int hx2,chk_true,get_getD (by omega),Option.bind_some,wi64_in (by omega),wi64_succ (by omega)]
    rw[show ((pre++[x]).length:Int)=((pre.length+1:Nat):Int) by simp] at ih
    rw[ih,sumW,Int.add_assoc]
theorem rep_W (n:Nat):W (List.replicate n 0):=fun x hx=>by rw[(List.mem_replicate.1 hx).2];omega
theorem W.app {a b:List Int} (ha:W a) (hb:W b):W (a++b):=fun x hx=>(List.mem_append.1 hx).elim (ha x) (hb x)
theorem set_app {a:List Int} {n i:Nat} {v:Int} (ha:a.length=i) (hi:i<n):(a++List.replicate (n-i) 0).set i v=(a++[v])++List.replicate (n-(i+1)) 0:=by
  rw[List.set_append_right _ _ (by omega),show n-i=(n-(i+1))+1 by omega,List.replicate_succ,show i-a.length=0 by omega,List.set_cons_zero,List.append_assoc];rfl
noncomputable def AllT (l:List GType):Prop:=∀ i,i<l.length→TypeOK l.length i (tyn l i)
theorem row_ok {N : Nat} {l : List GType} {below : List Int} (hN : 1000 < N) (hl : l.length ≤ 100) (ht : AllT l) (hb : W below) (hbl : below.length = l.length) (r : Int) :
    f76.L0_11 N N (l,r,l,(l.length:Int),(0:Int),below,List.replicate l.length 0)=some (l,r,wOut below l l.length):=by
  have key:=loop_up (n:=l.length) (Lf:=fun k i=>f76.L0_11 N k (l,r,l,(l.length:Int),i,below,wOut below l i.toNat++List.replicate (l.length-i.toNat) 0)) (g:=fun _=>some (l,r,wOut below l l.length)) (fun k=>by
      simp only[f76.L0_11_succ,ge_dec,bif_r,Int.toNat_natCast,Nat.sub_self,List.replicate_zero,List.append_nil]) (fun k i hi ih=>by
      have e:idx l (i:Int)=some (tyn l i):=idx_getD _ hi
      have ht':=ht i hi
      have hf:=ht'.fields
      have hW:=wOut_W (i:=i) (l:=l) hb (by omega) ht
      have hol:=wOut_len below l i
      have hnl:(wOut below l i++List.replicate (l.length-i) (0:Int)).length=l.length:=by simp[hol];omega
      have hWn:W (wOut below l i++List.replicate (l.length-i) 0):=hW.app (rep_W _)
      have hsum:sumW (wOut below l i++List.replicate (l.length-i) 0) (tyn l i).2.2.2=sumW (wOut below l i) (tyn l i).2.2.2:=sumW_app fun f h=>by have:=hf.2.2 f h;rw[hol];exact this
      have hset:∀ v:Int,(wOut below l i++List.replicate (l.length-i) 0).set i v=(wOut below l i++[v])++List.replicate (l.length-(i+1)) 0:=fun v=>set_app hol hi
      have fin:∀ n:Int,0≤n→n≤100000→1+(if (tyn l i).1=4 then below.getD (tyn l i).2.1.toNat 0 else if (tyn l i).1=7 then 16*below.getD (tyn l i).2.1.toNat 0 else if (tyn l i).1=6 then (tyn l i).2.2.1*(wOut below l i).getD (tyn l i).2.1.toNat 0 else 0)=n→
          (Option.bind (f76.L0_30 N N (l,(i:Int),n,r,l,(l.length:Int),(i:Int),(tyn l i).2.2.2,((tyn l i).2.2.2.length:Int),(0:Int),below,wOut below l i++List.replicate (l.length-i) 0)) fun y31=>
            (chk (inR y31.2.1 y31.2.2.2.2.2.2.2.2.length)
            ((Option.bind (y31.2.2.2.2.2.2.2.2[(Int.toNat y31.2.1)]?) fun x32=>
            f76.L0_11 N k (y31.1,y31.2.2.2.1,y31.2.2.2.2.1,y31.2.2.2.2.2.1,(wi64 (y31.2.2.2.2.2.2.1+(1:Int))),y31.2.2.2.2.2.2.2.1,(y31.2.2.2.2.2.2.2.2.set (Int.toNat y31.2.1) (min y31.2.2.1 (5001:Int))))))))=some (l,r,wOut below l l.length):=by
        intro n h0 hn he
        have:=inner_ok (N:=N) (below:=below) hWn l (i:Int) r l (l.length:Int) (i:Int) (fs:=(tyn l i).2.2.2) (by omega) (tyn l i).2.2.2 [] n N rfl (fun f h=>by rw[hnl];have:=hf.2.2 f h;omega) h0 (by simp;omega) (by omega)
        rw[show (([]:List Field).length:Int)=0 from rfl] at this
        rw[this,Option.bind_some]
        simp only[Int.toNat_natCast]
        rw[hnl,inR_lt hi,chk_true,get_getD (by rw[hnl];exact hi),Option.bind_some,wi64_succ (by omega),hset,hsum]
        simp only[Int.toNat_natCast] at ih
        rw[wOut,wstep,he] at ih
        exact ih
      have hbd:=hb.getD (tyn l i).2.1.toNat
      have hod:=hW.getD (tyn l i).2.1.toNat
      simp only[f76.L0_11_succ,lt_dec hi,bif_l,e,Option.bind_some,Int.toNat_natCast]
      by_cases h4:(tyn l i).1=4
      · have hp := ht'.ptr (.inl h4)
        rw[if_pos h4] at fin
        rw[show ((tyn l i).1==(4:Int))=true by simp[h4],bif_l,inR_int (by omega),chk_true,get_getD (by omega),Option.bind_some,wi64_in (by omega)]
        exact fin _ (by omega) (by omega) rfl
      · rw [show ((tyn l i).1 == (4 : Int)) = false by simp [h4], bif_r]
        rw[if_neg h4] at fin
        by_cases h7:(tyn l i).1=7
        · have hp := ht'.ptr (.inr h7)
          rw[if_pos h7] at fin
          rw[show ((tyn l i).1==(7:Int))=true by simp[h7],bif_l,inR_int (by omega),chk_true,get_getD (by omega),Option.bind_some,wi64_in (n:=16*_) (by omega),wi64_in (by omega)]
          exact fin _ (by omega) (by omega) rfl
        · rw [show ((tyn l i).1 == (7 : Int)) = false by simp [h7], bif_r]
          rw[if_neg h7] at fin
          by_cases h6:(tyn l i).1=6
          · have hp := ht'.arr h6
            rw[if_pos h6] at fin
            have hm:0≤(tyn l i).2.2.1*(wOut below l i).getD (tyn l i).2.1.toNat 0∧(tyn l i).2.2.1*(wOut below l i).getD (tyn l i).2.1.toNat 0≤16*5001:=⟨Int.mul_nonneg (by omega) hod.1,Int.mul_le_mul (by omega) hod.2 hod.1 (by omega)⟩
            rw[show ((tyn l i).1==(6:Int))=true by simp[h6],bif_l,inR_int (by rw[hnl];omega),chk_true,get_getD (by rw[hnl];omega),Option.bind_some,getD_app _ (by rw[hol];omega),wi64_in (n:=(tyn l i).2.2.1*_) (by omega),wi64_in (by omega)]
            exact fin _ (by omega) (by omega) rfl
          · rw [show ((tyn l i).1 == (6 : Int)) = false by simp [h6], bif_r]
            rw[if_neg h6] at fin
            exact fin 1 (by omega) (by omega) rfl) N 0 (by omega) (by omega)
  simpa[wOut] using key
noncomputable def wR (l:List GType):Nat→List Int
  |0=>wOut (List.replicate l.length 0) l l.length
  |d+1=>wOut (wR l d) l l.length
theorem wR_W {l:List GType} (ht:AllT l):∀ d,W (wR l d)∧(wR l d).length=l.length
  |0=>⟨wOut_W (rep_W _) _ (by omega) ht,wOut_len _ _ _⟩
  |d+1=>⟨wOut_W (wR_W ht d).1 _ (by omega) ht,wOut_len _ _ _⟩
theorem widths_ok {N:Nat} {l:List GType} (hN:1000<N) (hl:l.length≤100) (ht:AllT l):F76 N l=some (wR l 3):=by
  have hr:(decide (Int.toNat (l.length:Int)≤Int.toNat (l.length:Int))&&room (Int.toNat (l.length:Int)) 8)=true:=by
    rw[decide_eq_true (Nat.le_refl _),Int.toNat_natCast,room_small (by omega) (by omega)];rfl
  have h0:decide (0≤(l.length:Int))=true:=decide_eq_true (by omega)
  have step:∀ (j:Nat) (b:List Int) k,j<4→W b→b.length=l.length→f76.L0_4 N (k+1) (l,(j:Int),b)=f76.L0_4 N k (l,((j+1:Nat):Int),wOut b l l.length):=fun j b k hj hb hbl=>by
    rw[f76.L0_4_succ,decide_eq_true (by omega),bif_l,h0,chk_true,chk_true,hr,chk_true,Int.toNat_natCast,row_ok hN hl ht hb hbl,Option.bind_some]
    simp only
    rw[wi64_succ (by omega)]
  obtain⟨k,rfl⟩:∃ k,N=k+5:=⟨N-5,by omega⟩
  rw[F76_eq,h0,chk_true,chk_true,hr,chk_true,Int.toNat_natCast]
  have s0:=step 0 (List.replicate l.length 0) (k+4) (by omega) (rep_W _) (by simp)
  have s1:=step 1 _ (k+3) (by omega) (wR_W ht 0).1 (wR_W ht 0).2
  have s2:=step 2 _ (k+2) (by omega) (wR_W ht 1).1 (wR_W ht 1).2
  have s3:=step 3 _ (k+1) (by omega) (wR_W ht 2).1 (wR_W ht 2).2
  have e:f76.L0_4 (k+5) (k+5) (l,(0:Int),List.replicate l.length 0)=some (wR l 3):=by
    refine s0.trans (s1.trans (s2.trans (s3.trans ?_)))
    rw[f76.L0_4_succ,decide_eq_false (by omega),bif_r];rfl
  rw[e];rfl
open Go Go.Eng Go.Sym
open Classical
noncomputable def partsOf (t:GType):List Int:=(if t.1=6 then [t.2.1] else [])++t.2.2.2.map (·.2)
theorem flatMap_one {α β : Type} (g : α→β):∀ fs:List α,fs.flatMap (fun f=>[g f])=fs.map g
  |[]=>rfl
  |x :: r=>by rw[List.flatMap_cons,flatMap_one g r];rfl
theorem parts_ok {N:Nat} {t:GType} (hN:1100<N) (hf:t.2.2.2.length≤1000):F110 N (t.1,t.2.1,t.2.2.1,t.2.2.2)=some (partsOf t):=by
  obtain⟨k,el,le,fs⟩:=t
  simp only at hf ⊢
  rw[F110_eq]
  have key:=fun s (hs:s.length≤1)=>loop_out (l:=fs) (enc:=fun f:Field=>[f.2]) (g:=id) (B:=10000) (m:=1) (Lf:=fun k' i (s:List Int)=>f110.L0_7 N k' (s,i,k,el,le,fs)) (fun k' s=>by
      simp only[f110.L0_7_succ,ge_dec,bif_r];rfl) (fun k' i x s hx hm hs=>by
      simp only[f110.L0_7_succ,lt_dec (len_pos hx),bif_l,idx_get hx,Option.bind_some,room_small (show s.length+1≤10000000 by omega) (show 8≤1000 by omega),chk_true,wi64_succ (show i<9223372036854775807 by have:=len_pos hx;omega)]) (fun x _=>by simp) (k:=N) (s:=s) (by omega) (by omega)
  rw[flatMap_one] at key
  unfold partsOf
  by_cases h:k=6
  · rw [show (k == (6 : Int)) = true by simp [h], bif_l, room_small (by omega) (by omega), chk_true, key [el] (by simp)]
    simp[h]
  · rw [show (k == (6 : Int)) = false by simp [h], bif_r, key [] (by simp)]
    simp[h]
noncomputable def byOf (t:GType):Int:=if t.1=6 then t.2.2.1 else 1
noncomputable def accW (out:List Int) (t:GType):Int→List Int→Int
  |n,[]=>n
  |n,q :: r=>accW out t (min (n+byOf t*out.getD q.toNat 0) 5001) r
theorem by_bd {n i:Nat} {t:GType} (h:TypeOK n i t):1≤byOf t∧byOf t≤16:=by
  unfold byOf
  split
  · exact (h.arr ‹_›).2
  · omega
theorem mul_bd {a b:Int} (ha:1≤a∧a≤16) (hb:0≤b∧b≤5001):0≤a*b∧a*b≤80016:=
  ⟨Int.mul_nonneg (by omega) hb.1,Int.le_trans (Int.mul_le_mul ha.2 hb.2 hb.1 (by omega)) (by omega)⟩
theorem inner04_ok {N : Nat} {R : List GType × Int → Option (List Int)} {l : List GType} {i : Nat} (hi : i < l.length) (ht : TypeOK l.length i (tyn l i)) {out : List Int} (ho : W out) (d : Int) (below : List Int) (ps : List Int) (hl : ps.length ≤ 1000) : ∀ (r pre : List Int) (n : Int) (k : Nat), ps = pre ++ r → (∀ q, q ∈ r → 0 ≤ q ∧ q < out.length) → 0 ≤ n → n ≤ 5001 → r.length < k →
    f86.L0_15 N R k (l,d,below,out,(i:Int),n,ps,(pre.length:Int))=some (l,d,below,out,(i:Int),accW out (tyn l i) n r):=by
  intro r
  have e:idx l (i:Int)=some (tyn l i):=idx_getD _ hi
  induction r with
  | nil =>
    intro pre n k he _ _ _ hk
    obtain⟨k,rfl⟩:∃ k',k=k'+1:=⟨k-1,by simp at hk;omega⟩
    rw[List.append_nil] at he;subst he
    rw[f86.L0_15_succ,ge_dec,bif_r,accW]
  | cons x r ih =>
    intro pre n k he hf h0 hn hk
    obtain⟨k,rfl⟩:∃ k',k=k'+1:=⟨k-1,by simp at hk;omega⟩
    have hlen:pre.length+(r.length+1)=ps.length:=by rw[he];simp
    have hx:idx ps (pre.length:Int)=some x:=by rw[he];exact idx_mid _ _ _
    have hx2:=hf x List.mem_cons_self
    have hg:=mul_bd (by_bd ht) (ho.getD x.toNat)
    have ih:=ih (pre++[x]) (min (n+byOf (tyn l i)*out.getD x.toNat 0) 5001) k (by rw[he];simp) (fun f h=>hf f (List.mem_cons_of_mem _ h)) (by omega) (by omega) (by simp at hk;omega)
    have hb:(Option.bind ((bif ((tyn l i).1==(6:Int)) then (Option.bind (idx l (i:Int)) fun x17=>some x17.2.2.1) else some (1:Int))) fun b18=>
        (Option.bind (idx ps (pre.length:Int)) fun x19=>(Option.bind (idx out x19) fun x20=>
        f86.L0_15 N R k (l,d,below,out,(i:Int),(min (wi64 (n+(wi64 (b18*x20)))) (5001:Int)),ps,(wi64 ((pre.length:Int)+(1:Int))))))) =
        f86.L0_15 N R k (l,d,below,out,(i:Int),min (n+byOf (tyn l i)*out.getD x.toNat 0) 5001,ps,((pre.length+1:Nat):Int)):=by
      have ex:idx out x=some (out.getD x.toNat 0):=idx_of_get hx2.1 (get_getD (by omega))
      unfold byOf at hg ⊢
      by_cases h6:(tyn l i).1=6
      · rw [if_pos h6] at hg ⊢
        rw[show ((tyn l i).1==(6:Int))=true by simp[h6],bif_l,e,Option.bind_some,Option.bind_some,hx,Option.bind_some,ex,Option.bind_some,wi64_in (n:=(tyn l i).2.2.1*_) (by omega),wi64_in (by omega),wi64_succ (by omega)]
      · rw [if_neg h6] at hg ⊢
        rw[show ((tyn l i).1==(6:Int))=false by simp[h6],bif_r,Option.bind_some,hx,Option.bind_some,ex,Option.bind_some,wi64_in (n:=1*_) (by omega),wi64_in (by omega),wi64_succ (by omega)]
    rw[f86.L0_15_succ,lt_dec (by omega),bif_l,e,Option.bind_some,←e,hb]
    rw[show ((pre++[x]).length:Int)=((pre.length+1:Nat):Int) by simp] at ih
    rw[ih,accW]
theorem accW_fields {out:List Int} {t:GType} (ho:W out) (h6:t.1≠6):∀ (fs:List Field) (n:Int),0≤n→n≤5001→accW out t n (fs.map (·.2))=min (n+sumW out fs) 5001
  |[],n,h0,hn=>by rw[List.map_nil,accW,sumW];omega
  | f :: r, n, h0, hn => by
    have hg:=ho.getD f.2.toNat
    have hs:=sumW_bd ho r
    rw[List.map_cons,accW,byOf,if_neg h6,accW_fields ho h6 r _ (by omega) (by omega),sumW]
    omega
theorem acc_ok {out:List Int} {n i:Nat} {t:GType} (ho:W out) (ht:TypeOK n i t):accW out t 1 (partsOf t)=min (1+(if t.1=6 then t.2.2.1*out.getD t.2.1.toNat 0 else 0)+sumW out t.2.2.2) 5001:=by
  unfold partsOf
  by_cases h6:t.1=6
  · have hf : t.2.2.2 = [] := ht.fields.1.resolve_left (by omega)
    rw[if_pos h6,if_pos h6,hf,List.map_nil,List.append_nil,accW,accW,byOf,if_pos h6,sumW];omega
  · rw[if_neg h6,if_neg h6,List.nil_append,accW_fields ho h6 _ _ (by omega) (by omega)];omega
theorem rep_getD (n i:Nat):(List.replicate n (0:Int)).getD i 0=0:=by
  rw[List.getD_eq_getElem?_getD,List.getElem?_replicate];split<;>rfl
theorem row04_ok {N : Nat} {R : List GType × Int → Option (List Int)} {l : List GType} (hN : 1100 < N) (hl : l.length ≤ 100) (ht : AllT l) (hf : ∀ i, i < l.length → (tyn l i).2.2.2.length ≤ 1000) {d : Nat} {below b' : List Int} (hb' : W b') (hd : d = 0 ∧ b' = List.replicate l.length 0 ∨ 0 < d ∧ d ≤ 10 ∧ below = b' ∧ b'.length = l.length) :
    f86.L0_8 N R N (l,(d:Int),below,[],(0:Int))=some (wOut b' l l.length):=by
  have key:=loop_up (n:=l.length) (Lf:=fun k i=>f86.L0_8 N R k (l,(d:Int),below,wOut b' l i.toNat,i)) (g:=fun _=>some (wOut b' l l.length)) (fun k=>by
      simp only[f86.L0_8_succ,ge_dec,bif_r,Int.toNat_natCast]) (fun k i hi ih=>by
      have e:idx l (i:Int)=some (tyn l i):=idx_getD _ hi
      have ht':=ht i hi
      have hff:=ht'.fields
      have hW:=wOut_W (i:=i) (l:=l) hb' (by omega) ht
      have hol:=wOut_len b' l i
      have hps:∀ q,q∈partsOf (tyn l i)→0≤q∧q<(wOut b' l i).length:=by
        intro q hq
        rw[hol]
        unfold partsOf at hq
        rw[List.mem_append] at hq
        rcases hq with hq|hq
        · split at hq
          · rw [List.mem_singleton] at hq; subst hq
            exact (ht'.arr ‹_›).1
          · cases hq
        · obtain ⟨f, h1, rfl⟩ := List.mem_map.1 hq
          exact hff.2.2 f h1
      have hpl:(partsOf (tyn l i)).length≤1000:=by
        unfold partsOf
        rw[List.length_append,List.length_map]
        split
        · simp;omega
        · simp;omega
      have hin:=inner04_ok (N:=N) (R:=R) hi ht' hW (d:Int) below (partsOf (tyn l i)) hpl (partsOf (tyn l i)) [] 1 N rfl hps (by omega) (by omega) (by omega)
      rw[show (([]:List Int).length:Int)=0 from rfl,acc_ok hW ht'] at hin
      simp only[Int.toNat_natCast] at ih ⊢
      rw[wOut] at ih
      have hbd:=hb'.getD (tyn l i).2.1.toNat
      have hod:=hW.getD (tyn l i).2.1.toNat
      have hsb:=sumW_bd hW (tyn l i).2.2.2
      have hroom:room ((wOut b' l i).length+1) 8=true:=room_small (by omega) (by omega)
      have fin:∀ b31:Int,b31=wstep b' (wOut b' l i) (tyn l i)→f86.L0_8 N R k (l,(d:Int),below,wOut b' l i++[b31],((i+1:Nat):Int))=some (wOut b' l l.length):=by
        rintro _ rfl;exact ih
      simp only[f86.L0_8_succ,lt_dec hi,bif_l,e,Option.bind_some,parts_ok (t:=tyn l i) hN (hf i hi),hin,hroom,chk_true,wi64_succ (show i<9223372036854775807 by omega)]
      rcases hd with⟨rfl,hd⟩|⟨hd,hd10,rfl,hbl⟩
      · rw [show decide (((0 : Nat) : Int) > 0) = false from rfl, bif_r, bif_r, Option.bind_some, bif_r, Option.bind_some, Option.bind_some, bif_r, Option.bind_some]
        refine fin _ ?_
        unfold wstep
        rw[hd,rep_getD]
        split<;>(try split)<;>(try split)<;>first|omega|rfl
      · rw [decide_eq_true (show (d : Int) > 0 by omega), bif_l, bif_l, Option.bind_some]
        unfold wstep at fin
        by_cases h4:(tyn l i).1=4
        · have hp := ht'.ptr (.inl h4)
          have hfs:(tyn l i).2.2.2=[]:=hff.1.resolve_left (by omega)
          rw[show ((tyn l i).1==(4:Int))=true by simp[h4],bif_l,idx_of_get hp.1 (get_getD (by omega)),Option.bind_some,Option.bind_some,Option.bind_some,show ((tyn l i).1==(7:Int))=false by simp[h4],bif_r,Option.bind_some,if_neg (by omega)]
          refine fin _ ?_
          rw[if_pos h4,hfs,sumW,wi64_in (by omega)];omega
        · rw [show ((tyn l i).1 == (4 : Int)) = false by simp [h4], bif_r, Option.bind_some, Option.bind_some]
          rw[if_neg h4] at fin
          by_cases h7:(tyn l i).1=7
          · have hp := ht'.ptr (.inr h7)
            have hfs:(tyn l i).2.2.2=[]:=hff.1.resolve_left (by omega)
            rw[show ((tyn l i).1==(7:Int))=true by simp[h7],bif_l,idx_of_get hp.1 (get_getD (by omega)),Option.bind_some,Option.bind_some,if_neg (by omega)]
            refine fin _ ?_
            rw[if_pos h7,hfs,sumW,wi64_in (n:=16*_) (by omega),wi64_in (by omega)];omega
          · rw [show ((tyn l i).1 == (7 : Int)) = false by simp [h7], bif_r, Option.bind_some]
            rw[if_neg h7] at fin
            exact fin _ rfl) N 0 (by omega) (by omega)
  simpa[wOut] using key
end Go.Proofs.Ytlfhlggkbcncoaa
