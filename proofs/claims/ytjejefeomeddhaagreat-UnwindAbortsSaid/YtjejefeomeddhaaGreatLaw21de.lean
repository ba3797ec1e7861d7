/- A part of the proof: Law21da, Law21db, Law21dc, Law21dd, Law21de. -/
import Derived.Test.YtjejefeomeddhaaGreatGen21d
import Derived.Test.YtjejefeomeddhaaGreatTab21d
set_option linter.unusedVariables false
set_option linter.unusedSimpArgs false
variable [Go.Eng.Rho]
set_option linter.unusedSectionVars false
namespace Go.Proofs.YtjejefeomeddhaaGreat
open Go Go.Eng Go.Sym
theorem bif_tt (a b:Bool):(bif a then some true else some b:Option Bool)=some (a||b):=by grind
theorem bif_ff (a b:Bool):(bif a then some b else some false:Option Bool)=some (a&&b):=by grind
theorem bind_id {α : Type} (o:Option α):(Option.bind o fun x=>some x)=o:=by grind
theorem bif_l {α : Type} (a b : α):(bif true then a else b)=a:=rfl
theorem bif_r {α : Type} (a b : α):(bif false then a else b)=b:=rfl
noncomputable def U (c:UInt8):Int×Int×Bool×Bool:=
  if c=119 then (0,15,false,true) else if c=114 then (0,15,true,false) else if c=110 then (-9223372036854775808,9223372036854775807,false,false)
  else if c=116 then (0,31,false,false) else if c=99 then (0,31,false,false) else if c=98 then (0,1,false,false) else if c=102 then (0,7,false,false)
  else if c=105 then (0,199,false,false) else if c=103 then (-1,15,false,true) else if c=101 then (-1,15,true,false) else (0,0,false,false)
noncomputable def kindOK (c:UInt8):Bool:=[119,114,110,116,99,98,102,105,103,101,45].contains c
noncomputable def shpL:List (UInt8×UInt8×UInt8):=[(119,110,45),(119,116,45),(119,98,45),(119,45,45),(119,114,45),(119,114,114),(119,114,114),(119,114,114),(119,114,114),(119,114,114),(119,114,114),(119,114,45),(119,114,102),(114,102,114),(119,45,45),(119,114,45),(114,114,45),(119,114,45),(119,114,114),(114,114,114),(119,114,45),(105,45,45),(114,105,45),(114,45,45),(103,99,45),(99,45,45),(99,45,45),(114,45,45),(119,119,45),(45,45,45),(45,45,45),(114,45,45),(119,114,45),(101,45,45)]
noncomputable def shp (op:Int):Option (UInt8×UInt8×UInt8):=if 1≤op∧op≤34 then shpL[(op-1).toNat]? else none
theorem ops_cases (p0:Int):(1≤p0∧p0≤34)∨∀ k:Int,1≤k→k≤34→(p0==k)=false:=by
  grind
theorem shape06_out {N:Nat} {p0:Int} (ne:∀ k:Int,1≤k→k≤34→(p0==k)=false):F115 N p0=some []:=by
  simp[F115.eq_1,ne 1 (by decide) (by decide),ne 2 (by decide) (by decide),ne 3 (by decide) (by decide),ne 4 (by decide) (by decide),ne 5 (by decide) (by decide),ne 6 (by decide) (by decide),ne 7 (by decide) (by decide),ne 8 (by decide) (by decide),ne 9 (by decide) (by decide),ne 10 (by decide) (by decide),ne 11 (by decide) (by decide),ne 12 (by decide) (by decide),ne 13 (by decide) (by decide),ne 14 (by decide) (by decide),ne 15 (by decide) (by decide),ne 16 (by decide) (by decide),ne 17 (by decide) (by decide),ne 18 (by decide) (by decide),ne 19 (by decide) (by decide),ne 20 (by decide) (by decide),ne 21 (by decide) (by decide),ne 22 (by decide) (by decide),ne 23 (by decide) (by decide),ne 24 (by decide) (by decide),ne 25 (by decide) (by decide),ne 26 (by decide) (by decide),ne 27 (by decide) (by decide),ne 28 (by decide) (by decide),ne 29 (by decide) (by decide),ne 30 (by decide) (by decide),ne 31 (by decide) (by decide),ne 32 (by decide) (by decide),ne 33 (by decide) (by decide),ne 34 (by decide) (by decide),bif_r,bif_tt,Bool.or_false,Option.bind_some]
theorem shapeO_out {N:Nat} {p0:Int} (ne:∀ k:Int,1≤k→k≤34→(p0==k)=false):F308 N p0=some ((0:Int),(0:Int),false,false,(0:Int),(0:Int),false,false,(0:Int),(0:Int),false,false,(-1:Int)):=by
  simp[F308.eq_1,ne 1 (by decide) (by decide),ne 2 (by decide) (by decide),ne 3 (by decide) (by decide),ne 4 (by decide) (by decide),ne 5 (by decide) (by decide),ne 6 (by decide) (by decide),ne 7 (by decide) (by decide),ne 8 (by decide) (by decide),ne 9 (by decide) (by decide),ne 10 (by decide) (by decide),ne 11 (by decide) (by decide),ne 12 (by decide) (by decide),ne 13 (by decide) (by decide),ne 14 (by decide) (by decide),ne 15 (by decide) (by decide),ne 16 (by decide) (by decide),ne 17 (by decide) (by decide),ne 18 (by decide) (by decide),ne 19 (by decide) (by decide),ne 20 (by decide) (by decide),ne 21 (by decide) (by decide),ne 22 (by decide) (by decide),ne 23 (by decide) (by decide),ne 24 (by decide) (by decide),ne 25 (by decide) (by decide),ne 26 (by decide) (by decide),ne 27 (by decide) (by decide),ne 28 (by decide) (by decide),ne 29 (by decide) (by decide),ne 30 (by decide) (by decide),ne 31 (by decide) (by decide),ne 32 (by decide) (by decide),ne 33 (by decide) (by decide),ne 34 (by decide) (by decide),bif_r,bif_tt,Bool.or_false,Option.bind_some]
theorem shp_out {p0:Int} (ne:∀ k:Int,1≤k→k≤34→(p0==k)=false):shp p0=none:=by
  unfold shp<;>grind
theorem shape06_shp (N:Nat) (p0:Int):F115 N p0=some (match shp p0 with
    |some (a,b,c)=>[a,b,c]
    |none=>[]):=by
  rcases ops_cases p0 with h|ne
  · have : p0 = 1 ∨ p0 = 2 ∨ p0 = 3 ∨ p0 = 4 ∨ p0 = 5 ∨ p0 = 6 ∨ p0 = 7 ∨ p0 = 8 ∨ p0 = 9 ∨ p0 = 10 ∨ p0 = 11 ∨ p0 = 12 ∨ p0 = 13 ∨ p0 = 14 ∨ p0 = 15 ∨ p0 = 16 ∨ p0 = 17 ∨ p0 = 18 ∨ p0 = 19 ∨ p0 = 20 ∨ p0 = 21 ∨ p0 = 22 ∨ p0 = 23 ∨ p0 = 24 ∨ p0 = 25 ∨ p0 = 26 ∨ p0 = 27 ∨ p0 = 28 ∨ p0 = 29 ∨ p0 = 30 ∨ p0 = 31 ∨ p0 = 32 ∨ p0 = 33 ∨ p0 = 34 := by omega
    rcases this with rfl|rfl|rfl|rfl|rfl|rfl|rfl|rfl|rfl|rfl|rfl|rfl|rfl|rfl|rfl|rfl|rfl|rfl|rfl|rfl|rfl|rfl|rfl|rfl|rfl|rfl|rfl|rfl|rfl|rfl|rfl|rfl|rfl|rfl<;>(simp only[F115.eq_1];rfl)
  · rw[shape06_out ne,shp_out ne]
theorem shp_all:(shpL.all fun s=>(kindOK s.1&&(kindOK s.2.1&&kindOK s.2.2))&&((!(s.1==45)||s.2.1==45)&&(!(s.2.1==45)||s.2.2==45)))=true:=by decide
theorem shp_mem {p0:Int} {s:UInt8×UInt8×UInt8} (h:shp p0=some s):s∈shpL:=by
  unfold shp at h
  split at h
  · exact List.mem_of_getElem? h
  grind
theorem shp_ok {p0:Int} {a b c:UInt8} (h:shp p0=some (a,b,c)):kindOK a=true∧kindOK b=true∧kindOK c=true:=by
  have:=List.all_eq_true.1 shp_all _ (shp_mem h)<;>grind
noncomputable def cnt (a b c:UInt8):Int:=if c≠45 then 3 else if b≠45 then 2 else if a≠45 then 1 else 0
theorem cnt_nn (a b c:UInt8):decide (cnt a b c<0)=false:=by
  unfold cnt<;>grind
theorem shapeO_shp (N:Nat) (p0:Int):F308 N p0=some (match shp p0 with
    |some (a,b,c)=>((U a).1,(U a).2.1,(U a).2.2.1,(U a).2.2.2,(U b).1,(U b).2.1,(U b).2.2.1,(U b).2.2.2,(U c).1,(U c).2.1,(U c).2.2.1,(U c).2.2.2,cnt a b c)
    |none=>((0:Int),(0:Int),false,false,(0:Int),(0:Int),false,false,(0:Int),(0:Int),false,false,(-1:Int))):=by
  rcases ops_cases p0 with h|ne
  · have : p0 = 1 ∨ p0 = 2 ∨ p0 = 3 ∨ p0 = 4 ∨ p0 = 5 ∨ p0 = 6 ∨ p0 = 7 ∨ p0 = 8 ∨ p0 = 9 ∨ p0 = 10 ∨ p0 = 11 ∨ p0 = 12 ∨ p0 = 13 ∨ p0 = 14 ∨ p0 = 15 ∨ p0 = 16 ∨ p0 = 17 ∨ p0 = 18 ∨ p0 = 19 ∨ p0 = 20 ∨ p0 = 21 ∨ p0 = 22 ∨ p0 = 23 ∨ p0 = 24 ∨ p0 = 25 ∨ p0 = 26 ∨ p0 = 27 ∨ p0 = 28 ∨ p0 = 29 ∨ p0 = 30 ∨ p0 = 31 ∨ p0 = 32 ∨ p0 = 33 ∨ p0 = 34 := by omega
    rcases this with rfl|rfl|rfl|rfl|rfl|rfl|rfl|rfl|rfl|rfl|rfl|rfl|rfl|rfl|rfl|rfl|rfl|rfl|rfl|rfl|rfl|rfl|rfl|rfl|rfl|rfl|rfl|rfl|rfl|rfl|rfl|rfl|rfl|rfl<;>(simp only[F308.eq_1,F322.eq_1,F323.eq_1,F324.eq_1,F325.eq_1,Option.bind_some];rfl)
  · rw[shapeO_out ne,shp_out ne]
theorem shp_mono {p0:Int} {a b c:UInt8} (h:shp p0=some (a,b,c)):(a=45→b=45)∧(b=45→c=45):=by
  have:=List.all_eq_true.1 shp_all _ (shp_mem h)<;>grind
noncomputable def i64 (v:Int):Prop:=-9223372036854775808≤v∧v≤9223372036854775807
noncomputable def fits (c:UInt8) (v:Int):Bool:=decide ((U c).1≤v)&&decide (v≤(U c).2.1)
noncomputable def chkI (x:Instr):Bool:=
  match shp x.1 with
  |some (a,b,c)=>fits a x.2.1&&(fits b x.2.2.1&&fits c x.2.2.2)
  |none=>false
noncomputable def okI (x:Instr):Prop:=i64 x.2.1∧i64 x.2.2.1∧i64 x.2.2.2
theorem nfits (c:UInt8) (v:Int):(decide (v<(U c).1)||decide (v>(U c).2.1)) = !fits c v:=by
  unfold fits<;>grind
theorem bif_swap {α : Type} (a:Bool) (x y : α):(bif !a then x else y)=bif a then y else x:=by grind
theorem checkO_ok (N:Nat) (x:Instr):F307 N (x.1,x.2.1,x.2.2.1,x.2.2.2)=some (bif chkI x then 0 else 8):=by
  rw[F307.eq_1,shapeO_shp]
  unfold chkI
  cases shp x.1 with
  |none=>rfl
  | some s =>
    obtain⟨a,b,c⟩:=s
    simp only[F309.eq_1,Option.bind_some,cnt_nn,bif_r,bif_tt,nfits]<;>grind
theorem and_lt (v:Int) (lo n:Int):(decide (v≥lo)&&decide (v<n))=(decide (lo≤v)&&decide (v≤n-1)):=by
  grind
theorem fits06_ok {N:Nat} {c:UInt8} {v:Int} (hc:kindOK c=true) (hv:i64 v):F179 N ((c.toNat:Int),v)=some (fits c v):=by
  have h:c=119∨c=114∨c=110∨c=116∨c=99∨c=98∨c=102∨c=105∨c=103∨c=101∨c=45:=by simpa[kindOK] using hc
  rw[F179.eq_1]
  simp[bif_ff,bif_tt,bind_id,Option.bind_some,and_lt]
  rcases h with rfl|rfl|rfl|rfl|rfl|rfl|rfl|rfl|rfl|rfl|rfl
  all_goals first
    |rfl
    |(simp[fits,U,hv.1,hv.2];done)
    | (show some (v == 0) = some (decide (0 ≤ v) && decide (v ≤ 0))
       by_cases h:v=0
       · subst h;rfl
       · rw [show (v == 0) = false by simpa using h]
         by_cases h1:0≤v
         · simp[show ¬v≤0 by omega]
         · simp[h1])
theorem check06_ok (N:Nat) {x:Instr} (hx:okI x):F107 N (x.1,x.2.1,x.2.2.1,x.2.2.2)=some (bif chkI x then 0 else 8):=by
  rw[F107.eq_1,shape06_shp,Option.bind_some,F116.eq_1]
  unfold chkI
  cases h:shp x.1 with
  |none=>rfl
  | some s =>
    obtain⟨a,b,c⟩:=s
    obtain⟨h1,h2,h3⟩:=shp_ok h
    have e0:idx [a,b,c] 0=some a:=rfl
    have e1:idx [a,b,c] 1=some b:=rfl
    have e2:idx [a,b,c] 2=some c:=rfl
    simp only[show ((([a,b,c]:List UInt8).length:Int) != 3)=false from rfl,bif_r,e0,e1,e2,Option.bind_some,fits06_ok h1 hx.1,fits06_ok h2 hx.2.1,fits06_ok h3 hx.2.2,bif_swap]<;>grind
end Go.Proofs.YtjejefeomeddhaaGreat
set_option linter.unusedSectionVars false
namespace Go.Proofs.YtjejefeomeddhaaGreat
open Go Go.Eng Go.Sym
theorem vary_loop (N:Nat):∀ (j k n:Nat) (pre:List Int),n<128 ^ (j+1)→j<k→pre.length+j≤1000→∃ (m:Nat) (l:List Int),f312.L0_100004 N k ((n:Int),pre)=some ((m:Int),pre++l)∧vary j n=l++[(m:Int)]∧m<128∧l.length≤j
  |j,0,n,pre,_,h,_=>by omega
  | 0, k + 1, n, pre, hn, _, _ => by
    refine⟨n,[],?_,rfl,by omega,by simp⟩
    rw[f312.L0_100004.eq_2,decide_eq_false (by omega),bif_r,List.append_nil]
  | j + 1, k + 1, n, pre, hn, hk, hp => by
    rw[f312.L0_100004.eq_2]
    by_cases h:n<128
    · refine⟨n,[],?_,by rw[vary,if_pos h];rfl,h,by simp⟩<;>grind
    · obtain ⟨m, l, h1, h2, h3, h4⟩ := vary_loop N j k (n / 128) (pre ++ [((n % 128 + 128 : Nat) : Int)]) (by rw [Nat.pow_succ] at hn; omega) (by omega) (by simp; omega)
      refine⟨m,((n % 128+128:Nat):Int) :: l,?_,by rw[vary,if_neg h,h2];rfl,h3,by simp;omega⟩
      rw[decide_eq_true (by omega),bif_l,room_small (by omega) (by omega),wu8_nat,ior128 _ (Nat.mod_lt _ (by omega)),show (128:Int)=((128:Nat):Int) from rfl,fdiv_nat,show n % 256 % 128=n % 128 by omega,h1,List.append_assoc]
      rfl
theorem vary_ok {N n:Nat} (hN:20<N) (hn:n<18446744073709551616):F312 N (n:Int)=some (V n):=by
  rw[F312.eq_1]
  unfold V
  by_cases h:n<128
  · rw[decide_eq_false (by omega),bif_r,room_small (by omega) (by omega),chk_true,vary,if_pos h,wu8_nat,Nat.mod_eq_of_lt (by omega)]
  · rw [decide_eq_true (by omega), bif_l, room_small (by omega) (by omega), chk_true]
    obtain⟨m,l,h1,h2,h3,h4⟩:=vary_loop N 8 N (n / 128) [((n % 128+128:Nat):Int)] (by omega) (by omega) (by simp)
    rw[wu8_nat,ior128 _ (Nat.mod_lt _ (by omega)),show (128:Int)=((128:Nat):Int) from rfl,fdiv_nat,show n % 256 % 128=n % 128 by omega,h1,Option.bind_some,room_small (by simp;omega) (by omega),chk_true,vary,if_neg h,h2,wu8_nat,show m % 256=m by omega]
    rfl
theorem minimal_loop (N : Nat) : ∀ (j k n : Nat) (pre : List Int), n < 128 ^ (j + 1) → n < 18446744073709551616 → j < k → pre.length + j ≤ 1000 → ∃ (m : Nat) (l : List Int), f103.L0_3 N k ((n : Int), pre) = some ((m : Int), pre ++ l) ∧ vary j n = l ++ [(m : Int)] ∧ m < 128 ∧ l.length ≤ j
  |j,0,n,pre,_,_,h,_=>by omega
  | 0, k + 1, n, pre, hn, _, _, _ => by
    refine⟨n,[],?_,rfl,by omega,by simp⟩
    rw[f103.L0_3.eq_2,decide_eq_false (by omega),bif_r,List.append_nil]
  | j + 1, k + 1, n, pre, hn, h64, hk, hp => by
    rw[f103.L0_3.eq_2]
    by_cases h:n<128
    · refine ⟨n, [], ?_, by rw [vary, if_pos h]; rfl, h, by simp⟩
      rw[decide_eq_false (by omega),bif_r,List.append_nil]
    · obtain ⟨m, l, h1, h2, h3, h4⟩ := minimal_loop N j k (n / 128) (pre ++ [((n % 128 + 128 : Nat) : Int)]) (by rw [Nat.pow_succ] at hn; omega) (by omega) (by omega) (by simp; omega)
      refine⟨m,((n % 128+128:Nat):Int) :: l,?_,by rw[vary,if_neg h,h2];rfl,h3,by simp;omega⟩
      have e:wu8 ((wu8 (Int.tmod (n:Int) (128:Int)))+(128:Int))=((n % 128+128:Nat):Int):=by
        rw[show (128:Int)=((128:Nat):Int) from rfl,tmod_nat,wu8_nat,show ((n % 128 % 256:Nat):Int)+((128:Nat):Int)=((n % 128+128:Nat):Int) by omega,wu8_nat]
        omega
      rw[decide_eq_true (by omega),bif_l,room_small (by omega) (by omega),chk_true,e,show (128:Int)=((128:Nat):Int) from rfl,tdiv_nat,wu64_nat (by omega),h1,List.append_assoc]
      rfl
theorem minimal_ok {N n:Nat} (hN:20<N) (hn:n<18446744073709551616):F103 N (n:Int)=some (V n):=by
  rw[F103.eq_1]
  unfold V
  obtain⟨m,l,h1,h2,h3,h4⟩:=minimal_loop N 9 N n [] (by omega) hn (by omega) (by simp)
  rw[h1,Option.bind_some,room_small (by simp;omega) (by omega),chk_true,h2,wu8_nat,show m % 256=m by omega]
  rfl
theorem number_ok {N n:Nat} (hN:20<N) (hn:n<18446744073709551616):F100 N (n:Int)=some (V n):=by
  rw[F100.eq_1,wu64_nat hn,minimal_ok hN hn];rfl
noncomputable def said (s:List UInt8):List Int:=V s.length++bytesL s
theorem said_len (s:List UInt8):(said s).length≤10+s.length:=by
  have:=V_len s.length
  rw[said,List.length_append,bytesL_len];omega
theorem said_ok {N:Nat} {s:List UInt8} (hN:20<N) (hs:s.length≤1000000):F102 N s=some (said s):=by
  have:=V_len s.length
  rw[F102.eq_1,wu64_nat (by omega),minimal_ok hN (by omega),Option.bind_some,room_small (by rw[bytesL_len];omega) (by omega)];rfl
theorem wrap_u64 (n:Int):IntKind.u64.wrap n=n % 18446744073709551616:=rfl
theorem zig_bits {n:Int} (h : -9223372036854775808≤n∧n≤9223372036854775807):ixor .u64 (wu64 ((wu64 n)*2)) (wu64 (Int.fdiv n 9223372036854775808))=(zig n:Int):=by
  unfold zig
  by_cases h0:0≤n
  · rw [if_pos h0, wu64_in (n := n) (by omega), Int.fdiv_eq_ediv_of_nonneg _ (by omega), Int.ediv_eq_zero_of_lt h0 (by omega), wu64_in (n := n * 2) (by omega), wu64_in (n := 0) (by omega)]
    have e:n*2=(((2*n).toNat:Nat):Int):=by omega
    rw[e]
    unfold ixor
    have e2:(BitVec.ofInt IntKind.u64.bits (((2*n).toNat:Nat):Int) ^^^ BitVec.ofInt IntKind.u64.bits 0).toNat=(2*n).toNat:=by
      show (BitVec.ofInt 64 (((2*n).toNat:Nat):Int) ^^^ BitVec.ofInt 64 0).toNat=(2*n).toNat
      grind
    rw[e2]
    exact wu64_in (by omega)
  · rw [if_neg h0]
    have e1:wu64 n=n+18446744073709551616:=by
      show IntKind.u64.wrap n=_
      rw[wrap_u64];omega
    have e3:Int.fdiv n 9223372036854775808 = -1:=by
      grind
    have e4:wu64 (-1)=18446744073709551615:=by decide
    have e5:wu64 ((n+18446744073709551616)*2)=((18446744073709551615-(-2*n-1).toNat:Nat):Int):=by
      show IntKind.u64.wrap _=_
      rw[wrap_u64];omega
    rw[e1,e3,e4,e5]
    unfold ixor
    have hlt:(-2*n-1).toNat<18446744073709551616:=by omega
    generalize (-2*n-1).toNat=m at hlt
    have e2:(BitVec.ofInt IntKind.u64.bits ((18446744073709551615-m:Nat):Int) ^^^ BitVec.ofInt IntKind.u64.bits 18446744073709551615).toNat=m:=by
      show (BitVec.ofInt 64 ((18446744073709551615-m:Nat):Int) ^^^ BitVec.ofInt 64 18446744073709551615).toNat=m
      rw[show BitVec.ofInt 64 18446744073709551615=BitVec.allOnes 64 from by decide,BitVec.xor_allOnes,BitVec.toNat_not,BitVec.ofInt_natCast,BitVec.toNat_ofNat]
      omega
    rw[e2]
    exact wu64_in (by omega)
theorem signed_ok {N:Nat} {n:Int} (hN:20<N) (h : -9223372036854775808≤n∧n≤9223372036854775807):F313 N n=some (V (zig n)):=by
  rw[F313.eq_1,zig_bits h,vary_ok hN (zig_lt h)];rfl
theorem double_ok {N:Nat} {n:Int} (h : -9223372036854775808≤n∧n≤9223372036854775807):F104 N n=some (zig n:Int):=by
  rw[F104.eq_1]
  unfold zig
  by_cases h0:0≤n
  · rw[decide_eq_true h0,bif_l,if_pos h0,wu64_in (n:=n) (by omega),wu64_in (by omega)]<;>grind
  · rw[decide_eq_false h0,bif_r,if_neg h0,wi64_in (n:=n+1) (by omega),wi64_in (n:=0-(n+1)) (by omega),wu64_in (n:=0-(n+1)) (by omega),wu64_in (n:=(0-(n+1))*2) (by omega),wu64_in (by omega)]<;>grind
end Go.Proofs.YtjejefeomeddhaaGreat
set_option linter.unusedSectionVars false
namespace Go.Proofs.YtjejefeomeddhaaGreat
open Go Go.Eng Go.Sym
theorem varyI_ok {N:Nat} {v:Int} (hN:20<N) (h:0≤v∧v≤9223372036854775807):F312 N (wu64 v)=some (V v.toNat):=by
  obtain⟨n,rfl⟩:=Int.eq_ofNat_of_zero_le h.1
  rw[wu64_nat (by omega),vary_ok hN (by omega)];rfl
theorem minimalI_ok {N:Nat} {v:Int} (hN:20<N) (h:0≤v∧v≤9223372036854775807):F103 N (wu64 v)=some (V v.toNat):=by
  obtain⟨n,rfl⟩:=Int.eq_ofNat_of_zero_le h.1
  rw[wu64_nat (by omega),minimal_ok hN (by omega)];rfl
theorem numberI_ok {N:Nat} {v:Int} (hN:20<N) (h:0≤v∧v≤9223372036854775807):F100 N v=some (V v.toNat):=by
  obtain⟨n,rfl⟩:=Int.eq_ofNat_of_zero_le h.1
  rw[number_ok hN (by omega)];rfl
theorem ne00:((0:Int) != (0:Int))=false:=rfl
noncomputable def encK (c:UInt8) (v:Int):List Int:=if c=45 then [] else if c=110∨c=103∨c=101 then V (zig v) else V v.toNat
noncomputable def encI (x:Instr):List Int:=
  match shp x.1 with
  |some (a,b,c)=>x.1 :: (encK a x.2.1++(encK b x.2.2.1++encK c x.2.2.2))
  |none=>[x.1]
theorem encI_len (x:Instr):(encI x).length≤31:=by
  have hk:∀ c v,(encK c v).length≤10:=fun c v=>by
    unfold encK
    split
    · simp
    · split
      · exact (V_len _).2
      · exact (V_len _).2
  unfold encI<;>grind
noncomputable def sgn (c:UInt8):Bool:=c==110||(c==103||c==101)
theorem sgn_iff {c:UInt8} : sgn c=true↔c=110∨c=103∨c=101:=by simp[sgn]
theorem neg_sgn (c:UInt8):decide ((U c).1<0)=sgn c:=by
  unfold U sgn
  repeat' split
  all_goals first
    |(subst_vars;rfl)
    |(rename_i h1 h2 h3 h4 h5 h6 h7 h8 h9 h10;simp[h3,h9,h10])
theorem beq45 (c:UInt8):((c.toNat:Int)==45)=(c==45):=by
  by_cases h:c=45
  · subst h;rfl
  · rw [show (c == 45) = false by simpa using h, beq_eq_false_iff_ne]
    intro e
    exact h (UInt8.toNat_inj.1 (by show c.toNat=45;omega))
theorem sgn06 {N:Nat} {c:UInt8} (hc:kindOK c=true):F178 N ((c.toNat:Nat):Int)=some (sgn c):=by
  have h:c=119∨c=114∨c=110∨c=116∨c=99∨c=98∨c=102∨c=105∨c=103∨c=101∨c=45:=by simpa[kindOK] using hc
  rcases h with rfl|rfl|rfl|rfl|rfl|rfl|rfl|rfl|rfl|rfl|rfl<;>rfl
theorem encK_45 (v:Int):encK 45 v=[]:=rfl
theorem encK_len (c:UInt8) (v:Int):(encK c v).length≤10:=by
  unfold encK
  split
  · simp
  · split
    · exact (V_len _).2
    · exact (V_len _).2
theorem fits_pos {c:UInt8} {v:Int} (h:fits c v=true) (hs:sgn c=false):0≤v:=by
  rw[←neg_sgn,decide_eq_false_iff_not] at hs
  unfold fits at h<;>grind
theorem bif_bind {α β : Type} (c:Bool) (x y:Option α) (k : α→Option β):(bif c then Option.bind x k else Option.bind y k)=Option.bind (bif c then x else y) k:=by grind
theorem bif_bind2 {α β γ : Type} (c:Bool) (x:Option γ) (f : γ→Option α) (y:Option α) (k : α→Option β):(bif c then Option.bind x (fun u=>Option.bind (f u) k) else Option.bind y k)=Option.bind (bif c then Option.bind x f else y) k:=by
  grind
theorem opO {N:Nat} (hN:20<N) {c:UInt8} {v:Int} (h:fits c v=true) (h45:c≠45) (hv:i64 v):(bif sgn c then F313 N v else F312 N (wu64 v))=some (encK c v):=by
  unfold encK
  rw[if_neg h45]
  cases hs:sgn c with
  |true=>rw[bif_l,if_pos (sgn_iff.1 hs),signed_ok hN hv]
  |false=>rw[bif_r,if_neg (fun e=>by rw[sgn_iff.2 e] at hs;cases hs),varyI_ok hN ⟨fits_pos h hs,hv.2⟩]
theorem op6 {N:Nat} (hN:20<N) {c:UInt8} {v:Int} (h:fits c v=true) (h45:c≠45) (hv:i64 v):(bif sgn c then Option.bind (F104 N v) (fun u=>F103 N u) else F103 N (wu64 v))=some (encK c v):=by
  unfold encK
  rw[if_neg h45]
  cases hs:sgn c with
  |true=>rw[bif_l,if_pos (sgn_iff.1 hs),double_ok hv,Option.bind_some,minimal_ok hN (zig_lt hv)]
  |false=>rw[bif_r,if_neg (fun e=>by rw[sgn_iff.2 e] at hs;cases hs),minimalI_ok hN ⟨fits_pos h hs,hv.2⟩]
theorem chk_shp {x:Instr} (hc:chkI x=true):∃ a b c,shp x.1=some (a,b,c)∧fits a x.2.1=true∧fits b x.2.2.1=true∧fits c x.2.2.2=true:=by
  unfold chkI at hc<;>grind
theorem cases45 {a b c:UInt8} (h:(a=45→b=45)∧(b=45→c=45)):(a=45∧b=45∧c=45)∨(a≠45∧b=45∧c=45)∨(a≠45∧b≠45∧c=45)∨(a≠45∧b≠45∧c≠45):=by
  grind
theorem roomK1 (c:UInt8) (v:Int):room (1+(encK c v).length) 1=true:=by have:=encK_len c v;exact room_small (by omega) (by omega)
theorem roomK2 (p:Int) (c d:UInt8) (v w:Int):room (([p]++encK c v).length+(encK d w).length) 1=true:=by
  have:=encK_len c v;have:=encK_len d w
  exact room_small (by simp only[List.length_append,List.length_singleton];omega) (by omega)
theorem roomK3 (p:Int) (c d e:UInt8) (v w u:Int):room ((([p]++encK c v)++encK d w).length+(encK e u).length) 1=true:=by
  have:=encK_len c v;have:=encK_len d w;have:=encK_len e u
  exact room_small (by simp only[List.length_append,List.length_singleton];omega) (by omega)
theorem encO_ok {N:Nat} (hN:20<N) {x:Instr} (hx:okI x) (hc:chkI x=true):F314 N (x.1,x.2.1,x.2.2.1,x.2.2.2)=some (encI x,0):=by
  rw[F314.eq_1,checkO_ok,hc]
  obtain⟨a,b,c,hs,h1,h2,h3⟩:=chk_shp hc
  obtain⟨i1,i2,i3⟩:=hx
  have g00:decide ((0:Int)≥0)=true:=rfl
  have g01:decide ((0:Int)≥1)=false:=rfl
  have g02:decide ((0:Int)≥2)=false:=rfl
  have g03:decide ((0:Int)≥3)=false:=rfl
  have g10:decide ((1:Int)≥0)=true:=rfl
  have g11:decide ((1:Int)≥1)=true:=rfl
  have g12:decide ((1:Int)≥2)=false:=rfl
  have g13:decide ((1:Int)≥3)=false:=rfl
  have g20:decide ((2:Int)≥0)=true:=rfl
  have g21:decide ((2:Int)≥1)=true:=rfl
  have g22:decide ((2:Int)≥2)=true:=rfl
  have g23:decide ((2:Int)≥3)=false:=rfl
  simp only[bif_l,ne00,bif_r,Option.bind_some,shapeO_shp,hs,F309.eq_1,encI,neg_sgn]
  rcases cases45 (shp_mono hs) with⟨rfl,rfl,rfl⟩|⟨ha,rfl,rfl⟩|⟨ha,hb,rfl⟩|⟨ha,hb,hc⟩
  · simp[show cnt 45 45 45=0 from rfl,g00,g10,g20,bif_l,encK_45,List.append_nil]
  · simp only[show cnt a 45 45=1 by simp[cnt,ha],g01,g11,g21,bif_l,bif_r,bif_bind,opO hN h1 ha i1,Option.bind_some,roomK1,chk_true,encK_45,List.append_nil]<;>grind
  · simp only[show cnt a b 45=2 by simp[cnt,hb],g02,g12,g22,bif_l,bif_r,bif_bind,opO hN h1 ha i1,opO hN h2 hb i2,Option.bind_some,roomK1,roomK2,chk_true,encK_45,List.append_nil]<;>grind
  · simp only[show cnt a b c=3 by simp[cnt,hc],g03,g13,g23,bif_r,bif_bind,opO hN h1 ha i1,opO hN h2 hb i2,opO hN h3 hc i3,Option.bind_some,roomK1,roomK2,roomK3,chk_true]<;>grind
theorem idx3 {α : Type} (a b c : α):idx [a,b,c] 0=some a∧idx [a,b,c] 1=some b∧idx [a,b,c] 2=some c:=⟨rfl,rfl,rfl⟩
theorem coded06_ok {N:Nat} (hN:20<N) {x:Instr} (hx:okI x) (hc:chkI x=true):F105 N (x.1,x.2.1,x.2.2.1,x.2.2.2)=some (encI x):=by
  rw[F105.eq_1,shape06_shp]
  obtain⟨a,b,c,hs,h1,h2,h3⟩:=chk_shp hc
  obtain⟨i1,i2,i3⟩:=hx
  obtain⟨k1,k2,k3⟩:=shp_ok hs
  simp only[Option.bind_some,hs,F116.eq_1,(idx3 a b c).1,(idx3 a b c).2.1,(idx3 a b c).2.2,beq45,sgn06 k1,sgn06 k2,sgn06 k3,encI]
  rcases cases45 (shp_mono hs) with⟨rfl,rfl,rfl⟩|⟨ha,rfl,rfl⟩|⟨ha,hb,rfl⟩|⟨ha,hb,hc⟩
  · rfl
  · simp only [show (a == 45) = false by simpa using ha, beq_self_eq_true, bif_l, bif_r, bif_bind2, op6 hN h1 ha i1, Option.bind_some, roomK1, chk_true, encK_45]
    simp
  · simp only [show (a == 45) = false by simpa using ha, show (b == 45) = false by simpa using hb, beq_self_eq_true, bif_l, bif_r, bif_bind2, op6 hN h1 ha i1, op6 hN h2 hb i2, Option.bind_some, roomK1, roomK2, chk_true, encK_45]
    simp
  · simp only [show (a == 45) = false by simpa using ha, show (b == 45) = false by simpa using hb, show (c == 45) = false by simpa using hc, bif_r, bif_bind2, op6 hN h1 ha i1, op6 hN h2 hb i2, op6 hN h3 hc i3, Option.bind_some, roomK1, roomK2, roomK3, chk_true]
    simp
end Go.Proofs.YtjejefeomeddhaaGreat
set_option linter.unusedSectionVars false
namespace Go.Proofs.YtjejefeomeddhaaGreat
open Go Go.Eng Go.Sym
open Classical
theorem idx_getD {α : Type} {l:List α} {i:Nat} (d : α) (h:i<l.length):idx l (i:Int)=some (l.getD i d):=by
  grind[idx]
theorem getD_mem {α : Type} {l:List α} {i:Nat} (d : α) (h:i<l.length):l.getD i d∈l:=by
  grind
theorem mem_getD {α : Type} {l:List α} {x : α} (d : α) (h:x∈l):∃ i,i<l.length∧l.getD i d=x:=by
  obtain⟨i,hi,rfl⟩:=List.mem_iff_getElem.1 h
  exact⟨i,hi,by rw[List.getD_eq_getElem?_getD,List.getElem?_eq_getElem hi];rfl⟩
theorem wi64_pred {i:Nat} (h0:0<i) (h:i≤9223372036854775807):wi64 ((i:Int)-1)=((i-1:Nat):Int):=by rw[wi64_in (by omega)];omega
theorem len_ne0 {α : Type} {l:List α} (h:¬l.length=0):((l.length:Int)==(0:Int))=false:=by grind
noncomputable def rn (l:List Run) (i:Nat):Run:=l.getD i (0,0)
noncomputable def RunsOK (l:List Run) (n:Int):Prop:=
  0<l.length∧(rn l 0).1=0∧(∀ i,i+1<l.length→(rn l i).1<(rn l (i+1)).1∧(rn l i).2≠(rn l (i+1)).2)∧∀ i,i<l.length→(rn l i).1<n
theorem RunsOK.mono {l:List Run} {n:Int} (h:RunsOK l n) {i:Nat} : ∀ {j:Nat},i≤j→j<l.length→(rn l i).1≤(rn l j).1
  |0,h1,_=>by grind
  | j + 1, h1, h2 => by
    by_cases e:i=j+1
    · grind
    · have := h.mono (i := i) (j := j) (by omega) (by omega)
      have:=(h.2.2.1 j h2).1
      omega
theorem fineO_ok {N : Nat} {l : List Run} {n : Int} (hN : l.length < N) (hl : l.length ≤ 1000000) : F155 N (l, n) = some (decide (RunsOK l n)) := by
  rw[F155.eq_1]
  by_cases h0:l.length=0
  · rw[show ((l.length:Int)==(0:Int))=true by rw[h0];rfl,bif_l,Option.bind_some,bif_l,decide_eq_false fun h=>by have:=h.1;omega]
  · have e0 : idx l (0 : Int) = some (rn l 0) := idx_getD (i := 0) (0, 0) (by omega)
    have e1:idx l (wi64 ((l.length:Int)-1))=some (rn l (l.length-1)):=by
      rw[wi64_pred (by omega) (by omega)];exact idx_getD _ (by omega)
    rw[len_ne0 h0,bif_r,e0,Option.bind_some,e1,Option.bind_some]
    by_cases h1:(rn l 0).1=0
    · rw [show ((rn l 0).1 != (0 : Int)) = false by simp [h1], bif_r, Option.bind_some]
      by_cases h2:(rn l (l.length-1)).1≥n
      · rw[decide_eq_true h2,bif_l,decide_eq_false fun h=>by have:=h.2.2.2 (l.length-1) (by omega);omega]
      · rw [decide_eq_false h2, bif_r, Option.bind_some, decide_eq_true (show 1 ≤ l.length by omega), chk_true]
        have hd:(l.drop 1).length=l.length-1:=by simp
        have key:=loop_rng (n:=(l.drop 1).length) (a:=(.inr ():Bool⊕Unit)) (b:=.inl false) (q:=fun i=>decide ((rn l (i+1)).1≤(rn l i).1)||((rn l (i+1)).2==(rn l i).2))
          (Lf := fun k i => f155.L0_7 N k (l.drop 1, ((l.drop 1).length : Int), i, (rn l i.toNat).1, (rn l i.toNat).2)) (fun k _ => by
            simp only[f155.L0_7.eq_2,ge_dec,bif_r]) (fun k i hi _=>by
            have e:idx (l.drop 1) (i:Int)=some (rn l (i+1)):=by
              refine idx_get ?_
              rw[List.getElem?_drop,rn,List.getD_eq_getElem?_getD,Nat.add_comm 1 i,List.getElem?_eq_getElem (by omega)];rfl
            simp only[f155.L0_7.eq_2,lt_dec hi,bif_l,e,Option.bind_some,wi64_succ (show i<9223372036854775807 by omega),Int.toNat_natCast,beq_self_eq_true,Bool.true_and,Bool.and_true]
            by_cases ha:(rn l (i+1)).1≤(rn l i).1
            · simp[ha]
            · cases hb:((rn l (i+1)).2==(rn l i).2)<;>simp[ha]) (k:=N) (by omega)
        simp only[Int.toNat_zero] at key
        rw[key,Option.bind_some]
        by_cases hex:∃ i,i<(l.drop 1).length∧(decide ((rn l (i+1)).1≤(rn l i).1)||((rn l (i+1)).2==(rn l i).2))=true
        · rw [if_pos hex, decide_eq_false]
          rintro⟨_,_,h3,_⟩
          obtain⟨i,hi,hq⟩:=hex
          obtain⟨g1,g2⟩:=h3 i (by omega)
          rw[Bool.or_eq_true,decide_eq_true_eq,beq_iff_eq] at hq
          rcases hq with hq|hq
          · omega
          · exact g2 hq.symm
        · rw [if_neg hex, decide_eq_true]
          have h3:∀ i,i+1<l.length→(rn l i).1<(rn l (i+1)).1∧(rn l i).2≠(rn l (i+1)).2:=fun i hi=>by
            have:¬(decide ((rn l (i+1)).1≤(rn l i).1)||((rn l (i+1)).2==(rn l i).2))=true:=fun h=>hex ⟨i,by omega,h⟩
            rw[Bool.or_eq_true,decide_eq_true_eq,beq_iff_eq,not_or] at this
            exact⟨by omega,fun h=>this.2 h.symm⟩
          have m:∀ j,j<l.length→∀ i,i≤j→(rn l i).1≤(rn l j).1:=by
            intro j
            induction j with
            |zero=>intro _ i hi;rw[Nat.le_zero.1 hi];exact Int.le_refl _
            | succ j ih =>
              intro hj i hi
              by_cases e:i=j+1
              · rw[e];exact Int.le_refl _
              · have := ih (by omega) i (by omega)
                have:=(h3 j hj).1
                omega
          exact⟨by omega,h1,h3,fun i hi=>by have:=m (l.length-1) (by omega) i (by omega);omega⟩
    · rw[show ((rn l 0).1 != (0:Int))=true by simp[h1],bif_l,Option.bind_some,bif_l,decide_eq_false fun h=>h1 h.2.1]
theorem checkT_ok {N:Nat} {l:List Run} {n:Nat} (hN:l.length<N) (hl:l.length≤1000000):F84 N (l,(n:Int))=some (if n<1∨n>200 then 2 else if RunsOK l n then 0 else 8):=by
  rw[F84.eq_1,F154.eq_1,fineO_ok hN hl]<;>grind
theorem fine08_ok {N : Nat} {l : List Run} {n : Int} (hN : l.length < N) (hl : l.length ≤ 1000000) : F177 N (l, n) = some (decide (RunsOK l n)) := by
  rw[F177.eq_1]
  by_cases h0:l.length=0
  · rw[show decide ((l.length:Int)<1)=true by rw[h0];rfl,bif_l,Option.bind_some,bif_l,decide_eq_false fun h=>by have:=h.1;omega]
  · have e0 : idx l (0 : Int) = some (rn l 0) := idx_getD (i := 0) (0, 0) (by omega)
    rw[decide_eq_false (show ¬(l.length:Int)<1 by omega),bif_r,e0,Option.bind_some,Option.bind_some]
    by_cases h1:(rn l 0).1=0
    · rw [show ((rn l 0).1 != (0 : Int)) = false by simp [h1], bif_r]
      have key := loop_rng (n := l.length) (a := (.inr () : Bool ⊕ Unit)) (b := .inl false) (q := fun i => decide ((rn l i).1 ≥ n ∨ 0 < i ∧ ((rn l (i - 1)).1 ≥ (rn l i).1 ∨ (rn l (i - 1)).2 = (rn l i).2)))
        (Lf := fun k i => f177.L0_6 N k (l, n, i)) (fun k _ => by
          simp only[f177.L0_6.eq_2,ge_dec,bif_r]) (fun k i hi _=>by
          have e:idx l (i:Int)=some (rn l i):=idx_getD _ hi
          simp only[f177.L0_6.eq_2,lt_dec hi,bif_l,e,Option.bind_some,wi64_succ (show i<9223372036854775807 by omega)]
          by_cases ha:(rn l i).1≥n
          · simp[ha]
          · by_cases hz : 0 < i
            · have e' : idx l (wi64 ((i : Int) - 1)) = some (rn l (i - 1)) := by rw [wi64_pred hz (by omega)]; exact idx_getD _ (by omega)
              simp only[ha,e',decide_false,bif_r,decide_eq_true (show (i:Int)>0 by omega),bif_l,Option.bind_some,hz,true_and,false_or]
              by_cases hb:(rn l (i-1)).1≥(rn l i).1
              · simp[hb]
              · by_cases hd : (rn l (i - 1)).2 = (rn l i).2
                · simp[hb,hd]
                · rw [show ((rn l (i - 1)).2 == (rn l i).2) = false by simpa using hd]
                  simp[hb,hd]
            · simp only [ha, decide_false, bif_r, decide_eq_false (show ¬ (i : Int) > 0 by omega), Option.bind_some, hz, false_and, or_self]
              simp) (k:=N) hN
      rw[key,Option.bind_some]
      by_cases hex:∃ i,i<l.length∧decide ((rn l i).1≥n∨0<i∧((rn l (i-1)).1≥(rn l i).1∨(rn l (i-1)).2=(rn l i).2))=true
      · rw [if_pos hex, decide_eq_false]
        rintro⟨_,_,h3,h4⟩
        obtain⟨i,hi,hq⟩:=hex
        rcases of_decide_eq_true hq with hq|⟨hz,hq⟩
        · have:=h4 i hi;omega
        · obtain ⟨g1, g2⟩ := h3 (i - 1) (by omega)
          rw[show i-1+1=i by omega] at g1 g2
          rcases hq with hq|hq
          · omega
          · exact g2 hq
      · rw [if_neg hex, decide_eq_true]
        have hno:∀ i,i<l.length→¬((rn l i).1≥n∨0<i∧((rn l (i-1)).1≥(rn l i).1∨(rn l (i-1)).2=(rn l i).2)):=fun i hi h=>hex ⟨i,hi,decide_eq_true h⟩
        refine⟨by omega,h1,fun i hi=>?_,fun i hi=>?_⟩
        · have := hno (i + 1) hi
          simp only[Nat.add_sub_cancel,not_or,not_and] at this
          have:=this.2 (by omega)
          exact⟨by omega,this.2⟩
        · have := hno i hi
          simp only[not_or] at this
          omega
    · rw[show ((rn l 0).1 != (0:Int))=true by simp[h1],bif_l,decide_eq_false fun h=>h1 h.2.1]
theorem runs_len {l:List Run} {n:Nat} (h:RunsOK l n):l.length≤n:=by
  have key:∀ i:Nat,i<l.length→(i:Int)≤(rn l i).1:=by
    intro i
    induction i with
    |zero=>have:=h.2.1;omega
    | succ i ih =>
      intro hi
      have:=(h.2.2.1 i hi).1
      omega
  have h0:=h.1
  have:=key (l.length-1) (by omega)
  have:=h.2.2.2 (l.length-1) (by omega)
  omega
noncomputable def encR:Int→List Run→List Int
  |_,[]=>[]
  |was,x :: r=>V (x.1-was).toNat++(V x.2.toNat++encR x.1 r)
noncomputable def runsE (l:List Run):List Int:=V l.length++encR 0 l
noncomputable def Inc:Int→List Run→Prop
  |_,[]=>True
  |was,x :: r=>was≤x.1∧x.1≤1000∧(0≤x.2∧x.2≤18446744073709551615)∧Inc x.1 r
noncomputable def okR (l:List Run):Prop:=∀ x∈l,0≤x.2∧x.2≤18446744073709551615
theorem encR_len:∀ (was:Int) (l:List Run),(encR was l).length≤l.length*20
  |_,[]=>by simp[encR]
  | was, x :: r => by
    have:=V_len (x.1-was).toNat;have:=V_len x.2.toNat;have:=encR_len x.1 r
    simp[encR,List.length_append,List.length_cons];omega
theorem runsE_len (l:List Run):(runsE l).length≤10+l.length*20:=by
  have:=V_len l.length;have:=encR_len 0 l
  rw[runsE,List.length_append];omega
theorem RunsOK.inc {l:List Run} {n:Int} (h:RunsOK l n) (hn:n≤1000) (hr:okR l):Inc 0 l:=by
  have key:∀ (m i:Nat) (was:Int),m=l.length-i→was≥0→(i<l.length→was≤(rn l i).1)→Inc was (l.drop i):=by
    intro m
    induction m with
    |zero=>intro i was hm _ _;rw[List.drop_eq_nil_of_le (by omega)];trivial
    | succ m ih =>
      intro i was hm hw hle
      have hi:i<l.length:=by omega
      have e:l[i]=rn l i:=by rw[rn,List.getD_eq_getElem?_getD,List.getElem?_eq_getElem hi];rfl
      rw[List.drop_eq_getElem_cons hi,e]
      refine⟨hle hi,by have:=h.2.2.2 i hi;omega,hr _ (getD_mem _ hi),ih (i+1) _ (by omega) (by have:=hle hi;omega) fun hi'=>?_⟩
      have:=(h.2.2.1 i hi').1
      omega
  have:=key l.length 0 0 (by omega) (by omega) fun _=>by rw[h.2.1];exact Int.le_refl _
  grind
theorem sub_in {a b:Int} (h:0≤b∧b≤a∧a≤1000):wi64 (a-b)=a-b:=wi64_in (by omega)
theorem runO_loop {N:Nat} (hN:20<N) {l:List Run} (hl:l.length≤100000):∀ (r pre:List Run) (was:Int) (out:List Int) (k:Nat),l=pre++r→Inc was r→0≤was→r.length<k→out.length≤100000+pre.length*20→f315.L0_9 N k (was,l,(l.length:Int),(pre.length:Int),out)=some (out++encR was r)
  | [], pre, was, out, k + 1, he, _, _, _, _ => by
    rw[List.append_nil] at he;subst he
    rw[f315.L0_9.eq_2,ge_dec,bif_r,encR,List.append_nil]
  | x :: r, pre, was, out, k + 1, he, hi, hw, hk, ho => by
    obtain⟨i1,i2,i3,i4⟩:=hi
    have hlen:pre.length+(r.length+1)=l.length:=by rw[he];simp
    have:=V_len (x.1-was).toNat;have:=V_len x.2.toNat
    have ih:=runO_loop hN hl r (pre++[x]) x.1 (out++V (x.1-was).toNat++V x.2.toNat) k (by rw[he];simp) i4 (by omega) (by simp at hk;omega) (by simp only[List.length_append,List.length_singleton];omega)
    obtain⟨v,hv⟩:=Int.eq_ofNat_of_zero_le i3.1
    rw[f315.L0_9.eq_2,lt_dec (by omega),bif_l,he,idx_mid,Option.bind_some,←he,sub_in ⟨hw,i1,i2⟩,varyI_ok hN (by omega),Option.bind_some,room_small (by omega) (by omega),chk_true,hv,vary_ok hN (by omega),Option.bind_some,room_small (by simp only[List.length_append];have:=V_len v;omega) (by omega),chk_true,wi64_succ (by omega)]
    rw[show ((pre++[x]).length:Int)=((pre.length+1:Nat):Int) by simp] at ih
    rw[hv] at ih
    simp only[Int.toNat_natCast] at ih
    rw[ih,encR,hv]
    simp[List.append_assoc]
  |_,_,_,_,0,_,_,_,h,_=>by omega
theorem run08_loop {N:Nat} (hN:20<N) {l:List Run} (hl:l.length≤100000):∀ (r pre:List Run) (was:Int) (out:List Int) (k:Nat),l=pre++r→Inc was r→0≤was→r.length<k→out.length≤100000+pre.length*20→f106.L0_5 N k (l,was,(pre.length:Int),out)=some (out++encR was r)
  | [], pre, was, out, k + 1, he, _, _, _, _ => by
    rw[List.append_nil] at he;subst he
    rw[f106.L0_5.eq_2,ge_dec,bif_r,encR,List.append_nil]
  | x :: r, pre, was, out, k + 1, he, hi, hw, hk, ho => by
    obtain⟨i1,i2,i3,i4⟩:=hi
    have hlen:pre.length+(r.length+1)=l.length:=by rw[he];simp
    have:=V_len (x.1-was).toNat;have:=V_len x.2.toNat
    have ih:=run08_loop hN hl r (pre++[x]) x.1 (out++V (x.1-was).toNat++V x.2.toNat) k (by rw[he];simp) i4 (by omega) (by simp at hk;omega) (by simp only[List.length_append,List.length_singleton];omega)
    obtain⟨v,hv⟩:=Int.eq_ofNat_of_zero_le i3.1
    have hx:idx l (pre.length:Int)=some x:=by rw[he];exact idx_mid _ _ _
    simp only[f106.L0_5.eq_2,lt_dec (show pre.length<l.length by omega),bif_l,hx,Option.bind_some,sub_in ⟨hw,i1,i2⟩,minimalI_ok hN (show 0≤x.1-was∧x.1-was≤9223372036854775807 by omega),room_small (show out.length+(V (x.1-was).toNat).length≤10000000 by omega) (show 1≤1000 by omega),chk_true,hv,minimal_ok hN (show v<18446744073709551616 by omega),room_small (show (out++V (x.1-was).toNat).length+(V v).length≤10000000 by simp only[List.length_append];have:=V_len v;omega) (show 1≤1000 by omega),wi64_succ (show pre.length<9223372036854775807 by omega)]
    rw[show ((pre++[x]).length:Int)=((pre.length+1:Nat):Int) by simp] at ih
    rw[hv] at ih
    simp only[Int.toNat_natCast] at ih
    rw[ih,encR,hv]
    simp[List.append_assoc]
  |_,_,_,_,0,_,_,_,h,_=>by omega
theorem encT_ok {N:Nat} (hN:1000<N) {l:List Run} {n:Nat} (hl:l.length≤1000) (h:RunsOK l n) (h1:1≤n) (h2:n≤200) (hr:okR l):F315 N (l,(n:Int))=some (runsE l,0):=by
  have hi:=h.inc (by omega) hr
  have hv:=V_len l.length
  rw[F315.eq_1,checkT_ok (by omega) (by omega),if_neg (by omega),if_pos h,Option.bind_some,ne00,wu64_nat (by omega),vary_ok (by omega) (by omega),Option.bind_some]
  have:=runO_loop (N:=N) (by omega) (l:=l) (by omega) l [] 0 (V l.length) N rfl hi (by omega) (by omega) (by simp;omega)
  simp at this
  rw[this];rfl
theorem coded08_ok {N:Nat} (hN:1000<N) {l:List Run} {n:Nat} (hl:l.length≤1000) (h:RunsOK l n) (h2:n≤200) (hr:okR l):F106 N l=some (runsE l):=by
  have hi:=h.inc (by omega) hr
  have hv:=V_len l.length
  rw[F106.eq_1,wu64_nat (by omega),minimal_ok (by omega) (by omega),Option.bind_some]
  have:=run08_loop (N:=N) (by omega) (l:=l) (by omega) l [] 0 (V l.length) N rfl hi (by omega) (by omega) (by simp;omega)
  simp at this
  rw[this];rfl
end Go.Proofs.YtjejefeomeddhaaGreat
set_option linter.unusedSectionVars false
namespace Go.Proofs.YtjejefeomeddhaaGreat
open Go Go.Eng Go.Sym
open Classical
noncomputable def letN (n:Nat):Bool:=(decide (97≤n)&&decide (n≤122))||(decide (65≤n)&&decide (n≤90))
noncomputable def chrN (n:Nat):Bool:=letN n||(decide (48≤n)&&decide (n≤57))
noncomputable def nameB (s:List UInt8):Bool:=decide (1≤s.length)&&(decide (s.length≤16)&&(letN ((s.getD 0 0).toNat)&&s.all fun c=>chrN c.toNat))
theorem let_nest : ∀ n : Nat, n < 256 → (bif (decide (((n : Nat) : Int) ≥ (97 : Int)))
    then (bif (decide (((n:Nat):Int)≤(122:Int)))
      then some true
      else (bif (decide (((n:Nat):Int)≥(65:Int)))
        then some (decide (((n:Nat):Int)≤(90:Int)))
        else some false))
    else (bif (decide (((n:Nat):Int)≥(65:Int)))
      then some (decide (((n:Nat):Int)≤(90:Int)))
      else some false))=some (letN n):=by decide +kernel
theorem letter_ok (N:Nat) (c:UInt8):F241 N (c.toNat:Int)=some (letN c.toNat):=by
  rw[F241.eq_1,let_nest _ c.toNat_lt];rfl
theorem chr_nest : ∀ n : Nat, n < 256 → ((bif (decide ((ior .u8 ((n : Nat) : Int) (32 : Int)) < (97 : Int)))
      then (bif (decide (((n:Nat):Int)<(48:Int)))
        then some true
        else some (decide (((n:Nat):Int)>(57:Int))))
      else (bif (decide ((ior .u8 ((n : Nat) : Int) (32 : Int)) > (122 : Int)))
        then (bif (decide (((n:Nat):Int)<(48:Int)))
          then some true
          else some (decide (((n:Nat):Int)>(57:Int))))
        else (bif ((iand .u8 ((n:Nat):Int) (64:Int))==(0:Int))
          then (bif (decide (((n:Nat):Int)<(48:Int)))
            then some true
            else some (decide (((n:Nat):Int)>(57:Int))))
          else some false))):Option Bool)=some (!chrN n):=by decide +kernel
theorem first_let:∀ n:Nat,n<256→((!decide (((n:Nat):Int)≤57))&&chrN n)=(letN n&&chrN n):=by decide +kernel
theorem ex_not {α : Type} {n:Nat} {q:Nat→Bool} {a b : α} : (if ∃ i,i<n∧(!q i)=true then b else a)=if ∀ i,i<n→q i=true then a else b:=by
  by_cases h:∀ i,i<n→q i=true
  · grind
  · rw[if_neg h,if_pos]<;>grind
theorem ex_notL {α β : Type} {l:List α} {p : α→Bool} {a b : β} : (if ∃ x,x∈l∧(!p x)=true then b else a)=if ∀ x,x∈l→p x=true then a else b:=by
  by_cases h:∀ x,x∈l→p x=true
  · grind
  · rw[if_neg h,if_pos]<;>grind
theorem all_ex {α : Type} {l:List α} {p : α→Bool} : (if ∃ x,x∈l∧(!p x)=true then (Sum.inl false:Bool⊕Unit) else .inr ())=if l.all p=true then .inr () else .inl false:=by
  by_cases h:l.all p=true<;>simp_all
theorem named_ok {N : Nat} {s : List UInt8} (hN : 100 < N) : F279 N s = some (nameB s) := by
  rw[F279.eq_1]
  unfold nameB
  by_cases h0:s.length=0
  · rw[show ((s.length:Int)==(0:Int))=true by rw[h0];rfl,bif_l,Option.bind_some,bif_l,decide_eq_false (by omega),Bool.false_and]
  · rw [len_ne0 h0, bif_r, decide_eq_true (show 1 ≤ s.length by omega), Bool.true_and]
    by_cases h1:s.length≤16
    · have e0 : idx s (0 : Int) = some (s.getD 0 0) := idx_getD (i := 0) 0 (by omega)
      rw[decide_eq_false (show ¬(s.length:Int)>16 by omega),bif_r,e0,Option.bind_some,Option.bind_some,decide_eq_true h1,Bool.true_and]
      have hlt:=(s.getD 0 0).toNat_lt
      have hall:s.all (fun c=>chrN c.toNat)=true→chrN (s.getD 0 0).toNat=true:=fun h=>List.all_eq_true.1 h _ (getD_mem 0 (by omega))
      have hf:=first_let _ hlt
      have key:=loop_lst (l:=bytesL s) (a:=(.inr ():Bool⊕Unit)) (b:=.inl false) (p:=fun x=>!chrN x.toNat) (Lf:=fun k i=>f279.L0_6 N k (bytesL s,((bytesL s).length:Int),i)) (fun k _=>by
          simp only[f279.L0_6.eq_2,ge_dec,bif_r]) (fun k i x hx hm=>by
          obtain⟨c,hc,rfl⟩:=List.mem_map.1 hm
          have hi:=len_pos hx
          rw[bytesL_len] at hi
          simp only[f279.L0_6.eq_2,lt_dec (len_pos hx),bif_l,idx_get hx,Option.bind_some,chr_nest _ c.toNat_lt,wi64_succ (show i<9223372036854775807 by omega),Int.toNat_natCast]
          by_cases hb:chrN c.toNat=true<;>simp[hb]) (k:=N) (by rw[bytesL_len];omega)
      rw[key,all_ex (p:=fun x:Int=>chrN x.toNat)]
      have e2:(bytesL s).all (fun x=>chrN x.toNat)=s.all fun c=>chrN c.toNat:=by
        unfold bytesL;rw[List.all_map];rfl
      rw[e2]
      cases ha:s.all fun c=>chrN c.toNat
      · rw [if_neg (by simp), Bool.and_false, Option.bind_some]
        cases decide (((s.getD 0 0).toNat:Int)≤57)<;>rfl
      · rw [hall ha, Bool.and_true, Bool.and_true] at hf
        rw[if_pos rfl,Bool.and_true,Option.bind_some,←hf]
        cases decide (((s.getD 0 0).toNat:Int)≤57)<;>rfl
    · rw[decide_eq_true (show (s.length:Int)>16 by omega),bif_l,Option.bind_some,bif_l,decide_eq_false h1];rfl
theorem dig_nest:∀ n:Nat,n<256→(bif (!letN n) then (bif (decide (((n:Nat):Int)<(48:Int))) then some true else some (decide (((n:Nat):Int)>(57:Int)))) else some false)=some (!chrN n):=by decide +kernel
theorem named04_ok {N : Nat} {s : List UInt8} (hN : 100 < N) : F175 N s = some (nameB s) := by
  rw[F175.eq_1]
  unfold nameB
  by_cases h0:1≤s.length
  · rw [decide_eq_false (show ¬ (s.length : Int) < 1 by omega), bif_r, decide_eq_true h0, Bool.true_and]
    by_cases h1:s.length≤16
    · have e0 : idx s (0 : Int) = some (s.getD 0 0) := idx_getD (i := 0) 0 (by omega)
      rw[decide_eq_false (show ¬(s.length:Int)>16 by omega),bif_r,e0,Option.bind_some,letter_ok,Option.bind_some,Option.bind_some,decide_eq_true h1,Bool.true_and]
      have key:=loop_lst (l:=s) (a:=(.inr ():Bool⊕Unit)) (b:=.inl false) (p:=fun c=>!chrN c.toNat) (Lf:=fun k i=>f175.L0_6 N k (s,i)) (fun k _=>by
          simp only[f175.L0_6.eq_2,ge_dec,bif_r]) (fun k i x hx hm=>by
          have hi:=len_pos hx
          simp only[f175.L0_6.eq_2,lt_dec (len_pos hx),bif_l,idx_get hx,Option.bind_some,letter_ok,dig_nest _ x.toNat_lt,wi64_succ (show i<9223372036854775807 by omega)]
          by_cases hb:chrN x.toNat=true<;>simp[hb]) (k:=N) (by omega)
      rw[key,all_ex (p:=fun c:UInt8=>chrN c.toNat)]
      cases ha:s.all fun c=>chrN c.toNat
      · rw [if_neg (by simp), Bool.and_false]
        cases letN (s.getD 0 0).toNat<;>rfl
      · rw [if_pos rfl, Bool.and_true]
        cases letN (s.getD 0 0).toNat<;>rfl
    · rw[decide_eq_true (show (s.length:Int)>16 by omega),bif_l,Option.bind_some,bif_l,decide_eq_false h1];rfl
  · rw[decide_eq_true (show (s.length:Int)<1 by omega),bif_l,Option.bind_some,bif_l,decide_eq_false h0,Bool.false_and]
theorem nameB_len {s:List UInt8} (h:nameB s=true):s.length≤16:=by
  unfold nameB at h<;>grind
noncomputable def fl (l:List Field) (i:Nat):Field:=l.getD i ([],0)
noncomputable def dupF (l:List Field) (i:Nat):Prop:=∃ j,j<i∧(fl l j).1=(fl l i).1
noncomputable def okF (l:List Field) (i:Nat):Bool:=nameB (fl l i).1 && !decide (dupF l i)
noncomputable def FieldsOK (l:List Field):Prop:=∀ i,i<l.length→okF l i=true
theorem imgNamed_inner {N : Nat} {l : List Field} {i : Nat} (hi : i ≤ l.length) (hN : l.length < N) (hl : l.length ≤ 1000000) (s : List UInt8) (v : Int) :
    (∃ j:Int,0≤j∧f326.L1021001007000_3 N N (l.take i,((l.take i).length:Int),0,s,v)=some (.inl j)∧∃ j,j<i∧(fl l j).1=s)∨
    (f326.L1021001007000_3 N N (l.take i,((l.take i).length:Int),0,s,v)=some (.inr ())∧¬ ∃ j,j<i∧(fl l j).1=s):=by
  have hlen:(l.take i).length=i:=by grind
  have key:∀ k j,j≤i→i-j<k→(∀ m,m<j→(fl l m).1≠s)→
      (∃ q:Int,0≤q∧f326.L1021001007000_3 N k (l.take i,((l.take i).length:Int),(j:Int),s,v)=some (.inl q)∧∃ j,j<i∧(fl l j).1=s)∨
      (f326.L1021001007000_3 N k (l.take i,((l.take i).length:Int),(j:Int),s,v)=some (.inr ())∧¬ ∃ j,j<i∧(fl l j).1=s):=by
    intro k
    induction k with
    |zero=>omega
    | succ k ih =>
      intro j hj hk hm
      by_cases he:j=i
      · subst he
        refine .inr ⟨?_,fun⟨m,h1,h2⟩=>hm m h1 h2⟩
        rw[f326.L1021001007000_3.eq_2,hlen,ge_dec,bif_r]
      · have e : idx (l.take i) (j : Int) = some (fl l j) := by
          refine idx_get ?_
          rw[List.getElem?_take,if_pos (by omega),fl,List.getD_eq_getElem?_getD,List.getElem?_eq_getElem (by omega)];rfl
        rw[f326.L1021001007000_3.eq_2,hlen,lt_dec (by omega),bif_l,e,Option.bind_some]
        by_cases hq:(fl l j).1=s
        · rw [show ((fl l j).1 == s) = true by simpa using hq, bif_l]
          exact .inl ⟨j,by omega,rfl,j,by omega,hq⟩
        · rw [show ((fl l j).1 == s) = false by simpa using hq, bif_r, wi64_succ (by omega)]
          have:=ih (j+1) (by omega) (by omega) fun m h=>by
            by_cases e:m=j
            · subst e;exact hq
            · exact hm m (by omega)
          rw[hlen] at this
          exact this
  exact key N 0 (by omega) (by omega) fun m h=>by omega
theorem imgNamed_ok {N : Nat} {l : List Field} (hN : l.length + 100 < N) (hl : l.length ≤ 1000000) : F326 N l = some (decide (FieldsOK l)) := by
  rw[F326.eq_1]
  have key:=loop_rng (n:=l.length) (a:=(.inr ():Bool⊕Unit)) (b:=.inl false) (q:=fun i=>!okF l i) (Lf:=fun k i=>f326.L0_3 N k (l,l,(l.length:Int),i)) (fun k _=>by
      simp only[f326.L0_3.eq_2,ge_dec,bif_r]) (fun k i hi _=>by
      have e:idx l (i:Int)=some (fl l i):=idx_getD _ hi
      simp only[f326.L0_3.eq_2,lt_dec hi,bif_l,e,Option.bind_some,named_ok (show 100<N by omega)]
      cases hn:nameB (fl l i).1
      · simp[okF,hn]
      · rw [Bool.not_true, bif_r, decide_eq_true (show (0 : Int) ≤ (i : Int) by omega), chk_true, Int.toNat_natCast, decide_eq_true (show i ≤ l.length by omega), chk_true, wi64_succ (by omega)]
        rcases imgNamed_inner (l:=l) (i:=i) (by omega) (show l.length<N by omega) hl (fl l i).1 (fl l i).2 with⟨j,h1,h2,h3⟩|⟨h2,h3⟩
        · rw [h2, Option.bind_some]
          simp only[decide_eq_true (show j≥0 from h1),bif_l]
          rw[if_pos (by unfold okF;rw[decide_eq_true (show dupF l i from h3)];simp)]
        · rw [h2, Option.bind_some]
          simp only
          rw[if_neg (by unfold okF;rw[hn,decide_eq_false (show ¬dupF l i from h3)];simp)]) (k:=N) (by omega)
  rw[key,ex_not,Option.bind_some]
  by_cases h:FieldsOK l
  · rw[if_pos (show ∀ i,i<l.length→okF l i=true from h),decide_eq_true h]
  · rw[if_neg (show ¬ ∀ i,i<l.length→okF l i=true from h),decide_eq_false h]
theorem fields04_ok {N : Nat} {l : List Field} (hN : l.length + 100 < N) (hl : l.length ≤ 1000000) (m : Int) : F176 N (l, m) = some (decide ((l.length : Int) ≤ m ∧ FieldsOK l)) := by
  rw[F176.eq_1]
  by_cases hm:(l.length:Int)≤m
  · rw [decide_eq_false (show ¬ (l.length : Int) > m by omega), bif_r]
    have key:=loop_rng (n:=l.length) (a:=(.inr ():Bool⊕Unit)) (b:=.inl false) (q:=fun i=>!okF l i) (Lf:=fun k i=>f176.L0_6 N k (l,i)) (fun k _=>by
        simp only[f176.L0_6.eq_2,ge_dec,bif_r]) (fun k i hi _=>by
        have e:idx l (i:Int)=some (fl l i):=idx_getD _ hi
        simp only[f176.L0_6.eq_2,lt_dec hi,bif_l,e,Option.bind_some,named04_ok (show 100<N by omega)]
        cases hn:nameB (fl l i).1
        · simp[okF,hn]
        · have inner := loop_rng (n := i) (a := (.inr (l, (i : Int)) : Bool ⊕ (List Field × Int))) (b := .inl false) (q := fun j => (fl l j).1 == (fl l i).1) (Lf := fun k j => f176.L0_15 N k (l, (i : Int), j)) (fun k _ => by
            simp only[f176.L0_15.eq_2,ge_dec,bif_r]) (fun k j hj _=>by
            have ej:idx l (j:Int)=some (fl l j):=idx_getD _ (by omega)
            simp only[f176.L0_15.eq_2,lt_dec hj,bif_l,e,ej,Option.bind_some,wi64_succ (show j<9223372036854775807 by omega)]
            by_cases hb:((fl l j).1==(fl l i).1)=true<;>simp[hb]) (k:=N) (by omega)
          rw[Bool.not_true,bif_r,inner,Option.bind_some]
          by_cases hd:dupF l i
          · rw [if_pos, if_pos (by unfold okF; rw [decide_eq_true hd]; simp)]
            obtain⟨j,h1,h2⟩:=hd
            exact⟨j,h1,by simpa using h2⟩
          · rw [if_neg, if_neg (by unfold okF; rw [hn, decide_eq_false hd]; simp)]
            · simp only;rw[wi64_succ (by omega)]
            · rintro ⟨j, h1, h2⟩
              exact hd ⟨j,h1,by simpa using h2⟩) (k:=N) (by omega)
    rw[key,ex_not,Option.bind_some]
    by_cases h:FieldsOK l
    · rw[if_pos (show ∀ i,i<l.length→okF l i=true from h),decide_eq_true ⟨hm,h⟩]
    · rw[if_neg (show ¬ ∀ i,i<l.length→okF l i=true from h),decide_eq_false fun h'=>h h'.2]
  grind
theorem zero_ok {N : Nat} {l : List Int} (hN : l.length < N) (hl : l.length ≤ 1000) : F278 N l = some (l.all fun x => x == 0) := by
  rw[F278.eq_1]
  have key:∀ (r pre:List Int) k,l=pre++r→r.length<k→
      (r.all (fun x=>x==0)=true∧f278.L1004001007000_3 N k (l,(l.length:Int),(pre.length:Int))=some (.inr ()))∨
      (r.all (fun x=>x==0)=false∧∃ j:Int,0≤j∧f278.L1004001007000_3 N k (l,(l.length:Int),(pre.length:Int))=some (.inl j)):=by
    intro r
    induction r with
    | nil =>
      intro pre k he hk
      obtain⟨k,rfl⟩:∃ k',k=k'+1:=⟨k-1,by simp at hk;omega⟩
      simp at he;subst he
      exact .inl ⟨rfl,by rw[f278.L1004001007000_3.eq_2,ge_dec,bif_r]⟩
    | cons x r ih =>
      intro pre k he hk
      obtain⟨k,rfl⟩:∃ k',k=k'+1:=⟨k-1,by simp at hk;omega⟩
      have hlen:pre.length+(r.length+1)=l.length:=by rw[he];simp
      have hx:idx l (pre.length:Int)=some x:=by rw[he];exact idx_mid _ _ _
      rw[f278.L1004001007000_3.eq_2,lt_dec (by omega),bif_l,hx,Option.bind_some,F316.eq_1,Option.bind_some]
      by_cases h0:x=0
      · rw [show (x != 0) = false by simp [h0], bif_r, wi64_succ (by omega), List.all_cons, show (x == 0) = true by simp [h0], Bool.true_and]
        have:=ih (pre++[x]) k (by rw[he];simp) (by simp at hk;omega)
        rwa[show ((pre++[x]).length:Int)=((pre.length+1:Nat):Int) by simp] at this
      · rw [show (x != 0) = true by simp [h0], bif_l, List.all_cons, show (x == 0) = false by simp [h0], Bool.false_and]
        exact .inr ⟨rfl,pre.length,by omega,rfl⟩
  rcases key l [] N rfl hN with⟨h1,h2⟩|⟨h1,j,h2,h3⟩<;>grind
theorem within_ok (N:Nat) (a b:Int):F277 N (a,b)=some (decide (0≤a∧a<b)):=by
  rw[F277.eq_1,bif_ff,Option.bind_some]<;>simp_all
noncomputable def ty0:GType:=(0,0,0,[])
noncomputable def tyn (l:List GType) (i:Nat):GType:=l.getD i ty0
noncomputable def TypeOK (n i:Nat) (t:GType):Prop:=
  if t.1=1∨t.1=2∨t.1=3 then t.2.1=0∧t.2.2.1=0∧t.2.2.2.length=0
  else if t.1=4∨t.1=7 then (0≤t.2.1∧t.2.1<n)∧t.2.2.1=0∧t.2.2.2.length=0
  else if t.1=6 then (0≤t.2.1∧t.2.1<i)∧(1≤t.2.2.1∧t.2.2.1≤16)∧t.2.2.2.length=0
  else if t.1=5 then t.2.1=0∧t.2.2.1=0∧(0<t.2.2.2.length∧t.2.2.2.length≤8)∧FieldsOK t.2.2.2∧∀ f,f∈t.2.2.2→0≤f.2∧f.2<i
  else False
theorem hasB_take {l:List Field} {i:Nat} (hi:i<l.length):hasB ((l.take i).map (·.1)) (fl l i).1=decide (dupF l i):=by
  unfold hasB
  by_cases h:dupF l i
  · rw [decide_eq_true h, List.any_eq_true]
    obtain⟨j,h1,h2⟩:=h
    refine⟨(fl l j).1,List.mem_map.2 ⟨fl l j,?_,rfl⟩,decide_eq_true h2.symm⟩
    rw[fl,List.getD_eq_getElem?_getD,List.getElem?_eq_getElem (by omega)]
    exact List.mem_take_iff_getElem.2 ⟨j,by omega,rfl⟩
  · rw [decide_eq_false h]
    cases ha:((l.take i).map (·.1)).any fun q=>decide ((fl l i).1=q) with
    |false=>rfl
    | true =>
      exfalso
      obtain⟨q,h1,h2⟩:=List.any_eq_true.1 ha
      obtain⟨f,h3,rfl⟩:=List.mem_map.1 h1
      obtain⟨j,h4,rfl⟩:=List.mem_take_iff_getElem.1 h3
      refine h ⟨j,by omega,?_⟩
      rw[of_decide_eq_true h2]
      rw[fl,List.getD_eq_getElem?_getD,List.getElem?_eq_getElem (by omega)];rfl
theorem fl_get {l:List Field} {i:Nat} (hi:i<l.length):l[i]?=some (fl l i):=by
  rw[fl,List.getD_eq_getElem?_getD,List.getElem?_eq_getElem hi];rfl
theorem addB_take {l:List Field} {i:Nat} (hi:i<l.length) (h:¬dupF l i):addB ((l.take i).map (·.1)) (fl l i).1=(l.take (i+1)).map (·.1):=by
  unfold addB
  rw[hasB_take hi,decide_eq_false h,take_succ (fl_get hi),List.map_append]
  rfl
theorem struct_loop {N : Nat} {l : List Field} {p : Nat} (hN : l.length + 100 < N) (hl : l.length ≤ 1000000) (a b c : Int) :
    f233.L0_25 N N ((p:Int),l,(l.length:Int),(0:Int),a,b,c,l,([]:List (List UInt8)))=some (if FieldsOK l∧(∀ f,f∈l→0≤f.2∧f.2<p) then .inr (a,b,c,l) else .inl false):=by
  have key:=loop_rng (n:=l.length) (a:=(.inr (a,b,c,l):Bool⊕(Int×Int×Int×List Field))) (b:=.inl false) (q:=fun i=>!(okF l i&&decide (0≤(fl l i).2∧(fl l i).2<p)))
    (Lf := fun k i => f233.L0_25 N k ((p : Int), l, (l.length : Int), i, a, b, c, l, (l.take i.toNat).map (·.1))) (fun k _ => by
      simp only[f233.L0_25.eq_2,ge_dec,bif_r]) (fun k i hi _=>by
      have e:idx l (i:Int)=some (fl l i):=idx_getD _ hi
      simp only[f233.L0_25.eq_2,lt_dec hi,bif_l,e,Option.bind_some,named_ok (show 100<N by omega),Int.toNat_natCast,hasB_take hi,within_ok,wi64_succ (show i<9223372036854775807 by omega)]
      cases hn:nameB (fl l i).1
      · simp[okF,hn]
      · by_cases hd : dupF l i
        · simp[okF,hd]
        · rw [addB_take hi hd]
          unfold okF
          rw[hn,decide_eq_false hd]
          cases decide (0≤(fl l i).2∧(fl l i).2<(p:Int))<;>rfl) (k:=N) (by omega)
  rw[show (0:Int).toNat=0 from rfl,List.take_zero,List.map_nil] at key
  rw[key,ex_not]
  have hiff:(∀ i,i<l.length→(okF l i&&decide (0≤(fl l i).2∧(fl l i).2<(p:Int)))=true)↔FieldsOK l∧∀ f,f∈l→0≤f.2∧f.2<(p:Int):=by
    simp only[Bool.and_eq_true,decide_eq_true_eq]
    refine⟨fun h=>⟨fun i hi=>(h i hi).1,fun f hf=>?_⟩,fun h i hi=>⟨h.1 i hi,h.2 _ (getD_mem _ hi)⟩⟩
    obtain⟨i,hi,rfl⟩:=mem_getD ([],0) hf
    exact (h i hi).2
  grind
theorem range_loop {N : Nat} {l : List Field} {p : Nat} (hN : l.length < N) (hl : l.length ≤ 1000000) (a b c : Int) :
    f172.L0_23 N N ((p:Int),(0:Int),a,b,c,l)=some (if ∀ f,f∈l→0≤f.2∧f.2<p then .inr (a,b,c,l) else .inl false):=by
  have key:=loop_lst (l:=l) (a:=(.inr (a,b,c,l):Bool⊕(Int×Int×Int×List Field))) (b:=.inl false) (p:=fun f=>!decide (0≤f.2∧f.2<(p:Int)))
    (Lf := fun k i => f172.L0_23 N k ((p : Int), i, a, b, c, l)) (fun k _ => by
      simp only[f172.L0_23.eq_2,ge_dec,bif_r]) (fun k i x hx hm=>by
      simp only[f172.L0_23.eq_2,lt_dec (len_pos hx),bif_l,idx_get hx,Option.bind_some,wi64_succ (show i<9223372036854775807 by have:=len_pos hx;omega)]
      by_cases h1:x.2<0
      · rw[decide_eq_true h1,decide_eq_false (show ¬(0≤x.2∧x.2<(p:Int)) by omega)];rfl
      · by_cases h2 : x.2 ≥ (p : Int)
        · rw[decide_eq_false h1,decide_eq_true h2,decide_eq_false (show ¬(0≤x.2∧x.2<(p:Int)) by omega)];rfl
        · rw[decide_eq_false h1,decide_eq_false h2,decide_eq_true (show 0≤x.2∧x.2<(p:Int) by omega)];rfl) (k:=N) hN
  rw[key,ex_notL]<;>grind
theorem beq_dec (a b:Int):(a==b)=decide (a=b):=by grind
theorem pred16 {v:Int} (h:i64 v):decide (0≤wi64 (v-1)∧wi64 (v-1)<16)=decide (1≤v∧v≤16):=by
  unfold i64 at h
  by_cases h1:v = -9223372036854775808
  · subst h1;rfl
  · rw[wi64_in (by omega)]<;>grind
theorem fineK_ok {N : Nat} {l : List GType} {i : Nat} (hN : 1100 < N) (hi : i < l.length) (hf : (tyn l i).2.2.2.length ≤ 1000) (hb : i64 (tyn l i).2.2.1) : F233 N (l, (i : Int)) = some (decide (TypeOK l.length i (tyn l i))) := by
  have e:idx l (i:Int)=some (tyn l i):=idx_getD _ hi
  rw[F233.eq_1,e,Option.bind_some]
  unfold TypeOK
  generalize tyn l i=t at hf hb
  obtain⟨k,el,le,fs⟩:=t
  simp only at hf hb ⊢
  rw[struct_loop (by omega) (by omega)]
  simp only[beq_dec,bif_tt,Option.bind_some,within_ok,zero_ok (show [el,le,(fs.length:Int)].length<N by simp;omega) (by simp),zero_ok (show [le,(fs.length:Int)].length<N by simp;omega) (by simp),zero_ok (show [(fs.length:Int)].length<N by simp;omega) (by simp),pred16 hb,List.all_cons,List.all_nil,Bool.and_true]
  by_cases h1:k=1∨k=2∨k=3
  · rw [show (decide (k = 1) || (decide (k = 2) || decide (k = 3))) = true by simpa using h1, bif_l, if_pos h1]
    congr 1
    by_cases a1:el=0<;>by_cases a2:le=0<;>by_cases a3:fs.length=0<;>simp[a1,a2,a3]
    all_goals (intro h;simp[h] at a3)
  · rw [show (decide (k = 1) || (decide (k = 2) || decide (k = 3))) = false by simpa using h1, bif_r, if_neg h1]
    by_cases h2:k=4∨k=7
    · rw [show (decide (k = 4) || decide (k = 7)) = true by simpa using h2, bif_l, if_pos h2, bif_ff]
      congr 1
      by_cases a1:0≤el∧el<(l.length:Int)<;>by_cases a2:le=0<;>by_cases a3:fs.length=0<;>simp[a1,a2,a3]
      all_goals (intro h;simp[h] at a3)
    · rw [show (decide (k = 4) || decide (k = 7)) = false by simpa using h2, bif_r, if_neg h2]
      by_cases h3:k=6
      · rw [decide_eq_true h3, bif_l, if_pos h3]
        by_cases a1:0≤el∧el<(i:Int)<;>by_cases a2:1≤le∧le≤16<;>by_cases a3:fs.length=0<;>simp[a1,a2,a3]
        all_goals (intro h;simp[h] at a3)
      · rw [decide_eq_false h3, bif_r, if_neg h3]
        by_cases h4:k=5
        · rw [decide_eq_true h4, bif_l, if_pos h4]
          by_cases hq:FieldsOK fs∧∀ f,f∈fs→0≤f.2∧f.2<(i:Int)
          · rw [if_pos hq]
            simp only
            rw[zero_ok (show [el,le].length<N by simp;omega) (by simp),Option.bind_some]
            simp only[List.all_cons,List.all_nil,Bool.and_true]
            have g3:decide ((fs.length:Int)>0)=decide (0<fs.length):=by rw[decide_eq_decide];omega
            have g4:decide ((fs.length:Int)≤8)=decide (fs.length≤8):=by rw[decide_eq_decide];omega
            rw[g3,g4]
            by_cases a1:el=0
            · by_cases a2 : le = 0
              · by_cases a3 : 0 < fs.length
                · by_cases a4 : fs.length ≤ 8
                  · rw [decT (p := el = 0 ∧ le = 0 ∧ (0 < fs.length ∧ fs.length ≤ 8) ∧ FieldsOK fs ∧ ∀ f, f ∈ fs → 0 ≤ f.2 ∧ f.2 < (i : Int)) ⟨a1, a2, ⟨a3, a4⟩, hq⟩]
                    simp[a1,a2,a3,a4]
                  · rw [decF (p := el = 0 ∧ le = 0 ∧ (0 < fs.length ∧ fs.length ≤ 8) ∧ FieldsOK fs ∧ ∀ f, f ∈ fs → 0 ≤ f.2 ∧ f.2 < (i : Int)) fun h => a4 h.2.2.1.2]
                    simp[a1,a2,a3,a4]
                · rw [decF (p := el = 0 ∧ le = 0 ∧ (0 < fs.length ∧ fs.length ≤ 8) ∧ FieldsOK fs ∧ ∀ f, f ∈ fs → 0 ≤ f.2 ∧ f.2 < (i : Int)) fun h => a3 h.2.2.1.1, decide_eq_false a3]
                  simp[a1,a2]
              · rw [decF (p := el = 0 ∧ le = 0 ∧ (0 < fs.length ∧ fs.length ≤ 8) ∧ FieldsOK fs ∧ ∀ f, f ∈ fs → 0 ≤ f.2 ∧ f.2 < (i : Int)) fun h => a2 h.2.1, show (le == 0) = false by simpa using a2, Bool.and_false]
                rfl
            · rw [decF (p := el = 0 ∧ le = 0 ∧ (0 < fs.length ∧ fs.length ≤ 8) ∧ FieldsOK fs ∧ ∀ f, f ∈ fs → 0 ≤ f.2 ∧ f.2 < (i : Int)) fun h => a1 h.1, show (el == 0) = false by simpa using a1, Bool.false_and]
              rfl
          · rw[if_neg hq,decF (p:=el=0∧le=0∧(0<fs.length∧fs.length≤8)∧FieldsOK fs∧∀ f,f∈fs→0≤f.2∧f.2<(i:Int)) fun h=>hq ⟨h.2.2.2.1,h.2.2.2.2⟩]
        · rw[decide_eq_false h4,bif_r,if_neg h4,decF (p:=False) id]
end Go.Proofs.YtjejefeomeddhaaGreat
