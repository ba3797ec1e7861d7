/- A part of the proof: Law12acac7, Law12acac8, Law12acac9. -/
import Derived.Test.YthphehfgekjooaaGreatDoorLaw12acac6
set_option linter.unusedVariables false
set_option linter.unusedSimpArgs false
namespace Go.Proofs.YthphehfgekjooaaGreatDoor
open Go Go.bq Go.Sym
open Classical
theorem vQ {k:Nat} (h:k<10):Lib.digitVal (UInt8.ofNat (48+k))=some k:=by
 have:∀ k,k<10→Lib.digitVal (UInt8.ofNat (48+k))=some k:=by decide
 exact this k h
theorem vR (b:UInt8):∀ (l:List UInt8) (acc:Nat),Lib.decFrom acc (l++[b])=(Lib.decFrom acc l).bind fun n=>(Lib.digitVal b).map fun d=>n*10+d
 |[],acc=>by
  simp only[List.nil_append,Lib.decFrom,Option.bind_some]
  cases Lib.digitVal b<;>rfl
 |c :: r,acc=>by
  simp only[List.cons_append,Lib.decFrom]
  cases Lib.digitVal c with
  |none=>rfl
  |some d=>exact vR b r _
theorem yy (u:Nat):Lib.decFrom 0 (Lib.decDigits u)=some u:=by
 induction u using Nat.strongRecOn with
 | _ u ih =>
  rw[Lib.decDigits]
  split
  ·rename_i h
   simp only[Lib.decFrom,vQ h,Nat.zero_mul,Nat.zero_add]
  ·rename_i h
   rw[vR,ih (u / 10) (by omega),Option.bind_some,vQ (Nat.mod_lt _ (by decide)),Option.map_some]
   congr 1
   omega
noncomputable def LL (b:UInt8):Prop:=48≤b.toNat∧b.toNat≤57
theorem Jm {k:Nat} (h:k<10):LL (UInt8.ofNat (48+k)):=by
 have:∀ k,k<10→48≤(UInt8.ofNat (48+k)).toNat∧(UInt8.ofNat (48+k)).toNat≤57:=by decide
 exact this k h
theorem Gb (u:Nat):∀ b,b∈Lib.decDigits u→LL b:=by
 induction u using Nat.strongRecOn with
 | _ u ih =>
  rw[Lib.decDigits]
  split
  ·rename_i h
   intro b hb
   rw[List.mem_singleton.1 hb];exact Jm h
  ·rename_i h
   intro b hb
   rcases List.mem_append.1 hb with hb|hb
   ·exact ih (u / 10) (by omega) b hb
   ·rw[List.mem_singleton.1 hb];exact Jm (Nat.mod_lt _ (by decide))
theorem B4 (u:Nat):Lib.decDigits u≠[]:=by
 rw[Lib.decDigits]
 split<;>simp
theorem M8 {u:Nat} (h:u≤9223372036854775808):(Lib.decDigits u).length≤20:=by
 have key:∀ k u:Nat,u<10 ^ (k+1)→(Lib.decDigits u).length≤k+1:=by
  intro k
  induction k with
  |zero=>intro u hu;rw[Lib.decDigits,dif_pos (by simpa using hu)];simp
  | succ k ih =>
   intro u hu
   rw[Lib.decDigits]
   split
   ·simp
   ·rw [List.length_append, List.length_singleton]
    have:=ih (u / 10) (by rw[Nat.pow_succ] at hu;omega)
    omega
 exact key 19 u (by omega)
theorem B5:∀ (l:List UInt8) (acc v:Nat),Lib.decFrom acc l=some v→acc≤v
 |[],acc,v,h=>by simp only[Lib.decFrom,Option.some.injEq] at h;omega
 |c :: r,acc,v,h=>by
  simp only[Lib.decFrom] at h
  split at h
  ·have:=B5 r _ _ h;omega
  ·cases h
theorem Eb:∀ (l:List UInt8) (acc v:Nat),Lib.decFrom acc l=some v→v<18446744073709551616→Lib.parseUint10 acc l=.ok v
 |[],acc,v,h,_=>by simp only[Lib.decFrom,Option.some.injEq] at h;rw[h];rfl
 | c :: r, acc, v, h, hv => by
  simp only[Lib.decFrom] at h
  split at h
  ·rename_i d hd
   have hl:=B5 r _ _ h
   unfold Lib.digitVal at hd
   split at hd
   ·rename_i hc
    injection hd with hd
    rw[←hd] at h hl
    simp only[Lib.parseUint10]
    rw[if_pos hc,if_neg (by omega),if_neg (by omega)]
    exact Eb r _ v h hv
   ·cases hd
  ·cases h
noncomputable def iG (n:Int):Prop:=-9223372036854775808≤n∧n≤9223372036854775807
theorem oU {n:Int} (h:iG n):(Lib.itoa n).length≤21:=by
 unfold Lib.itoa iG at *
 split
 ·have:=M8 (u:=n.natAbs) (by omega);simp only[List.length_cons];omega
 ·have:=M8 (u:=n.toNat) (by omega);omega
theorem Pk {n:Int} : Lib.atoi (Lib.itoa n)=some n:=by
 unfold Lib.itoa
 have key:∀ u,Lib.decNat (Lib.decDigits u)=some u:=fun u=>by
  unfold Lib.decNat
  rw[if_neg (by simpa using B4 u),yy]
 split
 ·rename_i h
  show ((Lib.decNat (Lib.decDigits n.natAbs)).map fun (m:Nat)=>-(m:Int))=some n
  rw[key,Option.map_some]
  congr 1
  omega
 ·rename_i h
  have hk:=key n.toNat
  have hd:=Gb n.toNat
  cases hl:Lib.decDigits n.toNat with
  |nil=>exact absurd hl (B4 _)
  |cons b r=>
   rw[hl] at hk hd
   have:=hd b List.mem_cons_self
   unfold LL at this
   have h1:(b==45)=false:=by rw[beq_eq_false_iff_ne];rintro rfl;simp at this
   have h2:(b==43)=false:=by rw[beq_eq_false_iff_ne];rintro rfl;simp at this
   simp only[Lib.atoi,h1,h2,hk,Option.map_some]
   simp
   omega
theorem Gc {n:Int} (h:iG n):Lib.atoiAll (Lib.itoa n)=.ok n:=by
 unfold iG at h
 have key:∀ u,u<18446744073709551616→Lib.parseMag (Lib.decDigits u)=.ok u:=fun u hu=>by
  unfold Lib.parseMag
  rw[if_neg (B4 u),Eb _ _ _ (yy u) hu]
 unfold Lib.itoa
 split
 ·rename_i h0
  have e:Lib.atoiAll (45 :: Lib.decDigits n.natAbs)=(match Lib.parseMag (Lib.decDigits n.natAbs) with
   |.syntax=>.syntax
   |.range=>.range
   |.ok u=>if ¬(45:UInt8).toNat=45∧9223372036854775808≤u then .range
    else if (45:UInt8).toNat=45∧9223372036854775808<u then .range
    else .ok (if (45:UInt8).toNat=45 then -(u:Int) else u)):=rfl
  rw[e,key _ (by omega)]
  simp only
  rw[if_neg (fun h'=>h'.1 rfl),if_neg (fun h'=>by have:=h'.2;omega),if_pos (show (45:UInt8).toNat=45 from rfl)]
  congr 1
  omega
 ·rename_i h0
  have hk:=key n.toNat (by omega)
  have hd:=Gb n.toNat
  cases hl:Lib.decDigits n.toNat with
  |nil=>exact absurd hl (B4 _)
  |cons b r=>
   rw[hl] at hk hd
   have:=hd b List.mem_cons_self
   unfold LL at this
   unfold Lib.atoiAll
   simp only
   rw[if_neg (by omega),hk]
   simp only
   rw[if_neg (by omega),if_neg (by omega),if_neg (by omega)]
   congr 1
   omega
theorem Ec {n:Int} (h:iG n):vp n=some (Lib.itoa n):=by
 unfold iG at h
 unfold vp
 split
 ·rename_i k
  split
  ·rename_i hk
   have hk:k<100:=by simpa using hk
   congr 1
   exact (Fm hk).symm
  ·rw[show Nat.ble k 9223372036854775807=true by simp only[Int.ofNat_eq_natCast] at h;simp;omega]
 ·rename_i k
  split
  ·rename_i hk
   have hk:k<99:=by simpa using hk
   congr 1
   unfold Lib.itoa
   rw[if_pos (by omega),show (Int.negSucc k).natAbs=k+1 from rfl,Fm (by omega)]
  ·rw[show Nat.ble k 9223372036854775807=true by simp;omega]
theorem Ed {n:Int} (h:iG n):A2 (Lib.itoa n)=some (n,false):=by
 unfold A2
 have:=oU h
 split
 ·rw[Pk]
 ·rw[show Nat.ble (Lib.itoa n).length 1000000=true by simp;omega,Gc h]
noncomputable def ij:List (List UInt8)→List UInt8
 |[]=>[]
 |[w]=>w
 |w :: v :: r=>w++([59,32]++ij (v :: r))
theorem LM (n:Nat):((n:Int) == -1)=false:=by rw[beq_eq_false_iff_ne];omega
theorem Jn (w r:List UInt8):(w++([59,32]++r)).drop (w.length+([59,32]:List UInt8).length)=r:=by rw[←List.append_assoc,List.drop_left' (by simp)]
theorem uh:∀ (w r:List UInt8),(∀ b,b∈w→b≠59)→Lib.index (w++([59,32]++r)) [59,32]=(w.length:Int)
 |[],r,_=>by
  show (if ([59,32]:List UInt8).isPrefixOf (59 :: 32 :: r) then (0:Int) else _)=_
  rw[if_pos (by simp[List.isPrefixOf])];rfl
 |b :: w,r,h=>by
  have ih:=uh w r fun c hc=>h c (List.mem_cons_of_mem _ hc)
  have hb:=h b List.mem_cons_self
  show (if ([59,32]:List UInt8).isPrefixOf (b :: (w++([59,32]++r))) then (0:Int) else if Lib.index (w++([59,32]++r)) [59,32] == -1 then -1 else Lib.index (w++([59,32]++r)) [59,32]+1)=_
  rw[ih,if_neg (by simp[List.isPrefixOf];intro e;exact absurd e.symm hb),LM,if_neg Bool.false_ne_true]
  simp
theorem index_none:∀ (w:List UInt8),(∀ b,b∈w→b≠59)→Lib.index w [59,32] = -1
 |[],_=>rfl
 |b :: w,h=>by
  have ih:=index_none w fun c hc=>h c (List.mem_cons_of_mem _ hc)
  have hb:=h b List.mem_cons_self
  show (if ([59,32]:List UInt8).isPrefixOf (b :: w) then (0:Int) else if Lib.index w [59,32] == -1 then -1 else Lib.index w [59,32]+1)=_
  rw[ih,if_neg (by simp[List.isPrefixOf];intro e;exact absurd e.symm hb)]
  rfl
theorem B6:∀ (ws:List (List UInt8)) (f:Nat),(∀ w,w∈ws→∀ b,b∈w→b≠59)→1≤ws.length→ws.length≤f→Lib.countFrom [59,32] f (ij ws)=ws.length-1
 |[],_,_,h,_=>by simp at h
 |[w],f,h,_,hf=>by
  obtain⟨f,rfl⟩:∃ g,f=g+1:=⟨f-1,by simp at hf;omega⟩
  simp only[Lib.countFrom,ij,index_none w (h w List.mem_cons_self)]
  simp
 |w :: v :: r,f,h,_,hf=>by
  obtain⟨f,rfl⟩:∃ g,f=g+1:=⟨f-1,by simp at hf;omega⟩
  have ih:=B6 (v :: r) f (fun x hx=>h x (List.mem_cons_of_mem _ hx)) (by simp) (by simp only[List.length_cons] at hf ⊢;omega)
  simp only[Lib.countFrom,ij,uh w (ij (v :: r)) (h w List.mem_cons_self)]
  rw[LM,if_neg Bool.false_ne_true,Int.toNat_natCast,Jn,ih]
  simp only[List.length_cons]
  omega
theorem B7:∀ (ws:List (List UInt8)),(∀ w,w∈ws→∀ b,b∈w→b≠59)→1≤ws.length→Lib.splitK [59,32] 0 (ws.length-1) (ij ws)=ws
 |[],_,h=>by simp at h
 |[w],_,_=>rfl
 |w :: v :: r,h,_=>by
  have ih:=B7 (v :: r) (fun x hx=>h x (List.mem_cons_of_mem _ hx)) (by simp)
  have e:(w :: v :: r).length-1=((v :: r).length-1)+1:=by simp
  rw[e]
  simp only[Lib.splitK,ij,uh w (ij (v :: r)) (h w List.mem_cons_self)]
  rw[LM,if_neg Bool.false_ne_true,Int.toNat_natCast,Nat.add_zero,List.take_left' rfl,Jn,ih]
theorem Ee:∀ (ws:List (List UInt8)),ws.length≤(ij ws).length+1
 |[]=>by simp
 |[w]=>by simp
 |w :: v :: r=>by
  have:=Ee (v :: r)
  simp only[ij,List.length_append,List.length_cons,List.length_nil] at this ⊢
  omega
theorem Pm {N:Nat} {ws:List (List UInt8)} (h:∀ w,w∈ws→∀ b,b∈w→b≠59) (h1:1≤ws.length) (hl:(ij ws).length<1000000):F21 N (ij ws,[59,32])=some ws:=by
 show (match Nat.blt (ij ws).length 1000000&&Nat.blt 0 ([59,32]:List UInt8).length with
  |true=>some (Lib.splitK [59,32] 0 (Lib.count (ij ws) [59,32]) (ij ws))
  |false=>none)=some ws
 rw[show (Nat.blt (ij ws).length 1000000&&Nat.blt 0 ([59,32]:List UInt8).length)=true by simp;omega]
 unfold Lib.count
 rw[B6 ws _ h h1 (Ee ws)]
 simp only[B7 ws h h1]
theorem n5:∀ (d cur:List UInt8),(∀ b,b∈d→Lib.isSp b=false)→cur++d≠[]→Lib.fieldsGo cur d=[cur++d]
 |[],cur,_,h=>by
  simp only[List.append_nil] at h ⊢
  simp only[Lib.fieldsGo]
  rw[if_neg (by simpa using h)]
 |b :: d,cur,h,_=>by
  have:=n5 d (cur++[b]) (fun c hc=>h c (List.mem_cons_of_mem _ hc)) (by simp)
  simp only[Lib.fieldsGo,h b List.mem_cons_self]
  rw[if_neg (by simp),this,List.append_assoc];rfl
theorem uj {n:Int} : Lib.itoa n≠[]∧∀ b,b∈Lib.itoa n→(b=45∨LL b):=by
 unfold Lib.itoa
 split
 ·refine ⟨by simp, fun b hb => ?_⟩
  rcases List.mem_cons.1 hb with rfl|hb
  ·exact .inl rfl
  ·exact .inr (Gb _ b hb)
 ·exact⟨B4 _,fun b hb=>.inr (Gb _ b hb)⟩
theorem sn {b:UInt8} (h:b=45∨LL b):Lib.isSp b=false∧b≠59∧b.toNat<128:=by
 have key:∀ k:Nat,k<58→(k=45∨48≤k)→Lib.isSp (UInt8.ofNat k)=false∧UInt8.ofNat k≠59∧(UInt8.ofNat k).toNat<128:=by decide
 have e:b=UInt8.ofNat b.toNat:=by simp
 rw[e]
 unfold LL at h
 refine key b.toNat ?_ ?_
 ·rcases h with rfl | h
  ·decide
  ·omega
 ·rcases h with rfl | h
  ·exact .inl rfl
  ·exact .inr h.1
theorem B8 {N:Nat} {s:List UInt8} {l:List (List UInt8)} (h:∀ b,b∈s→b.toNat<128) (hl:s.length<1000000) (hf:Lib.fields s=l):Z5 N s=some l:=by
 show (match small s&&Nat.blt s.length 1000000 with
  |true=>some (Lib.fields s)
  |false=>none)=some l
 rw[show (small s&&Nat.blt s.length 1000000)=true by
  unfold small
  rw[Bool.and_eq_true,List.all_eq_true]
  exact⟨fun b hb=>by simpa using h b hb,by simpa using hl⟩,hf]
noncomputable def qh:List UInt8:=[100,101,102,101,114,32]
noncomputable def Gd:List UInt8:=[105,110,116,32,48,32]
theorem Ge {N:Nat} {n:Int} (h:iG n):Z5 N (qh++Lib.itoa n)=some [[100,101,102,101,114],Lib.itoa n]:=by
 obtain⟨h1,h2⟩:=uj (n:=n)
 have:=oU h
 refine B8 (fun b hb=>?_) (by rw[List.length_append];show 6+_<_;omega) ?_
 ·rcases List.mem_append.1 hb with hb | hb
  ·have : ∀ b, b ∈ qh → b.toNat < 128 := by decide
   exact this b hb
  ·exact (sn (h2 b hb)).2.2
 ·show [100, 101, 102, 101, 114] :: Lib.fieldsGo [] (Lib.itoa n) = _
  rw[n5 _ _ (fun b hb=>(sn (h2 b hb)).1) (by simpa using h1)];rfl
theorem LN {N:Nat} {n:Int} (h:iG n):Z5 N (Gd++Lib.itoa n)=some [[105,110,116],[48],Lib.itoa n]:=by
 obtain⟨h1,h2⟩:=uj (n:=n)
 have:=oU h
 refine B8 (fun b hb=>?_) (by rw[List.length_append];show 6+_<_;omega) ?_
 ·rcases List.mem_append.1 hb with hb | hb
  ·have : ∀ b, b ∈ Gd → b.toNat < 128 := by decide
   exact this b hb
  ·exact (sn (h2 b hb)).2.2
 ·show [105, 110, 116] :: [48] :: Lib.fieldsGo [] (Lib.itoa n) = _
  rw[n5 _ _ (fun b hb=>(sn (h2 b hb)).1) (by simpa using h1)];rfl
end Go.Proofs.YthphehfgekjooaaGreatDoor
namespace Go.Proofs.YthphehfgekjooaaGreatDoor
open Go Go.bq Go.Sym
open Classical
inductive Wd (N:Nat):List UInt8→Instr→Prop where
 |one {w p q:List UInt8} {o v:Int} : Z5 N w=some [p,q]→Xu N p=some (o,0)→Vj N q=some (v,false)→Wd N w (o,v,0,0)
 |two {w p q r:List UInt8} {o v u:Int} : Z5 N w=some [p,q,r]→Xu N p=some (o,0)→Vj N q=some (v,false)→Vj N r=some (u,false)→Wd N w (o,v,u,0)
theorem Pn {N k:Nat} {e:List (List UInt8)} {i:Nat} {a:List Instr} {w:List UInt8} {x:Instr} (hi:e[i]?=some w) (al8:i≤100) (ha:a.length≤100) (h:Wd N w x):f11.ct N (k+1) (0,e,(e.length:Int),(i:Int),a)=f11.ct N k (0,e,(e.length:Int),((i+1:Nat):Int),a++[x]):=by
 have hl:=aN hi
 have hr:room (a.length+1) 32=true:=az (by omega) (by omega)
 cases h with
 |one h1 h2 h3=>
  rename_i p q o v
  simp only[show idx [p,q] 0=some p from rfl,show idx [p,q] 1=some q from rfl,f11.ct.eq_2,bg hl,av,aT hi,Option.bind_some,h1,h2,h3,List.length_cons,List.length_nil,show decide ((0:Int)<((0+1+1:Nat):Int))=true from rfl,show decide ((1:Int)<((0+1+1:Nat):Int))=true from rfl,show decide ((2:Int)<((0+1+1:Nat):Int))=false from rfl,show ((0:Int) != 0)=false from rfl,ai,hr,aj,aE (show i<9223372036854775807 by omega)]
 |two h1 h2 h3 h4=>
  rename_i p q r o v u
  simp only[show idx [p,q,r] 0=some p from rfl,show idx [p,q,r] 1=some q from rfl,show idx [p,q,r] 2=some r from rfl,f11.ct.eq_2,bg hl,av,aT hi,Option.bind_some,h1,h2,h3,h4,List.length_cons,List.length_nil,show decide ((0:Int)<((0+1+1+1:Nat):Int))=true from rfl,show decide ((1:Int)<((0+1+1+1:Nat):Int))=true from rfl,show decide ((2:Int)<((0+1+1+1:Nat):Int))=true from rfl,show decide ((3:Int)<((0+1+1+1:Nat):Int))=false from rfl,show ((0:Int) != 0)=false from rfl,ai,hr,aj,aE (show i<9223372036854775807 by omega)]
theorem Jo {N:Nat} {e:List (List UInt8)} (he:e.length≤100):∀ (suf:List (List UInt8)) (xs:List Instr) (pre:List (List UInt8)) (a:List Instr) (k:Nat),aq (Wd N) suf xs→e=pre++suf→a.length≤pre.length→suf.length<k→f11.ct N k (0,e,(e.length:Int),(pre.length:Int),a)=some (a++xs)
 |[],[],pre,a,k+1,_,h,_,_=>by
  rw[List.append_nil] at h
  subst h
  rw[f11.ct.eq_2,bp,List.append_nil];rfl
 |w :: suf,x :: xs,pre,a,k+1,h,heq,ha,hk=>by
  have hlen:pre.length≤100:=by rw[heq,List.length_append] at he;omega
  have hi:e[pre.length]?=some w:=by rw[heq];simp
  rw[Pn hi hlen (by omega) h.1]
  have:=Jo he suf xs (pre++[w]) (a++[x]) k h.2 (by rw[heq];simp) (by simp;omega) (by simp only[List.length_cons] at hk;omega)
  rw[List.length_append,List.length_singleton] at this
  rw[this,List.append_assoc];rfl
 |_ :: _,[],_,_,_,h,_,_,_=>h.elim
 |[],_ :: _,_,_,_,h,_,_,_=>h.elim
 |_,_,_,_,0,_,_,_,h=>by omega
noncomputable def Tv:List UInt8:=[114,101,99,111,118,101,114,32,49,32,50]
noncomputable def Po:List UInt8:=[112,97,110,105,99,32,48]
noncomputable def Pp:List UInt8:=[114,101,116,117,114,110,32,45,49]
noncomputable def jk (r:Bool) (d:Option Nat) (x:Int):List (List UInt8):=(if r then [Tv] else [])++((match d with|some t=>[qh++Lib.itoa t]|none=>[])++[Gd++Lib.itoa x,Po,Pp])
noncomputable def Jp:Instr:=(29,1,2,0)
noncomputable def yU:Instr:=(28,0,0,0)
noncomputable def th (r:Bool) (d:Option Nat) (x:Int):List Instr:=(if r then [Jp] else [])++((match d with|some t=>[((26,(t:Int),0,0):Instr)]|none=>[])++[(1,0,x,0),yU,gu])
theorem Tw (N:Nat):Xu (N+60) [100,101,102,101,114]=some (26,0):=by kernel_rfl
theorem abP (N:Nat):Xu (N+60) [105,110,116]=some (1,0):=by kernel_rfl
theorem Tx (N:Nat):Wd (N+60) Tv Jp:=.two (p:=[114,101,99,111,118,101,114]) (q:=[49]) (r:=[50]) (by kernel_rfl) (by kernel_rfl) (by kernel_rfl) (by kernel_rfl)
theorem abQ (N:Nat):Wd (N+60) Po yU:=.one (p:=[112,97,110,105,99]) (q:=[48]) (by kernel_rfl) (by kernel_rfl) (by kernel_rfl)
theorem abR (N:Nat):Wd (N+60) Pp gu:=.one (p:=[114,101,116,117,114,110]) (q:=[45,49]) (by kernel_rfl) (by kernel_rfl) (by kernel_rfl)
theorem Tz {N:Nat} {t:Nat} (h:iG t):Wd (N+60) (qh++Lib.itoa t) (26,(t:Int),0,0):=.one (Ge h) (Tw N) (Ed h)
theorem abS {N:Nat} {x:Int} (h:iG x):Wd (N+60) (Gd++Lib.itoa x) (1,0,x,0):=.two (LN h) (abP N) (show Vj (N+60) [48]=some (0,false) by kernel_rfl) (Ed h)
theorem TA {N:Nat} {r:Bool} {d:Option Nat} {x:Int} (hx:iG x) (hd:∀ t,d=some t→t≤1000):aq (Wd (N+60)) (jk r d x) (th r d x):=by
 have hD:∀ t,d=some t→Wd (N+60) (qh++Lib.itoa (t:Int)) (26,(t:Int),0,0):=fun t ht=>Tz (by have:=hd t ht;unfold iG;omega)
 have base:aq (Wd (N+60)) [Gd++Lib.itoa x,Po,Pp] [(1,0,x,0),yU,gu]:=⟨abS hx,abQ N,abR N,trivial⟩
 cases d with
 |none=>cases r with
  |false=>exact base
  |true=>exact⟨Tx N,base⟩
 |some t=>cases r with
  |false=>exact⟨hD t rfl,base⟩
  |true=>exact⟨Tx N,hD t rfl,base⟩
theorem LO {r:Bool} {d:Option Nat} {x:Int} : ∀ w,w∈jk r d x→∀ b,b∈w→b≠59:=by
 have hn:∀ (n:Int) (p:List UInt8),(∀ b,b∈p→b≠59)→∀ b,b∈p++Lib.itoa n→b≠59:=fun n p hp b hb=>by
  rcases List.mem_append.1 hb with hb|hb
  ·exact hp b hb
  ·exact (sn (uj.2 b hb)).2.1
 intro w hw
 unfold jk at hw
 rcases List.mem_append.1 hw with hw|hw
 ·split at hw
  ·rw[List.mem_singleton.1 hw];decide
  ·cases hw
 rcases List.mem_append.1 hw with hw|hw
 ·split at hw
  ·rw[List.mem_singleton.1 hw];exact hn _ _ (by decide)
  ·cases hw
 ·simp only [List.mem_cons, List.not_mem_nil, or_false] at hw
  rcases hw with rfl|rfl|rfl
  ·exact hn _ _ (by decide)
  ·decide
  ·decide
theorem Pq {r:Bool} {d:Option Nat} {x:Int} : 3≤(jk r d x).length∧(jk r d x).length≤5:=by
 unfold jk
 cases r<;>cases d<;>simp
theorem Jq {r:Bool} {d:Option Nat} {x:Int} (hx:iG x) (hd:∀ t,d=some t→t≤1000):(ij (jk r d x)).length≤200:=by
 have h1:=oU hx
 cases d with
 |none=>cases r<;>(simp only[jk,ij,Tv,Po,Pp,Gd,qh,List.length_append,List.length_cons,List.length_nil,List.nil_append,List.cons_append,if_true,Bool.false_eq_true,if_false];omega)
 |some t=>
  have h2:=oU (n:=(t:Int)) (by have:=hd t rfl;unfold iG;omega)
  cases r<;>(simp only[jk,ij,Tv,Po,Pp,Gd,qh,List.length_append,List.length_cons,List.length_nil,List.nil_append,List.cons_append,if_true,Bool.false_eq_true,if_false];omega)
theorem TB {N:Nat} {r:Bool} {d:Option Nat} {x:Int} (hx:iG x) (hd:∀ t,d=some t→t≤1000):yM (N+60) (ij (jk r d x),0)=some (th r d x):=by
 have hs:=Jq (r:=r) hx hd
 have hl:=Pq (r:=r) (d:=d) (x:=x)
 rw[yM.eq_1,Pm LO (by omega) (by omega),Option.bind_some]
 have:=Jo (N:=N+60) (e:=jk r d x) (by omega) (jk r d x) (th r d x) [] [] (N+60) (TA hx hd) rfl (by simp) (by omega)
 rw[show ((([]:List (List UInt8)).length:Nat):Int)=0 from rfl,List.nil_append] at this
 rw[this];rfl
end Go.Proofs.YthphehfgekjooaaGreatDoor
namespace Go.Proofs.YthphehfgekjooaaGreatDoor
open Go Go.bq Go.Sym
open Classical
noncomputable def qz:List Field:=[([110],0),([111,110],1),([107],0)]
noncomputable def eT:List aI:=[(2,0,0,[]),(1,0,0,[])]
noncomputable def qp (i:Nat):List UInt8:=if i=0 then nQ else 102 :: U7 i
noncomputable def mj (n i:Nat):Option Nat:=if i+1<n then some (i+1) else none
noncomputable def TC (rs:List Bool) (i:Nat):Bool:=if i=0 then false else rs.getD (i-1) false
noncomputable def Gf (l:List Int) (rs:List Bool) (i:Nat):List Instr:=th (TC rs i) (mj l.length i) (l.getD i 0)
noncomputable def fnH (Q:RQ) (l:List Int) (rs:List Bool) (i:Nat):Func:=(qp i,0,-1,qz,Gf l rs i,(Q i).1,(Q i).2)
noncomputable def yz (Q:RQ) (l:List Int) (rs:List Bool):List Func:=(List.range l.length).map (fnH Q l rs)
theorem pH {n:Nat} (h:n≤1000):(!decide (((n:Nat):Int)>IntKind.i64.max))=true:=by
 rw[show IntKind.i64.max=9223372036854775807 from rfl,Bool.not_eq_true',decide_eq_false_iff_not]
 omega
theorem B9 {N k:Nat} (h:k<100):TM N (k:Int)=some (Lib.itoa (k:Int))∧Lib.itoa (k:Int)=U7 k∧(U7 k).length≤2:=by
 have e:=Ec (n:=(k:Int)) (by unfold iG;omega)
 refine⟨e,?_,?_⟩
 ·have e2 : vp (k : Int) = (match Nat.blt k 100 with
   |true=>some (U7 k)
   |false=>match Nat.ble k 9223372036854775807 with
    |true=>some (Lib.itoa (k:Int))
    |false=>none):=rfl
  rw[show Nat.blt k 100=true by simpa using h,e] at e2
  exact Option.some.inj e2
 ·unfold U7;split<;>simp
noncomputable def Jr:List UInt8:=[114,101,99,111,118,101,114,32,49,32,50,59,32]
noncomputable def TD:List UInt8:=[59,32,112,97,110,105,99,32,48,59,32,114,101,116,117,114,110,32,45,49]
noncomputable def LP (r:Bool) (d:Option Nat):List UInt8:=match d with
 |some t=>(if r then Jr else [])++((qh++Lib.itoa (t:Int))++[59,32])
 |none=>(if r then Jr else [])
theorem TE (r:Bool) (d:Option Nat) (x:Int):LP r d++((Gd++Lib.itoa x)++TD)=ij (jk r d x):=by
 have e1:Jr=Tv++[59,32]:=rfl
 have e2:TD=[59,32]++(Po++([59,32]++Pp)):=rfl
 cases r<;>cases d<;>simp[LP,jk,ij,e1,e2,List.append_assoc]
theorem abU (N:Nat) (nm:List UInt8) (c:List Instr):KL (N+60) (nm,[110,32,48,32,111,110,32,49,32,107,32,48],0,-1,c)=some (nm,0,-1,qz,c,[(0,0)],[(0,0)]):=by kernel_rfl
theorem LQ {N k i:Nat} {l:List Int} {rs:List Bool} {x:Int} {ts:List aI} {b:List Func} (hl:l.length≤20) (hr:rs.length+1=l.length) (hx:l[i]?=some x) (YL:iG x) (hb:b.length≤100) :
  f6.ct (N+60) (k+1) (l,rs,l,(l.length:Int),(i:Int),ts,b)=f6.ct (N+60) k (l,rs,l,(l.length:Int),((i+1:Nat):Int),ts,b++[fnH Q0 l rs i]):=by
 have hi:=aN hx
 have hxl:=oU YL
 have Gj:TM (N+60) x=some (Lib.itoa x):=Ec YL
 obtain⟨i1,i2,i3⟩:=B9 (N:=N+60) (k:=i) (by omega)
 obtain⟨j1,j2,j3⟩:=B9 (N:=N+60) (k:=i+1) (by omega)
 have hw:ah ((i:Int)+1)=((i+1:Nat):Int):=aE (by omega)
 have hroom:room (b.length+1) 128=true:=az (by omega) (by omega)
 have hcd:∀ r,yM (N+60) (ij (jk r (mj l.length i) x),0)=some (th r (mj l.length i) x):=fun r=>TB YL fun t ht=>by
  unfold mj at ht
  split at ht
  ·injection ht;omega
  ·cases ht
 have od:l.getD i 0=x:=by rw[List.getD_eq_getElem?_getD,hx];rfl
 have hpre:∀ (r:Bool) (m:List UInt8),m=(if r then Jr else [])→(bif (decide (((i+1:Nat):Int)<(l.length:Int))) then (Option.bind (TM (N+60) ((i+1:Nat):Int)) fun d=>(aM (!decide ((([100,101,102,101,114,32].length+d.length:Nat):Int)>IntKind.i64.max)) (aM (!decide (((([100,101,102,101,114,32]++d).length+[59,32].length:Nat):Int)>IntKind.i64.max)) (aM (!decide (((m.length+(([100,101,102,101,114,32]++d)++[59,32]).length:Nat):Int)>IntKind.i64.max)) (some (m++(([100,101,102,101,114,32]++d)++[59,32]))))))) else some m)=some (LP r (mj l.length i))∧(LP r (mj l.length i)).length≤100:=fun r m hm=>by
  subst hm
  have hrl:(if r then Jr else []).length≤13:=by cases r<;>simp[Jr]
  by_cases hn:i+1<l.length
  ·rw [decide_eq_true (by omega), av, j1, Option.bind_some, pH (by rw [j2]; simp only [List.length_cons, List.length_nil]; omega), aj, pH (by rw [j2]; simp only [List.length_append, List.length_cons, List.length_nil]; omega), aj, pH (by rw [j2]; simp only [List.length_append, List.length_cons, List.length_nil] at hrl ⊢; omega), aj]
   unfold mj
   rw[if_pos hn]
   refine⟨rfl,?_⟩
   unfold LP qh
   simp only[List.length_append,List.length_cons,List.length_nil] at hrl ⊢
   rw[j2]
   omega
  ·rw [decide_eq_false (by omega), ai]
   unfold mj
   rw[if_neg hn]
   exact⟨rfl,by show (if r then Jr else []).length≤100;omega⟩
 have fin:∀ (r:Bool) (nm:List UInt8) (K:List Func→Option (List aI×List Func)),(Option.bind (TM (N+60) x) fun e=>(aM (!decide ((([105,110,116,32,48,32].length+e.length:Nat):Int)>IntKind.i64.max)) (aM (!decide (((([105,110,116,32,48,32]++e).length+[59,32,112,97,110,105,99,32,48,59,32,114,101,116,117,114,110,32,45,49].length:Nat):Int)>IntKind.i64.max)) (aM (!decide ((((LP r (mj l.length i)).length+(([105,110,116,32,48,32]++e)++[59,32,112,97,110,105,99,32,48,59,32,114,101,116,117,114,110,32,45,49]).length:Nat):Int)>IntKind.i64.max)) (Option.bind (yM (N+60) ((LP r (mj l.length i)++(([105,110,116,32,48,32]++e)++[59,32,112,97,110,105,99,32,48,59,32,114,101,116,117,114,110,32,45,49])),0)) fun s=>(Option.bind (KL (N+60) (nm,[110,32,48,32,111,110,32,49,32,107,32,48],0,(-1),s)) fun t=>(aM (room (b.length+1) 128) (K (b++[t])))))))))=K (b++[(nm,0,-1,qz,th r (mj l.length i) x,[(0,0)],[(0,0)])]):=fun r nm K=>by
  have hp:=(hpre r _ rfl).2
  have ej:=TE r (mj l.length i) x
  unfold Gd TD at ej
  rw[Gj,Option.bind_some,pH (by simp only[List.length_cons,List.length_nil];omega),aj,pH (by simp only[List.length_append,List.length_cons,List.length_nil];omega),aj,pH (by simp only[List.length_append,List.length_cons,List.length_nil];omega),aj,ej,hcd r,Option.bind_some,abU,Option.bind_some,hroom,aj]
 rw[f6.ct.eq_2,bg hi,av,aT hx,Option.bind_some]
 unfold fnH Gf
 rw[od]
 by_cases h0:i=0
 ·have hp := (hpre false [] rfl).1
  rw[decide_eq_false (show ¬(i:Int)>0 by omega),ai,hw,hp,Option.bind_some,fin false [109,97,105,110] fun b=>f6.ct (N+60) k (l,rs,l,(l.length:Int),((i+1:Nat):Int),ts,b)]
  subst h0
  rfl
 ·obtain ⟨r, hrr⟩ : ∃ r, rs[i - 1]? = some r := ⟨_, List.getElem?_eq_getElem (by omega)⟩
  have hp:=(hpre r _ rfl).1
  have hw1:ah ((i:Int)-1)=((i-1:Nat):Int):=by rw[bn (by omega)];omega
  have hcr:(bif r then some ([114,101,99,111,118,101,114,32,49,32,50,59,32]:List UInt8) else some ([]:List UInt8))=some (if r then Jr else []):=by cases r<;>rfl
  have aiX:TC rs i=r:=by unfold TC;rw[if_neg h0,List.getD_eq_getElem?_getD,hrr];rfl
  have hnm:qp i=[102]++Lib.itoa (i:Int):=by unfold qp;rw[if_neg h0,i2];rfl
  rw[decide_eq_true (show (i:Int)>0 by omega),av,i1,Option.bind_some,pH (by rw[i2];simp only[List.length_cons,List.length_nil];omega),aj,hw1,aT hrr,Option.bind_some,hcr,Option.bind_some,hw,hp,Option.bind_some,fin r ([102]++Lib.itoa (i:Int)) fun b=>f6.ct (N+60) k (l,rs,l,(l.length:Int),((i+1:Nat):Int),ts,b),aiX,hnm]
  rfl
theorem LR {N:Nat} {l:List Int} {rs:List Bool} (hl:l.length≤20) (hr:rs.length+1=l.length) (YL:∀ x,x∈l→iG x):f6.ct (N+60) (N+60) (l,rs,l,(l.length:Int),0,eT,[])=some (eT,yz Q0 l rs):=by
 obtain⟨s,h1,h2⟩:=jX (l:=l) (g:=fun s:List Func=>(eT,s)) (Inv:=fun i s=>s=(List.range i).map (fnH Q0 l rs))
  (Lf:=fun k i s=>f6.ct (N+60) k (l,rs,l,(l.length:Int),i,eT,s))
  (fun k s _=>by simp only[f6.ct.eq_2,bp,ai])
  (fun k i x s hx h => by
   have hi:=aN hx
   refine⟨_,?_,LQ hl hr hx (YL x (bD hx)) (by rw[h,List.length_map,List.length_range];omega)⟩
   rw[h,List.range_succ,List.map_append];rfl)
  (k:=N+60) (s:=[]) rfl (by omega)
 rw[h2,h1];rfl
end Go.Proofs.YthphehfgekjooaaGreatDoor
