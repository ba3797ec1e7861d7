/- A part of the proof: SymO, Law12aca, Plain2, Law12acb, Law12acc. -/
import Derived.Test.YthphehfgekjooaaGreatDoorTab12ac
import Derived.Laws.Rows
import Derived.ChangeSame
import Derived.JoinedOf
import Derived.JoinedAt
import Derived.JoinedStill
import Derived.RowKit
import Derived.ProofKit
import GoSem.Claim
import GoSem.ClaimJoined
import GoSem.ClaimMapViews
import Derived.JoinedTies
import Derived.KernelRfl
import Derived.Test.YthphehfgekjooaaGreatDoorGen12ac
set_option linter.unusedVariables false
set_option linter.unusedSimpArgs false
namespace Go.Sym
open Go Go.bq
theorem Sd {d:eS} {r:List eS} : Xo (d :: r)↔d.t.ok d.v∧Xo r:=by simp[Xo]
theorem ye {H:Type} {enc:TypeId×Value→H} {P:Program} {w:World} {base:Nat} {sp:Nat→Bool} {held:Bool} : ∀ {ts:List TypeId} {vs:List Value} {ds:List (DataW H)} {ps:List MemPlace},DataW.TrodAll enc P w base sp held ts vs ds ps→ds.length=ts.length
 |[],[],[],_,_=>rfl
 |_ :: _,_ :: _,_ :: _,_,h=>by
  obtain⟨p,q,_,h2,_⟩:=h
  simp[ye h2]
 |[],_ :: _,_,_,h=>h.elim
 |[],[],_ :: _,_,h=>h.elim
 |_ :: _,[],_,_,h=>h.elim
 |_ :: _,_ :: _,[],_,h=>h.elim
theorem V6 (P:Program):Oh P none:=fun _ h=>by cases h
theorem V7 {P:Program} {W:World} {b:Nat} {args:Array Value} {params:Array TypeId} {l:List vl} (hp:params=(l.map (·.1)).toArray) (h:∀ (j:Nat) t v,params[j]?=some t→args[j]?=some v→Value.okWide P W .any b t v) :
  ∀ (j:Nat) (p:vl) v,l[j]?=some p→args[j]?=some v→Value.okWide P W .any b p.1 v:=fun j p v hj hv=>h j p.1 v (by grind) hv
end Go.Sym
namespace Go.Proofs.YthphehfgekjooaaGreatDoor
open Go Go.bq Go.Sym
theorem jW (a b:Bool):(bif a then some true else some b:Option Bool)=some (a||b):=by cases a<;>rfl
theorem FA (a b:Bool):(bif a then some b else some false:Option Bool)=some (a&&b):=by cases a<;>rfl
theorem av {α : Type} (a b : α):(bif true then a else b)=a:=rfl
theorem ai {α : Type} (a b : α):(bif false then a else b)=b:=rfl
noncomputable def U (c:UInt8):Int×Int×Bool×Bool:=
 if c=119 then (0,15,false,true) else if c=114 then (0,15,true,false) else if c=110 then (-9223372036854775808,9223372036854775807,false,false)
 else if c=116 then (0,31,false,false) else if c=99 then (0,31,false,false) else if c=98 then (0,1,false,false) else if c=102 then (0,7,false,false)
 else if c=105 then (0,199,false,false) else if c=103 then (-1,15,false,true) else if c=101 then (-1,15,true,false) else (0,0,false,false)
noncomputable def FB (c:UInt8):Bool:=[119,114,110,116,99,98,102,105,103,101,45].contains c
noncomputable def aa6:List (UInt8×UInt8×UInt8):=[(119,110,45),(119,116,45),(119,98,45),(119,45,45),(119,114,45),(119,114,114),(119,114,114),(119,114,114),(119,114,114),(119,114,114),(119,114,114),(119,114,45),(119,114,102),(114,102,114),(119,45,45),(119,114,45),(114,114,45),(119,114,45),(119,114,114),(114,114,114),(119,114,45),(105,45,45),(114,105,45),(114,45,45),(103,99,45),(99,45,45),(99,45,45),(114,45,45),(119,119,45),(45,45,45),(45,45,45),(114,45,45),(119,114,45),(101,45,45)]
noncomputable def Gt (op:Int):Option (UInt8×UInt8×UInt8):=if 1≤op∧op≤34 then aa6[(op-1).toNat]? else none
theorem DN (p0:Int):(1≤p0∧p0≤34)∨∀ k:Int,1≤k→k≤34→(p0==k)=false:=by
 by_cases h:1≤p0∧p0≤34
 ·exact .inl h
 ·exact .inr fun k h1 h2=>by simp;omega
theorem KY {N:Nat} {p0:Int} (ne:∀ k:Int,1≤k→k≤34→(p0==k)=false):RD N p0=some ((0:Int),(0:Int),false,false,(0:Int),(0:Int),false,false,(0:Int),(0:Int),false,false,(-1:Int)):=by
 simp only[RD.eq_1,ne 1 (by decide) (by decide),ne 2 (by decide) (by decide),ne 3 (by decide) (by decide),ne 4 (by decide) (by decide),ne 5 (by decide) (by decide),ne 6 (by decide) (by decide),ne 7 (by decide) (by decide),ne 8 (by decide) (by decide),ne 9 (by decide) (by decide),ne 10 (by decide) (by decide),ne 11 (by decide) (by decide),ne 12 (by decide) (by decide),ne 13 (by decide) (by decide),ne 14 (by decide) (by decide),ne 15 (by decide) (by decide),ne 16 (by decide) (by decide),ne 17 (by decide) (by decide),ne 18 (by decide) (by decide),ne 19 (by decide) (by decide),ne 20 (by decide) (by decide),ne 21 (by decide) (by decide),ne 22 (by decide) (by decide),ne 23 (by decide) (by decide),ne 24 (by decide) (by decide),ne 25 (by decide) (by decide),ne 26 (by decide) (by decide),ne 27 (by decide) (by decide),ne 28 (by decide) (by decide),ne 29 (by decide) (by decide),ne 30 (by decide) (by decide),ne 31 (by decide) (by decide),ne 32 (by decide) (by decide),ne 33 (by decide) (by decide),ne 34 (by decide) (by decide),ai,jW,Bool.or_false,Option.bind_some]
theorem MM {p0:Int} (ne:∀ k:Int,1≤k→k≤34→(p0==k)=false):Gt p0=none:=by
 unfold Gt
 rw[if_neg fun h=>by have:=ne p0 h.1 h.2;simp at this]
theorem V8:(aa6.all fun s=>(FB s.1&&(FB s.2.1&&FB s.2.2))&&((!(s.1==45)||s.2.1==45)&&(!(s.2.1==45)||s.2.2==45)))=true:=by decide
theorem V9 {p0:Int} {s:UInt8×UInt8×UInt8} (h:Gt p0=some s):s∈aa6:=by
 unfold Gt at h
 split at h
 ·exact List.mem_of_getElem? h
 ·cases h
noncomputable def cnt (a b c:UInt8):Int:=if c≠45 then 3 else if b≠45 then 2 else if a≠45 then 1 else 0
theorem Se (a b c:UInt8):decide (cnt a b c<0)=false:=by
 unfold cnt
 split
 ·rfl
 ·split
  ·rfl
  ·split<;>rfl
theorem p5 (N:Nat) (p0:Int):RD N p0=some (match Gt p0 with
  |some (a,b,c)=>((U a).1,(U a).2.1,(U a).2.2.1,(U a).2.2.2,(U b).1,(U b).2.1,(U b).2.2.1,(U b).2.2.2,(U c).1,(U c).2.1,(U c).2.2.1,(U c).2.2.2,cnt a b c)
  |none=>((0:Int),(0:Int),false,false,(0:Int),(0:Int),false,false,(0:Int),(0:Int),false,false,(-1:Int))):=by
 rcases DN p0 with h|ne
 ·have : p0 = 1 ∨ p0 = 2 ∨ p0 = 3 ∨ p0 = 4 ∨ p0 = 5 ∨ p0 = 6 ∨ p0 = 7 ∨ p0 = 8 ∨ p0 = 9 ∨ p0 = 10 ∨ p0 = 11 ∨ p0 = 12 ∨ p0 = 13 ∨ p0 = 14 ∨ p0 = 15 ∨ p0 = 16 ∨ p0 = 17 ∨ p0 = 18 ∨ p0 = 19 ∨ p0 = 20 ∨ p0 = 21 ∨ p0 = 22 ∨ p0 = 23 ∨ p0 = 24 ∨ p0 = 25 ∨ p0 = 26 ∨ p0 = 27 ∨ p0 = 28 ∨ p0 = 29 ∨ p0 = 30 ∨ p0 = 31 ∨ p0 = 32 ∨ p0 = 33 ∨ p0 = 34 := by omega
  rcases this with rfl|rfl|rfl|rfl|rfl|rfl|rfl|rfl|rfl|rfl|rfl|rfl|rfl|rfl|rfl|rfl|rfl|rfl|rfl|rfl|rfl|rfl|rfl|rfl|rfl|rfl|rfl|rfl|rfl|rfl|rfl|rfl|rfl|rfl<;>(simp only[RD.eq_1,vu.eq_1,RB.eq_1,yN.eq_1,qw.eq_1,Option.bind_some];rfl)
 ·rw[KY ne,MM ne]
theorem IE {p0:Int} {a b c:UInt8} (h:Gt p0=some (a,b,c)):(a=45→b=45)∧(b=45→c=45):=by
 have:=List.all_eq_true.1 V8 _ (V9 h)
 simp only[Bool.and_eq_true,Bool.or_eq_true,Bool.not_eq_true',beq_eq_false_iff_ne,beq_iff_eq] at this
 exact⟨fun e=>this.2.1.resolve_left fun n=>n e,fun e=>this.2.2.resolve_left fun n=>n e⟩
noncomputable def i64 (v:Int):Prop:=-9223372036854775808≤v∧v≤9223372036854775807
noncomputable def fits (c:UInt8) (v:Int):Bool:=decide ((U c).1≤v)&&decide (v≤(U c).2.1)
noncomputable def fk (x:Instr):Bool:=
 match Gt x.1 with
 |some (a,b,c)=>fits a x.2.1&&(fits b x.2.2.1&&fits c x.2.2.2)
 |none=>false
noncomputable def JB (x:Instr):Prop:=i64 x.2.1∧i64 x.2.2.1∧i64 x.2.2.2
theorem aeX (c:UInt8) (v:Int):(decide (v<(U c).1)||decide (v>(U c).2.1)) = !fits c v:=by
 unfold fits
 by_cases h1:v<(U c).1
 ·simp[h1,show ¬(U c).1≤v by omega]
 ·by_cases h2 : v > (U c).2.1
  ·simp[h2,show ¬v≤(U c).2.1 by omega]
  ·simp[h1,h2,show (U c).1≤v by omega,show v≤(U c).2.1 by omega]
theorem oP (N:Nat) (x:Instr):yO N (x.1,x.2.1,x.2.2.1,x.2.2.2)=some (bif fk x then 0 else 8):=by
 rw[yO.eq_1,p5,Option.bind_some]
 unfold fk
 cases Gt x.1 with
 |none=>rfl
 |some s=>
  obtain⟨a,b,c⟩:=s
  simp only[Vu.eq_1,Option.bind_some,Se,ai,jW,aeX]
  cases fits a x.2.1<;>cases fits b x.2.2.1<;>cases fits c x.2.2.2<;>rfl
end Go.Proofs.YthphehfgekjooaaGreatDoor
namespace Go.Sym
open Go Go.bq
theorem aN {α : Type} {l:List α} {i:Nat} {x : α} (h:l[i]?=some x):i<l.length:=(List.getElem?_eq_some_iff.1 h).1
theorem bD {α : Type} {l:List α} {i:Nat} {x : α} (h:l[i]?=some x):x∈l:=List.mem_of_getElem? h
theorem take_succ {α : Type} {l:List α} {i:Nat} {x : α} (h:l[i]?=some x):l.take (i+1)=l.take i++[x]:=by
 obtain⟨h1,h2⟩:=List.getElem?_eq_some_iff.1 h
 rw[List.take_succ_eq_append_getElem h1,h2]
theorem az {n b:Nat} (h1:n≤10000000) (h2:b≤1000):room n b=true:=by
 refine MK (by omega) ?_
 have:=Nat.mul_le_mul h1 h2
 omega
theorem DO {α : Type} {l:List α} {i:Nat} (h:i<l.length):∃ x,l[i]?=some x:=⟨_,List.getElem?_eq_getElem h⟩
open Classical in
theorem mY {β : Type} {n:Nat} {a b : β} {q:Nat→Bool} {Lf:Nat→Int→Option β} (h0:∀ k,(∀ j,j<n→q j=false)→Lf (k+1) (n:Int)=some a)
  (hs:∀ (k i:Nat),i<n→(∀ j,j<i→q j=false)→Lf (k+1) (i:Int)=if q i=true then some b else Lf k ((i+1:Nat):Int)) {k:Nat} (hk:n<k) :
  Lf k 0=some (if ∃ i,i<n∧q i=true then b else a):=by
 have key:∀ k i,i≤n→n-i<k→(∀ j,j<i→q j=false)→Lf k (i:Int)=some (if ∃ j,j<n∧q j=true then b else a):=by
  intro k
  induction k with
  |zero=>omega
  | succ k ih =>
   intro i hi hk hq
   by_cases he:i=n
   ·subst he
    rw[h0 k hq,if_neg (fun⟨j,h1,h2⟩=>by rw[hq j h1] at h2;cases h2)]
   ·rw [hs k i (by omega) hq]
    by_cases hb:q i=true
    ·rw[if_pos hb,if_pos ⟨i,by omega,hb⟩]
    ·rw [if_neg hb]
     refine ih (i+1) (by omega) (by omega) fun j hj=>?_
     by_cases hji:j=i
     ·subst hji;simpa using hb
     ·exact hq j (by omega)
 exact key k 0 (by omega) (by omega) fun j hj=>by omega
open Classical in
theorem rV {α β : Type} {l:List α} {a b : β} {p : α→Bool} {Lf:Nat→Int→Option β} (h0:∀ k,(∀ x,x∈l→p x=false)→Lf (k+1) (l.length:Int)=some a)
  (hs:∀ (k i:Nat) x,l[i]?=some x→x∈l→Lf (k+1) (i:Int)=if p x=true then some b else Lf k ((i+1:Nat):Int)) {k:Nat} (hk:l.length<k) :
  Lf k 0=some (if ∃ x,x∈l∧p x=true then b else a):=by
 rw[mY (n:=l.length) (a:=a) (b:=b) (q:=fun i=>((l[i]?).map p).getD false) (Lf:=Lf) (fun k hq=>h0 k fun x hx=>?_) (fun k i hi _=>?_) hk]
 ·have hiff : (∃ i, i < l.length ∧ ((l[i]?).map p).getD false = true) ↔ ∃ x, x ∈ l ∧ p x = true := ⟨fun ⟨i, h1, h2⟩ => by
   obtain⟨x,hx⟩:=DO h1
   rw[hx] at h2
   exact⟨x,bD hx,h2⟩,fun⟨x,h1,h2⟩=>by
   obtain⟨i,h3,rfl⟩:=List.mem_iff_getElem.1 h1
   exact⟨i,h3,by rw[List.getElem?_eq_getElem h3];exact h2⟩⟩
  simp_all
 ·obtain⟨i,h3,rfl⟩:=List.mem_iff_getElem.1 hx<;>grind
 grind
theorem oQ {α β γ : Type} {l:List α} {Lf:Nat→Int→List γ→Option β} {enc : α→List γ} {g:List γ→β} {B m:Nat} (h0:∀ k s,Lf (k+1) (l.length:Int) s=some (g s))
  (hs:∀ k (i:Nat) x s,l[i]?=some x→x∈l→s.length≤B→Lf (k+1) (i:Int) s=Lf k ((i+1:Nat):Int) (s++enc x)) (hm:∀ x,x∈l→(enc x).length≤m) {k:Nat} {s:List γ} (hk:l.length<k) (hB:s.length+l.length*m≤B) :
  Lf k 0 s=some (g (s++l.flatMap enc)):=by
 have key:∀ k (i:Nat) s,i≤l.length→l.length-i<k→s.length+(l.length-i)*m≤B→Lf k (i:Int) s=some (g (s++(l.drop i).flatMap enc)):=by
  intro k
  induction k with
  |zero=>omega
  | succ k ih =>
   intro i s hi hk hB
   by_cases he:i=l.length
   ·grind
   ·have hl : i < l.length := by omega
    have e1:=List.getElem?_eq_getElem hl
    have JL:=hm _ (List.getElem_mem hl)
    have e3:(l.length-i)*m=m+(l.length-(i+1))*m:=by
     rw[show l.length-i=1+(l.length-(i+1)) by omega,Nat.add_mul,Nat.one_mul]
    rw[hs k i _ s e1 (List.getElem_mem hl) (by omega),ih (i+1) _ (by omega) (by omega) (by rw[List.length_append];omega)]
    rw[List.drop_eq_getElem_cons hl,List.flatMap_cons,List.append_assoc]
 have:=key k 0 s (by omega) (by omega) (by rw[Nat.sub_zero];exact hB)<;>grind
theorem fm {α γ : Type} {l:List α} {enc : α→List γ} {m:Nat} (h:∀ x,x∈l→(enc x).length≤m):(l.flatMap enc).length≤l.length*m:=by
 induction l with
 |nil=>simp
 |cons x r ih=>
  rw[List.flatMap_cons,List.length_append,List.length_cons,Nat.add_mul]<;>grind
theorem jX {α σ β : Type} {l:List α} {Lf:Nat→Int→σ→Option β} {Inv:Nat→σ→Prop} {g : σ→β} (h0:∀ k s,Inv l.length s→Lf (k+1) (l.length:Int) s=some (g s))
  (hs:∀ k (i:Nat) x s,l[i]?=some x→Inv i s→∃ s',Inv (i+1) s'∧Lf (k+1) (i:Int) s=Lf k ((i+1:Nat):Int) s') {k:Nat} {s : σ} (h:Inv 0 s) (hk:l.length<k) :
  ∃ s',Inv l.length s'∧Lf k 0 s=some (g s'):=by
 have key:∀ k (i:Nat) s,i≤l.length→l.length-i<k→Inv i s→∃ s',Inv l.length s'∧Lf k (i:Int) s=some (g s'):=by
  intro k
  induction k with
  |zero=>omega
  |succ k ih=>
   intro i s hi hk hI
   by_cases he:i=l.length
   ·grind
   ·obtain⟨s',h1,h2⟩:=hs k i _ s (List.getElem?_eq_getElem (by omega)) hI<;>grind
 exact key k 0 s (by omega) (by omega) h
theorem FC {α σ β : Type} {l:List α} {Lf:Nat→Int→σ→Option β} {Inv:Nat→σ→Prop} {Out : β→Prop} {g : σ→β} (h0:∀ k s,Inv l.length s→Lf (k+1) (l.length:Int) s=some (g s))
  (hs:∀ k (i:Nat) x s,l[i]?=some x→Inv i s→(∃ r,Out r∧Lf (k+1) (i:Int) s=some r)∨∃ s',Inv (i+1) s'∧Lf (k+1) (i:Int) s=Lf k ((i+1:Nat):Int) s') {k:Nat} {s : σ} (h:Inv 0 s) (hk:l.length<k) :
  (∃ r,Out r∧Lf k 0 s=some r)∨∃ s',Inv l.length s'∧Lf k 0 s=some (g s'):=by
 have key:∀ k (i:Nat) s,i≤l.length→l.length-i<k→Inv i s→(∃ r,Out r∧Lf k (i:Int) s=some r)∨∃ s',Inv l.length s'∧Lf k (i:Int) s=some (g s'):=by
  intro k
  induction k with
  |zero=>omega
  |succ k ih=>
   intro i s hi hk hI
   by_cases he:i=l.length
   ·grind
   ·rcases hs k i _ s (List.getElem?_eq_getElem (by omega)) hI with h|⟨s',h1,h2⟩<;>grind
 exact key k 0 s (by omega) (by omega) h
def qx:Nat→Nat→List Int
 |0,n=>[(n:Int)]
 |k+1,n=>if n<128 then [(n:Int)] else ((n % 128+128:Nat):Int) :: qx k (n / 128)
def V (n:Nat):List Int:=qx 9 n
theorem IF:∀ k n,1≤(qx k n).length∧(qx k n).length≤k+1
 |0,n=>by simp[qx]
 |k+1,n=>by
  have:=IF k (n / 128)<;>grind[qx]
theorem cO (n:Nat):1≤(V n).length∧(V n).length≤10:=IF 9 n
theorem zo (n:Nat):JA (n:Int)=((n % 256:Nat):Int):=by
 show IntKind.u8.wrap (n:Int)=_
 rw[IntKind.wrap_u8];omega
theorem iW {n:Nat} (h:n<18446744073709551616):cg (n:Int)=(n:Int):=jN (by omega)
theorem lP {n:Nat} (h:n≤9223372036854775807):ah (n:Int)=(n:Int):=bn (by omega)
theorem Sf:∀ a:Nat,a<256→zk .u8 ((a:Nat):Int) (128:Int)=((a % 128+128:Nat):Int):=by decide +kernel
theorem vA (a b:Nat):Int.fdiv (a:Int) (b:Int)=((a / b:Nat):Int):=by
 grind
theorem IG (a b:Nat):Int.tdiv (a:Int) (b:Int)=((a / b:Nat):Int):=by
 rfl
theorem vB (a b:Nat):Int.tmod (a:Int) (b:Int)=((a % b:Nat):Int):=by
 rfl
def Ce (n:Int):Nat:=if 0≤n then (2*n).toNat else (-2*n-1).toNat
theorem FD {n:Int} (h : -9223372036854775808≤n∧n≤9223372036854775807):Ce n<18446744073709551616:=by
 grind[Ce]
theorem Wa {α : Type} {p q:Prop} {ip:Decidable p} {iq:Decidable q} {a b : α} (h:p↔q) : @ite α p ip a b = @ite α q iq a b:=by
 grind
theorem dc {p:Prop} {i:Decidable p} (h:p) : @decide p i=true:=decide_eq_true h
theorem cu {p:Prop} {i:Decidable p} (h:¬p) : @decide p i=false:=decide_eq_false h
theorem cl (s:List UInt8):(bx s).length=s.length:=by simp[bx]
end Go.Sym
namespace Go.Proofs.YthphehfgekjooaaGreatDoor
open Go Go.bq Go.Sym
theorem DP (N:Nat):∀ (j k n:Nat) (pre:List Int),n<128 ^ (j+1)→j<k→pre.length+j≤1000→∃ (m:Nat) (l:List Int),f57.kM N k ((n:Int),pre)=some ((m:Int),pre++l)∧qx j n=l++[(m:Int)]∧m<128∧l.length≤j
 |j,0,n,pre,_,h,_=>by omega
 |0,k+1,n,pre,hn,_,_=>by
  refine⟨n,[],?_,rfl,by omega,by simp⟩
  rw[f57.kM.eq_2,decide_eq_false (by omega),ai,List.append_nil]
 | j + 1, k + 1, n, pre, hn, hk, hp => by
  rw[f57.kM.eq_2]
  by_cases h:n<128
  ·refine ⟨n, [], ?_, by rw [qx, if_pos h]; rfl, h, by simp⟩
   rw[decide_eq_false (by omega),ai,List.append_nil]
  ·obtain ⟨m, l, h1, h2, h3, h4⟩ := DP N j k (n / 128) (pre ++ [((n % 128 + 128 : Nat) : Int)]) (by rw [Nat.pow_succ] at hn; omega) (by omega) (by simp; omega)
   refine⟨m,((n % 128+128:Nat):Int) :: l,?_,by rw[qx,if_neg h,h2];rfl,h3,by simp;omega⟩
   rw[decide_eq_true (by omega),av,az (by omega) (by omega),aj,zo,Sf _ (Nat.mod_lt _ (by omega)),show (128:Int)=((128:Nat):Int) from rfl,vA,show n % 256 % 128=n % 128 by omega,h1,List.append_assoc]
   rfl
theorem vC {N n:Nat} (hN:20<N) (hn:n<18446744073709551616):oM N (n:Int)=some (V n):=by
 rw[oM.eq_1]
 unfold V
 by_cases h:n<128
 ·rw[decide_eq_false (by omega),ai,az (by omega) (by omega),aj,qx,if_pos h,zo,Nat.mod_eq_of_lt (by omega)]
 ·rw [decide_eq_true (by omega), av, az (by omega) (by omega), aj]
  obtain⟨m,l,h1,h2,h3,h4⟩:=DP N 8 N (n / 128) [((n % 128+128:Nat):Int)] (by omega) (by omega) (by simp)
  rw[zo,Sf _ (Nat.mod_lt _ (by omega)),show (128:Int)=((128:Nat):Int) from rfl,vA,show n % 256 % 128=n % 128 by omega,h1,Option.bind_some,az (by simp;omega) (by omega),aj,qx,if_neg h,h2,zo,show m % 256=m by omega]
  rfl
noncomputable def said (s:List UInt8):List Int:=V s.length++bx s
theorem vD (s:List UInt8):(said s).length≤10+s.length:=by
 have:=cO s.length
 rw[said,List.length_append,cl];omega
theorem wrap_u64 (n:Int):IntKind.u64.wrap n=n % 18446744073709551616:=rfl
theorem Sg {n:Int} (h : -9223372036854775808≤n∧n≤9223372036854775807):Ir .u64 (cg ((cg n)*2)) (cg (Int.fdiv n 9223372036854775808))=(Ce n:Int):=by
 unfold Ce
 by_cases h0:0≤n
 ·rw [if_pos h0, jN (n := n) (by omega), Int.fdiv_eq_ediv_of_nonneg _ (by omega), Int.ediv_eq_zero_of_lt h0 (by omega), jN (n := n * 2) (by omega), jN (n := 0) (by omega)]
  have e:n*2=(((2*n).toNat:Nat):Int):=by omega
  rw[e]
  unfold Ir
  have e2:(BitVec.ofInt IntKind.u64.bits (((2*n).toNat:Nat):Int) ^^^ BitVec.ofInt IntKind.u64.bits 0).toNat=(2*n).toNat:=by
   show (BitVec.ofInt 64 (((2*n).toNat:Nat):Int) ^^^ BitVec.ofInt 64 0).toNat=(2*n).toNat
   rw[show BitVec.ofInt 64 0=0#64 from rfl,BitVec.xor_zero,BitVec.ofInt_natCast,BitVec.toNat_ofNat]
   omega
  rw[e2]
  exact jN (by omega)
 ·rw [if_neg h0]
  have e1:cg n=n+18446744073709551616:=by
   show IntKind.u64.wrap n=_
   rw[wrap_u64];omega
  have e3:Int.fdiv n 9223372036854775808 = -1:=by
   rw[Int.fdiv_eq_ediv_of_nonneg _ (by omega)];omega
  have e4:cg (-1)=18446744073709551615:=by decide
  have e5:cg ((n+18446744073709551616)*2)=((18446744073709551615-(-2*n-1).toNat:Nat):Int):=by
   show IntKind.u64.wrap _=_
   rw[wrap_u64];omega
  rw[e1,e3,e4,e5]
  unfold Ir
  have hlt:(-2*n-1).toNat<18446744073709551616:=by omega
  generalize (-2*n-1).toNat=m at hlt
  have e2:(BitVec.ofInt IntKind.u64.bits ((18446744073709551615-m:Nat):Int) ^^^ BitVec.ofInt IntKind.u64.bits 18446744073709551615).toNat=m:=by
   show (BitVec.ofInt 64 ((18446744073709551615-m:Nat):Int) ^^^ BitVec.ofInt 64 18446744073709551615).toNat=m
   rw[show BitVec.ofInt 64 18446744073709551615=BitVec.allOnes 64 from by decide,BitVec.xor_allOnes,BitVec.toNat_not,BitVec.ofInt_natCast,BitVec.toNat_ofNat]
   omega
  rw[e2]
  exact jN (by omega)
theorem DQ {N:Nat} {n:Int} (hN:20<N) (h : -9223372036854775808≤n∧n≤9223372036854775807):DL N n=some (V (Ce n)):=by
 rw[DL.eq_1,Sg h,vC hN (FD h)];rfl
end Go.Proofs.YthphehfgekjooaaGreatDoor
namespace Go.Proofs.YthphehfgekjooaaGreatDoor
open Go Go.bq Go.Sym
theorem lQ {N:Nat} {v:Int} (hN:20<N) (h:0≤v∧v≤9223372036854775807):oM N (cg v)=some (V v.toNat):=by
 obtain⟨n,rfl⟩:=Int.eq_ofNat_of_zero_le h.1
 rw[iW (by omega),vC hN (by omega)];rfl
theorem iM:((0:Int) != (0:Int))=false:=rfl
noncomputable def nj (c:UInt8) (v:Int):List Int:=if c=45 then [] else if c=110∨c=103∨c=101 then V (Ce v) else V v.toNat
noncomputable def encI (x:Instr):List Int:=
 match Gt x.1 with
 |some (a,b,c)=>x.1 :: (nj a x.2.1++(nj b x.2.2.1++nj c x.2.2.2))
 |none=>[x.1]
theorem rW (x:Instr):(encI x).length≤31:=by
 have hk:∀ c v,(nj c v).length≤10:=fun c v=>by
  unfold nj
  split
  ·simp
  ·split
   ·exact (cO _).2
   ·exact (cO _).2
 unfold encI
 split
 ·rename_i a b c _
  have:=hk a x.2.1;have:=hk b x.2.2.1;have:=hk c x.2.2.2
  simp only[List.length_cons,List.length_append];omega
 ·simp
noncomputable def JC (c:UInt8):Bool:=c==110||(c==103||c==101)
theorem sK {c:UInt8} : JC c=true↔c=110∨c=103∨c=101:=by simp[JC]
theorem FE (c:UInt8):decide ((U c).1<0)=JC c:=by
 unfold U JC
 repeat' split
 all_goals first
  |(subst_vars;rfl)
  |(rename_i h1 h2 h3 h4 h5 h6 h7 h8 h9 h10;simp[h3,h9,h10])
theorem FF (v:Int):nj 45 v=[]:=rfl
theorem oR (c:UInt8) (v:Int):(nj c v).length≤10:=by
 unfold nj
 split
 ·simp
 ·split
  ·exact (cO _).2
  ·exact (cO _).2
theorem Sh {c:UInt8} {v:Int} (h:fits c v=true) (hs:JC c=false):0≤v:=by
 rw[←FE,decide_eq_false_iff_not] at hs
 unfold fits at h
 rw[Bool.and_eq_true,decide_eq_true_eq] at h
 have:=h.1
 omega
theorem Bu {α β : Type} (c:Bool) (x y:Option α) (k : α→Option β):(bif c then Option.bind x k else Option.bind y k)=Option.bind (bif c then x else y) k:=by cases c<;>rfl
theorem opO {N:Nat} (hN:20<N) {c:UInt8} {v:Int} (h:fits c v=true) (h45:c≠45) (hv:i64 v):(bif JC c then DL N v else oM N (cg v))=some (nj c v):=by
 unfold nj
 rw[if_neg h45]
 cases hs:JC c with
 |true=>rw[av,if_pos (sK.1 hs),DQ hN hv]
 |false=>rw[ai,if_neg (fun e=>by rw[sK.2 e] at hs;cases hs),lQ hN ⟨Sh h hs,hv.2⟩]
theorem FG {x:Instr} (hc:fk x=true):∃ a b c,Gt x.1=some (a,b,c)∧fits a x.2.1=true∧fits b x.2.2.1=true∧fits c x.2.2.2=true:=by
 unfold fk at hc
 split at hc
 ·rename_i a b c hs
  rw[Bool.and_eq_true,Bool.and_eq_true] at hc
  exact⟨a,b,c,hs,hc.1,hc.2.1,hc.2.2⟩
 ·cases hc
theorem MN {a b c:UInt8} (h:(a=45→b=45)∧(b=45→c=45)):(a=45∧b=45∧c=45)∨(a≠45∧b=45∧c=45)∨(a≠45∧b≠45∧c=45)∨(a≠45∧b≠45∧c≠45):=by
 by_cases ha:a=45
 ·exact .inl ⟨ha,h.1 ha,h.2 (h.1 ha)⟩
 ·by_cases hb : b = 45
  ·exact .inr (.inl ⟨ha,hb,h.2 hb⟩)
  ·by_cases hc : c = 45
   ·exact .inr (.inr (.inl ⟨ha,hb,hc⟩))
   ·exact .inr (.inr (.inr ⟨ha,hb,hc⟩))
theorem KZ (c:UInt8) (v:Int):room (1+(nj c v).length) 1=true:=by have:=oR c v;exact az (by omega) (by omega)
theorem Si (p:Int) (c d:UInt8) (v w:Int):room (([p]++nj c v).length+(nj d w).length) 1=true:=by
 have:=oR c v;have:=oR d w
 exact az (by simp only[List.length_append,List.length_singleton];omega) (by omega)
theorem aa7 (p:Int) (c d e:UInt8) (v w u:Int):room ((([p]++nj c v)++nj d w).length+(nj e u).length) 1=true:=by
 have:=oR c v;have:=oR d w;have:=oR e u
 exact az (by simp only[List.length_append,List.length_singleton];omega) (by omega)
theorem Wb {N:Nat} (hN:20<N) {x:Instr} (hx:JB x) (hc:fk x=true):F59 N (x.1,x.2.1,x.2.2.1,x.2.2.2)=some (encI x,0):=by
 rw[F59.eq_1,oP,hc]
 obtain⟨a,b,c,hs,h1,h2,h3⟩:=FG hc
 obtain⟨i1,i2,i3⟩:=hx
 have g00:decide ((0:Int)≥0)=true:=rfl
 have g01:decide ((0:Int)≥1)=false:=rfl
 have g02:decide ((0:Int)≥2)=false:=rfl
 have g03:decide ((0:Int)≥3)=false:=rfl
 have g10:decide ((1:Int)≥0)=true:=rfl
 have g11:decide ((1:Int)≥1)=true:=rfl
 have g12:decide ((1:Int)≥2)=false:=rfl
 have g13:decide ((1:Int)≥3)=false:=rfl
 have g20:decide ((2:Int)≥0)=true:=rfl
 have g21:decide ((2:Int)≥1)=true:=rfl
 have g22:decide ((2:Int)≥2)=true:=rfl
 have g23:decide ((2:Int)≥3)=false:=rfl
 simp only[av,iM,ai,Option.bind_some,p5,hs,Vu.eq_1,encI,FE]
 rcases MN (IE hs) with⟨rfl,rfl,rfl⟩|⟨ha,rfl,rfl⟩|⟨ha,hb,rfl⟩|⟨ha,hb,hc⟩
 ·simp only[show cnt 45 45 45=0 from rfl,g00,g10,g20,av,FF,List.append_nil]
 ·simp only [show cnt a 45 45 = 1 by simp [cnt, ha], g01, g11, g21, av, ai, Bu, opO hN h1 ha i1, Option.bind_some, KZ, aj, FF, List.append_nil]
  simp only[List.cons_append,List.nil_append]
 ·simp only [show cnt a b 45 = 2 by simp [cnt, hb], g02, g12, g22, av, ai, Bu, opO hN h1 ha i1, opO hN h2 hb i2, Option.bind_some, KZ, Si, aj, FF, List.append_nil]
  simp only[List.cons_append,List.nil_append]
 ·simp only [show cnt a b c = 3 by simp [cnt, hc], g03, g13, g23, ai, Bu, opO hN h1 ha i1, opO hN h2 hb i2, opO hN h3 hc i3, Option.bind_some, KZ, Si, aa7, aj]
  simp only[List.cons_append,List.nil_append,List.append_assoc]
end Go.Proofs.YthphehfgekjooaaGreatDoor
