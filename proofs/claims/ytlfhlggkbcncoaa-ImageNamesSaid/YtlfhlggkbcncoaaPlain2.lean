/- Plain laws, more of them: loops over lists, numbers in bytes. -/
import Derived.Test.YtlfhlggkbcncoaaPlain
namespace Go.Sym
open Go Go.Eng
theorem len_pos {α : Type} {l:List α} {i:Nat} {x : α} (h:l[i]?=some x):i<l.length:=(List.getElem?_eq_some_iff.1 h).1
theorem mem_of_get {α : Type} {l:List α} {i:Nat} {x : α} (h:l[i]?=some x):x∈l:=List.mem_of_getElem? h
theorem take_succ {α : Type} {l:List α} {i:Nat} {x : α} (h:l[i]?=some x):l.take (i+1)=l.take i++[x]:=by
 obtain⟨h1,h2⟩:=List.getElem?_eq_some_iff.1 h
 rw[List.take_succ_eq_append_getElem h1,h2]
theorem room_small {n b:Nat} (h1:n≤10000000) (h2:b≤1000):room n b=true:=by
 refine room_of (by omega) ?_
 have:=Nat.mul_le_mul h1 h2
 omega
theorem get_of_lt {α : Type} {l:List α} {i:Nat} (h:i<l.length):∃ x,l[i]?=some x:=⟨_,List.getElem?_eq_getElem h⟩
open Classical in
theorem loop_rng {β : Type} {n:Nat} {a b : β} {q:Nat→Bool} {Lf:Nat→Int→Option β} (h0:∀ k,(∀ j,j<n→q j=false)→Lf (k+1) (n:Int)=some a)
  (hs:∀ (k i:Nat),i<n→(∀ j,j<i→q j=false)→Lf (k+1) (i:Int)=if q i=true then some b else Lf k ((i+1:Nat):Int)) {k:Nat} (hk:n<k) :
  Lf k 0=some (if ∃ i,i<n∧q i=true then b else a):=by
 have key:∀ k i,i≤n→n-i<k→(∀ j,j<i→q j=false)→Lf k (i:Int)=some (if ∃ j,j<n∧q j=true then b else a):=by
  intro k
  induction k with
  |zero=>intro i _ h;omega
  | succ k ih =>
   intro i hi hk hq
   by_cases he:i=n
   ·subst he
    rw[h0 k hq,if_neg (fun⟨j,h1,h2⟩=>by rw[hq j h1] at h2;cases h2)]
   ·rw [hs k i (by omega) hq]
    by_cases hb:q i=true
    ·rw[if_pos hb,if_pos ⟨i,by omega,hb⟩]
    ·rw [if_neg hb]
     refine ih (i+1) (by omega) (by omega) fun j hj=>?_
     by_cases hji:j=i
     ·subst hji;simpa using hb
     ·exact hq j (by omega)
 exact key k 0 (by omega) (by omega) fun j hj=>by omega
open Classical in
theorem loop_lst {α β : Type} {l:List α} {a b : β} {p : α→Bool} {Lf:Nat→Int→Option β} (h0:∀ k,(∀ x,x∈l→p x=false)→Lf (k+1) (l.length:Int)=some a)
  (hs:∀ (k i:Nat) x,l[i]?=some x→x∈l→Lf (k+1) (i:Int)=if p x=true then some b else Lf k ((i+1:Nat):Int)) {k:Nat} (hk:l.length<k) :
  Lf k 0=some (if ∃ x,x∈l∧p x=true then b else a):=by
 rw[loop_rng (n:=l.length) (a:=a) (b:=b) (q:=fun i=>((l[i]?).map p).getD false) (Lf:=Lf) (fun k hq=>h0 k fun x hx=>?_) (fun k i hi _=>?_) hk]
 ·have hiff : (∃ i, i < l.length ∧ ((l[i]?).map p).getD false = true) ↔ ∃ x, x ∈ l ∧ p x = true := ⟨fun ⟨i, h1, h2⟩ => by
   obtain⟨x,hx⟩:=get_of_lt h1
   rw[hx] at h2
   exact⟨x,mem_of_get hx,h2⟩,fun⟨x,h1,h2⟩=>by
   obtain⟨i,h3,rfl⟩:=List.mem_iff_getElem.1 h1
   exact⟨i,h3,by rw[List.getElem?_eq_getElem h3];exact h2⟩⟩
  by_cases h:∃ x,x∈l∧p x=true
  ·rw[if_pos h,if_pos (hiff.2 h)]
  ·rw[if_neg h,if_neg fun h'=>h (hiff.1 h')]
 ·obtain ⟨i, h3, rfl⟩ := List.mem_iff_getElem.1 hx
  have:=hq i h3
  rw[List.getElem?_eq_getElem h3] at this
  exact this
 ·obtain ⟨x, hx⟩ := get_of_lt hi
  rw[hs k i x hx (mem_of_get hx),hx]
  rfl
theorem loop_out {α β γ : Type} {l:List α} {Lf:Nat→Int→List γ→Option β} {enc : α→List γ} {g:List γ→β} {B m:Nat} (h0:∀ k s,Lf (k+1) (l.length:Int) s=some (g s))
  (hs:∀ k (i:Nat) x s,l[i]?=some x→x∈l→s.length≤B→Lf (k+1) (i:Int) s=Lf k ((i+1:Nat):Int) (s++enc x)) (hm:∀ x,x∈l→(enc x).length≤m) {k:Nat} {s:List γ} (hk:l.length<k) (hB:s.length+l.length*m≤B) :
  Lf k 0 s=some (g (s++l.flatMap enc)):=by
 have key:∀ k (i:Nat) s,i≤l.length→l.length-i<k→s.length+(l.length-i)*m≤B→Lf k (i:Int) s=some (g (s++(l.drop i).flatMap enc)):=by
  intro k
  induction k with
  |zero=>intro i s _ h;omega
  | succ k ih =>
   intro i s hi hk hB
   by_cases he:i=l.length
   ·subst he;rw[h0 k s];simp
   ·have hl : i < l.length := by omega
    have e1:=List.getElem?_eq_getElem hl
    have hmx:=hm _ (List.getElem_mem hl)
    have e3:(l.length-i)*m=m+(l.length-(i+1))*m:=by
     rw[show l.length-i=1+(l.length-(i+1)) by omega,Nat.add_mul,Nat.one_mul]
    rw[hs k i _ s e1 (List.getElem_mem hl) (by omega),ih (i+1) _ (by omega) (by omega) (by rw[List.length_append];omega)]
    congr 2
    rw[List.drop_eq_getElem_cons hl,List.flatMap_cons,List.append_assoc]
 have:=key k 0 s (by omega) (by omega) (by rw[Nat.sub_zero];exact hB)
 rwa[List.drop_zero] at this
theorem flatMap_len {α γ : Type} {l:List α} {enc : α→List γ} {m:Nat} (h:∀ x,x∈l→(enc x).length≤m):(l.flatMap enc).length≤l.length*m:=by
 induction l with
 |nil=>simp
 |cons x r ih=>
  rw[List.flatMap_cons,List.length_append,List.length_cons,Nat.add_mul,Nat.one_mul]
  have h1:=h x List.mem_cons_self
  have h2:=ih fun y hy=>h y (List.mem_cons_of_mem _ hy)
  omega
theorem loop_inv {α σ β : Type} {l:List α} {Lf:Nat→Int→σ→Option β} {Inv:Nat→σ→Prop} {g : σ→β} (h0:∀ k s,Inv l.length s→Lf (k+1) (l.length:Int) s=some (g s))
  (hs:∀ k (i:Nat) x s,l[i]?=some x→Inv i s→∃ s',Inv (i+1) s'∧Lf (k+1) (i:Int) s=Lf k ((i+1:Nat):Int) s') {k:Nat} {s : σ} (h:Inv 0 s) (hk:l.length<k) :
  ∃ s',Inv l.length s'∧Lf k 0 s=some (g s'):=by
 have key:∀ k (i:Nat) s,i≤l.length→l.length-i<k→Inv i s→∃ s',Inv l.length s'∧Lf k (i:Int) s=some (g s'):=by
  intro k
  induction k with
  |zero=>intro i s _ h;omega
  | succ k ih =>
   intro i s hi hk hI
   by_cases he:i=l.length
   ·subst he;exact⟨s,hI,h0 k s hI⟩
   ·obtain ⟨s', h1, h2⟩ := hs k i _ s (List.getElem?_eq_getElem (by omega)) hI
    obtain⟨s'',h3,h4⟩:=ih (i+1) s' (by omega) (by omega) h1
    exact⟨s'',h3,by rw[h2,h4]⟩
 exact key k 0 s (by omega) (by omega) h
theorem loop_inv_out {α σ β : Type} {l:List α} {Lf:Nat→Int→σ→Option β} {Inv:Nat→σ→Prop} {Out : β→Prop} {g : σ→β} (h0:∀ k s,Inv l.length s→Lf (k+1) (l.length:Int) s=some (g s))
  (hs:∀ k (i:Nat) x s,l[i]?=some x→Inv i s→(∃ r,Out r∧Lf (k+1) (i:Int) s=some r)∨∃ s',Inv (i+1) s'∧Lf (k+1) (i:Int) s=Lf k ((i+1:Nat):Int) s') {k:Nat} {s : σ} (h:Inv 0 s) (hk:l.length<k) :
  (∃ r,Out r∧Lf k 0 s=some r)∨∃ s',Inv l.length s'∧Lf k 0 s=some (g s'):=by
 have key:∀ k (i:Nat) s,i≤l.length→l.length-i<k→Inv i s→(∃ r,Out r∧Lf k (i:Int) s=some r)∨∃ s',Inv l.length s'∧Lf k (i:Int) s=some (g s'):=by
  intro k
  induction k with
  |zero=>intro i s _ h;omega
  | succ k ih =>
   intro i s hi hk hI
   by_cases he:i=l.length
   ·subst he;exact .inr ⟨s,hI,h0 k s hI⟩
   ·rcases hs k i _ s (List.getElem?_eq_getElem (by omega)) hI with h | ⟨s', h1, h2⟩
    ·exact .inl h
    ·rcases ih (i + 1) s' (by omega) (by omega) h1 with ⟨r, h3, h4⟩ | ⟨s'', h3, h4⟩
     ·exact .inl ⟨r,h3,by rw[h2,h4]⟩
     ·exact .inr ⟨s'',h3,by rw[h2,h4]⟩
 exact key k 0 s (by omega) (by omega) h
def vary:Nat→Nat→List Int
 |0,n=>[(n:Int)]
 |k+1,n=>if n<128 then [(n:Int)] else ((n % 128+128:Nat):Int) :: vary k (n / 128)
def V (n:Nat):List Int:=vary 9 n
theorem vary_len:∀ k n,1≤(vary k n).length∧(vary k n).length≤k+1
 |0,n=>by simp[vary]
 |k+1,n=>by
  have:=vary_len k (n / 128)
  unfold vary
  split
  ·simp
  ·simp only[List.length_cons];omega
theorem V_len (n:Nat):1≤(V n).length∧(V n).length≤10:=vary_len 9 n
theorem wu8_nat (n:Nat):wu8 (n:Int)=((n % 256:Nat):Int):=by
 show IntKind.u8.wrap (n:Int)=_
 rw[IntKind.wrap_u8];omega
theorem wu64_nat {n:Nat} (h:n<18446744073709551616):wu64 (n:Int)=(n:Int):=wu64_in (by omega)
theorem ior128:∀ a:Nat,a<256→ior .u8 ((a:Nat):Int) (128:Int)=((a % 128+128:Nat):Int):=by decide +kernel
theorem fdiv_nat (a b:Nat):Int.fdiv (a:Int) (b:Int)=((a / b:Nat):Int):=by
 rw[Int.fdiv_eq_ediv_of_nonneg _ (by omega)];rfl
def zig (n:Int):Nat:=if 0≤n then (2*n).toNat else (-2*n-1).toNat
theorem zig_lt {n:Int} (h : -9223372036854775808≤n∧n≤9223372036854775807):zig n<18446744073709551616:=by
 unfold zig;split<;>omega
theorem ite_iff {α : Type} {p q:Prop} {ip:Decidable p} {iq:Decidable q} {a b : α} (h:p↔q) : @ite α p ip a b = @ite α q iq a b:=by
 by_cases hp:p
 ·rw[if_pos hp,if_pos (h.1 hp)]
 ·rw[if_neg hp,if_neg fun hq=>hp (h.2 hq)]
theorem decT {p:Prop} {i:Decidable p} (h:p) : @decide p i=true:=decide_eq_true h
theorem decF {p:Prop} {i:Decidable p} (h:¬p) : @decide p i=false:=decide_eq_false h
theorem bytesL_len (s:List UInt8):(bytesL s).length=s.length:=by simp[bytesL]
end Go.Sym
