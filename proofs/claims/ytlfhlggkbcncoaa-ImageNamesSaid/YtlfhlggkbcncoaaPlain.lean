/- Plain laws on what the functions are made of. -/
import Derived.Test.YtlfhlggkbcncoaaSymN
import Derived.IntWalk
namespace Go.Sym
open Go Go.Eng
theorem wi64_in {n:Int} (h : -9223372036854775808≤n∧n≤9223372036854775807):wi64 n=n:=IntWalk.i64_in n h
theorem wu64_in {n:Int} (h:0≤n∧n≤18446744073709551615):wu64 n=n:=IntWalk.u64_in n h
theorem wu8_in {n:Int} (h:0≤n∧n≤255):wu8 n=n:=IntWalk.u8_in n h
theorem idx_mid {α : Type} (pre:List α) (x : α) (r:List α):idx (pre++x :: r) (pre.length:Int)=some x:=by
 simp[idx]
theorem idx_of_get {α : Type} {l:List α} {i:Int} {x : α} (h0:0≤i) (h:l[i.toNat]?=some x):idx l i=some x:=by
 simp[idx,h0,h]
theorem room_of {n b:Nat} (h1:n≤9223372036854775807) (h2:n*b≤140737488355328):room n b=true:=by
 simp[room,maxLenA,roomA,h1,h2]
theorem chk_true {α : Type} (k:Option α):chk true k=k:=rfl
theorem chk_of {α : Type} {b:Bool} {k:Option α} (h:b=true):chk b k=k:=by subst h;rfl
theorem chkE {α : Type} {b:Bool} {k r:Option α} (h1:b=true) (h2:k=r):chk b k=r:=by rw[h1];exact h2
theorem loop_up {β : Type} {n:Nat} {Lf:Nat→Int→Option β} {g:Nat→Option β} (h0:∀ k,Lf (k+1) (n:Int)=g n)
  (hs:∀ k i,i<n→Lf k ((i+1:Nat):Int)=g (i+1)→Lf (k+1) (i:Int)=g i):∀ k i,i≤n→n-i<k→Lf k (i:Int)=g i
 |0,_,_,h=>by omega
 |k+1,i,hi,hk=>by
  by_cases he:i=n
  ·subst he;exact h0 k
  ·exact hs k i (by omega) (loop_up h0 hs k (i+1) (by omega) (by omega))
theorem loop_st {σ β : Type} {n:Nat} {I:Nat→σ→Prop} {Lf:Nat→Int→σ→Option β} {g:Nat→σ→Option β} (h0:∀ k s,I n s→Lf (k+1) (n:Int) s=g n s)
  (hs:∀ k i s,i<n→I i s→(∀ s',I (i+1) s'→Lf k ((i+1:Nat):Int) s'=g (i+1) s')→Lf (k+1) (i:Int) s=g i s):∀ k i s,I i s→i≤n→n-i<k→Lf k (i:Int) s=g i s
 |0,_,_,_,_,h=>by omega
 |k+1,i,s,hI,hi,hk=>by
  by_cases he:i=n
  ·subst he;exact h0 k s hI
  ·exact hs k i s (by omega) hI fun s' hI'=>loop_st h0 hs k (i+1) s' hI' (by omega) (by omega)
theorem loop_eq {α β : Type} [DecidableEq α] {l m:List α} [Decidable (l=m)] {a b : β} {Lf:Nat→Int→Option β} (hl:l.length=m.length) (h0:∀ k,Lf (k+1) (l.length:Int)=some a)
  (hs:∀ (k i:Nat) x y,x∈l→y∈m→l[i]?=some x→m[i]?=some y→Lf (k+1) (i:Int)=if x=y then Lf k ((i+1:Nat):Int) else some b):∀ k,l.length<k→Lf k 0=some (if l=m then a else b):=by
 classical
 intro k hk
 have:=loop_up (n:=l.length) (Lf:=Lf) (g:=fun i=>some (if l.drop i=m.drop i then a else b)) (fun k=>by rw[h0 k];simp[hl]) (fun k i hi ih=>by
  have e1:=List.getElem?_eq_getElem hi
  have e2:=List.getElem?_eq_getElem (l:=m) (i:=i) (by omega)
  rw[hs k i _ _ (List.getElem_mem hi) (List.getElem_mem _) e1 e2,ih,List.drop_eq_getElem_cons hi,List.drop_eq_getElem_cons (l:=m) (i:=i) (by omega)]
  simp only[List.cons.injEq]
  by_cases h:l[i]=m[i]'(by omega)
  ·simp only[h,if_true,true_and]
  ·simp only[h,if_false,false_and]) k 0 (by omega) (by omega)
 have h2:(if l.drop 0=m.drop 0 then a else b)=(if l=m then a else b):=by
  by_cases h:l=m
  ·rw[if_pos h,if_pos (by rw[h])]
  ·rw[if_neg h,if_neg (by simpa using h)]
 rw[h2] at this
 exact this
theorem loop_any {α β : Type} {l:List α} {a b : β} {p : α→Bool} {Lf:Nat→Int→Option β} (h0:∀ k,Lf (k+1) (l.length:Int)=some a)
  (hs:∀ (k i:Nat) x,x∈l→l[i]?=some x→Lf (k+1) (i:Int)=if p x then some b else Lf k ((i+1:Nat):Int)):∀ k,l.length<k→Lf k 0=some (if l.any p then b else a):=by
 intro k hk
 have:=loop_up (n:=l.length) (Lf:=Lf) (g:=fun i=>some (if (l.drop i).any p then b else a)) (fun k=>by rw[h0 k];simp) (fun k i hi ih=>by
  have e1:=List.getElem?_eq_getElem hi
  rw[hs k i _ (List.getElem_mem hi) e1,ih,List.drop_eq_getElem_cons hi]
  rw[List.any_cons]
  by_cases h:p l[i]=true
  ·rw[h];rfl
  ·rw[Bool.not_eq_true] at h;rw[h];rfl) k 0 (by omega) (by omega)
 simpa using this
theorem loop_find {α β : Type} {l:List α} {a b : β} {P : α→Prop} {n:Nat} {Lf:Nat→Int→Option β} (hn:n≤l.length) (h0:∀ k,Lf (k+1) (n:Int)=some a)
  (hs:∀ (k i:Nat) x,i<n→x∈l→l[i]?=some x→Lf (k+1) (i:Int)=some b∨(P x∧Lf (k+1) (i:Int)=Lf k ((i+1:Nat):Int))):∀ k,n<k→Lf k 0=some b∨(Lf k 0=some a∧∀ (i:Nat) x,i<n→l[i]?=some x→P x):=by
 have key : ∀ k i, i ≤ n → n - i < k → Lf k (i : Int) = some b ∨ (Lf k (i : Int) = some a ∧ ∀ (j : Nat) x, i ≤ j → j < n → l[j]? = some x → P x) := by
  intro k
  induction k with
  |zero=>intro i _ h;omega
  | succ k ih =>
   intro i hi hk
   by_cases he:i=n
   ·subst he
    exact .inr ⟨h0 k,fun j x h1 h2=>by omega⟩
   ·have hl : i < l.length := by omega
    have e1:=List.getElem?_eq_getElem hl
    rcases hs k i _ (by omega) (List.getElem_mem hl) e1 with h|⟨hp,h⟩
    ·exact .inl h
    ·rw [h]
     rcases ih (i+1) (by omega) (by omega) with h|⟨h,h2⟩
     ·exact .inl h
     ·refine .inr ⟨h, fun j x h3 h4 h5 => ?_⟩
      by_cases hj:j=i
      ·subst hj;rw[e1] at h5;injection h5 with h5;rw[←h5];exact hp
      ·exact h2 j x (by omega) h4 h5
 intro k hk
 rcases key k 0 (by omega) (by omega) with h|⟨h,h2⟩
 ·exact .inl h
 ·exact .inr ⟨h,fun j x h3 h4=>h2 j x (by omega) h3 h4⟩
theorem idx_get {α : Type} {l:List α} {i:Nat} {x : α} (h:l[i]?=some x):idx l (i:Int)=some x:=idx_of_get (by omega) (by simpa using h)
theorem inR_lt {n i:Nat} (h:i<n):inR (i:Int) n=true:=by simp[inR,h]
theorem wi64_succ {i:Nat} (h:i<9223372036854775807):wi64 ((i:Int)+1)=((i+1:Nat):Int):=by rw[wi64_in (by omega)];rfl
theorem lt_dec {i n:Nat} (h:i<n):decide ((i:Int)<(n:Int))=true:=decide_eq_true (by omega)
theorem ge_dec (n:Nat):decide ((n:Int)<(n:Int))=false:=decide_eq_false (by omega)
end Go.Sym
