/- A part of the proof: SymN, SymO, Plain, Plain2. -/
import Derived.Test.YtokjmkblnafppaaGreatDoorSymM
import Derived.Laws.Rows
import Derived.ChangeSame
import Derived.JoinedOf
import Derived.JoinedAt
import Derived.JoinedStill
import Derived.RowKit
import Derived.ProofKit
import GoSem.Claim
import GoSem.ClaimJoined
import GoSem.ClaimMapViews
import Derived.JoinedTies
import Derived.KernelRfl
import Derived.IntWalk
set_option linter.unusedVariables false
set_option linter.unusedSimpArgs false
namespace Go.Sym
open Go Go.bI
def ak:Nat:=400
def aA.base (aP:Nat→Option cV) (aX aY:Nat→Nat→Option ck) (aO:Nat→Nat→Option (Nat×Ty)) (cq:Nat→Nat→Bool) (bT:Nat→Nat→Option Ty):aA:=
 { fns:=aP,J6:=fun _=>none,loops:=fun _ _ _=>none,aX,aY,aO,cq,bT }
def aA.aa (E:aA) (f:Nat) (c:Callee):aA:=
 { E with J6:=fun g=>match Nat.beq g f with
  |true=>some c
  |false=>E.J6 g }
def aA.aj (E:aA) (N ctx i:Nat) (T:cw) (outs:ck):aA:=
 { E with loops:=fun ctx' i' c=>match Nat.beq ctx' ctx&&Nat.beq i' i with
  |true=>some ⟨T,outs,bJ (aL E ak ctx i c T outs) N⟩
  |false=>E.loops ctx' i' c }
theorem aQ (aP:Tb) (aX aY:Nat→Nat→Option ck) (aO:Nat→Nat→Option (Nat×Ty)) (cq:Nat→Nat→Bool) (bT:Nat→Nat→Option Ty):aC aP (aA.base aP aX aY aO cq bT):=
 ⟨rfl,fun _ _ h=>(by cases h),fun _ _ _ _ h=>(by cases h)⟩
theorem aC.aa {aP:Tb} {E:aA} (h:aC aP E) {f:Nat} {c:Callee} (hc:bt aP f c):aC aP (E.aa f c):=by
 refine⟨h.fns,fun g d hd=>?_,h.loops⟩
 simp only[aA.aa] at hd
 split at hd
 ·rename_i he
  rw[Nat.eq_of_beq_eq_true he]
  injection hd with hd;subst hd
  exact hc
 ·exact h.J6 g d hd
theorem aC.aj {aP:Tb} {E:aA} (h:aC aP E) (N ctx i:Nat) (T:cw) (outs:ck):aC aP (E.aj N ctx i T outs):=by
 refine⟨h.fns,h.J6,fun ctx' i' c L hL=>?_⟩
 simp only[aA.aj] at hL
 split at hL
 ·injection hL with hL; subst hL
  exact Km h ak ctx i c T outs N
 ·exact h.loops ctx' i' c L hL
theorem bt.plain {Fs:Tb} {f:Nat} {args:List dJ} {ta tr:List Ty} {res:List (Bool×List cG)} {rk:Nat} {F G:(tv ta).den→Option (tv tr).den} (h:bt Fs f ⟨args,ta,res,tr,rk,F⟩) (e:G=F):bt Fs f ⟨args,ta,res,tr,rk,G⟩:=by
 subst e
 exact h
def wZ:List (Nat×cV)→Nat→Option cV
 |[],_=>none
 |(g,fn) :: r,f=>match Nat.beq g f with
  |true=>some fn
  |false=>wZ r f
inductive uu (P:Program) (bq:Nat→Option TypeId) (md:Nat→bI.Mode):List (Nat×cV)→Prop where
 |nil:uu P bq md []
 |cons {g:Nat} {fn:cV} {r:List (Nat×cV)} : bL P bq md g=some fn→uu P bq md r→uu P bq md ((g,fn) :: r)
theorem Fw {P:Program} {bq:Nat→Option TypeId} {md:Nat→bI.Mode} {l:List (Nat×cV)} (h:uu P bq md l):∀ f fn,wZ l f=some fn→bL P bq md f=some fn:=by
 induction h with
 |nil=>intro f fn h;cases h
 | @cons g fn' r h1 _ ih =>
  intro f fn h
  simp only[wZ] at h
  split at h
  ·rename_i hb
   have e:=Nat.eq_of_beq_eq_true hb
   subst e
   injection h with h;subst h
   exact h1
  ·exact ih f fn h
def fixF {α β : Type} (step:Nat→(α→Option β)→α→Option β):Nat→α→Option β
 |0,_=>none
 |n+1,x=>step n (fixF step n) x
def sY (t:Nat):AC→Nat→Option AC
 |.seq a b,i=>match Nat.blt t (i+sR a) with
  |true=>sY t a i
  |false=>sY t b (i+sR a)
 |.cond _ a b,i=>match Nat.blt t (i+1+sR a) with
  |true=>sY t a (i+1)
  |false=>sY t b (i+1+sR a)
 |.block _ c,i=>sY t c (i+1)
 |.loop c,i=>match Nat.beq t i with
  |true=>some c
  |false=>sY t c (i+1)
 |_,_=>none
def bz (fn:cV) (t:Nat):AC:=(sY t fn.body 0).getD .skip
abbrev YZ (a:Int):Int:=IntKind.u8.wrap a
abbrev aiS (a:Int):Int:=IntKind.u16.wrap a
abbrev aiT (a:Int):Int:=IntKind.u32.wrap a
abbrev dn (a:Int):Int:=IntKind.u64.wrap a
abbrev wi8 (a:Int):Int:=IntKind.i8.wrap a
abbrev aiU (a:Int):Int:=IntKind.i16.wrap a
abbrev aiV (a:Int):Int:=IntKind.i32.wrap a
abbrev aH (a:Int):Int:=IntKind.i64.wrap a
def BH (k:IntKind) (a b:Int):Int:=k.wrap (BitVec.ofInt k.bits a &&& BitVec.ofInt k.bits b).toNat
def Gz (k:IntKind) (a b:Int):Int:=k.wrap (BitVec.ofInt k.bits a ||| BitVec.ofInt k.bits b).toNat
def Sf (k:IntKind) (a b:Int):Int:=k.wrap (BitVec.ofInt k.bits a ^^^ BitVec.ofInt k.bits b).toNat
def mT (k:IntKind) (a b:Int):Int:=k.wrap (BitVec.ofInt k.bits a &&& ~~~(BitVec.ofInt k.bits b)).toNat
end Go.Sym
namespace Go.Sym
open Go Go.bI
theorem xD {H:Type} {enc:TypeId×Value→H} {P:Program} {w:World} {base:Nat} {sp:Nat→Bool} {held:Bool} : ∀ {ts:List TypeId} {vs:List Value} {ds:List (DataW H)} {ps:List MemPlace},DataW.TrodAll enc P w base sp held ts vs ds ps→ds.length=ts.length
 |[],[],[],_,_=>rfl
 |_ :: _,_ :: _,_ :: _,_,h=>by
  obtain⟨p,q,_,h2,_⟩:=h
  simp[xD h2]
 |[],_ :: _,_,_,h=>h.elim
 |[],[],_ :: _,_,h=>h.elim
 |_ :: _,[],_,_,h=>h.elim
 |_ :: _,_ :: _,[],_,h=>h.elim
theorem Sg (P:Program):L7 P none:=fun _ h=>by cases h
theorem Sh {P:Program} {W:World} {b:Nat} {args:Array Value} {params:Array TypeId} {l:List uP} (hp:params=(l.map (·.1)).toArray) (h:∀ (j:Nat) t v,params[j]?=some t→args[j]?=some v→Value.okWide P W .any b t v) :
  ∀ (j:Nat) (p:uP) v,l[j]?=some p→args[j]?=some v→Value.okWide P W .any b p.1 v:=fun j p v hj hv=>h j p.1 v (by rw[hp];simp[hj]) hv
end Go.Sym
namespace Go.Sym
open Go Go.bI
theorem cB {n:Int} (h : -9223372036854775808≤n∧n≤9223372036854775807):aH n=n:=IntWalk.i64_in n h
theorem mU {n:Int} (h:0≤n∧n≤18446744073709551615):dn n=n:=IntWalk.u64_in n h
theorem yC {α : Type} (pre:List α) (x : α) (r:List α):idx (pre++x :: r) (pre.length:Int)=some x:=by
 simp[idx]
theorem Az {α : Type} {l:List α} {i:Int} {x : α} (h0:0≤i) (h:l[i.toNat]?=some x):idx l i=some x:=by
 simp[idx,h0,h]
theorem Kt {n b:Nat} (h1:n≤9223372036854775807) (h2:n*b≤140737488355328):room n b=true:=by
 simp[room,eU,j0,h1,h2]
theorem aF {α : Type} (k:Option α):aZ true k=k:=rfl
theorem BI {α : Type} {b:Bool} {k r:Option α} (h1:b=true) (h2:k=r):aZ b k=r:=by rw[h1];exact h2
theorem uU {β : Type} {n:Nat} {Lf:Nat→Int→Option β} {g:Nat→Option β} (h0:∀ k,Lf (k+1) (n:Int)=g n)
  (hs:∀ k i,i<n→Lf k ((i+1:Nat):Int)=g (i+1)→Lf (k+1) (i:Int)=g i):∀ k i,i≤n→n-i<k→Lf k (i:Int)=g i
 |0,_,_,h=>by omega
 |k+1,i,hi,hk=>by
  by_cases he:i=n
  ·subst he;exact h0 k
  ·exact hs k i (by omega) (uU h0 hs k (i+1) (by omega) (by omega))
theorem Si {σ β : Type} {n:Nat} {I:Nat→σ→Prop} {Lf:Nat→Int→σ→Option β} {g:Nat→σ→Option β} (h0:∀ k s,I n s→Lf (k+1) (n:Int) s=g n s)
  (hs:∀ k i s,i<n→I i s→(∀ s',I (i+1) s'→Lf k ((i+1:Nat):Int) s'=g (i+1) s')→Lf (k+1) (i:Int) s=g i s):∀ k i s,I i s→i≤n→n-i<k→Lf k (i:Int) s=g i s
 |0,_,_,_,_,h=>by omega
 |k+1,i,s,hI,hi,hk=>by
  by_cases he:i=n
  ·subst he;exact h0 k s hI
  ·exact hs k i s (by omega) hI fun s' hI'=>Si h0 hs k (i+1) s' hI' (by omega) (by omega)
theorem rG {α β : Type} [DecidableEq α] {l m:List α} [Decidable (l=m)] {a b : β} {Lf:Nat→Int→Option β} (hl:l.length=m.length) (h0:∀ k,Lf (k+1) (l.length:Int)=some a)
  (hs:∀ (k i:Nat) x y,x∈l→y∈m→l[i]?=some x→m[i]?=some y→Lf (k+1) (i:Int)=if x=y then Lf k ((i+1:Nat):Int) else some b):∀ k,l.length<k→Lf k 0=some (if l=m then a else b):=by
 classical
 intro k hk
 have:=uU (n:=l.length) (Lf:=Lf) (g:=fun i=>some (if l.drop i=m.drop i then a else b)) (fun k=>by rw[h0 k];simp[hl]) (fun k i hi ih=>by
  have e1:=List.getElem?_eq_getElem hi
  have e2:=List.getElem?_eq_getElem (l:=m) (i:=i) (by omega)
  rw[hs k i _ _ (List.getElem_mem hi) (List.getElem_mem _) e1 e2,ih,List.drop_eq_getElem_cons hi,List.drop_eq_getElem_cons (l:=m) (i:=i) (by omega)]
  simp only[List.cons.injEq]
  by_cases h:l[i]=m[i]'(by omega)
  ·simp only[h,if_true,true_and]
  ·simp only[h,if_false,false_and]) k 0 (by omega) (by omega)
 have h2:(if l.drop 0=m.drop 0 then a else b)=(if l=m then a else b):=by
  by_cases h:l=m
  ·rw[if_pos h,if_pos (by rw[h])]
  ·rw[if_neg h,if_neg (by simpa using h)]
 rw[h2] at this
 exact this
theorem GA {α β : Type} {l:List α} {a b : β} {p : α→Bool} {Lf:Nat→Int→Option β} (h0:∀ k,Lf (k+1) (l.length:Int)=some a)
  (hs:∀ (k i:Nat) x,x∈l→l[i]?=some x→Lf (k+1) (i:Int)=if p x then some b else Lf k ((i+1:Nat):Int)):∀ k,l.length<k→Lf k 0=some (if l.any p then b else a):=by
 intro k hk
 have:=uU (n:=l.length) (Lf:=Lf) (g:=fun i=>some (if (l.drop i).any p then b else a)) (fun k=>by rw[h0 k];simp) (fun k i hi ih=>by
  have e1:=List.getElem?_eq_getElem hi
  rw[hs k i _ (List.getElem_mem hi) e1,ih,List.drop_eq_getElem_cons hi]
  rw[List.any_cons]
  by_cases h:p l[i]=true
  ·rw[h];rfl
  ·rw[Bool.not_eq_true] at h;rw[h];rfl) k 0 (by omega) (by omega)
 simpa using this
theorem Y0 {α β : Type} {l:List α} {a b : β} {P : α→Prop} {n:Nat} {Lf:Nat→Int→Option β} (hn:n≤l.length) (h0:∀ k,Lf (k+1) (n:Int)=some a)
  (hs:∀ (k i:Nat) x,i<n→x∈l→l[i]?=some x→Lf (k+1) (i:Int)=some b∨(P x∧Lf (k+1) (i:Int)=Lf k ((i+1:Nat):Int))):∀ k,n<k→Lf k 0=some b∨(Lf k 0=some a∧∀ (i:Nat) x,i<n→l[i]?=some x→P x):=by
 have key : ∀ k i, i ≤ n → n - i < k → Lf k (i : Int) = some b ∨ (Lf k (i : Int) = some a ∧ ∀ (j : Nat) x, i ≤ j → j < n → l[j]? = some x → P x) := by
  intro k
  induction k with
  |zero=>intro i _ h;omega
  | succ k ih =>
   intro i hi hk
   by_cases he:i=n
   ·subst he
    exact .inr ⟨h0 k,fun j x h1 h2=>by omega⟩
   ·have hl : i < l.length := by omega
    have e1:=List.getElem?_eq_getElem hl
    rcases hs k i _ (by omega) (List.getElem_mem hl) e1 with h|⟨hp,h⟩
    ·exact .inl h
    ·rw [h]
     rcases ih (i+1) (by omega) (by omega) with h|⟨h,h2⟩
     ·exact .inl h
     ·refine .inr ⟨h, fun j x h3 h4 h5 => ?_⟩
      by_cases hj:j=i
      ·subst hj;rw[e1] at h5;injection h5 with h5;rw[←h5];exact hp
      ·exact h2 j x (by omega) h4 h5
 intro k hk
 rcases key k 0 (by omega) (by omega) with h|⟨h,h2⟩
 ·exact .inl h
 ·exact .inr ⟨h,fun j x h3 h4=>h2 j x (by omega) h3 h4⟩
theorem bE {α : Type} {l:List α} {i:Nat} {x : α} (h:l[i]?=some x):idx l (i:Int)=some x:=Az (by omega) (by simpa using h)
theorem dR {n i:Nat} (h:i<n):jq (i:Int) n=true:=by simp[jq,h]
theorem aW {i:Nat} (h:i<9223372036854775807):aH ((i:Int)+1)=((i+1:Nat):Int):=by rw[cB (by omega)];rfl
theorem bY {i n:Nat} (h:i<n):decide ((i:Int)<(n:Int))=true:=decide_eq_true (by omega)
theorem bZ (n:Nat):decide ((n:Int)<(n:Int))=false:=decide_eq_false (by omega)
theorem GB {α : Type} {l:List α} {i:Nat} {x : α} (h:l[i]?=some x):l.set i x=l:=by
 obtain⟨h1,h2⟩:=List.getElem?_eq_some_iff.1 h
 rw[←h2]
 exact List.set_getElem_self h1
end Go.Sym
namespace Go.Sym
open Go Go.bI
theorem bp {α : Type} {l:List α} {i:Nat} {x : α} (h:l[i]?=some x):i<l.length:=(List.getElem?_eq_some_iff.1 h).1
theorem cz {α : Type} {l:List α} {i:Nat} {x : α} (h:l[i]?=some x):x∈l:=List.mem_of_getElem? h
theorem take_succ {α : Type} {l:List α} {i:Nat} {x : α} (h:l[i]?=some x):l.take (i+1)=l.take i++[x]:=by
 obtain⟨h1,h2⟩:=List.getElem?_eq_some_iff.1 h
 rw[List.take_succ_eq_append_getElem h1,h2]
theorem aI {n b:Nat} (h1:n≤10000000) (h2:b≤1000):room n b=true:=by
 refine Kt (by omega) ?_
 have:=Nat.mul_le_mul h1 h2
 omega
theorem vN {α : Type} {l:List α} {i:Nat} (h:i<l.length):∃ x,l[i]?=some x:=⟨_,List.getElem?_eq_getElem h⟩
open Classical in
theorem mq {β : Type} {n:Nat} {a b : β} {q:Nat→Bool} {Lf:Nat→Int→Option β} (h0:∀ k,(∀ j,j<n→q j=false)→Lf (k+1) (n:Int)=some a)
  (hs:∀ (k i:Nat),i<n→(∀ j,j<i→q j=false)→Lf (k+1) (i:Int)=if q i=true then some b else Lf k ((i+1:Nat):Int)) {k:Nat} (hk:n<k) :
  Lf k 0=some (if ∃ i,i<n∧q i=true then b else a):=by
 have key:∀ k i,i≤n→n-i<k→(∀ j,j<i→q j=false)→Lf k (i:Int)=some (if ∃ j,j<n∧q j=true then b else a):=by
  intro k
  induction k with
  |zero=>intro i _ h;omega
  | succ k ih =>
   intro i hi hk hq
   by_cases he:i=n
   ·subst he
    rw[h0 k hq,if_neg (fun⟨j,h1,h2⟩=>by rw[hq j h1] at h2;cases h2)]
   ·rw [hs k i (by omega) hq]
    by_cases hb:q i=true
    ·rw[if_pos hb,if_pos ⟨i,by omega,hb⟩]
    ·rw [if_neg hb]
     refine ih (i+1) (by omega) (by omega) fun j hj=>?_
     by_cases hji:j=i
     ·subst hji;simpa using hb
     ·exact hq j (by omega)
 exact key k 0 (by omega) (by omega) fun j hj=>by omega
open Classical in
theorem qC {α β : Type} {l:List α} {a b : β} {p : α→Bool} {Lf:Nat→Int→Option β} (h0:∀ k,(∀ x,x∈l→p x=false)→Lf (k+1) (l.length:Int)=some a)
  (hs:∀ (k i:Nat) x,l[i]?=some x→x∈l→Lf (k+1) (i:Int)=if p x=true then some b else Lf k ((i+1:Nat):Int)) {k:Nat} (hk:l.length<k) :
  Lf k 0=some (if ∃ x,x∈l∧p x=true then b else a):=by
 rw[mq (n:=l.length) (a:=a) (b:=b) (q:=fun i=>((l[i]?).map p).getD false) (Lf:=Lf) (fun k hq=>h0 k fun x hx=>?_) (fun k i hi _=>?_) hk]
 ·have hiff : (∃ i, i < l.length ∧ ((l[i]?).map p).getD false = true) ↔ ∃ x, x ∈ l ∧ p x = true := ⟨fun ⟨i, h1, h2⟩ => by
   obtain⟨x,hx⟩:=vN h1
   rw[hx] at h2
   exact⟨x,cz hx,h2⟩,fun⟨x,h1,h2⟩=>by
   obtain⟨i,h3,rfl⟩:=List.mem_iff_getElem.1 h1
   exact⟨i,h3,by rw[List.getElem?_eq_getElem h3];exact h2⟩⟩
  by_cases h:∃ x,x∈l∧p x=true
  ·rw[if_pos h,if_pos (hiff.2 h)]
  ·rw[if_neg h,if_neg fun h'=>h (hiff.1 h')]
 ·obtain ⟨i, h3, rfl⟩ := List.mem_iff_getElem.1 hx
  have:=hq i h3
  rw[List.getElem?_eq_getElem h3] at this
  exact this
 ·obtain ⟨x, hx⟩ := vN hi
  rw[hs k i x hx (cz hx),hx]
  rfl
theorem nX {α β γ : Type} {l:List α} {Lf:Nat→Int→List γ→Option β} {enc : α→List γ} {g:List γ→β} {B m:Nat} (h0:∀ k s,Lf (k+1) (l.length:Int) s=some (g s))
  (hs:∀ k (i:Nat) x s,l[i]?=some x→x∈l→s.length≤B→Lf (k+1) (i:Int) s=Lf k ((i+1:Nat):Int) (s++enc x)) (hm:∀ x,x∈l→(enc x).length≤m) {k:Nat} {s:List γ} (hk:l.length<k) (hB:s.length+l.length*m≤B) :
  Lf k 0 s=some (g (s++l.flatMap enc)):=by
 have key:∀ k (i:Nat) s,i≤l.length→l.length-i<k→s.length+(l.length-i)*m≤B→Lf k (i:Int) s=some (g (s++(l.drop i).flatMap enc)):=by
  intro k
  induction k with
  |zero=>intro i s _ h;omega
  | succ k ih =>
   intro i s hi hk hB
   by_cases he:i=l.length
   ·subst he;rw[h0 k s];simp
   ·have hl : i < l.length := by omega
    have e1:=List.getElem?_eq_getElem hl
    have Ra:=hm _ (List.getElem_mem hl)
    have e3:(l.length-i)*m=m+(l.length-(i+1))*m:=by
     rw[show l.length-i=1+(l.length-(i+1)) by omega,Nat.add_mul,Nat.one_mul]
    rw[hs k i _ s e1 (List.getElem_mem hl) (by omega),ih (i+1) _ (by omega) (by omega) (by rw[List.length_append];omega)]
    congr 2
    rw[List.drop_eq_getElem_cons hl,List.flatMap_cons,List.append_assoc]
 have:=key k 0 s (by omega) (by omega) (by rw[Nat.sub_zero];exact hB)
 rwa[List.drop_zero] at this
theorem iA {α γ : Type} {l:List α} {enc : α→List γ} {m:Nat} (h:∀ x,x∈l→(enc x).length≤m):(l.flatMap enc).length≤l.length*m:=by
 induction l with
 |nil=>simp
 |cons x r ih=>
  rw[List.flatMap_cons,List.length_append,List.length_cons,Nat.add_mul,Nat.one_mul]
  have h1:=h x List.mem_cons_self
  have h2:=ih fun y hy=>h y (List.mem_cons_of_mem _ hy)
  omega
theorem jV {α σ β : Type} {l:List α} {Lf:Nat→Int→σ→Option β} {Inv:Nat→σ→Prop} {g : σ→β} (h0:∀ k s,Inv l.length s→Lf (k+1) (l.length:Int) s=some (g s))
  (hs:∀ k (i:Nat) x s,l[i]?=some x→Inv i s→∃ s',Inv (i+1) s'∧Lf (k+1) (i:Int) s=Lf k ((i+1:Nat):Int) s') {k:Nat} {s : σ} (h:Inv 0 s) (hk:l.length<k) :
  ∃ s',Inv l.length s'∧Lf k 0 s=some (g s'):=by
 have key:∀ k (i:Nat) s,i≤l.length→l.length-i<k→Inv i s→∃ s',Inv l.length s'∧Lf k (i:Int) s=some (g s'):=by
  intro k
  induction k with
  |zero=>intro i s _ h;omega
  | succ k ih =>
   intro i s hi hk hI
   by_cases he:i=l.length
   ·subst he;exact⟨s,hI,h0 k s hI⟩
   ·obtain ⟨s', h1, h2⟩ := hs k i _ s (List.getElem?_eq_getElem (by omega)) hI
    obtain⟨s'',h3,h4⟩:=ih (i+1) s' (by omega) (by omega) h1
    exact⟨s'',h3,by rw[h2,h4]⟩
 exact key k 0 s (by omega) (by omega) h
theorem uV {α σ β : Type} {l:List α} {Lf:Nat→Int→σ→Option β} {Inv:Nat→σ→Prop} {Out : β→Prop} {g : σ→β} (h0:∀ k s,Inv l.length s→Lf (k+1) (l.length:Int) s=some (g s))
  (hs:∀ k (i:Nat) x s,l[i]?=some x→Inv i s→(∃ r,Out r∧Lf (k+1) (i:Int) s=some r)∨∃ s',Inv (i+1) s'∧Lf (k+1) (i:Int) s=Lf k ((i+1:Nat):Int) s') {k:Nat} {s : σ} (h:Inv 0 s) (hk:l.length<k) :
  (∃ r,Out r∧Lf k 0 s=some r)∨∃ s',Inv l.length s'∧Lf k 0 s=some (g s'):=by
 have key:∀ k (i:Nat) s,i≤l.length→l.length-i<k→Inv i s→(∃ r,Out r∧Lf k (i:Int) s=some r)∨∃ s',Inv l.length s'∧Lf k (i:Int) s=some (g s'):=by
  intro k
  induction k with
  |zero=>intro i s _ h;omega
  | succ k ih =>
   intro i s hi hk hI
   by_cases he:i=l.length
   ·subst he;exact .inr ⟨s,hI,h0 k s hI⟩
   ·rcases hs k i _ s (List.getElem?_eq_getElem (by omega)) hI with h | ⟨s', h1, h2⟩
    ·exact .inl h
    ·rcases ih (i + 1) s' (by omega) (by omega) h1 with ⟨r, h3, h4⟩ | ⟨s'', h3, h4⟩
     ·exact .inl ⟨r,h3,by rw[h2,h4]⟩
     ·exact .inr ⟨s'',h3,by rw[h2,h4]⟩
 exact key k 0 s (by omega) (by omega) h
def AA:Nat→Nat→List Int
 |0,n=>[(n:Int)]
 |k+1,n=>if n<128 then [(n:Int)] else ((n % 128+128:Nat):Int) :: AA k (n / 128)
def V (n:Nat):List Int:=AA 9 n
theorem GC:∀ k n,1≤(AA k n).length∧(AA k n).length≤k+1
 |0,n=>by simp[AA]
 |k+1,n=>by
  have:=GC k (n / 128)
  unfold AA
  split
  ·simp
  ·simp only[List.length_cons];omega
theorem dH (n:Nat):1≤(V n).length∧(V n).length≤10:=GC 9 n
theorem yD (n:Nat):YZ (n:Int)=((n % 256:Nat):Int):=by
 show IntKind.u8.wrap (n:Int)=_
 rw[IntKind.wrap_u8];omega
theorem AB {n:Nat} (h:n<18446744073709551616):dn (n:Int)=(n:Int):=mU (by omega)
theorem OD {n:Nat} (h:n≤9223372036854775807):aH (n:Int)=(n:Int):=cB (by omega)
theorem OF:∀ a:Nat,a<256→Gz .u8 ((a:Nat):Int) (128:Int)=((a % 128+128:Nat):Int):=by decide +kernel
theorem AD (a b:Nat):Int.fdiv (a:Int) (b:Int)=((a / b:Nat):Int):=by
 rw[Int.fdiv_eq_ediv_of_nonneg _ (by omega)];rfl
theorem OG (a b:Nat):Int.tdiv (a:Int) (b:Int)=((a / b:Nat):Int):=by
 rw[Int.tdiv_eq_ediv_of_nonneg (by omega)];rfl
theorem GD (a b:Nat):Int.tmod (a:Int) (b:Int)=((a % b:Nat):Int):=by
 rw[Int.tmod_eq_emod_of_nonneg (by omega)];rfl
def Ku (n:Int):Nat:=if 0≤n then (2*n).toNat else (-2*n-1).toNat
theorem VP {n:Int} (h : -9223372036854775808≤n∧n≤9223372036854775807):Ku n<18446744073709551616:=by
 unfold Ku;split<;>omega
theorem Sj {α : Type} {p q:Prop} {ip:Decidable p} {iq:Decidable q} {a b : α} (h:p↔q) : @ite α p ip a b = @ite α q iq a b:=by
 by_cases hp:p
 ·rw[if_pos hp,if_pos (h.1 hp)]
 ·rw[if_neg hp,if_neg fun hq=>hp (h.2 hq)]
theorem ja {p:Prop} {i:Decidable p} (h:p) : @decide p i=true:=decide_eq_true h
theorem eO {p:Prop} {i:Decidable p} (h:¬p) : @decide p i=false:=decide_eq_false h
theorem cM (s:List UInt8):(cu s).length=s.length:=by simp[cu]
end Go.Sym
