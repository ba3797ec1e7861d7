/- A part of the proof: SymN, Plain, EngSort, EngCompact, SymP, Tab12ac. -/
import Derived.Test.YthphehfgekjooaaGreatDoorSymM
import Derived.IntWalk
import Derived.Test.YthphehfgekjooaaGreatDoorEngQ
import Derived.Shelf.Slices.In.SortNone
import Derived.Shelf.Slices.CompactI
import Derived.Test.YthphehfgekjooaaGreatDoorSymK
import Derived.Test.YthphehfgekjooaaGreatDoorSymB
import Derived.Test.YthphehfgekjooaaGreatDoorRows
import Derived.ProofKit
import Derived.Test.YthphehfgekjooaaGreatDoorLay12ac
import Derived.Test.YthphehfgekjooaaGreatDoorSymLb
set_option linter.unusedVariables false
set_option linter.unusedSimpArgs false
namespace Go.Sym
open Go Go.bq
def Iq:Nat:=400
def au.base (cx:Nat→Option sQ) (Hs Qw:Nat→Nat→Option bG) (Kf:Nat→Nat→Option (Nat×Ty)) (unr:Nat→Nat→Bool) (Mn:Nat→Nat→Option Ty):au:=
 { fns:=cx,Gm:=fun _=>none,loops:=fun _ _ _=>none,Hs,Qw,Kf,unr,Mn }
def au.jh (E:au) (f:Nat) (c:Callee):au:=
 { E with Gm:=fun g=>match Nat.beq g f with
  |true=>some c
  |false=>E.Gm g }
def au.af (E:au) (N ctx i:Nat) (T:bJ) (outs:bG):au:=
 { E with loops:=fun ctx' i' c=>match Nat.beq ctx' ctx&&Nat.beq i' i with
  |true=>some ⟨T,outs,Mo (Aw E Iq ctx i c T outs) N⟩
  |false=>E.loops ctx' i' c }
theorem Va (cx:Tb) (Hs Qw:Nat→Nat→Option bG) (Kf:Nat→Nat→Option (Nat×Ty)) (unr:Nat→Nat→Bool) (Mn:Nat→Nat→Option Ty):aF cx (au.base cx Hs Qw Kf unr Mn):=
 ⟨rfl,fun _ _ h=>(by cases h),fun _ _ _ _ h=>(by cases h)⟩
theorem aF.jh {cx:Tb} {E:au} (h:aF cx E) {f:Nat} {c:Callee} (hc:nL cx f c):aF cx (E.jh f c):=by
 refine⟨h.fns,fun g d hd=>?_,h.loops⟩
 simp only[au.jh] at hd
 split at hd
 ·rename_i he
  rw[Nat.eq_of_beq_eq_true he]
  injection hd with hd;subst hd
  exact hc
 ·exact h.Gm g d hd
theorem aF.af {cx:Tb} {E:au} (h:aF cx E) (N ctx i:Nat) (T:bJ) (outs:bG):aF cx (E.af N ctx i T outs):=by
 refine⟨h.fns,h.Gm,fun ctx' i' c L hL=>?_⟩
 simp only[au.af] at hL
 split at hL
 ·injection hL with hL; subst hL
  exact MD h Iq ctx i c T outs N
 ·exact h.loops ctx' i' c L hL
theorem nL.plain {Fs:Tb} {f:Nat} {args:List qy} {ta tr:List Ty} {res:List (Bool×List fC)} {rk:Nat} {F G:(qn ta).den→Option (qn tr).den} (h:nL Fs f ⟨args,ta,res,tr,rk,F⟩) (e:G=F):nL Fs f ⟨args,ta,res,tr,rk,G⟩:=by
 subst e
 exact h
def Ax:List (Nat×sQ)→Nat→Option sQ
 |[],_=>none
 |(g,fn) :: r,f=>match Nat.beq g f with
  |true=>some fn
  |false=>Ax r f
inductive u0 (P:Program) (dP:Nat→Option TypeId) (md:Nat→bq.Mode):List (Nat×sQ)→Prop where
 |nil:u0 P dP md []
 |cons {g:Nat} {fn:sQ} {r:List (Nat×sQ)} : Ch P dP md g=some fn→u0 P dP md r→u0 P dP md ((g,fn) :: r)
theorem QE {P:Program} {dP:Nat→Option TypeId} {md:Nat→bq.Mode} {l:List (Nat×sQ)} (h:u0 P dP md l):∀ f fn,Ax l f=some fn→Ch P dP md f=some fn:=by
 induction h with
 |nil=>intro f fn h;cases h
 | @cons g fn' r h1 _ ih =>
  intro f fn h
  simp only[Ax] at h
  split at h
  ·rename_i hb
   have e:=Nat.eq_of_beq_eq_true hb
   subst e
   injection h with h;subst h
   exact h1
  ·exact ih f fn h
def fixF {α β : Type} (step:Nat→(α→Option β)→α→Option β):Nat→α→Option β
 |0,_=>none
 |n+1,x=>step n (fixF step n) x
def tQ (t:Nat):AC→Nat→Option AC
 |.seq a b,i=>match Nat.blt t (i+tK a) with
  |true=>tQ t a i
  |false=>tQ t b (i+tK a)
 |.cond _ a b,i=>match Nat.blt t (i+1+tK a) with
  |true=>tQ t a (i+1)
  |false=>tQ t b (i+1+tK a)
 |.block _ c,i=>tQ t c (i+1)
 |.loop c,i=>match Nat.beq t i with
  |true=>some c
  |false=>tQ t c (i+1)
 |_,_=>none
def ZY (fn:sQ) (t:Nat):AC:=(tQ t fn.body 0).getD .skip
def fC.tys:fC→List Ty
 |.int k=>[.int k]
 |.bool=>[.bool]
 |.er=>[.bool]
 |.str=>[.str]
 |.sl t _=>[.sl t]
 |.eW t _=>[t]
 |_=>[]
def fC.Qi:fC→fC
 |.sl t _=>.sl t .bB
 |c=>c
def kg (T:Ty):List fC:=(aL T).map fC.Qi
def qy.tys:qy→List Ty
 |.c x=>x.tys
 |.agg l=>l.flatMap fC.tys
 |.box l=>l.flatMap fC.tys
 |.fB _=>[]
def sA.tys:sA→List Ty
 |.c x=>x.tys
 |.agg l=>l.flatMap fC.tys
 |.fB _ l=>l.flatMap fC.tys
def Mm.tys:Mm→List Ty
 |.row _ t=>[.sl t]
 |.box _ l=>l.flatMap fC.tys
 |.set _=>[.sl .str]
def adA (l:List (Nat×sA)):List Ty:=l.flatMap fun x=>x.2.tys
def tm (slots:List (Nat×sA)) (outer:List (List (Nat×sA))) (mem:List (Nat×Nat×Mm)) (lvs:Nat) (aB:List Nat) (nv:Nat):bJ:=
 ⟨slots,outer,mem,lvs,aB,nv,adA slots++(outer.flatMap adA++mem.flatMap fun x=>x.2.2.tys)⟩
structure dz where
 a:List qy
 r:List (Bool×List fC)
 k:Nat
 b:List (Nat×Nat×Nat×Ty)
 u:List (Nat×Nat)
 e:List (Nat×Nat×Ty)
 c:List (Nat×Nat×bG)
abbrev sg (a:List qy) (r:List (Bool×List fC)):dz:=⟨a,r,0,[],[],[],[]⟩
def dz.ta (s:dz):List Ty:=s.a.flatMap qy.tys
def dz.tr (s:dz):List Ty:=s.r.flatMap fun x=>x.2.flatMap fC.tys
def dz.Gm (s:dz) (F:(qn s.ta).den→Option (qn s.tr).den):Callee:=⟨s.a,s.ta,s.r,s.tr,s.k,F⟩
def lk {β : Type} : List (Nat×Nat×β)→Nat→Nat→Option β
 |[],_,_=>none
 |(a,b,x) :: r,c,i=>match Nat.beq a c&&Nat.beq b i with
  |true=>some x
  |false=>lk r c i
def lkU:List (Nat×Nat)→Nat→Nat→Bool
 |[],_,_=>false
 |(a,b) :: r,c,i=>Nat.beq a c&&Nat.beq b i||lkU r c i
def au.on (E:au) (s:dz):au:={ E with Hs:=lk s.c,Kf:=lk s.b,unr:=lkU s.u,Mn:=lk s.e }
def au.fn (E:au) (f:Nat) (s:dz):(qn s.ta).den→Option (qn s.tr).den:=QC E Iq f s.a s.ta s.r s.tr s.k
def au.put (E:au) (f:Nat) (s:dz) (F:(qn s.ta).den→Option (qn s.tr).den):au:=E.jh f (s.Gm F)
theorem aF.on {cx:Tb} {E:au} (h:aF cx E) (s:dz):aF cx (E.on s):=⟨h.fns,h.Gm,h.loops⟩
theorem aF.put {cx:Tb} {E E':au} (h:aF cx E) (h':aF cx E') (f:Nat) (s:dz) (F:(qn s.ta).den→Option (qn s.tr).den) (e:F=E'.fn f s):aF cx (E.put f s F):=
 h.jh ((adv h' Iq f s.a s.ta s.r s.tr s.k).plain e)
def lp (E:au) (c i:Nat) (fn:sQ) (t:Nat) (T:bJ) (O:bG):Nat→(qn T.tys).den→Option (nJ O).den:=Mo (Aw E Iq c i (ZY fn t) T O)
def Vb:List Nat→Nat→Bool
 |[],_=>false
 |a :: r,f=>Nat.beq a f||Vb r f
def ZZ (l:List Nat) (tq:Nat→sQ) (f:Nat):Option sQ:=match Vb l f with
 |true=>some (tq f)
 |false=>none
theorem Vc {P:Program} {dP:Nat→Option TypeId} {md:Nat→bq.Mode} {tq:Nat→sQ} {l:List Nat} (hq:∀ f,tq f=(Ch P dP md f).getD default) (h:l.all (fun f=>(Ch P dP md f).isSome)=true):∀ f fn,ZZ l tq f=some fn→Ch P dP md f=some fn:=by
 have key:∀ l:List Nat,l.all (fun f=>(Ch P dP md f).isSome)=true→∀ f,Vb l f=true→(Ch P dP md f).isSome=true:=by
  intro l h f hm
  induction l with
  |nil=>cases hm
  |cons a r ih=>
   simp only[List.all_cons,Bool.and_eq_true] at h
   simp only[Vb,Bool.or_eq_true] at hm
   rcases hm with hm|hm
   ·rw[←Nat.eq_of_beq_eq_true hm];exact h.1
   ·exact ih h.2 hm
 intro f fn hf
 unfold ZZ at hf
 split at hf
 ·rename_i hm
  have:=key l h f hm
  injection hf with hf
  subst hf
  rw[hq]
  cases he:Ch P dP md f with
  |none=>rw[he] at this;cases this
  |some x=>rfl
 ·cases hf
abbrev JA (a:Int):Int:=IntKind.u8.wrap a
abbrev aly (a:Int):Int:=IntKind.u16.wrap a
abbrev alz (a:Int):Int:=IntKind.u32.wrap a
abbrev cg (a:Int):Int:=IntKind.u64.wrap a
abbrev wi8 (a:Int):Int:=IntKind.i8.wrap a
abbrev alA (a:Int):Int:=IntKind.i16.wrap a
abbrev alB (a:Int):Int:=IntKind.i32.wrap a
abbrev ah (a:Int):Int:=IntKind.i64.wrap a
def qv (k:IntKind) (a b:Int):Int:=k.wrap (BitVec.ofInt k.bits a &&& BitVec.ofInt k.bits b).toNat
def zk (k:IntKind) (a b:Int):Int:=k.wrap (BitVec.ofInt k.bits a ||| BitVec.ofInt k.bits b).toNat
def Ir (k:IntKind) (a b:Int):Int:=k.wrap (BitVec.ofInt k.bits a ^^^ BitVec.ofInt k.bits b).toNat
def nO (k:IntKind) (a b:Int):Int:=k.wrap (BitVec.ofInt k.bits a &&& ~~~(BitVec.ofInt k.bits b)).toNat
end Go.Sym
namespace Go.Sym
open Go Go.bq
theorem bn {n:Int} (h : -9223372036854775808≤n∧n≤9223372036854775807):ah n=n:=IntWalk.i64_in n h
theorem jN {n:Int} (h:0≤n∧n≤18446744073709551615):cg n=n:=IntWalk.u64_in n h
theorem Z1 {n:Int} (h:0≤n∧n≤255):JA n=n:=IntWalk.u8_in n h
theorem zm {α : Type} (pre:List α) (x : α) (r:List α):idx (pre++x :: r) (pre.length:Int)=some x:=by
 simp[idx]
theorem Rr {α : Type} {l pre:List α} {x : α} {r:List α} {i:Int} (hl:l=pre++x :: r) (hi:i=(pre.length:Int)):idx l i=some x:=by
 grind[idx]
theorem A3 {α : Type} {l:List α} {i:Int} {x : α} (h0:0≤i) (h:l[i.toNat]?=some x):idx l i=some x:=by
 simp[idx,h0,h]
theorem MK {n b:Nat} (h1:n≤9223372036854775807) (h2:n*b≤140737488355328):room n b=true:=by
 simp[room,dU,jl,h1,h2]
theorem aj {α : Type} (k:Option α):aM true k=k:=rfl
theorem Z2 {α : Type} {b:Bool} {k:Option α} (h:b=true):aM b k=k:=by subst h;rfl
theorem yL {α : Type} {b:Bool} {k r:Option α} (h1:b=true) (h2:k=r):aM b k=r:=by rw[h1];exact h2
theorem vr {β : Type} {n:Nat} {Lf:Nat→Int→Option β} {g:Nat→Option β} (h0:∀ k,Lf (k+1) (n:Int)=g n)
  (hs:∀ k i,i<n→Lf k ((i+1:Nat):Int)=g (i+1)→Lf (k+1) (i:Int)=g i):∀ k i,i≤n→n-i<k→Lf k (i:Int)=g i
 |0,_,_,h=>by omega
 |k+1,i,hi,hk=>by
  by_cases he:i=n
  ·grind
  ·exact hs k i (by omega) (vr h0 hs k (i+1) (by omega) (by omega))
theorem Vd {σ β : Type} {n:Nat} {I:Nat→σ→Prop} {Lf:Nat→Int→σ→Option β} {g:Nat→σ→Option β} (h0:∀ k s,I n s→Lf (k+1) (n:Int) s=g n s)
  (hs:∀ k i s,i<n→I i s→(∀ s',I (i+1) s'→Lf k ((i+1:Nat):Int) s'=g (i+1) s')→Lf (k+1) (i:Int) s=g i s):∀ k i s,I i s→i≤n→n-i<k→Lf k (i:Int) s=g i s
 |0,_,_,_,_,h=>by omega
 |k+1,i,s,hI,hi,hk=>by
  by_cases he:i=n
  ·grind
  ·exact hs k i s (by omega) hI fun s' hI'=>Vd h0 hs k (i+1) s' hI' (by omega) (by omega)
theorem sJ {α β : Type} [DecidableEq α] {l m:List α} [Decidable (l=m)] {a b : β} {Lf:Nat→Int→Option β} (hl:l.length=m.length) (h0:∀ k,Lf (k+1) (l.length:Int)=some a)
  (hs:∀ (k i:Nat) x y,x∈l→y∈m→l[i]?=some x→m[i]?=some y→Lf (k+1) (i:Int)=if x=y then Lf k ((i+1:Nat):Int) else some b):∀ k,l.length<k→Lf k 0=some (if l=m then a else b):=by
 classical
 intro k hk
 have:=vr (n:=l.length) (Lf:=Lf) (g:=fun i=>some (if l.drop i=m.drop i then a else b)) (fun k=>by rw[h0 k];simp[hl]) (fun k i hi ih=>by
  have e1:=List.getElem?_eq_getElem hi
  have e2:=List.getElem?_eq_getElem (l:=m) (i:=i) (by omega)
  rw[hs k i _ _ (List.getElem_mem hi) (List.getElem_mem _) e1 e2,ih,List.drop_eq_getElem_cons hi,List.drop_eq_getElem_cons (l:=m) (i:=i) (by omega)]
  simp only[List.cons.injEq]
  by_cases h:l[i]=m[i]'(by omega)
  ·simp only[h,if_true,true_and]
  ·simp only[h,if_false,false_and]) k 0 (by omega) (by omega)
 grind
theorem A4 {α β : Type} {l:List α} {a b : β} {p : α→Bool} {Lf:Nat→Int→Option β} (h0:∀ k,Lf (k+1) (l.length:Int)=some a)
  (hs:∀ (k i:Nat) x,x∈l→l[i]?=some x→Lf (k+1) (i:Int)=if p x then some b else Lf k ((i+1:Nat):Int)):∀ k,l.length<k→Lf k 0=some (if l.any p then b else a):=by
 intro k hk
 have:=vr (n:=l.length) (Lf:=Lf) (g:=fun i=>some (if (l.drop i).any p then b else a)) (fun k=>by rw[h0 k];simp) (fun k i hi ih=>by
  have e1:=List.getElem?_eq_getElem hi
  rw[hs k i _ (List.getElem_mem hi) e1,ih,List.drop_eq_getElem_cons hi]
  rw[List.any_cons]
  by_cases h:p l[i]=true
  ·rw[h];rfl
  ·rw[Bool.not_eq_true] at h;rw[h];rfl) k 0 (by omega) (by omega)
 grind
theorem ach {α β : Type} {l:List α} {a b : β} {P : α→Prop} {n:Nat} {Lf:Nat→Int→Option β} (hn:n≤l.length) (h0:∀ k,Lf (k+1) (n:Int)=some a)
  (hs:∀ (k i:Nat) x,i<n→x∈l→l[i]?=some x→Lf (k+1) (i:Int)=some b∨(P x∧Lf (k+1) (i:Int)=Lf k ((i+1:Nat):Int))):∀ k,n<k→Lf k 0=some b∨(Lf k 0=some a∧∀ (i:Nat) x,i<n→l[i]?=some x→P x):=by
 have key : ∀ k i, i ≤ n → n - i < k → Lf k (i : Int) = some b ∨ (Lf k (i : Int) = some a ∧ ∀ (j : Nat) x, i ≤ j → j < n → l[j]? = some x → P x) := by
  intro k
  induction k with
  |zero=>omega
  | succ k ih =>
   intro i hi hk
   by_cases he:i=n
   ·subst he
    exact .inr ⟨h0 k,fun j x h1 h2=>by omega⟩
   ·have hl : i < l.length := by omega
    have e1:=List.getElem?_eq_getElem hl
    rcases hs k i _ (by omega) (List.getElem_mem hl) e1 with h|⟨hp,h⟩
    ·exact .inl h
    ·rw [h]
     rcases ih (i+1) (by omega) (by omega) with h|⟨h,h2⟩
     ·exact .inl h
     ·refine .inr ⟨h, fun j x h3 h4 h5 => ?_⟩
      by_cases hj:j=i
      ·subst hj;simp_all
      ·exact h2 j x (by omega) h4 h5
 intro k hk
 rcases key k 0 (by omega) (by omega) with h|⟨h,h2⟩<;>grind
theorem aT {α : Type} {l:List α} {i:Nat} {x : α} (h:l[i]?=some x):idx l (i:Int)=some x:=A3 (by omega) (by grind)
theorem dD {n i:Nat} (h:i<n):jf (i:Int) n=true:=by simp[jf,h]
theorem aE {i:Nat} (h:i<9223372036854775807):ah ((i:Int)+1)=((i+1:Nat):Int):=by rw[bn (by omega)];rfl
theorem bg {i n:Nat} (h:i<n):decide ((i:Int)<(n:Int))=true:=decide_eq_true (by omega)
theorem bp (n:Nat):decide ((n:Int)<(n:Int))=false:=decide_eq_false (by omega)
theorem Is {α : Type} {l:List α} {i:Nat} {x : α} (h:l[i]?=some x):l.set i x=l:=by
 obtain⟨h1,h2⟩:=List.getElem?_eq_some_iff.1 h
 rw[←h2]
 exact List.set_getElem_self h1
end Go.Sym
namespace Go.bq
open Go Go.RowKit Go.Sort
theorem wP (x:Int):∀ l,(yC x l).Perm (x :: l)
 |[]=>List.Perm.refl _
 |y :: r=>by
  unfold yC
  split
  ·exact List.Perm.refl _
  ·exact ((wP x r).cons y).trans (List.Perm.swap x y r)
theorem A5:∀ l,(jm l).Perm l
 |[]=>List.Perm.refl _
 |x :: r=>by
  rw[jm]
  exact (wP x _).trans ((A5 r).cons x)
theorem x8 (x:Int):∀ l:List Int,l.Pairwise (·≤·)→(yC x l).Pairwise (·≤·)
 |[],_=>by simp[yC]
 | y :: r, h => by
  rw[List.pairwise_cons] at h
  unfold yC
  split
  ·rename_i hc
   have hc:=of_decide_eq_true hc
   rw[List.pairwise_cons]
   refine⟨fun z hz=>?_,List.pairwise_cons.2 h⟩
   rcases List.mem_cons.1 hz with rfl|hz
   ·exact hc
   ·exact Int.le_trans hc (h.1 z hz)
  ·rename_i hc
   have hc:=of_decide_eq_false hc
   rw[List.pairwise_cons]
   refine⟨fun z hz=>?_,x8 x r h.2⟩
   rcases List.mem_cons.1 ((wP x r).mem_iff.1 hz) with rfl|hz
   ·omega
   ·exact h.1 z hz
theorem vt:∀ l:List Int,(jm l).Pairwise (·≤·)
 |[]=>List.Pairwise.nil
 |x :: r=>x8 x _ (vt r)
theorem Fp (l:List Int):(l.mergeSort fun x y=>decide (x≤y))=jm l:=by
 refine List.Perm.eq_of_pairwise (le:=fun a b=>a≤b) (fun a b _ _ h1 h2=>Int.le_antisymm h1 h2) ?_ (vt l) ((List.mergeSort_perm _ _).trans (A5 l).symm)
 have:=List.pairwise_mergeSort (le:=fun x y:Int=>decide (x≤y)) (fun a b c h1 h2=>by simp only[decide_eq_true_eq] at *;omega) (fun a b=>by simp only[Bool.or_eq_true,decide_eq_true_eq];omega) l
 exact this.imp fun h=>of_decide_eq_true h
theorem It {w:World} {b off n:Nat} {zs:List Int} {os:Array Obj} (hz:∀ C e,w.heap[b]?=some (.cells C e (0,0))→off+zs.length≤C.size) (hb:b<w.heap.size):L9 w (grow (putRow (Value.int .i64) (Go.Sort.ahead w n) b off zs.toArray) os) b off zs:=by
 refine⟨rfl,rfl,rfl,?_,fun k hk hne=>?_,fun C e hC=>?_⟩
 ·simp[grow,putRow,mapBlock,Go.Sort.ahead]
 ·simp only [grow, putRow, mapBlock, Go.Sort.ahead]
  rw[Array.getElem?_append_left (by simpa using hk),Array.getElem?_modify,if_neg (Ne.symm hne)]
 ·refine ⟨putCells (Value.int .i64) off zs.toArray C, ?_, by simp [putCells], fun j z hj => ?_⟩
  ·simp only [grow, putRow, mapBlock, Go.Sort.ahead]
   rw[Array.getElem?_append_left (by simpa using hb),Array.getElem?_modify,if_pos rfl,hC]
   rfl
  ·have hlt := (List.getElem?_eq_some_iff.1 hj).1
   have hs:=hz C e hC
   have hlt2:off+j<C.size:=by omega
   simp only[putCells]
   rw[Array.getElem?_mapIdx,Array.getElem?_eq_getElem hlt2]
   simp only[Option.map_some]
   rw[if_pos ⟨by omega,by simpa using hlt⟩]
   rw[show off+j-off=j by omega]
   have:zs.toArray[j]! = z:=by
    rw[getElem!_pos zs.toArray j (by simpa using hlt)]
    have:=(List.getElem?_eq_some_iff.1 hj).2
    simpa using this
   rw[this]
theorem On {P:Program} {ρ : Go.Shelf.Ren} (L:Go.Proofs.Lays.n189 P ρ) (hf:∃ fn,P.funcs[ρ.f 189]?=some fn∧fn.body.isSome=true∧(fn.name == "runtime.NumGoroutine")=false):JS P (ρ.f 189):=by
 refine⟨hf,fun p cap w=>Go.Proofs.Any.slices_Sort_int_none L p cap w,fun b off cap zs w C e hC hz h0 hlt=>?_⟩
 have hb:b<w.heap.size:=(Array.getElem?_eq_some_iff.1 hC).1
 have hH:Go.Sort.Holds (Value.int .i64) w b off zs.toArray:=by
  intro j hj
  have hj:j<zs.length:=by simpa using hj
  have h1:=hz j zs[j] (List.getElem?_eq_getElem hj)
  refine⟨?_,?_⟩
  ·rw [getElem!_pos zs.toArray j (by simpa using hj)]
   simp[World.cell?,hC,h1]
  ·simp[World.frozen?,hC]
 refine Calls.mono (Go.Proofs.Any.slices_Sort_int L b off cap zs w hH hb hlt) ?_
 rintro en w' ⟨rfl,n,os,rfl⟩
 refine⟨rfl,?_⟩
 rw[Fp]
 refine It (fun C' e' Oo=>?_) hb
 rw[hC] at Oo
 injection Oo with Oo
 injection Oo with Oo _ _
 subst Oo
 rw[mA]
 have:=hz (zs.length-1) zs[zs.length-1] (List.getElem?_eq_getElem (by omega))
 have:=(Array.getElem?_eq_some_iff.1 this).1
 omega
end Go.bq
namespace Go.bq
open Go Go.RowKit Go.Sort
def jt (x:Int):List Int→List Int
 |[]=>[]
 |y :: r=>if y≠x then y :: jt y r else jt y r
theorem tR (x:Int):∀ r,gH (x :: r)=x :: jt x r
 |[]=>rfl
 | y :: r => by
  rw[gH]
  by_cases h:x=y
  ·subst h
   rw[decide_eq_true rfl,tR x r,jt,if_neg (by simp)]
  ·rw[decide_eq_false h,tR y r,jt,if_pos (Ne.symm h)]
theorem A6:∀ (r:List Int) (x:Int),((List.range r.length).filter fun j=>Lib.keeps (x :: r).toArray (j+1)).map (fun j=>(x :: r).toArray[j+1]!)=jt x r
 |[],_=>rfl
 | y :: r, x => by
  have ih:=A6 r y
  have h0:Lib.keeps (x :: y :: r).toArray (0+1)=decide (y≠x):=by simp[Lib.keeps]
  have hs:∀ j,Lib.keeps (x :: y :: r).toArray (j+1+1)=Lib.keeps (y :: r).toArray (j+1):=by
   intro j
   simp[Lib.keeps]
  have hg:∀ j,(x :: y :: r).toArray[j+1+1]! = (y :: r).toArray[j+1]!:=by intro j;simp
  have AR:(((List.range r.length).map Nat.succ).filter fun j=>Lib.keeps (x :: y :: r).toArray (j+1)).map (fun j=>(x :: y :: r).toArray[j+1]!)=jt y r:=by
   rw[List.filter_map,List.map_map,←ih]
   have e1:((fun j=>Lib.keeps (x :: y :: r).toArray (j+1)) ∘ Nat.succ)=fun j=>Lib.keeps (y :: r).toArray (j+1):=funext fun j=>hs j
   have e2:((fun j=>(x :: y :: r).toArray[j+1]!) ∘ Nat.succ)=fun j=>(y :: r).toArray[j+1]!:=funext fun j=>hg j
   rw[e1,e2]
  rw[List.length_cons,List.range_succ_eq_map,List.filter_cons]
  rw[h0,jt]
  by_cases h:y≠x
  ·rw [if_pos h, if_pos (decide_eq_true h), List.map_cons, AR]
   simp
  ·rw[if_neg h,if_neg (by simpa using h),AR]
theorem KK:∀ zs:List Int,Lib.compact zs=gH zs
 |[]=>rfl
 |x :: r=>by
  rw[tR,←A6 r x]
  unfold Lib.compact Lib.compactUpTo
  rw[List.length_cons,List.range_succ_eq_map,List.filter_cons]
  rw[if_pos (by simp[Lib.keeps])]
  rw[List.map_cons,List.filter_map,List.map_map]
  rfl
theorem Fq {P:Program} {ρ : Go.Shelf.Ren} (L:Go.Proofs.Lays2.n20 P ρ) (hf:∃ fn,P.funcs[ρ.f 20]?=some fn∧fn.body.isSome=true∧(fn.name == "runtime.NumGoroutine")=false):v8 P (ρ.f 20):=by
 refine⟨hf,fun p cap w=>Go.Proofs.Any.slices_Compact_int_empty L p cap w,fun b off cap zs w C e hC hz h0 hlt hcap=>?_⟩
 have hb:b<w.heap.size:=(Array.getElem?_eq_some_iff.1 hC).1
 have hH:Go.Sort.Holds (Value.int .i64) w b off zs.toArray:=by
  intro j hj
  have hj:j<zs.length:=by simpa using hj
  have h1:=hz j zs[j] (List.getElem?_eq_getElem hj)
  refine⟨?_,?_⟩
  ·rw [getElem!_pos zs.toArray j (by simpa using hj)]
   simp[World.cell?,hC,h1]
  ·simp[World.frozen?,hC]
 refine Calls.mono (Go.Proofs.Any.slices_Compact_int L b off cap zs w hH (by omega) hcap) ?_
 rintro en w' ⟨rfl,q,rfl⟩
 rw[KK]
 refine⟨rfl,?_⟩
 have hle:=mB zs
 have:=It (w:=w) (b:=b) (off:=off) (n:=q) (zs:=gH zs++List.replicate (zs.length-(gH zs).length) 0) (os:=#[]) (fun C' e' Oo=>by
  rw[hC] at Oo
  injection Oo with Oo
  injection Oo with Oo _ _
  subst Oo
  have h2:=hz (zs.length-1) zs[zs.length-1] (List.getElem?_eq_getElem (by omega))
  have h2:=(Array.getElem?_eq_some_iff.1 h2).1
  simp only[List.length_append,List.length_replicate]
  omega) hb
 rw[grow_empty] at this
 refine⟨this.os,this.tape,this.output,this.size,this.other,fun C e hC=>?_⟩
 obtain⟨C',h1,h2,h3⟩:=this.row C e hC
 refine⟨C',h1,h2,fun j z hj=>h3 j z ?_⟩
 rw[List.getElem?_append_left (List.getElem?_eq_some_iff.1 hj).1]
 exact hj
end Go.bq
namespace Go.Sym
open Go Go.bq
def ahB:Callee:=⟨[],[],[(false,[.bool])],[.bool],0,fun _=>some true⟩
end Go.Sym
namespace Go.Proofs.YthphehfgekjooaaGreatDoor
open Go Go.bq Go.Sym
def md:Nat→bq.Mode:=fun f=>match f with
 |11=>⟨[(4,262148),(5,262148),(68,1)],false⟩
 |25=>⟨[],true⟩
 |162=>⟨[],true⟩
 |123=>⟨[],true⟩
 |90=>⟨[(27,2),(44,2),(65,2),(104,2)],false⟩
 |91=>⟨[(3,6),(17,1)],false⟩
 |170=>⟨[(13,1)],false⟩
 |144=>⟨[(9,1)],false⟩
 |146=>⟨[],true⟩
 |171=>⟨[],true⟩
 |145=>⟨[],true⟩
 |148=>⟨[],true⟩
 |97=>⟨[(6,6357385221)],true⟩
 |57=>⟨[(2,65540)],false⟩
 |30=>⟨[],true⟩
 |31=>⟨[],true⟩
 |56=>⟨[],true⟩
 |29=>⟨[],true⟩
 |60=>⟨[(20,65537)],false⟩
 |32=>⟨[],true⟩
 |117=>⟨[],true⟩
 |161=>⟨[(28,1)],false⟩
 |116=>⟨[(24,3),(40,1),(10,1)],true⟩
 |79=>⟨[(13,1)],false⟩
 |84=>⟨[(2,65540),(38,1)],false⟩
 |80=>⟨[(13,65537)],false⟩
 |124=>⟨[(6,2)],true⟩
 |122=>⟨[],true⟩
 |126=>⟨[(6,2)],true⟩
 |127=>⟨[(11,2)],false⟩
 |164=>⟨[(6,2)],true⟩
 |81=>⟨[(37,2),(86,2),(119,2),(126,2),(133,2),(139,2),(152,2),(165,2),(182,2),(218,2)],false⟩
 |130=>⟨[(19,131071)],false⟩
 |82=>⟨[(45,3),(105,1),(28,1),(25,1),(91,1),(31,1)],false⟩
 |135=>⟨[],true⟩
 |83=>⟨[(74,1),(39,1)],false⟩
 |13=>⟨[(11,1)],false⟩
 |5=>⟨[(44,9),(46,9),(48,9),(50,9),(52,9),(54,9),(56,9),(58,9),(11,262145)],false⟩
 |6=>⟨[(72,9)],false⟩
 |4=>⟨[(100,2),(110,2),(120,2)],false⟩
 |62=>⟨[(15,2)],false⟩
 |_=>⟨[],false⟩
def dP:Nat→Option TypeId:=fun f=>match f with
 |50=>some 36
 |51=>some 37
 |174=>some 1000000
 |175=>some 1000001
 |_=>none
def adB:List Nat:=[43,44,23,11,25,12,14,142,162,123,169,143,93,90,91,53,170,144,92,54,146,171,145,94,148,149,150,151,152,98,99,95,136,147,96,55,28,97,57,30,31,56,29,58,59,60,32,16,47,48,115,117,161,116,79,84,118,119,120,80,121,176,163,125,124,122,126,127,128,164,129,81,165,166,133,130,131,132,82,134,135,83,85,49,26,13,5,6,8,9,20,10,4,100,61,33,102,101,62,64,35,63,34,65,103,104,66,153,105,67,36,17,68,37,18,69,38,39,19,7,3]
@[irreducible] noncomputable def tq (f:Nat):sQ:=(Ch Tryz.prog dP md f).getD default
def Ft:Go.bq.Call:=k8 (qu 21 KG) (k8 (qu 22 KF) (k8 (qu 24 Ol) (k8 (qu 15 Om) (QG))))
noncomputable def cx:Tb:=⟨ZZ adB tq,Ft⟩
theorem adC (f:Nat):tq f=(Ch Tryz.prog dP md f).getD default:=by kernel_rfl
set_option maxRecDepth 100000 in
theorem Ve:adB.all (fun f=>(Ch Tryz.prog dP md f).isSome)=true:=by kernel_rfl
theorem adD:∀ f fn,cx f=some fn→Ch Tryz.prog dP md f=some fn:=Vc adC Ve
theorem adE (xs:List AV) (v:AV) (h:KG xs=some v):cx.O 21 xs [.lf] .lf 0=some (v,[.lf],.lf,0):=by
 show Ft 21 xs [.lf] .lf 0=_
 simp[Ft,k8,qu,DI,h]
theorem adF (xs:List AV) (v:AV) (h:KF xs=some v):cx.O 22 xs [.lf] .lf 0=some (v,[.lf],.lf,0):=by
 show Ft 22 xs [.lf] .lf 0=_
 simp[Ft,k8,qu,DI,h]
theorem adG (xs:List AV) (v:AV) (h:Ol xs=some v):cx.O 24 xs [.lf] .lf 0=some (v,[.lf],.lf,0):=by
 show Ft 24 xs [.lf] .lf 0=_
 simp[Ft,k8,qu,DI,h]
theorem adH (xs:List AV) (v:AV) (h:Om xs=some v):cx.O 15 xs [.lf] .lf 0=some (v,[.lf],.lf,0):=by
 show Ft 15 xs [.lf] .lf 0=_
 simp[Ft,k8,qu,DI,h]
theorem Vf:kf Tryz.prog 50 36:=⟨fun _ _=>⟨_,Tryz.func50,by kernel_rfl,by kernel_rfl,by kernel_rfl,by kernel_rfl⟩,fun h=>absurd h (by decide),fun h=>absurd h (by decide)⟩
theorem Vg:kf Tryz.prog 51 37:=⟨fun _ _=>⟨_,Tryz.func51,by kernel_rfl,by kernel_rfl,by kernel_rfl,by kernel_rfl⟩,fun h=>absurd h (by decide),fun h=>absurd h (by decide)⟩
theorem Rs:kf Tryz.prog 174 1000000:=⟨fun h=>absurd rfl h,fun _=>On Tryz.U5 ⟨_,Tryz.func174,by kernel_rfl,by kernel_rfl⟩,fun h=>absurd h (by decide)⟩
theorem Rt:kf Tryz.prog 175 1000001:=⟨fun _ h=>absurd rfl h,fun h=>absurd h (by decide),fun _=>Fq Tryz.ZV ⟨_,Tryz.func175,by kernel_rfl,by kernel_rfl⟩⟩
theorem adI:∀ f T,dP f=some T→kf Tryz.prog f T:=by
 intro f T h
 unfold dP at h
 split at h
 ·injection h with h;subst h;exact Vf
 ·injection h with h;subst h;exact Vg
 ·injection h with h;subst h;exact Rs
 ·injection h with h;subst h;exact Rt
 ·cases h
end Go.Proofs.YthphehfgekjooaaGreatDoor
