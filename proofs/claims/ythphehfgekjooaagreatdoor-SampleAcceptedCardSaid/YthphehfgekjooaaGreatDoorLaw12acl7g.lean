/- A part of the proof: Law12acl7f, Law12acl7g. -/
import Derived.Test.YthphehfgekjooaaGreatDoorLaw12acl7d
set_option linter.unusedVariables false
set_option linter.unusedSimpArgs false
namespace Go.Proofs.YthphehfgekjooaaGreatDoor
open Go Go.bq Go.Sym
open Classical
noncomputable def sub (a b:Nat):Prop:=∀ k,a.testBit k=true→b.testBit k=true
theorem lS (a:Nat):sub a a:=fun _ h=>h
theorem iF {a b c:Nat} (h:sub a b) (k:sub b c):sub a c:=fun i hi=>k i (h i hi)
theorem vG {a b:Nat} (h:sub a b) (k:sub b a):a=b:=Nat.eq_of_testBit_eq fun i=>by
 cases h1:a.testBit i<;>cases h2:b.testBit i
 ·rfl
 ·exact absurd (k i h2) (by rw[h1];decide)
 ·exact absurd (h i h1) (by rw[h2];decide)
 ·rfl
theorem r7 (a b:Nat):sub a (a ||| b):=fun k h=>by rw[Nat.testBit_or,h];rfl
theorem qb (a b:Nat):sub b (a ||| b):=fun k h=>by rw[Nat.testBit_or,h,Bool.or_true]
theorem SN {a b c:Nat} (h:sub a c) (k:sub b c):sub (a ||| b) c:=fun i hi=>by
 rw[Nat.testBit_or,Bool.or_eq_true] at hi
 exact hi.elim (h i) (k i)
theorem or_mono {a b c d:Nat} (h:sub a c) (k:sub b d):sub (a ||| b) (c ||| d):=SN (iF h (r7 _ _)) (iF k (qb _ _))
theorem vH (a b:Nat):sub (a &&& b) a:=fun k h=>by rw[Nat.testBit_and,Bool.and_eq_true] at h;exact h.1
theorem tf (a b:Nat):sub (a &&& b) b:=fun k h=>by rw[Nat.testBit_and,Bool.and_eq_true] at h;exact h.2
theorem MS {a b c:Nat} (h:sub a b) (k:sub a c):sub a (b &&& c):=fun i hi=>by rw[Nat.testBit_and,h i hi,k i hi];rfl
theorem zero_sub (a:Nat):sub 0 a:=fun k h=>by simp at h
theorem Lm {a s:Nat} : a<2 ^ s↔sub a (2 ^ s-1):=by
 constructor
 ·intro h k hk
  rw[Nat.testBit_two_pow_sub_one]
  rcases Nat.lt_or_ge k s with h1|h1
  ·exact decide_eq_true h1
  ·rw [Nat.testBit_lt_two_pow (Nat.lt_of_lt_of_le h (Nat.pow_le_pow_right (by omega) h1))] at hk
   cases hk
 ·intro h
  refine Nat.lt_pow_two_of_testBit _ fun k hk=>?_
  cases hb:a.testBit k with
  |false=>rfl
  |true=>
   have:=h k hb
   rw[Nat.testBit_two_pow_sub_one] at this
   have:=of_decide_eq_true this
   omega
theorem BI {a s t:Nat} (h:a<2 ^ s) (hs:s≤t):a<2 ^ t:=Nat.lt_of_lt_of_le h (Nat.pow_le_pow_right (by omega) hs)
theorem FO (a:Nat):BitVec.ofInt IntKind.u64.bits (a:Int)=BitVec.ofNat 64 a:=BitVec.ofInt_natCast 64 a
theorem BJ {a:Nat} (h:a<2 ^ 64):IntKind.u64.wrap (a:Int)=(a:Int):=jN (by omega)
theorem FP {a b:Nat} (ha:a<2 ^ 64) (hb:b<2 ^ 64):zk .u64 (a:Int) (b:Int)=((a ||| b:Nat):Int):=by
 unfold zk
 rw[FO,FO]
 have e:(BitVec.ofNat 64 a ||| BitVec.ofNat 64 b).toNat=a ||| b:=by
  rw[BitVec.toNat_or,BitVec.toNat_ofNat,BitVec.toNat_ofNat,Nat.mod_eq_of_lt ha,Nat.mod_eq_of_lt hb]
 show IntKind.u64.wrap (((BitVec.ofNat 64 a ||| BitVec.ofNat 64 b).toNat:Nat):Int)=_
 rw[e,BJ (Nat.or_lt_two_pow ha hb)]
theorem IY {a b:Nat} (ha:a<2 ^ 64) (hb:b<2 ^ 64):qv .u64 (a:Int) (b:Int)=((a &&& b:Nat):Int):=by
 unfold qv
 rw[FO,FO]
 have e:(BitVec.ofNat 64 a &&& BitVec.ofNat 64 b).toNat=a &&& b:=by
  rw[BitVec.toNat_and,BitVec.toNat_ofNat,BitVec.toNat_ofNat,Nat.mod_eq_of_lt ha,Nat.mod_eq_of_lt hb]
 show IntKind.u64.wrap (((BitVec.ofNat 64 a &&& BitVec.ofNat 64 b).toNat:Nat):Int)=_
 rw[e,BJ (Nat.lt_of_le_of_lt Nat.and_le_left ha)]
theorem Wu {s:Int} (h0:0≤s) (h:s≤15):cg ((1:Int)*(2 ^ min (Int.toNat s) 64))=((2 ^ s.toNat:Nat):Int):=by
 have h1:s.toNat≤15:=by omega
 rw[Nat.min_eq_left (by omega),Int.one_mul]
 have:(2:Int) ^ s.toNat=((2 ^ s.toNat:Nat):Int):=by simp
 rw[this]
 exact BJ (Nat.pow_lt_pow_right (by omega) (by omega))
theorem OI {n:Int} (h0:0≤n) (h:n≤16):cg ((cg ((1:Int)*(2 ^ min (Int.toNat n) 64)))-1)=((2 ^ n.toNat-1:Nat):Int):=by
 have h1:n.toNat≤16:=by omega
 rw[Nat.min_eq_left (by omega),Int.one_mul]
 have e:(2:Int) ^ n.toNat=((2 ^ n.toNat:Nat):Int):=by simp
 have h2:2 ^ n.toNat<2 ^ 64:=Nat.pow_lt_pow_right (by omega) (by omega)
 have h3:1≤2 ^ n.toNat:=Nat.one_le_two_pow
 rw[e]
 rw[show cg ((2 ^ n.toNat:Nat):Int)=((2 ^ n.toNat:Nat):Int) from BJ h2]
 have e2:((2 ^ n.toNat:Nat):Int)-1=((2 ^ n.toNat-1:Nat):Int):=by omega
 rw[e2]
 exact BJ (by omega)
noncomputable def ug (m:Nat) (s:Int):Nat:=m ||| 2 ^ s.toNat
noncomputable def eR (m:Nat) (l:List Int):Nat:=l.foldl ug m
noncomputable def zx (l:List Int):Prop:=∀ s∈l,0≤s∧s≤15
theorem yj {l:List Int} (h:zx l):∀ {m:Nat},m<2 ^ 16→eR m l<2 ^ 16:=by
 unfold eR
 induction l with
 |nil=>intro m hm;exact hm
 |cons s r ih=>
  intro m hm
  rw[List.foldl_cons]
  refine ih (fun x hx=>h x (List.mem_cons_of_mem _ hx)) ?_
  have:=h s List.mem_cons_self
  exact Nat.or_lt_two_pow hm (Nat.pow_lt_pow_right (by omega) (by omega))
theorem yl (l:List Int):∀ m:Nat,eR m l=m ||| eR 0 l:=by
 unfold eR
 induction l with
 |nil=>intro m;simp
 |cons s r ih=>
  intro m
  rw[List.foldl_cons,List.foldl_cons,ih (ug m s),ih (ug 0 s)]
  simp[ug,Nat.or_assoc]
theorem OJ {α σ β : Type} {l:List α} {Lf:Nat→Int→σ→Option β} {f : σ→α→σ} {g : σ→β} {Inv : σ→Prop} (h0:∀ k s,Lf (k+1) (l.length:Int) s=some (g s))
  (hs:∀ k (i:Nat) x s,l[i]?=some x→Inv s→Inv (f s x)∧Lf (k+1) (i:Int) s=Lf k ((i+1:Nat):Int) (f s x)) {k:Nat} {s : σ} (h:Inv s) (hk:l.length<k):Lf k 0 s=some (g (l.foldl f s)):=by
 obtain⟨s',⟨_,h1⟩,h2⟩:=jX (l:=l) (Lf:=Lf) (g:=g) (Inv:=fun i q=>Inv q∧q=(l.take i).foldl f s) (fun k s _=>h0 k s) (fun k i x q hx ⟨h1,h2⟩=>by
  obtain⟨g1,g2⟩:=hs k i x q hx h1
  exact⟨_,⟨g1,by rw[take_succ hx,List.foldl_append,h2];rfl⟩,g2⟩) (k:=k) (s:=s) ⟨h,rfl⟩ hk
 rw[h2,h1,List.take_length]
theorem abn {m:Nat} (hm:m<2 ^ 16) {s:Int} (h0:0≤s) (h:s≤15):zk .u64 (m:Int) (cg ((1:Int)*(2 ^ min (Int.toNat s) 64)))=((ug m s:Nat):Int):=by
 rw[Wu h0 h,FP (BI hm (by omega)) (Nat.pow_lt_pow_right (by omega) (by omega))]
 rfl
theorem OL {m:Nat} (hm:m<2 ^ 16) {s:Int} (h:s≤15):ug m s<2 ^ 16:=Nat.or_lt_two_pow hm (Nat.pow_lt_pow_right (by omega) (by omega))
theorem qc (f:UInt8→Int→Bool) (x:Instr):(bP f x).length≤3:=by
 unfold bP one
 split
 ·rename_i a b c _
  cases f a x.2.1<;>cases f b x.2.2.1<;>cases f c x.2.2.2<;>simp
 ·simp
theorem aiJ {c:UInt8} (h:(U c).2.2.1=true∨(U c).2.2.2=true):(U c).2.1=15:=by
 unfold U at h ⊢
 repeat' split
 all_goals simp_all
theorem BK {x:Instr} (hc:fk x=true):zx (bP ue x)∧zx (bP IW x):=by
 unfold fk at hc
 unfold bP
 cases hs:Gt x.1 with
 |none=>exact⟨fun s h=>(by cases h),fun s h=>(by cases h)⟩
 | some t =>
  obtain⟨a,b,c⟩:=t
  rw[hs] at hc
  simp only[Bool.and_eq_true] at hc
  have SO:∀ {k:UInt8} {v s:Int} {q:Bool},fits k v=true→((U k).2.2.1=true∨(U k).2.2.2=true)→s∈one (decide (v≥0)) v→0≤s∧s≤15:=fun hf hu hm=>by
   simp only[fits,Bool.and_eq_true,decide_eq_true_eq,aiJ hu] at hf
   unfold one at hm
   rename_i v s _
   cases h:decide (v≥0) with
   |false=>rw[h] at hm;cases hm
   |true=>
    rw[h] at hm
    have:=of_decide_eq_true h
    simp only[av,List.mem_singleton] at hm
    omega
  have SP:∀ {k:UInt8} {v s:Int},fits k v=true→s∈one (ue k v) v→0≤s∧s≤15:=fun {k v s} hf hm=>by
   unfold ue at hm
   cases hu:(U k).2.2.1 with
   |false=>rw[hu] at hm;cases hm
   |true=>rw[hu,Bool.true_and] at hm;exact SO (q:=true) hf (.inl hu) hm
  have SQ:∀ {k:UInt8} {v s:Int},fits k v=true→s∈one (IW k v) v→0≤s∧s≤15:=fun {k v s} hf hm=>by
   unfold IW at hm
   cases hu:(U k).2.2.2 with
   |false=>rw[hu] at hm;cases hm
   |true=>rw[hu,Bool.true_and] at hm;exact SO (q:=true) hf (.inr hu) hm
  constructor
  ·intro s hm
   simp only[List.mem_append] at hm
   rcases hm with (hm|hm)|hm
   ·exact SP hc.1 hm
   ·exact SP hc.2.1 hm
   ·exact SP hc.2.2 hm
  ·intro s hm
   simp only[List.mem_append] at hm
   rcases hm with (hm|hm)|hm
   ·exact SQ hc.1 hm
   ·exact SQ hc.2.1 hm
   ·exact SQ hc.2.2 hm
noncomputable def SS (x:Instr):Nat:=eR 0 (bP IW x)
noncomputable def JD (x:Instr):Nat:=eR (eR 0 (bP ue x)) (bP IW x)
theorem abo {x:Instr} (hc:fk x=true):SS x<2 ^ 16:=yj (BK hc).2 (by omega)
theorem ae6 (x:Instr):sub (SS x) (JD x):=by
 unfold JD SS
 rw[yl (bP IW x) (eR 0 (bP ue x))]
 exact qb _ _
theorem SU {N:Nat} {l:List Int} (hN:500<N) (hl:l.length≤3) (h:zx l):KV N l=some ((eR 0 l:Nat):Int):=by
 rw[KV.eq_1]
 have:=OJ (l:=l) (f:=ug) (g:=fun m:Nat=>(m:Int)) (Inv:=fun m=>m<2 ^ 16) (Lf:=fun k i (m:Nat)=>f134.cB N k ((m:Int),l,(l.length:Int),i))
  (fun k s => by simp only [f134.cB.eq_2, bp, ai]) (fun k i x s hx hs => by
   have hx2:=h x (bD hx)
   exact⟨OL hs hx2.2,by simp only[f134.cB.eq_2,bg (aN hx),av,aT hx,Option.bind_some,show (!decide (x<0))=true by simp;omega,aj,abn hs hx2.1 hx2.2,aE (show i<9223372036854775807 by have:=aN hx;omega)]⟩)
  (k:=N) (s:=0) (by omega) (by omega)
 rw[show ((0:Nat):Int)=0 from rfl] at this
 rw[this];rfl
noncomputable def j0 (l:List Instr) (most:Nat):Bool:=!(l.any fun x=>decide (¬JD x<2 ^ most))
noncomputable def BL (l:List Instr) (params most:Int):Int:=
 if most<0∨most>16∨params<0∨params>most then 2 else if j0 l most.toNat then 0 else 16
theorem or4 (a b c d:Bool):(bif a then some true else bif b then some true else bif c then some true else some d:Option Bool)=some (a||(b||(c||d))):=by cases a<;>cases b<;>cases c<;>rfl
theorem Wv (params most:Int):(decide (most<0)||(decide (most>16)||(decide (params<0)||decide (params>most))))=decide (most<0∨most>16∨params<0∨params>most):=by
 by_cases h1:most<0<;>by_cases h2:most>16<;>by_cases h3:params<0<;>by_cases h4:params>most<;>simp[h1,h2,h3,h4]
end Go.Proofs.YthphehfgekjooaaGreatDoor
namespace Go.Proofs.YthphehfgekjooaaGreatDoor
open Go Go.bq Go.Sym
open Classical
noncomputable def BM:Nat→(Nat→Nat)→Nat
 |0,_=>0
 |n+1,f=>BM n f+f n
theorem Ln {n:Nat} {f g:Nat→Nat} (h:∀ k,k<n→f k=g k):BM n f=BM n g:=by
 induction n with
 |zero=>rfl
 |succ n ih=>simp only[BM];rw[ih fun k hk=>h k (by omega),h n (by omega)]
theorem IZ {n m:Nat} {f g:Nat→Nat} (hm:m<n) (h:∀ k,k≠m→f k=g k):BM n f+g m=BM n g+f m:=by
 induction n with
 |zero=>omega
 | succ n ih =>
  simp only[BM]
  by_cases he:m=n
  ·subst he
   rw[Ln (f:=f) (g:=g) fun k hk=>h k (by omega)]
   omega
  ·have := ih (by omega)
   rw[h n (by omega)]
   omega
theorem Ww {n b:Nat} {f:Nat→Nat} (h:∀ k,f k≤b):BM n f≤n*b:=by
 induction n with
 |zero=>simp[BM]
 |succ n ih=>simp only[BM];have:=h n;rw[Nat.succ_mul];omega
noncomputable def O (o:List Nat) (k:Nat):Nat:=o.getD k 0
theorem MT {o:List Nat} {k:Nat} (h:k<o.length):o[k]?=some (O o k):=by
 simp only[O,List.getD_eq_getElem?_getD,List.getElem?_eq_getElem h];rfl
theorem gJ {o:List Nat} {m v k:Nat} (h:m<o.length):O (o.set m v) k=if k=m then v else O o k:=by
 simp only[O,List.getD_eq_getElem?_getD,List.getElem?_set]
 by_cases hk:m=k
 ·subst hk;simp[h]
 ·rw[if_neg hk,if_neg (Ne.symm hk)]
theorem j4 {o:List Nat} {k:Nat} (h:k<o.length):(cN o)[k]?=some ((O o k:Nat):Int):=by
 simp only[cN,List.getElem?_map,MT h,Option.map_some]
theorem BN (o:List Nat) (m v:Nat):(cN o).set m (v:Int)=cN (o.set m v):=by simp[cN,List.map_set]
theorem ae7 {a b:List Nat} (h:a.length=b.length) (hk:∀ k,k<a.length→O a k=O b k):a=b:=by
 apply List.ext_getElem?;intro k
 by_cases h1:k<a.length
 ·rw[MT h1,MT (by omega),hk k h1]
 ·rw[List.getElem?_eq_none (by omega),List.getElem?_eq_none (by omega)]
theorem ae8 {o:List Nat} {m:Nat} (h:m<o.length):o.set m (O o m)=o:=Is (MT h)
noncomputable def wr (l:List Instr) (i:Nat):Nat:=match l[i]? with
 |some x=>SS x
 |none=>0
noncomputable def Sol (l:List Instr) (P:Nat) (S:Nat→Nat):Prop:=sub (S 0) P∧∀ i,Reach l i→∀ k∈nx l i,sub (S k) (S i ||| wr l i)
structure MU (l:List Instr) (P F:Nat) (G:Nat→Nat):Prop where
 sol:Sol l P G
 SV:∀ k,sub (G k) F
 most:∀ S,Sol l P S→∀ k,Reach l k→sub (S k) (G k)
theorem MU.eq {l:List Instr} {P F:Nat} {G H:Nat→Nat} (h:MU l P F G) (hs:Sol l P H) (hm:∀ S,Sol l P S→(∀ k,sub (S k) F)→∀ k,Reach l k→sub (S k) (H k)) {k:Nat} (hk:Reach l k):G k=H k:=
 vG (hm G h.sol h.SV k hk) (h.most H hs k hk)
structure VM (l:List Instr) (P F p s:Nat):Prop where
 v:VC l
 le:l.length≤200
 sle:s≤16
 ps:p≤s
 eP:P=2 ^ p-1
 eF:F=2 ^ s-1
 us:∀ (i:Nat) x,l[i]?=some x→JD x<2 ^ s
theorem VM.PF {l:List Instr} {P F p s:Nat} (h:VM l P F p s):sub P F:=by
 rw[h.eF]
 refine Lm.1 ?_
 rw[h.eP]
 have:2 ^ p≤2 ^ s:=Nat.pow_le_pow_right (by omega) h.ps
 have:=Nat.one_le_two_pow (n:=p)
 omega
theorem VM.wF {l:List Instr} {P F p s:Nat} (h:VM l P F p s) (i:Nat):sub (wr l i) F:=by
 unfold wr
 split
 ·rename_i x hx
  rw[h.eF]
  exact iF (ae6 x) (Lm.1 (h.us i x hx))
 ·exact zero_sub _
theorem VM.lt {l:List Instr} {P F p s a:Nat} (h:VM l P F p s) (ha:sub a F):a<65536:=by
 rw[h.eF] at ha
 exact BI (Lm.2 ha) h.sle
structure Lv (l:List Instr) (P F:Nat) (b:List Bool) (o:List Nat):Prop where
 TP:In1 l b
 len:o.length=l.length
 SV:∀ k,sub (O o k) F
 p0:sub (O o 0) P
 un:∀ k,¬T b k→O o k=0
 great:∀ S,Sol l P S→∀ k,T b k→sub (S k) (O o k)
structure LvP (l:List Instr) (P F:Nat) (b:List Bool) (o q:List Nat):Prop where
 lv:Lv l P F b o
 uf:∀ k∈q,T b k
 shut:∀ i,T b i→i∈q∨∀ k∈nx l i,T b k∧sub (O o k) (O o i ||| wr l i)
noncomputable def mu (n:Nat) (b:List Bool) (o:List Nat):Nat:=BM n fun k=>if T b k then O o k else 65536
theorem abq {n m v:Nat} {b:List Bool} {o:List Nat} (hm:m<n) (hb:b.length=n) (ho:o.length=n) (hf:¬T b m) (hv:v<65536):mu n (b.set m true) (o.set m v)+1≤mu n b o:=by
 have:=IZ (n:=n) (m:=m) (f:=fun k=>if T (b.set m true) k then O (o.set m v) k else 65536) (g:=fun k=>if T b k then O o k else 65536) hm (fun k hk=>by
  simp only[gJ (show m<o.length by omega),if_neg hk]
  by_cases h:T b k
  ·rw[if_pos h,if_pos ((eV (by omega)).2 (.inr h))]
  ·rw[if_neg h,if_neg fun h'=>((eV (by omega)).1 h').elim hk h])
 rw[if_neg hf,if_pos ((eV (show m<b.length by omega)).2 (.inl rfl):T (b.set m true) m),gJ (show m<o.length by omega),if_pos rfl] at this
 unfold mu
 omega
theorem Wx {n m v:Nat} {b:List Bool} {o:List Nat} (hm:m<n) (ho:o.length=n) (hf:T b m) (hv:v<O o m):mu n b (o.set m v)+1≤mu n b o:=by
 have:=IZ (n:=n) (m:=m) (f:=fun k=>if T b k then O (o.set m v) k else 65536) (g:=fun k=>if T b k then O o k else 65536) hm (fun k hk=>by
  simp only[gJ (show m<o.length by omega),if_neg hk])
 rw[if_pos hf,if_pos hf,gJ (show m<o.length by omega),if_pos rfl] at this
 unfold mu
 omega
theorem FQ {a b:Nat} (h:a &&& b≠a):a &&& b<a:=Nat.lt_of_le_of_ne Nat.and_le_left h
theorem I0 {N : Nat} {l : List Instr} {P F p s : Nat} (hv : VM l P F p s) (hN : 500 < N) {b : List Bool} {o q : List Nat} {i : Nat} {ws : List Nat} (sH : ∀ k, O ws k = wr l k) (hwl : ws.length = l.length)
  (h:LvP l P F b o (q++[i])) (hq:mu l.length b o+q.length≤14000000) :
  ∃ b' o' r,LvP l P F b' o' (q++r)∧mu l.length b' o'+r.length≤mu l.length b o∧
   f83.dO N N (l,(i:Int),cN (nx l i),((cN (nx l i)).length:Int),0,(p:Int),b,cN o,cN ws,cN q)=some (l,(p:Int),b',cN o',cN ws,cN (q++r)):=by
 have hi:T b i:=h.uf i (by simp)
 have hri:=h.lv.TP.reach i hi
 have Jy:i<l.length:=hri.lt hv.v
 have hnl:=BH l i
 have Wy:∀ {a:Nat},sub a F→a<2 ^ 64:=fun ha=>Nat.lt_of_lt_of_le (hv.lt ha) (by omega)
 obtain ⟨⟨b', o', r⟩, hI, he⟩ := jX (l := cN (nx l i)) (g := fun t : List Bool × List Nat × List Nat => (l, (p : Int), t.1, cN t.2.1, cN ws, cN (q ++ t.2.2)))
  (Inv := fun j t => Lv l P F t.1 t.2.1 ∧ (∀ k ∈ q ++ t.2.2, T t.1 k) ∧ (∀ k, T t.1 k → k ∈ q ++ t.2.2 ∨ k = i ∨ ∀ k' ∈ nx l k, T t.1 k' ∧ sub (O t.2.1 k') (O t.2.1 k ||| wr l k)) ∧
   (∀ k∈(nx l i).take j,T t.1 k∧sub (O t.2.1 k) (O o i ||| wr l i))∧mu l.length t.1 t.2.1+t.2.2.length≤mu l.length b o∧T t.1 i∧O t.2.1 i=O o i)
  (Lf:=fun k j t=>f83.dO N k (l,(i:Int),cN (nx l i),((cN (nx l i)).length:Int),j,(p:Int),t.1,cN t.2.1,cN ws,cN (q++t.2.2)))
  (fun k t _=>by simp only[f83.dO.eq_2,bp,ai])
  (fun k j x t hx ⟨h1, h2, h3, h4, h5, h6, h7⟩ => by
   obtain⟨b1,o1,r1⟩:=t
   simp only at h1 h2 h3 h4 h5 h6 h7
   obtain⟨m,hm,rfl⟩:=Ll hx
   have hml:=SH hv.v (bD hm)
   have hmb:m<b1.length:=by rw[h1.TP.len];exact hml
   have hmo:m<o1.length:=by rw[h1.len];exact hml
   have hio:i<o1.length:=by rw[h1.len];exact Jy
   have hiw:i<ws.length:=by rw[hwl];exact Jy
   have hj:j<9223372036854775807:=by have:=aN hm;omega
   have hlF:sub (O o1 i ||| wr l i) F:=SN (h1.SV i) (hv.wF i)
   have hr:room ((cN (q++r1)).length+1) 8=true:=MK (by rw[cq,List.length_append];omega) (by rw[cq,List.length_append];omega)
   simp only[f83.dO.eq_2,bg (aN hm),av,aT hx,Option.bind_some,show decide ((i:Int)<0)=false by simp,ai,cq,dD hio,dD hiw,dD hmb,dD hmo,aj,Int.toNat_natCast,j4 hio,j4 hiw,
    sH,FP (Wy (h1.SV i)) (Wy (hv.wF i)),aE hj]
   have hle:∀ k∈(nx l i).take (j+1),k∈(nx l i).take j∨k=m:=fun k hk=>by
    rw[take_succ hm,List.mem_append,List.mem_singleton] at hk;exact hk
   rcases Wt hmb with hb|hb
   ·have hbT : T b1 m := hb
    simp only[hb,Option.bind_some,Bool.not_true,ai,j4 hmo,BN,IY (Wy (h1.SV m)) (Wy hlF),cq,List.length_set,dD hmo,aj,j4 (show m<(o1.set m (O o1 m &&& (O o1 i ||| wr l i))).length by simp;exact hmo),gJ hmo,if_true]
    by_cases hnew:O o1 m &&& (O o1 i ||| wr l i)=O o1 m
    ·rw [hnew, ae8 hmo]
     refine⟨(b1,o1,r1),⟨h1,h2,h3,fun k hk=>?_,h5,h6,h7⟩,by simp⟩
     rcases hle k hk with hk|rfl
     ·exact h4 k hk
     ·refine ⟨hbT, ?_⟩
      have:=tf (O o1 k) (O o1 i ||| wr l i)
      simp only
      rw[hnew] at this;rw[←h7];exact this
    ·have hmi : m ≠ i := fun e => hnew (by
      subst e
      exact vG (vH _ _) (MS (lS _) (r7 _ _)))
     have hlt:=FQ hnew
     have TK:∀ k,sub (O (o1.set m (O o1 m &&& (O o1 i ||| wr l i))) k) (O o1 k):=fun k=>by
      rw[gJ hmo]
      split
      ·rename_i e;subst e;exact vH _ _
      ·exact lS _
     refine⟨(b1,o1.set m (O o1 m &&& (O o1 i ||| wr l i)),r1++[m]),⟨⟨h1.TP,by simp[h1.len],fun k=>iF (TK k) (h1.SV k),iF (TK 0) h1.p0,fun k hk=>?_,fun S hS k hk=>?_⟩,fun k hk=>?_,fun k hk=>?_,fun k hk=>?_,?_,h6,?_⟩,?_⟩
     ·rw[gJ hmo,if_neg (fun e=>hk (by rw[e];exact hbT))];exact h1.un k hk
     ·rw [gJ hmo]
      split
      ·rename_i e; subst e
       exact MS (h1.great S hS k hk) (iF (hS.2 i hri k (bD hm)) (or_mono (h1.great S hS i h6) (lS _)))
      ·exact h1.great S hS k hk
     ·simp only at hk
      rw[←List.append_assoc,List.mem_append,List.mem_singleton] at hk
      rcases hk with hk|rfl
      ·exact h2 k hk
      ·exact hbT
     ·simp only
      by_cases hkm:k=m
      ·subst hkm;exact .inl (by simp)
      ·rcases h3 k hk with g | g | g
       ·exact .inl (by rw[←List.append_assoc];exact List.mem_append_left _ g)
       ·exact .inr (.inl g)
       ·refine .inr (.inr fun k' hk' => ⟨(g k' hk').1, ?_⟩)
        rw[gJ hmo (k:=k),if_neg hkm]
        exact iF (TK k') (g k' hk').2
     ·simp only
      rcases hle k hk with hk|rfl
      ·exact⟨(h4 k hk).1,iF (TK k) (h4 k hk).2⟩
      ·refine ⟨hbT, ?_⟩
       rw[gJ hmo,if_pos rfl,←h7]
       exact tf _ _
     ·have := Wx (n := l.length) hml h1.len hbT hlt
      simp only[List.length_append,List.length_singleton];omega
     ·simp only
      rw[gJ hmo,if_neg (Ne.symm hmi)];exact h7
     ·rw [show (((O o1 m &&& (O o1 i ||| wr l i) : Nat) : Int) != ((O o1 m : Nat) : Int)) = true by simp [bne]; omega, av, show room ((q ++ r1).length + 1) 8 = true by rw [cq] at hr; exact hr, aj, ← List.append_assoc, sM (q ++ r1) [m]]
      rfl
   ·have hbF : ¬ T b1 m := fun e => by unfold T at e; rw [hb] at e; cases e
    have hmi:m≠i:=fun e=>hbF (by rw[e];exact h6)
    simp only[hb,Option.bind_some,Bool.not_false,av,j4 hmo,aj,BN,show room ((q++r1).length+1) 8=true by rw[cq] at hr;exact hr]
    refine⟨(b1.set m true,o1.set m (O o1 i ||| wr l i),r1++[m]),⟨⟨⟨by simp[h1.TP.len],(eV hmb).2 (.inr h1.TP.zero),fun k hk=>?_⟩,by simp[h1.len],fun k=>?_,?_,fun k hk=>?_,fun S hS k hk=>?_⟩,fun k hk=>?_,fun k hk=>?_,fun k hk=>?_,?_,(eV hmb).2 (.inr h6),?_⟩,?_⟩
    ·rcases (eV hmb).1 hk with rfl | hk
     ·exact .step hri (bD hm)
     ·exact h1.TP.reach k hk
    ·rw [gJ hmo]
     split
     ·exact hlF
     ·exact h1.SV k
    ·rw[gJ hmo,if_neg (fun e=>hbF (by rw[←e];exact h1.TP.zero))];exact h1.p0
    ·rw [gJ hmo, if_neg (fun e => hk ((eV hmb).2 (.inl e)))]
     exact h1.un k fun h'=>hk ((eV hmb).2 (.inr h'))
    ·rw [gJ hmo]
     split
     ·rename_i e; subst e
      exact iF (hS.2 i hri k (bD hm)) (or_mono (h1.great S hS i h6) (lS _))
     ·rename_i e
      rcases (eV hmb).1 hk with hk|hk
      ·exact absurd hk e
      ·exact h1.great S hS k hk
    ·simp only at hk
     rw[←List.append_assoc,List.mem_append,List.mem_singleton] at hk
     rcases hk with hk|rfl
     ·exact (eV hmb).2 (.inr (h2 k hk))
     ·exact (eV hmb).2 (.inl rfl)
    ·simp only at hk ⊢
     rcases (eV hmb).1 hk with rfl|hk
     ·exact .inl (by simp)
     ·rcases h3 k hk with g | g | g
      ·exact .inl (by rw[←List.append_assoc];exact List.mem_append_left _ g)
      ·exact .inr (.inl g)
      ·refine .inr (.inr fun k' hk' => ⟨(eV hmb).2 (.inr (g k' hk').1), ?_⟩)
       rw[gJ hmo,gJ hmo,if_neg (fun e=>hbF (by rw[←e];exact (g k' hk').1)),if_neg (fun e=>hbF (by rw[←e];exact hk))]
       exact (g k' hk').2
    ·simp only
     rcases hle k hk with hk|rfl
     ·refine ⟨(eV hmb).2 (.inr (h4 k hk).1), ?_⟩
      rw[gJ hmo,if_neg (fun e=>hbF (by rw[←e];exact (h4 k hk).1))]
      exact (h4 k hk).2
     ·refine ⟨(eV hmb).2 (.inl rfl), ?_⟩
      rw[gJ hmo,if_pos rfl,h7]
      exact lS _
    ·have := abq (n := l.length) hml h1.TP.len h1.len hbF (hv.lt hlF)
     simp only[List.length_append,List.length_singleton];omega
    ·simp only
     rw[gJ hmo,if_neg (Ne.symm hmi)];exact h7
    ·rw [← List.append_assoc, sM (q ++ r1) [m]]
     rfl)
  (k := N) (s := (b, o, [])) ⟨h.lv, fun k hk => h.uf k (by simp at hk; simp [hk]), fun k hk => by
   rcases h.shut k hk with h'|h'
   ·simp at h'; rcases h' with h' | h'
    ·exact .inl (by simpa using h')
    ·exact .inr (.inl h')
   ·exact .inr (.inr h'),fun k hk=>by simp at hk,by simp,hi,rfl⟩ (by rw[cq];omega)
 obtain⟨h1,h2,h3,h4,h5,h6,h7⟩:=hI
 refine⟨b',o',r,⟨h1,h2,fun k hk=>?_⟩,h5,by simpa using he⟩
 rcases h3 k hk with g|rfl|g
 ·exact .inl g
 ·right
  intro k' hk'
  rw[h7]
  exact h4 k' (by rw[cq,List.take_length];exact hk')
 ·exact .inr g
end Go.Proofs.YthphehfgekjooaaGreatDoor
