/- Reading bytes: what is read, and that it is what was written. -/
import Derived.Test.YthphehfgekjooaaGreatDoorLaw12acl7b
set_option linter.unusedVariables false
set_option linter.unusedSimpArgs false
namespace Go.Proofs.YthphehfgekjooaaGreatDoor
open Go Go.bq Go.Sym
open Classical
abbrev mD (α : Type):=List Int→Option (α×List Int)
noncomputable def nq (s:List Int):Prop:=∀ x,x∈s→0≤x∧x<256
theorem nq.right {a b:List Int} (h:nq (a++b)):nq b:=fun x hx=>h x (List.mem_append_right _ hx)
theorem nq.left {a b:List Int} (h:nq (a++b)):nq a:=fun x hx=>h x (List.mem_append_left _ hx)
structure oX {α : Type} (p:mD α) (enc : α→List Int) (ok : α→Prop):Prop where
 fwd:∀ x r,ok x→p (enc x++r)=some (x,r)
 bwd:∀ s x r,nq s→p s=some (x,r)→ok x∧s=enc x++r
theorem oX.mono {α : Type} {p:mD α} {enc : α→List Int} {ok ok' : α→Prop} (h:oX p enc ok) (h1:∀ x,ok' x↔ok x):oX p enc ok':=
 ⟨fun x r hx=>h.fwd x r ((h1 x).1 hx),fun s x r hb hs=>⟨(h1 x).2 (h.bwd s x r hb hs).1,(h.bwd s x r hb hs).2⟩⟩
noncomputable def ke {α β : Type} (p:mD α) (f : α→β):mD β:=fun s=>(p s).map fun x=>(f x.1,x.2)
noncomputable def dG {α β : Type} (p:mD α) (q : α→mD β):mD (α×β):=fun s=>(p s).bind fun x=>(q x.1 x.2).map fun y=>((x.1,y.1),y.2)
noncomputable def Cz {α : Type} (p:mD α) (c : α→Bool):mD α:=fun s=>(p s).bind fun x=>bif c x.1 then some x else none
theorem oX.then {α β : Type} {p:mD α} {q : α→mD β} {e : α→List Int} {f : α→β→List Int} {ok : α→Prop} {ok' : α→β→Prop} (h:oX p e ok) (k:∀ x,ok x→oX (q x) (f x) (ok' x)) :
  oX (dG p q) (fun z=>e z.1++f z.1 z.2) (fun z=>ok z.1∧ok' z.1 z.2):=by
 refine⟨fun⟨x,y⟩ r ⟨h1,h2⟩=>?_,fun s ⟨x,y⟩ r hb hs=>?_⟩
 ·simp only[dG,List.append_assoc,h.fwd x _ h1,Option.bind_some,(k x h1).fwd y r h2,Option.map_some]
 ·unfold dG at hs
  obtain⟨⟨x',r'⟩,h1,h2⟩:=Option.bind_eq_some_iff.1 hs
  obtain⟨⟨y',r''⟩,h3,h4⟩:=Option.map_eq_some_iff.1 h2
  simp only[Prod.mk.injEq] at h4
  obtain⟨⟨rfl,rfl⟩,rfl⟩:=h4
  obtain⟨g1,rfl⟩:=h.bwd s _ _ hb h1
  obtain⟨g2,g3⟩:=(k _ g1).bwd r' _ _ hb.right h3
  exact⟨⟨g1,g2⟩,by rw[g3,List.append_assoc]⟩
theorem oX.map {α β : Type} {p:mD α} {e : α→List Int} {e' : β→List Int} {ok : α→Prop} {ok' : β→Prop} (f : α→β) (g : β→α) (h:oX p e ok) (h1:∀ x,ok x→ok' (f x)∧e' (f x)=e x) (h2:∀ y,ok' y→ok (g y)∧f (g y)=y):oX (ke p f) e' ok':=by
 refine⟨fun y r hy=>?_,fun s y r hb hs=>?_⟩
 ·obtain ⟨g1, g2⟩ := h2 y hy
  have:=(h1 _ g1).2
  rw[g2] at this
  simp only[ke,this,h.fwd _ r g1,Option.map_some,g2]
 ·unfold ke at hs
  obtain⟨⟨x,r'⟩,h3,h4⟩:=Option.map_eq_some_iff.1 hs
  simp only[Prod.mk.injEq] at h4
  obtain⟨rfl,rfl⟩:=h4
  obtain⟨g1,g2⟩:=h.bwd s x _ hb h3
  exact⟨(h1 x g1).1,by rw[(h1 x g1).2,g2]⟩
theorem oX.flt {α : Type} {p:mD α} {e : α→List Int} {ok : α→Prop} {c : α→Bool} (h:oX p e ok):oX (Cz p c) e (fun x=>ok x∧c x=true):=by
 refine⟨fun x r ⟨h1,h2⟩=>?_,fun s x r hb hs=>?_⟩
 ·simp only[Cz,h.fwd x r h1,Option.bind_some,h2,av]
 ·unfold Cz at hs
  obtain⟨⟨x',r'⟩,h1,h2⟩:=Option.bind_eq_some_iff.1 hs
  simp only at h2
  cases hc:c x' with
  |true=>
   rw[hc] at h2
   injection h2 with h2;injection h2 with h3 h4;subst h3 h4
   obtain⟨g1,g2⟩:=h.bwd s _ _ hb h1
   exact⟨⟨g1,hc⟩,g2⟩
  |false=>rw[hc] at h2;cases h2
noncomputable def gv {α : Type} (p:mD α):Nat→mD (List α)
 |0,s=>some ([],s)
 | n + 1, s => match gv p n s with
  |some (xs,r)=>match p r with
   |some (x,r')=>some (xs++[x],r')
   |none=>none
  |none=>none
theorem oX.rep {α : Type} {p:mD α} {e : α→List Int} {ok : α→Prop} (h:oX p e ok) (n:Nat):oX (gv p n) (fun l=>l.flatMap e) (fun l=>l.length=n∧∀ x,x∈l→ok x):=by
 refine⟨fun l r ⟨h1,h2⟩=>?_,fun s l r hb hs=>?_⟩
 ·have key : ∀ i, i ≤ l.length → gv p i (l.flatMap e ++ r) = some (l.take i, (l.drop i).flatMap e ++ r) := by
   intro i
   induction i with
   |zero=>intro _;rfl
   |succ i ih=>
    intro hi
    have hx:=List.getElem?_eq_getElem (show i<l.length by omega)
    simp only[gv,ih (by omega)]
    rw[List.drop_eq_getElem_cons (by omega),List.flatMap_cons,List.append_assoc,h.fwd _ _ (h2 _ (List.getElem_mem _))]
    simp only
    rw[take_succ hx]
  have:=key l.length (Nat.le_refl _)
  rw[h1] at this
  rw[this,←h1]
  simp
 ·induction n generalizing l r with
  |zero=>
   simp only[gv,Option.some.injEq,Prod.mk.injEq] at hs
   obtain⟨rfl,rfl⟩:=hs
   exact⟨⟨rfl,fun x hx=>by cases hx⟩,rfl⟩
  | succ n ih =>
   simp only[gv] at hs
   split at hs
   ·rename_i xs r0 h1
    split at hs
    ·rename_i x r' h2
     injection hs with hs;injection hs with h3 h4;subst h3 h4
     obtain⟨⟨g1,g2⟩,g3⟩:=ih _ _ h1
     have hb0:nq r0:=by rw[g3] at hb;exact hb.right
     obtain⟨g4,g5⟩:=h.bwd r0 x _ hb0 h2
     refine⟨⟨by simp[g1],fun y hy=>?_⟩,by rw[g3,g5];simp[List.append_assoc]⟩
     rcases List.mem_append.1 hy with hy|hy
     ·exact g2 y hy
     ·rw[List.mem_singleton.1 hy];exact g4
    ·cases hs
   ·cases hs
theorem oX.congr {α : Type} {p:mD α} {e e' : α→List Int} {ok : α→Prop} (h:oX p e ok) (he:∀ x,ok x→e x=e' x):oX p e' ok:=
 ⟨fun x r hx => by rw [← he x hx]; exact h.fwd x r hx, fun s x r hb hs => by
  obtain⟨h1,h2⟩:=h.bwd s x r hb hs
  exact⟨h1,by rw[←he x h1];exact h2⟩⟩
noncomputable def CA:Nat→List Int→Option (Nat×List Int)
 |_,[]=>none
 |0,b :: r=>if b=1 then some (1,r) else none
 |k+1,b :: r=>if b<128 then (if k≠8∧b=0 then none else some (b.toNat,r)) else match CA k r with
  |some (n,r')=>some (b.toNat % 128+128*n,r')
  |none=>none
theorem MW:∀ (k n:Nat) (r:List Int),(k≤8→1≤n)→n<2*128 ^ k→k≤9→CA k (qx k n++r)=some (n,r)
 |0,n,r,h1,h2,_=>by
  have:n=1:=by have:=h1 (by omega);omega
  subst this
  rfl
 | k + 1, n, r, h1, h2, h9 => by
  unfold qx
  split
  ·rename_i hn
   simp only[List.cons_append,List.nil_append,CA]
   rw[if_pos (by omega),if_neg (by rintro⟨g1,g2⟩;have:=h1 (by omega);omega),Int.toNat_natCast]
  ·rename_i hn
   have ih:=MW k (n / 128) r (fun _=>by omega) (by rw[Nat.pow_succ] at h2;omega) (by omega)
   simp only[List.cons_append,CA]
   rw[if_neg (by omega),ih]
   simp only[Option.some.injEq,Prod.mk.injEq,and_true]
   omega
theorem MX:∀ (k:Nat) (s:List Int) (n:Nat) (r:List Int),nq s→k≤9→CA k s=some (n,r)→(k≤8→1≤n)∧n<2*128 ^ k∧s=qx k n++r
 |_,[],_,_,_,_,h=>by simp[CA] at h
 | 0, b :: s, n, r, hb, _, h => by
  simp only[CA] at h
  split at h
  ·rename_i h1
   injection h with h;injection h with h2 h3;subst h1 h2 h3
   exact⟨fun _=>by omega,by omega,rfl⟩
  ·cases h
 | k + 1, b :: s, n, r, hb, h9, h => by
  have hb0:=hb b List.mem_cons_self
  simp only[CA] at h
  split at h
  ·rename_i h1
   split at h
   ·cases h
   ·rename_i h2
    injection h with h;injection h with h3 h4;subst h3 h4
    have hp:128≤2*128 ^ (k+1):=by rw[Nat.pow_succ];have:=Nat.one_le_two_pow (n:=7*k);have:1≤128 ^ k:=Nat.one_le_pow _ _ (by omega);omega
    refine⟨fun h8=>?_,by omega,?_⟩
    ·have : ¬ b = 0 := fun h0 => h2 ⟨by omega, h0⟩
     omega
    ·rw [qx, if_pos (by omega)]
     simp only[List.cons_append,List.nil_append,List.cons.injEq,and_true]
     omega
  ·rename_i h1
   split at h
   ·rename_i m r' h2
    injection h with h;injection h with h3 h4;subst h3 h4
    obtain⟨g1,g2,g3⟩:=MX k s m r' (fun x hx=>hb x (List.mem_cons_of_mem _ hx)) (by omega) h2
    have g1:=g1 (by omega)
    refine⟨fun _=>by omega,by rw[Nat.pow_succ];omega,?_⟩
    rw[qx,if_neg (by omega),show (b.toNat % 128+128*m) / 128=m by omega,g3]
    simp only[List.cons_append,List.cons.injEq,and_true]
    omega
   ·cases h
noncomputable def pv:mD Nat:=CA 9
theorem qf:oX pv V (fun n=>n<18446744073709551616):=
 ⟨fun n r h => MW 9 n r (fun h => by omega) (by omega) (by omega), fun s n r hb h => by
  obtain⟨_,h2,h3⟩:=MX 9 s n r hb (by omega) h
  exact⟨by omega,h3⟩⟩
noncomputable def pN (m:Nat):mD Nat:=Cz pv fun n=>decide (n≤m)
noncomputable def pI (m:Nat):mD Int:=ke (pN m) fun n=>(n:Int)
theorem BS {m:Nat} (hm:m<18446744073709551616):oX (pN m) V (fun n=>n≤m):=
 qf.flt.mono fun n=>by
  constructor
  ·intro h;exact⟨by omega,decide_eq_true h⟩
  ·intro h;exact of_decide_eq_true h.2
theorem BT {m:Nat} (hm:m<18446744073709551616):oX (pI m) (fun v=>V v.toNat) (fun v=>0≤v∧v≤m):=
 (BS hm).map _ (fun v=>v.toNat) (fun n h=>⟨by omega,by simp⟩) fun v h=>⟨by omega,by omega⟩
noncomputable def tg (n:Nat):Int:=if n % 2=0 then ((n / 2:Nat):Int) else -((n / 2:Nat):Int)-1
theorem OT (v:Int):tg (Ce v)=v:=by unfold tg Ce;split<;>split<;>omega
theorem OU (n:Nat):Ce (tg n)=n:=by unfold tg Ce;split<;>split<;>omega
noncomputable def pS:mD Int:=ke pv tg
theorem Ta {n:Nat} (h:n<18446744073709551616):i64 (tg n):=by unfold tg i64;split<;>omega
theorem Lu:oX pS (fun v=>V (Ce v)) i64:=
 qf.map _ Ce (fun n h=>⟨Ta h,by rw[OU]⟩) fun v h=>⟨FD h,OT v⟩
noncomputable def sU {α : Type} (m:Nat) (p:mD α):mD (List α):=ke (dG (pN m) (gv p)) fun x=>x.2
theorem oT {α : Type} {p:mD α} {e : α→List Int} {ok : α→Prop} (h:oX p e ok) {m:Nat} (hm:m<1000000):oX (sU m p) (fun l=>V l.length++l.flatMap e) (fun l=>l.length≤m∧∀ x,x∈l→ok x):=
 ((BS (by omega)).then fun n _ => h.rep n).map _ (fun l => (l.length, l)) (fun ⟨n, l⟩ h => by
  obtain⟨h1,h2,h3⟩:=h
  simp only at h1 h2 h3
  subst h2
  exact⟨⟨h1,h3⟩,rfl⟩) fun l h=>⟨⟨h.1,rfl,h.2⟩,rfl⟩
theorem MY {α : Type} (m:Nat) (p:mD α) (s:List Int):sU m p s=(pI m s).bind fun x=>gv p x.1.toNat x.2:=by
 unfold sU ke dG pI ke
 cases pN m s with
 |none=>rfl
 |some x=>
  simp only[Option.bind_some,Option.map_some,Int.toNat_natCast,Option.map_map]
  cases gv p x.1 x.2<;>rfl
noncomputable def wY (n:Nat):mD (List UInt8):=fun s=>if n≤s.length then some ((s.take n).map fun c=>UInt8.ofNat c.toNat,s.drop n) else none
theorem FU (c:UInt8):UInt8.ofNat ((c.toNat:Int)).toNat=c:=by simp
theorem vK:∀ {s:List Int},nq s→bx (s.map fun c=>UInt8.ofNat c.toNat)=s
 |[],_=>rfl
 |c :: s,h=>by
  have hc:=h c List.mem_cons_self
  have ih:=vK (s:=s) fun x hx=>h x (List.mem_cons_of_mem _ hx)
  unfold bx at ih ⊢
  simp only[List.map_cons,List.cons.injEq]
  refine⟨?_,ih⟩
  rw[UInt8.toNat_ofNat_of_lt' (by show c.toNat<256;omega)]
  omega
theorem Lw (x:List UInt8):(bx x).map (fun (c:Int)=>UInt8.ofNat c.toNat)=x:=by
 unfold bx
 rw[List.map_map]
 conv=>rhs;rw[←List.map_id x]
 exact List.map_congr_left fun c _=>FU c
theorem Lx (n:Nat):oX (wY n) bx (fun x=>x.length=n):=by
 refine⟨fun x r h=>?_,fun s x r hb hs=>?_⟩
 ·unfold wY
  have hl:=cl x
  rw[if_pos (by rw[List.length_append];omega),List.take_append_of_le_length (by omega),List.take_of_length_le (by omega),List.drop_append_of_le_length (by omega),List.drop_of_length_le (by omega),Lw]
  rfl
 ·unfold wY at hs
  split at hs
  ·injection hs with hs; injection hs with h1 h2; subst h1 h2
   refine⟨by rw[List.length_map,List.length_take];omega,?_⟩
   rw[vK fun c hc=>hb c (List.mem_of_mem_take hc),List.take_append_drop]
  ·cases hs
noncomputable def ki (m:Nat):mD (List UInt8):=ke (dG (pN m) wY) fun x=>x.2
theorem wZ {m:Nat} (hm:m<18446744073709551616):oX (ki m) said (fun x=>x.length≤m):=
 ((BS hm).then fun n _ => Lx n).map _ (fun x => (x.length, x)) (fun x h => by
  obtain⟨h1,h2⟩:=h
  exact⟨by omega,by rw[said,h2]⟩) fun x h=>⟨⟨h,rfl⟩,rfl⟩
structure yT where
 ty:Nat
 len:Nat
 name:Nat
 FV:Nat
 text:Nat
 types:Nat
 texts:Nat
 funcs:Nat
 params:Nat
 slots:Nat
 code:Nat
noncomputable def Lz (a b:Nat):mD Field:=dG (ki a) fun _=>pI b
noncomputable def I3 (a b:Nat) (f:Field):Prop:=f.1.length≤a∧0≤f.2∧f.2≤b
theorem LA {a b:Nat} (ha:a<1000000) (hb:b<1000000):oX (Lz a b) l6 (I3 a b):=
 (wZ (by omega)).then fun _ _=>BT (by omega)
noncomputable def ld (a b m:Nat):mD (List Field):=sU m (Lz a b)
theorem yo {a b m:Nat} (ha:a<1000000) (hb:b<1000000) (hm:m<1000000):oX (ld a b m) iE (fun l=>l.length≤m∧∀ f,f∈l→I3 a b f):=oT (LA ha hb) hm
noncomputable def MZ:mD Int
 |[]=>none
 |b :: r=>some (b,r)
theorem OV:oX MZ (fun b=>[b]) (fun _=>True):=
 ⟨fun _ _ _ => rfl, fun s x r _ h => by
  cases s with
  |nil=>cases h
  |cons b s=>injection h with h;injection h with h1 h2;subst h1 h2;exact⟨trivial,rfl⟩⟩
noncomputable def abA {α : Type} (x : α):mD α:=fun s=>some (x,s)
theorem Tc {α : Type} (x : α):oX (abA x) (fun _=>[]) (fun y=>y=x):=
 ⟨fun y r h=>by subst h;rfl,fun s y r _ h=>by injection h with h;injection h with h1 h2;subst h1 h2;exact⟨rfl,rfl⟩⟩
noncomputable def I4 (L:yT) (k:Int):mD (Int×Int×List Field):=
 if k=4∨k=7 then ke (pI L.ty) fun v=>(v,0,[]) else if k=6 then ke (dG (pI L.ty) fun _=>pI L.len) fun v=>(v.1,v.2,[]) else if k=5 then ke (ld L.name L.ty L.FV) fun l=>(0,0,l) else abA (0,0,[])
noncomputable def lg (L:yT) (k:Int) (t:Int×Int×List Field):Prop:=
 if k=4∨k=7 then (0≤t.1∧t.1≤L.ty)∧t.2=(0,[]) else if k=6 then (0≤t.1∧t.1≤L.ty)∧(0≤t.2.1∧t.2.1≤L.len)∧t.2.2=[] else if k=5 then t.1=0∧t.2.1=0∧t.2.2.length≤L.FV∧∀ f,f∈t.2.2→I3 L.name L.ty f else t=(0,0,[])
structure yT.OK (L:yT):Prop where
 ty:L.ty<1000000
 len:L.len<1000000
 name:L.name<1000000
 FV:L.FV<1000000
 text:L.text<1000000
 types:L.types<1000000
 texts:L.texts<1000000
 funcs:L.funcs<1000000
 params:L.params<1000000
 slots:L.slots<1000000
 code:L.code<1000000
noncomputable def YQ (k:Int) (t:Int×Int×List Field):List Int:=if k=4∨k=7 then V t.1.toNat else if k=6 then V t.1.toNat++V t.2.1.toNat else if k=5 then iE t.2.2 else []
theorem OW {L:yT} (hL:L.OK) (k:Int):oX (I4 L k) (YQ k) (lg L k):=by
 unfold I4 YQ lg
 by_cases h1:k=4∨k=7
 ·simp only [if_pos h1]
  exact (BT (by have:=hL.ty;omega)).map _ (fun t=>t.1) (fun v h=>⟨⟨h,rfl⟩,rfl⟩) fun t h=>⟨h.1,Prod.ext rfl h.2.symm⟩
 ·simp only [if_neg h1]
  by_cases h2:k=6
  ·simp only [if_pos h2]
   exact ((BT (by have:=hL.ty;omega)).then fun _ _=>BT (by have:=hL.len;omega)).map _ (fun t=>(t.1,t.2.1)) (fun v h=>⟨⟨h.1,h.2,rfl⟩,rfl⟩) fun t h=>⟨⟨h.1,h.2.1⟩,Prod.ext rfl (Prod.ext rfl h.2.2.symm)⟩
  ·simp only [if_neg h2]
   by_cases h3:k=5
   ·simp only [if_pos h3]
    exact (yo hL.name hL.ty hL.FV).map _ (fun t=>t.2.2) (fun v h=>⟨⟨rfl,rfl,h.1,h.2⟩,rfl⟩) fun t h=>⟨⟨h.2.2.1,h.2.2.2⟩,Prod.ext h.1.symm (Prod.ext h.2.1.symm rfl)⟩
   ·simp only [if_neg h3]
    exact Tc _
noncomputable def BU (L:yT):mD aI:=dG MZ (I4 L)
theorem OX {L:yT} (hL:L.OK):oX (BU L) mZ (fun t=>lg L t.1 t.2):=by
 have:=(OV).then fun k _=>OW hL k
 exact this.mono fun t=>⟨fun h=>⟨trivial,h⟩,fun h=>h.2⟩
noncomputable def PJ (c:UInt8):mD Int:=if c=45 then abA 0 else if JC c=true then pS else ke pv fun n=>min (n:Int) 1048576
noncomputable def alU (c:UInt8) (v:Int):Prop:=FB c=true∧fits c v=true
theorem M0 {c:UInt8} {v:Int} (h:fits c v=true) (hs:JC c=false):0≤v∧v≤199:=by
 unfold fits U at h
 simp only[JC,Bool.or_eq_false_iff,beq_eq_false_iff_ne] at hs
 obtain⟨s1,s2,s3⟩:=hs
 repeat' split at h
 all_goals first|contradiction|(rw[Bool.and_eq_true,decide_eq_true_eq,decide_eq_true_eq] at h;simp only at h;omega)
theorem r8 {c:UInt8} {v:Int} (h:fits c v=true):i64 v:=by
 unfold fits U at h
 unfold i64
 repeat' split at h
 all_goals (rw[Bool.and_eq_true,decide_eq_true_eq,decide_eq_true_eq] at h;simp only at h;omega)
theorem OY {v:Int} (h:fits 45 v=true):v=0:=by
 simp[fits,U] at h
 omega
theorem FX {c:UInt8} {v:Int} (h:fits c v=true) (r:List Int):PJ c (nj c v++r)=some (v,r):=by
 unfold PJ nj
 by_cases h1:c=45
 ·subst h1
  simp only[if_true]
  rw[OY h];rfl
 ·rw [if_neg h1, if_neg h1]
  by_cases h2:JC c=true
  ·have : c = 110 ∨ c = 103 ∨ c = 101 := sK.1 h2
   rw[if_pos h2,if_pos this]
   exact Lu.fwd v r (r8 h)
  ·have h3 : ¬ (c = 110 ∨ c = 103 ∨ c = 101) := fun e => h2 (sK.2 e)
   have hv:=M0 h (by simpa using h2)
   rw[if_neg h2,if_neg h3]
   simp only[ke,qf.fwd v.toNat r (by omega),Option.map_some,Option.some.injEq,Prod.mk.injEq,and_true]
   omega
theorem FY {c:UInt8} {s r:List Int} {v:Int} (hb:nq s) (h:PJ c s=some (v,r)) (hf:fits c v=true):s=nj c v++r:=by
 unfold PJ at h
 unfold nj
 by_cases h1:c=45
 ·subst h1
  simp only[if_true] at h ⊢
  injection h with h;injection h with h2 h3
 ·rw [if_neg h1] at h ⊢
  by_cases h2:JC c=true
  ·have : c = 110 ∨ c = 103 ∨ c = 101 := sK.1 h2
   rw[if_pos h2] at h
   rw[if_pos this]
   exact (Lu.bwd s v r hb h).2
  ·have h3 : ¬ (c = 110 ∨ c = 103 ∨ c = 101) := fun e => h2 (sK.2 e)
   have hv:=M0 hf (by simpa using h2)
   rw[if_neg h2] at h
   rw[if_neg h3]
   unfold ke at h
   obtain⟨⟨n,r'⟩,h4,h5⟩:=Option.map_eq_some_iff.1 h
   simp only[Prod.mk.injEq] at h5
   obtain⟨h5,rfl⟩:=h5
   have:v.toNat=n:=by omega
   rw[this]
   exact (qf.bwd s n _ hb h4).2
noncomputable def nZ:mD Instr
 |[]=>none
 |op :: r=>match Gt op with
  |none=>none
  |some (a,b,c)=>(PJ a r).bind fun x=>(PJ b x.2).bind fun y=>(PJ c y.2).bind fun z=>if fk (op,x.1,y.1,z.1)=true then some ((op,x.1,y.1,z.1),z.2) else none
theorem LB:oX nZ encI (fun x=>fk x=true):=by
 refine⟨fun⟨op,x,y,z⟩ r h=>?_,fun s ⟨op,x,y,z⟩ r hb hs=>?_⟩
 ·have h0 := h
  unfold fk at h
  unfold encI
  cases hs:Gt op with
  |none=>simp only[hs] at h;cases h
  |some abc=>
   obtain⟨a,b,c⟩:=abc
   simp only[hs,Bool.and_eq_true] at h
   obtain⟨h1,h2,h3⟩:=h
   simp only[hs,List.cons_append,List.append_assoc,nZ,FX h1,FX h2,FX h3,Option.bind_some]
   rw[if_pos h0]
 ·cases s with
  |nil=>cases hs
  | cons o s =>
   simp only[nZ] at hs
   split at hs
   ·cases hs
   ·rename_i a b c h0
    obtain⟨⟨x',r1⟩,h1,hs⟩:=Option.bind_eq_some_iff.1 hs
    obtain⟨⟨y',r2⟩,h2,hs⟩:=Option.bind_eq_some_iff.1 hs
    obtain⟨⟨z',r3⟩,h3,hs⟩:=Option.bind_eq_some_iff.1 hs
    simp only at h2 h3 hs
    split at hs
    ·rename_i hc
     injection hs with hs;injection hs with g1 g2
     simp only[Prod.mk.injEq] at g1
     obtain⟨rfl,rfl,rfl,rfl⟩:=g1
     subst g2
     refine⟨hc,?_⟩
     have mP:=hc
     unfold fk at mP
     simp only[h0,Bool.and_eq_true] at mP
     have hb0:nq s:=fun x hx=>hb x (List.mem_cons_of_mem _ hx)
     have e1:=FY hb0 h1 mP.1
     have qJ:nq r1:=by rw[e1] at hb0;exact hb0.right
     have e2:=FY qJ h2 mP.2.1
     have vZ:nq r2:=by rw[e2] at qJ;exact qJ.right
     have e3:=FY vZ h3 mP.2.2
     unfold encI
     simp only[h0,List.cons_append,List.append_assoc]
     rw[←e3,←e2,←e1]
    ·cases hs
end Go.Proofs.YthphehfgekjooaaGreatDoor
