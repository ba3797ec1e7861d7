/- Whatever order a drawn region takes: it comes to the same state. -/
import Derived.Test.YtokjmkblnafppaaGreatDoorEngV
set_option linter.unusedVariables false
set_option linter.unusedSimpArgs false
namespace Go.bI
open Go
abbrev Fx:=Nat×Option Nat×fW
def jD (s:St):List Fx→St
 |[]=>s
 |x :: r=>jD (s.app x.2.1 x.2.2) r
theorem wW:∀ (l l':List Fx) (s:St),jD s (l++l')=jD (jD s l) l'
 |[],_,_=>rfl
 |_ :: r,l',_=>wW r l' _
structure View (α : Type) where
 oF:St→α
 eD:Fx→Bool
 off:∀ (s:St) (x:Fx),eD x=false→oF (s.app x.2.1 x.2.2)=oF s
 on:∀ (s s':St) (x:Fx),oF s=oF s'→oF (s.app x.2.1 x.2.2)=oF (s'.app x.2.1 x.2.2)
section
variable {α : Type} (V:View α)
theorem View.congr:∀ (l:List Fx) {s s':St},V.oF s=V.oF s'→V.oF (jD s l)=V.oF (jD s' l)
 |[],_,_,h=>h
 |x :: r,_,_,h=>View.congr r (V.on _ _ x h)
theorem View.filter:∀ (l:List Fx) (s:St),V.oF (jD s l)=V.oF (jD s (l.filter V.eD))
 |[],_=>rfl
 | x :: r, s => by
  cases h:V.eD x with
  |true=>simp only[List.filter_cons,h,if_true,jD];exact View.filter r _
  |false=>
   simp only[List.filter_cons,h,jD,Bool.false_eq_true,if_false]
   exact (View.congr V r (V.off s x h)).trans (View.filter r s)
end
theorem ru (t:Tr AV) (dst:Option Nat) (v:AV) (n:Nat):jC (tC t dst v) n=if dst=some n then v else jC t n:=by
 unfold jC tC
 cases dst with
 |none=>simp
 |some d=>
  simp only[Tr.cr,Option.some.injEq]
  split<;>rfl
theorem nE (s:St) (d:Option Nat) (r:fW):(s.app d r).slots=tC s.slots d r.val:=by cases r<;>rfl
def JV (t:Nat):View AV where
 oF s:=jC s.slots t
 eD x:=x.2.1==some t
 off s x h:=by
  rw[nE,ru,if_neg (by simpa using h)]
 on s s' x h:=by
  rw[nE,nE,ru,ru,h]
theorem gL (m:List (Tr bH)) (lv sl:Nat) (e:Option bH):(bN m lv sl e).length=m.length:=by simp[bN]
theorem cS:∀ (u:List (Nat×Nat×Option bH)) (m:List (Tr bH)),(bB m u).length=m.length
 |[],_=>rfl
 |(lv,sl,e) :: r,m=>(cS r _).trans (gL m lv sl e)
def isAll:fW→Bool
 |.bS _=>false
 |.all ..=>true
def aem:View Nat where
 oF s:=s.mem.length
 eD x:=isAll x.2.2
 off s x h:=by
  obtain⟨i,d,r⟩:=x
  cases r with
  |bS e=>exact cS _ _
  |all=>cases h
 on s s' x h:=by
  obtain⟨i,d,r⟩:=x
  cases r with
  |bS e=>exact (cS _ _).trans (h.trans (cS _ _).symm)
  |all=>rfl
def nvV:View Nat where
 oF s:=s.nv
 eD x:=isAll x.2.2
 off s x h:=by
  obtain⟨i,d,r⟩:=x
  cases r with
  |bS e=>rfl
  |all=>cases h
 on s s' x h:=by
  obtain⟨i,d,r⟩:=x
  cases r with
  |bS e=>exact h
  |all=>rfl
theorem Lq {s:St} {d:Option Nat} {r:fW} (h:lN r=false):(s.app d r).mem=s.mem∧(s.app d r).aE=s.aE∧(s.app d r).nv=s.nv:=by
 cases r with
 |bS e=>
  simp only[lN,Bool.not_eq_false',Bool.and_eq_true,List.isEmpty_iff] at h
  simp only[St.app,h.1.2,h.2]
  exact⟨rfl,rfl,trivial⟩
 |all=>cases h
def ZQ:View (List (Tr bH)×Tr Unit×Nat) where
 oF s:=(s.mem,s.aE,s.nv)
 eD x:=lN x.2.2
 off s x h:=by obtain⟨h1,h2,h3⟩:=Lq (s:=s) (d:=x.2.1) h;simp only[h1,h2,h3]
 on s s' x h:=by
  obtain⟨i,d,r⟩:=x
  simp only[Prod.mk.injEq] at h
  cases r with
  |bS e=>simp only[St.app,h.1,h.2.1,h.2.2]
  |all=>rfl
theorem uf {lv sl:Nat} : ∀ (u:List (Nat×Nat×Option bH)) (m m':List (Tr bH)),aN m lv sl=aN m' lv sl→m.length=m'.length→aN (bB m u) lv sl=aN (bB m' u) lv sl
 |[],_,_,h,_=>h
 |(a,b,e) :: r,m,m',h,hl=>uf r _ _ (by rw[bX,bX,h,hl]) (by rw[gL,gL,hl])
theorem ug {lv sl:Nat} : ∀ (u:List (Nat×Nat×Option bH)) (m:List (Tr bH)),cg lv sl ∉ u.map (fun u=>cg u.1 u.2.1)→aN (bB m u) lv sl=aN m lv sl
 |[],_,_=>rfl
 |(a,b,e) :: r,m,h=>by
  simp only[List.map_cons,List.mem_cons,not_or] at h
  rw[bB,ug r _ h.2,bX,if_neg]
  rintro⟨rfl,rfl,_⟩
  exact h.1 rfl
theorem uh {v:Nat} : ∀ (u:List (Nat×Bool)) (m m':Tr Unit),m.get? v=m'.get? v→(dL m u).get? v=(dL m' u).get? v
 |[],_,_,h=>h
 |(a,b) :: r,m,m',h=>uh r _ _ (by rw[Tr.cr,Tr.cr,h])
theorem uj {v:Nat} : ∀ (u:List (Nat×Bool)) (m:Tr Unit),jF v ∉ u.map (fun u=>jF u.1)→(dL m u).get? v=m.get? v
 |[],_,_=>rfl
 |(a,b) :: r,m,h=>by
  simp only[List.map_cons,List.mem_cons,not_or] at h
  rw[dL,uj r _ h.2,Tr.cr,if_neg]
  rintro rfl
  exact h.1 rfl
def j8 (k:Nat×Nat×Nat):fW→Bool
 |.bS e=>decide (k∈e.wr)
 |.all ..=>true
def Rq (lv sl:Nat):View (Option bH×Nat) where
 oF s:=(aN s.mem lv sl,s.mem.length)
 eD x:=j8 (cg lv sl) x.2.2
 off s x h:=by
  obtain⟨i,d,r⟩:=x
  cases r with
  |bS e=>
   simp only[j8,eX.wr,List.mem_append,not_or,decide_eq_false_iff_not] at h
   simp only[St.app,cS,ug _ _ h.1]
  |all=>cases h
 on s s' x h:=by
  obtain⟨i,d,r⟩:=x
  simp only[Prod.mk.injEq] at h
  cases r with
  |bS e=>simp only[St.app,cS,uf _ _ _ h.1 h.2,h.2]
  |all=>rfl
def Vc (v:Nat):View (Option Unit) where
 oF s:=s.aE.get? v
 eD x:=j8 (jF v) x.2.2
 off s x h:=by
  obtain⟨i,d,r⟩:=x
  cases r with
  |bS e=>
   simp only[j8,eX.wr,List.mem_append,not_or,decide_eq_false_iff_not] at h
   exact uj _ _ h.2
  |all=>cases h
 on s s' x h:=by
  obtain⟨i,d,r⟩:=x
  cases r with
  |bS e=>exact uh _ _ _ h
  |all=>rfl
def Clear:fW→fW→Prop
 |.bS a,.bS b=>(∀ k∈a.rd,k ∉ b.wr)∧(∀ k∈a.wr,k ∉ b.rd)∧∀ k∈a.wr,k ∉ b.wr
 |a,b=>¬(lN a=true∧lN b=true)
theorem Clear.symm {a b:fW} (h:Clear a b):Clear b a:=by
 cases a<;>cases b
 ·exact⟨fun k hk h'=>h.2.1 k h' hk,fun k hk h'=>h.1 k h' hk,fun k hk h'=>h.2.2 k h' hk⟩
 ·exact fun h'=>h ⟨h'.2,h'.1⟩
 ·exact fun h'=>h ⟨h'.2,h'.1⟩
 ·exact fun h'=>h ⟨h'.2,h'.1⟩
theorem sL {a b:List (Nat×Nat×Nat)} (h:meets a b=false):∀ k∈a,k ∉ b:=by
 intro k hk hb
 have:meets a b=true:=List.any_eq_true.2 ⟨k,hk,by simpa using hb⟩
 rw[this] at h;cases h
theorem Ii {a b:fW} (h:rS a b=false):Clear a b:=by
 cases a<;>cases b
 ·simp only [rS, Bool.or_eq_false_iff] at h
  exact⟨sL h.1.1,sL h.1.2,sL h.2⟩
 all_goals
  rintro⟨h1,h2⟩
  simp only[rS,h1,h2] at h
  cases h
theorem Clear.all {a b:fW} (h:Clear a b) (hab:isAll a=true∨isAll b=true) (ha:lN a=true) (hb:lN b=true):False:=by
 cases a<;>cases b
 ·rcases hab with h|h<;>cases h
 all_goals exact h ⟨ha,hb⟩
theorem sM {a:fW} (h:isAll a=true):lN a=true:=by cases a<;>first|rfl|cases h
theorem Clear.eD {a b:fW} (h:Clear a b) {k:Nat×Nat×Nat} (ha:j8 k a=true) (hb:j8 k b=true) (hla:lN a=true) (hlb:lN b=true):False:=by
 cases a<;>cases b
 ·simp only [j8, decide_eq_true_eq] at ha hb
  exact h.2.2 k ha hb
 all_goals exact h ⟨hla,hlb⟩
theorem zL {a:fW} {k:Nat×Nat×Nat} (h:j8 k a=true):lN a=true:=by
 cases a with
 | bS e =>
  simp only[j8,decide_eq_true_eq,eX.wr,List.mem_append] at h
  simp only[lN]
  rcases h with h|h
  ·cases hu : e.cK with
   |nil=>rw[hu] at h;cases h
   |cons=>simp
  ·cases hu : e.cx with
   |nil=>rw[hu] at h;cases h
   |cons=>simp
 |all=>rfl
theorem zM {l:List Nat} {n:Nat} : HG l n=true↔n∈l:=by
 unfold HG
 rw[List.any_eq_true]
 constructor
 ·rintro⟨m,hm,h⟩;rw[←Nat.eq_of_beq_eq_true h];exact hm
 ·intro h;exact⟨n,h,Nat.beq_refl n⟩
structure Rr (x y:bA):Prop where
 xy:∀ t,x.dst=some t→t ∉ y.looks
 yx:∀ t,y.dst=some t→t ∉ x.looks
 ne:∀ t,x.dst=some t→y.dst≠some t
theorem Rr.symm {x y:bA} (h:Rr x y):Rr y x:=⟨h.yx,h.xy,fun t h1 h2=>h.ne t h2 h1⟩
theorem apart_spec {x y:bA} (h:x.apart y=true):Rr x y:=by
 simp only[bA.apart,Bool.and_eq_true] at h
 refine⟨fun t ht hm=>?_,fun t ht hm=>?_,fun t ht h'=>?_⟩
 ·have:=h.1.1;simp[Dg,ht,zM.2 hm] at this
 ·have:=h.1.2;simp[Dg,ht,zM.2 hm] at this
 ·have:=h.2;simp[JG,ht,h'] at this
theorem Ij {call:Call} {sh:Nat→Bool} {s s':St} {o:bA} {aR:Nat} {r:fW} (h:o.step call sh s aR=some r) (hs:∀ t∈o.looks,jC s'.slots t=jC s.slots t) (hn:BA s s' r):o.step call sh s' aR=some r:=by
 have hw:jl s'.slots o=jl s.slots o:=by
  unfold jl
  split
  ·rfl
  ·rename_i g b hg
   rw[hs g (by simp[bA.looks,hg])]
 unfold bA.step at h ⊢
 rw[hw]
 split at h
 ·cases h
 ·refine Lp h (fun x hx => ?_) hn
  cases x with
  |t n=>exact hs n (by simp only[bA.looks,List.mem_append,List.mem_flatMap];exact .inl ⟨_,hx,by simp[bR.slot]⟩)
  |c v=>rfl
 ·exact h
end Go.bI
