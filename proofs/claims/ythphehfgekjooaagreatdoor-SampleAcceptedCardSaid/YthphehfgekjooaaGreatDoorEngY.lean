/- A part of the proof: EngW, EngX, EngY. -/
import Derived.Test.YthphehfgekjooaaGreatDoorEngV
set_option linter.unusedVariables false
set_option linter.unusedSimpArgs false
namespace Go.bq
open Go
abbrev Fx:=Nat×Option Nat×cR
def jy (s:St):List Fx→St
 |[]=>s
 |x :: r=>jy (s.app x.2.1 x.2.2) r
theorem xG:∀ (l l':List Fx) (s:St),jy s (l++l')=jy (jy s l) l'
 |[],_,_=>rfl
 |_ :: r,l',_=>xG r l' _
structure View (α : Type) where
 pM:St→α
 fc:Fx→Bool
 off:∀ (s:St) (x:Fx),fc x=false→pM (s.app x.2.1 x.2.2)=pM s
 on:∀ (s s':St) (x:Fx),pM s=pM s'→pM (s.app x.2.1 x.2.2)=pM (s'.app x.2.1 x.2.2)
section
variable {α : Type} (V:View α)
theorem View.congr:∀ (l:List Fx) {s s':St},V.pM s=V.pM s'→V.pM (jy s l)=V.pM (jy s' l)
 |[],_,_,h=>h
 |x :: r,_,_,h=>View.congr r (V.on _ _ x h)
theorem View.filter:∀ (l:List Fx) (s:St),V.pM (jy s l)=V.pM (jy s (l.filter V.fc))
 |[],_=>rfl
 | x :: r, s => by
  cases h:V.fc x with
  |true=>simp[List.filter_cons,h,if_true,jy];exact View.filter r _
  |false=>
   simp[List.filter_cons,h,jy,Bool.false_eq_true,if_false]
   exact (View.congr V r (V.off s x h)).trans (View.filter r s)
end
theorem sy (t:Tr AV) (dst:Option Nat) (v:AV) (n:Nat):iJ (uo t dst v) n=if dst=some n then v else iJ t n:=by
 unfold iJ uo
 cases dst with
 |none=>simp
 |some d=>
  simp[Tr.bQ,Option.some.injEq]<;>grind
theorem om (s:St) (d:Option Nat) (r:cR):(s.app d r).slots=uo s.slots d r.val:=by cases r<;>rfl
def Mf (t:Nat):View AV where
 pM s:=iJ s.slots t
 fc x:=x.2.1==some t
 off s x h:=by
  rw[om,sy,if_neg (by simpa using h)]
 on s s' x h:=by
  rw[om,om,sy,sy,h]
theorem kX (m:List (Tr aZ)) (lv sl:Nat) (e:Option aZ):(bF m lv sl e).length=m.length:=by simp[bF]
theorem cA:∀ (u:List (Nat×Nat×Option aZ)) (m:List (Tr aZ)),(aX m u).length=m.length
 |[],_=>rfl
 |(lv,sl,e) :: r,m=>(cA r _).trans (kX m lv sl e)
def isAll:cR→Bool
 |.bC _=>false
 |.all ..=>true
def ahi:View Nat where
 pM s:=s.mem.length
 fc x:=isAll x.2.2
 off s x h:=by
  obtain⟨i,d,r⟩:=x
  cases r with
  |bC e=>exact cA _ _
  |all=>cases h
 on s s' x h:=by
  obtain⟨i,d,r⟩:=x
  cases r with
  |bC e=>exact (cA _ _).trans (h.trans (cA _ _).symm)
  |all=>rfl
def nvV:View Nat where
 pM s:=s.nv
 fc x:=isAll x.2.2
 off s x h:=by
  obtain⟨i,d,r⟩:=x
  cases r with
  |bC e=>rfl
  |all=>cases h
 on s s' x h:=by
  obtain⟨i,d,r⟩:=x
  cases r with
  |bC e=>exact h
  |all=>rfl
theorem NH {s:St} {d:Option Nat} {r:cR} (h:j9 r=false):(s.app d r).mem=s.mem∧(s.app d r).aB=s.aB∧(s.app d r).nv=s.nv:=by
 cases r with
 |bC e=>
  simp[j9,Bool.not_eq_false',Bool.and_eq_true,List.isEmpty_iff] at h
  simp[St.app,h.1.2,h.2]
  grind[dh,aX]
 |all=>cases h
def ac4:View (List (Tr aZ)×Tr Unit×Nat) where
 pM s:=(s.mem,s.aB,s.nv)
 fc x:=j9 x.2.2
 off s x h:=by obtain⟨h1,h2,h3⟩:=NH (s:=s) (d:=x.2.1) h;simp only[h1,h2,h3]
 on s s' x h:=by
  obtain⟨i,d,r⟩:=x
  simp only[Prod.mk.injEq] at h
  cases r with
  |bC e=>simp only[St.app,h.1,h.2.1,h.2.2]
  |all=>rfl
theorem uP {lv sl:Nat} : ∀ (u:List (Nat×Nat×Option aZ)) (m m':List (Tr aZ)),aC m lv sl=aC m' lv sl→m.length=m'.length→aC (aX m u) lv sl=aC (aX m' u) lv sl
 |[],_,_,h,_=>h
 |(a,b,e) :: r,m,m',h,hl=>uP r _ _ (by rw[bM,bM,h,hl]) (by grind[aC,bF])
theorem uQ {lv sl:Nat} : ∀ (u:List (Nat×Nat×Option aZ)) (m:List (Tr aZ)),bw lv sl ∉ u.map (fun u=>bw u.1 u.2.1)→aC (aX m u) lv sl=aC m lv sl
 |[],_,_=>rfl
 |(a,b,e) :: r,m,h=>by
  simp only[List.map_cons,List.mem_cons,not_or] at h
  rw[aX,uQ r _ h.2,bM,if_neg]<;>grind
theorem uR {v:Nat} : ∀ (u:List (Nat×Bool)) (m m':Tr Unit),m.get? v=m'.get? v→(dh m u).get? v=(dh m' u).get? v
 |[],_,_,h=>h
 |(a,b) :: r,m,m',h=>uR r _ _ (by rw[Tr.bQ,Tr.bQ,h])
theorem uS {v:Nat} : ∀ (u:List (Nat×Bool)) (m:Tr Unit),jw v ∉ u.map (fun u=>jw u.1)→(dh m u).get? v=m.get? v
 |[],_,_=>rfl
 |(a,b) :: r,m,h=>by
  simp only[List.map_cons,List.mem_cons,not_or] at h
  rw[dh,uS r _ h.2,Tr.bQ,if_neg]<;>grind
def jH (k:Nat×Nat×Nat):cR→Bool
 |.bC e=>decide (k∈e.wr)
 |.all ..=>true
def Up (lv sl:Nat):View (Option aZ×Nat) where
 pM s:=(aC s.mem lv sl,s.mem.length)
 fc x:=jH (bw lv sl) x.2.2
 off s x h:=by
  obtain⟨i,d,r⟩:=x
  cases r with
  |bC e=>
   simp only[jH,eU.wr,List.mem_append,not_or,decide_eq_false_iff_not] at h
   simp only[St.app,cA,uQ _ _ h.1]
  |all=>cases h
 on s s' x h:=by
  obtain⟨i,d,r⟩:=x
  simp only[Prod.mk.injEq] at h
  cases r with
  |bC e=>simp only[St.app,cA,uP _ _ _ h.1 h.2,h.2]
  |all=>rfl
def Zl (v:Nat):View (Option Unit) where
 pM s:=s.aB.get? v
 fc x:=jH (jw v) x.2.2
 off s x h:=by
  obtain⟨i,d,r⟩:=x
  cases r with
  |bC e=>
   simp only[jH,eU.wr,List.mem_append,not_or,decide_eq_false_iff_not] at h
   exact uS _ _ h.2
  |all=>cases h
 on s s' x h:=by
  obtain⟨i,d,r⟩:=x
  cases r with
  |bC e=>exact uR _ _ _ h
  |all=>rfl
def Clear:cR→cR→Prop
 |.bC a,.bC b=>(∀ k∈a.rd,k ∉ b.wr)∧(∀ k∈a.wr,k ∉ b.rd)∧∀ k∈a.wr,k ∉ b.wr
 |a,b=>¬(j9 a=true∧j9 b=true)
theorem Clear.symm {a b:cR} (h:Clear a b):Clear b a:=by
 cases a<;>cases b<;>grind[Clear]
theorem J8 {a b:cR} (h:uu a b=false):Clear a b:=by
 ·simp [uu, Bool.or_eq_false_iff] at h
  grind[eU.wr,meets,Clear]
theorem Clear.all {a b:cR} (h:Clear a b) (hab:isAll a=true∨isAll b=true) (ha:j9 a=true) (hb:j9 b=true):False:=by
 cases a<;>cases b<;>grind[j9,isAll,Clear]
theorem tH {a:cR} (h:isAll a=true):j9 a=true:=by cases a<;>first|rfl|cases h
theorem Clear.fc {a b:cR} (h:Clear a b) {k:Nat×Nat×Nat} (ha:jH k a=true) (hb:jH k b=true) (hla:j9 a=true) (hlb:j9 b=true):False:=by
 cases a<;>cases b<;>grind[j9,jH,Clear]
theorem Ae {a:cR} {k:Nat×Nat×Nat} (h:jH k a=true):j9 a=true:=by
 cases a with
 |bC e=>
  simp only[jH,decide_eq_true_eq,eU.wr,List.mem_append] at h<;>grind[jH,j9]
 |all=>rfl
theorem Af {l:List Nat} {n:Nat} : JF l n=true↔n∈l:=by
 simp_all[JF]
structure Uq (x y:aY):Prop where
 xy:∀ t,x.dst=some t→t ∉ y.looks
 yx:∀ t,y.dst=some t→t ∉ x.looks
 ne:∀ t,x.dst=some t→y.dst≠some t
theorem Uq.symm {x y:aY} (h:Uq x y):Uq y x:=⟨h.yx,h.xy,fun t h1 h2=>h.ne t h2 h1⟩
theorem apart_spec {x y:aY} (h:x.apart y=true):Uq x y:=by
 simp[aY.apart,Bool.and_eq_true] at h
 refine⟨fun t ht hm=>?_,fun t ht hm=>?_,fun t ht h'=>?_⟩
 ·have:=h.1.1;simp[zE,ht,Af.2 hm] at this
 ·have:=h.1.2;simp[zE,ht,Af.2 hm] at this
 simp_all[LW,zE]
theorem J9 {call:Call} {sh:Nat→Bool} {s s':St} {o:aY} {aH:Nat} {r:cR} (h:o.step call sh s aH=some r) (hs:∀ t∈o.looks,iJ s'.slots t=iJ s.slots t) (hn:wu s s' r):o.step call sh s' aH=some r:=by
 have hw:ja s'.slots o=ja s.slots o:=by
  unfold ja
  split<;>simp_all[wu,aY.looks,aY.step,Call,iJ]
 unfold aY.step at h ⊢
 rw[hw]
 split at h
 ·cases h
 ·refine NG h (fun x hx => ?_) hn
  cases x with
  |t n=>exact hs n (by simp only[aY.looks,List.mem_append,List.mem_flatMap];exact .inl ⟨_,hx,by simp[bA.slot]⟩)
  |c v=>rfl
 omega
end Go.bq
namespace Go.bq
open Go
structure Mg (call:Call) (sh:Nat→Bool) (lW:Nat) (all:List aY) (s0:St) (L:List Fx):Prop where
 lt:L.Pairwise fun x y=>x.1<y.1
 dom:∀ i,i<all.length↔∃ x∈L,x.1=i
 step:∀ pre x post,L=pre++x :: post→∃ o,all[x.1]?=some o∧x.2.1=o.dst∧o.step call sh (jy s0 pre) (lW+x.1)=some x.2.2
 meet:∀ x y,x∈L→y∈L→x.1<y.1→∀ o,all[y.1]?=some o→o.mJ.testBit x.1=true∨Clear x.2.2 y.2.2
theorem Ag {mJ:Nat} {e:cR} : ∀ {past:List (Nat×cR)},clear mJ e past=true→∀ y∈past,mJ.testBit y.1=true∨Clear y.2 e
 |[],_,y,hy=>by cases hy
 |(i,x) :: r,h,y,hy=>by
  simp[clear,Bool.and_eq_true,Bool.or_eq_true,Bool.not_eq_true'] at h
  rcases List.mem_cons.1 hy with rfl|hy
  ·exact h.1.imp id J8
  ·exact Ag h.2 y hy
theorem uT {call:Call} {sh:Nat→Bool} {lW:Nat} {all:List aY} : ∀ (ops:List aY) (i:Nat) (past:List (Nat×cR)) (s s':St),(∀ k,ops[k]?=all[i+k]?)→jC call sh lW i ops past s=some s'→
  ∃ L:List Fx,s'=jy s L∧L.map (·.1)=List.range' i ops.length∧
   (∀ pre x post,L=pre++x :: post→∃ o,all[x.1]?=some o∧x.2.1=o.dst∧o.step call sh (jy s pre) (lW+x.1)=some x.2.2∧(∀ y∈pre,o.mJ.testBit y.1=true∨Clear y.2.2 x.2.2)∧∀ y∈past,o.mJ.testBit y.1=true∨Clear y.2 x.2.2)
 |[],i,past,s,s',_,h=>by
  simp[jC,Option.some.injEq] at h
  exact⟨[],h.symm,rfl,fun pre x post h=>by simp at h⟩
 | o :: r, i, past, s, s', hall, h => by
  simp[jC] at h
  split at h
  ·cases h
  ·rename_i e he
   split at h
   ·rename_i hc
    obtain⟨L,h1,h2,h3⟩:=uT r (i+1) ((i,e) :: past) _ _ (fun k=>by have:=hall (k+1);rw[List.getElem?_cons_succ] at this;rw[this];congr 1;omega) h
    refine⟨(i,o.dst,e) :: L,h1,by simp[h2,List.range'_succ],fun pre x post hp=>?_⟩
    cases pre with
    |nil=>
     cases hp
     exact⟨o,by have:=hall 0;simpa using this.symm,rfl,he,⟨fun y hy=>absurd hy List.not_mem_nil,fun y hy=>Ag hc y hy⟩⟩
    |cons p pre=>
     simp at hp
     obtain⟨rfl,hp⟩:=hp
     obtain⟨o',g1,g2,g3,g4,g5⟩:=h3 pre x post hp
     refine⟨o',g1,g2,g3,fun y hy=>?_,fun y hy=>g5 y (List.mem_cons_of_mem _ hy)⟩
     rcases List.mem_cons.1 hy with rfl|hy
     ·exact g5 _ (List.mem_cons_self ..)
     ·exact g4 y hy
   ·cases h
theorem Mg.of_run {call:Call} {sh:Nat→Bool} {lW:Nat} {all:List aY} {s s':St} (h:jC call sh lW 0 all [] s=some s'):∃ L,s'=jy s L∧Mg call sh lW all s L:=by
 obtain⟨L,h1,h2,h3⟩:=uT (all:=all) all 0 [] s s' (fun k=>by simp) h
 refine⟨L,h1,?_,fun i=>?_,fun pre x post hp=>?_,fun x y hx hy hlt o ho=>?_⟩
 ·have : (L.map (·.1)).Pairwise (· < ·) := by rw [h2]; exact List.pairwise_lt_range'
  exact List.pairwise_map.1 this
 ·have : i ∈ L.map (·.1) ↔ i < all.length := by rw [h2, List.mem_range'_1]; omega
  rw[←this,List.mem_map]
 ·obtain ⟨o, g1, g2, g3, _⟩ := h3 pre x post hp
  exact⟨o,g1,g2,g3⟩
 ·obtain ⟨pre, post, rfl⟩ := List.append_of_mem hy
  obtain⟨o',g1,g2,g3,g4,_⟩:=h3 pre y post rfl
  rw[ho] at g1;cases g1
  refine g4 x ?_
  have hL:(pre++y :: post).Pairwise fun x y:Fx=>x.1<y.1:=by
   have:((pre++y :: post).map (·.1)).Pairwise (· < ·):=by rw[h2];exact List.pairwise_lt_range'
   exact List.pairwise_map.1 this
  rcases List.mem_append.1 hx with hx|hx
  ·exact hx
  ·rcases List.mem_cons.1 hx with rfl | hx
   ·omega
   ·have := (List.pairwise_cons.1 (List.pairwise_append.1 hL).2.1).1 x hx
    omega
theorem uU {y:aY} : ∀ {past:List aY} {i:Nat},yW y i past=true→∀ k x,past[k]?=some x→y.mJ.testBit (i+k)=true∨Uq x y
 |[],_,_,k,x,hx=>by grind
 | p :: r, i, h, k, x, hx => by
  simp[yW,Bool.and_eq_true,Bool.or_eq_true] at h
  cases k with
  |zero=>
   cases hx
   exact h.1.imp id apart_spec
  |succ k=>
   have:=uU h.2 k x (by simpa using hx)
   rwa[show i+(k+1)=i+1+k by omega]
theorem sY:∀ {l past:List aY},lC past l=true→∀ i j x y,(past++l)[i]?=some x→(past++l)[j]?=some y→i<j→past.length≤j→y.mJ.testBit i=true∨Uq x y
 |[],past,_,i,j,x,y,_,hy,_,hj=>by
  grind
 | o :: r, past, h, i, j, x, y, hx, hy, hij, hj => by
  simp[lC,Bool.and_eq_true] at h
  rcases Nat.lt_or_ge past.length j with hl|hl
  ·have e : past ++ o :: r = past ++ [o] ++ r := by simp
   rw[e] at hx hy
   exact sY h.2 i j x y hx hy hij (by simp;omega)
  ·have : j = past.length := by omega
   subst this
   simp at hy;rw[List.getElem?_append_left hij] at hx
   have:=uU h.1 i x hx<;>grind
section
variable {call:Call} {sh:Nat→Bool} {lW:Nat} {all:List aY} {s0:St} {L:List Fx}
def Gk (s0:St) (L:List Fx) (p:Nat→Bool):St:=jy s0 (L.filter fun x=>p x.1)
def EO (all:List aY) (p:Nat→Bool):Prop:=∀ j o,all[j]?=some o→p j=true→∀ k,k<j→o.mJ.testBit k=true→p k=true
theorem Mg.split (h:Mg call sh lW all s0 L) {i:Nat} (hi:i<all.length):∃ pre x post,L=pre++x :: post∧x.1=i∧(∀ y∈pre,y.1<i)∧∀ y∈post,i<y.1:=by
 obtain⟨x,hx,rfl⟩:=(h.dom i).1 hi
 obtain⟨pre,post,rfl⟩:=List.append_of_mem hx
 refine⟨pre,x,post,rfl,rfl,fun y hy=>?_,fun y hy=>?_⟩
 ·exact (List.pairwise_append.1 h.lt).2.2 y hy x (List.mem_cons_self ..)
 ·exact (List.pairwise_cons.1 (List.pairwise_append.1 h.lt).2.1).1 y hy
def Hh (all:List aY) (i:Nat) (y:Fx):Prop:=
 (y.1<i→∀ o,all[i]?=some o→o.mJ.testBit y.1=true)∧(i<y.1→∀ o,all[y.1]?=some o→o.mJ.testBit i=true)
theorem part {α : Type} (V:View α) {pre post:List Fx} {x:Fx} {p:Nat→Bool} (hpre:∀ y∈pre,V.fc y=true→p y.1=true) (hpost:∀ y∈post,V.fc y=true→p y.1=false) (hx:p x.1=false) (s:St) :
  V.pM (jy s ((pre++x :: post).filter fun x=>p x.1))=V.pM (jy s pre):=by
 rw[V.filter,V.filter pre,List.filter_append]
 simp[hx,Bool.and_false,Bool.false_eq_true,if_false]
 have e1:post.filter (fun a=>V.fc a&&p a.1)=[]:=by
  refine List.filter_eq_nil_iff.2 fun y hy hb=>?_<;>grind
 have e2:pre.filter (fun a=>V.fc a&&p a.1)=pre.filter V.fc:=by
  refine List.filter_congr fun y hy=>?_<;>grind
 grind
theorem Ah {α : Type} (V:View α) {p:Nat→Bool} (hc:EO all p) {pre post:List Fx} {x:Fx} (hpre:∀ y∈pre,y.1<x.1) (hpost:∀ y∈post,x.1<y.1) (hi:p x.1=false) {o:aY} (ho:all[x.1]?=some o)
  (hb:∀ k,k<x.1→o.mJ.testBit k=true→p k=true) (hdom:∀ y∈post,∃ o',all[y.1]?=some o') (hV:∀ y∈pre++post,V.fc y=true→Hh all x.1 y) (s:St) :
  V.pM (Gk s (pre++x :: post) p)=V.pM (jy s pre):=by
 refine part V (fun y hy ht=>?_) (fun y hy ht=>?_) hi s
 ·exact hb _ (hpre y hy) ((hV y (List.mem_append_left _ hy) ht).1 (hpre y hy) o ho)
 ·obtain ⟨o', ho'⟩ := hdom y hy
  cases hp:p y.1 with
  |false=>rfl
  |true=>
   have:=hc _ _ ho' hp _ (hpost y hy) ((hV y (List.mem_append_right _ hy) ht).2 (hpost y hy) o' ho')<;>grind
theorem ac5 {α : Type} (V:View α) {pre post:List Fx} {x:Fx} {p:Nat→Bool} (hpre:∀ y∈pre,V.fc y=true→p y.1=true) (hpost:∀ y∈post,V.fc y=true→p y.1=false) (hx:p x.1=true) (s:St) :
  V.pM (jy s ((pre++x :: post).filter fun x=>p x.1))=V.pM ((jy s pre).app x.2.1 x.2.2):=by
 have e0:(jy s pre).app x.2.1 x.2.2=jy s (pre++[x]):=by rw[xG];rfl
 rw[e0,V.filter,V.filter (pre++[x]),List.filter_filter,List.filter_append]
 have e1:(x :: post).filter (fun a=>V.fc a&&p a.1)=[x].filter V.fc:=by
  have e1:post.filter (fun a=>V.fc a&&p a.1)=[]:=by
   refine List.filter_eq_nil_iff.2 fun y hy hb=>?_<;>grind
  grind
 have e2:pre.filter (fun a=>V.fc a&&p a.1)=pre.filter V.fc:=by
  refine List.filter_congr fun y hy=>?_<;>grind
 grind
theorem Mg.pair (h:Mg call sh lW all s0 L) (hap:lC [] all=true) {x y:Fx} (hx:x∈L) (hy:y∈L) (hne:y.1≠x.1) {o oy:aY} (ho:all[x.1]?=some o) (Xb:all[y.1]?=some oy) :
  Hh all x.1 y∨(Uq oy o∧Clear y.2.2 x.2.2):=by
 have key:=fun i j a b (ha:all[i]?=some a) (hb:all[j]?=some b) (hij:i<j)=>sY (past:=[]) hap i j a b (by simpa using ha) (by simpa using hb) hij (Nat.zero_le _)
 rcases Nat.lt_or_gt_of_ne hne with hl|hl
 ·have b : o.mJ.testBit y.1 = true → Hh all x.1 y := fun hb => ⟨fun _ o' ho' => by rw [ho] at ho'; injection ho' with ho'; rw [← ho']; exact hb, fun h => by omega⟩
  rcases h.meet y x hy hx hl o ho with h1|h1<;>grind
 ·have b : oy.mJ.testBit x.1 = true → Hh all x.1 y := fun hb => ⟨fun h => by omega, fun _ o' ho' => by rw [Xb] at ho'; injection ho' with ho'; rw [← ho']; exact hb⟩
  rcases h.meet x y hx hy hl oy Xb with h1|h1
  ·grind
  ·rcases key _ _ _ _ ho Xb hl with h2 | h2
   ·exact .inl (b h2)
   ·exact .inr ⟨h2.symm,h1.symm⟩
theorem Mg.at (h:Mg call sh lW all s0 L) {y:Fx} (hy:y∈L):∃ o,all[y.1]?=some o∧y.2.1=o.dst:=by
 obtain⟨pre,post,rfl⟩:=List.append_of_mem hy
 obtain⟨o,h1,h2,_⟩:=h.step pre y post rfl<;>grind
theorem Mg.any (h:Mg call sh lW all s0 L) (hap:lC [] all=true) {p:Nat→Bool} (hc:EO all p) {i:Nat} {o:aY} (ho:all[i]?=some o) (hi:p i=false) (hb:∀ k,k<i→o.mJ.testBit k=true→p k=true) :
  ∃ x∈L,x.1=i∧x.2.1=o.dst∧o.step call sh (Gk s0 L p) (lW+i)=some x.2.2:=by
 obtain⟨pre,x,post,rfl,rfl,h1,h2⟩:=h.split (List.getElem?_eq_some_iff.1 ho).1
 obtain⟨o',g1,g2,g3⟩:=h.step pre x post rfl
 rw[ho] at g1;cases g1
 have hmem:x∈pre++x :: post:=by simp
 refine⟨x,hmem,rfl,g2,?_⟩
 have pM:∀ {α : Type} (V:View α),(∀ y oy,y∈pre++x :: post→all[y.1]?=some oy→y.2.1=oy.dst→V.fc y=true→Uq oy o→Clear y.2.2 x.2.2→False)→V.pM (Gk s0 (pre++x :: post) p)=V.pM (jy s0 pre):=by
  intro α V hV
  refine Ah V hc h1 h2 hi ho hb (fun y hy=>?_) (fun y hy ht=>?_) s0
  ·obtain⟨o',h',_⟩:=h.at (y:=y) (by simp[hy])<;>grind
  ·have hy' : y ∈ pre ++ x :: post := by grind
   have hne:y.1≠x.1:=by
    grind
   obtain⟨oy,Xb,hd⟩:=h.at hy'
   rcases h.pair hap hmem hy' hne ho Xb with hh|hh<;>grind
 refine J9 g3 (fun t ht=>?_) ?_
 ·refine pM (Mf t) fun y oy _ _ hd hty hoff _ => ?_
  simp[Mf,beq_iff_eq] at hty
  exact hoff.xy t (hd ▸ hty) ht
 ·cases hr : x.2.2 with
  | bC e =>
   refine⟨fun hl=>?_,fun k hk=>?_⟩
   ·refine pM ahi fun y oy _ _ _ hty _ hcl => ?_
    rw[hr] at hcl
    exact hcl.all (.inl hty) (tH hty) hl
   ·have ac6 : j9 (.bC e) = true := by
     simp only[j9]<;>grind
    have rd:∀ {b:cR},jH k b=true→Clear b (.bC e)→False:=by
     intro b hb hcl
     cases b with
     |bC b=>simp[jH,decide_eq_true_eq] at hb;exact hcl.2.1 k hb hk
     |all=>exact hcl.all (.inl rfl) rfl ac6
    obtain⟨k0,k1,k2⟩:=k
    unfold jF
    by_cases hk0:k0=0
    ·subst hk0
     have:=pM (Up k1 k2) fun y oy _ _ _ hty _ hcl=>rd (b:=y.2.2) hty (hr ▸ hcl)
     simp[Up,Prod.mk.injEq] at this<;>grind
    ·by_cases hk1 : k0 = 1 ∧ k2 = 0
     ·obtain ⟨rfl, rfl⟩ := hk1
      have:=pM (Zl k1) fun y oy _ _ _ hty _ hcl=>rd (b:=y.2.2) hty (hr ▸ hcl)
      simp[Zl] at this
      simp[this]
     grind
  | all v m t n =>
   have:=pM ac4 fun y oy _ _ _ hty _ hcl=>by
    rw[hr] at hcl
    exact hcl.all (.inr rfl) hty rfl
   simp[ac4,Prod.mk.injEq] at this
   exact this
structure St.ahj (s s':St):Prop where
 slots:∀ t,iJ s.slots t=iJ s'.slots t
 mem:∀ lv sl,aC s.mem lv sl=aC s'.mem lv sl
 aB:∀ v,s.aB.get? v=s'.aB.get? v
 nv:s.nv=s'.nv
theorem Mg.after (h:Mg call sh lW all s0 L) (hap:lC [] all=true) {p:Nat→Bool} (hc:EO all p) {x:Fx} (hx:x∈L) {o:aY} (ho:all[x.1]?=some o) (hd:x.2.1=o.dst) (hi:p x.1=false) (hb:∀ k,k<x.1→o.mJ.testBit k=true→p k=true) :
  St.ahj (Gk s0 L fun j=>p j||j==x.1) ((Gk s0 L p).app x.2.1 x.2.2):=by
 obtain⟨pre,x',post,rfl,hxx,h1,h2⟩:=h.split (List.getElem?_eq_some_iff.1 ho).1
 have ahk:x=x':=by
  grind
 subst ahk
 have pM:∀ {α : Type} (V:View α),(V.fc x=true→∀ y oy,all[y.1]?=some oy→y.2.1=oy.dst→V.fc y=true→Uq oy o→Clear y.2.2 x.2.2→False)→
   V.pM (Gk s0 (pre++x :: post) fun j=>p j||j==x.1)=V.pM ((Gk s0 (pre++x :: post) p).app x.2.1 x.2.2):=by
  intro α V hV
  cases ht:V.fc x with
  |false=>
   rw[V.off _ _ ht]
   unfold Gk
   rw[V.filter,V.filter (List.filter (fun x=>p x.1) _),List.filter_filter,List.filter_filter]
   congr 2
   refine List.filter_congr fun y hy=>?_<;>grind
  | true =>
   have hV:=hV ht
   have bound:∀ y∈pre++post,V.fc y=true→Hh all x.1 y:=by
    intro y hy ht
    have hy':y∈pre++x :: post:=by rcases List.mem_append.1 hy with hy|hy<;>simp[hy]
    have hne:y.1≠x.1:=by
     rcases List.mem_append.1 hy with hy|hy
     ·exact Nat.ne_of_lt (h1 y hy)
     ·exact (Nat.ne_of_lt (h2 y hy)).symm
    obtain⟨oy,Xb,hd⟩:=h.at hy'
    rcases h.pair hap hx hy' hne ho Xb with hh|hh
    ·exact hh
    ·exact (hV y oy Xb hd ht hh.1 hh.2).elim
   have hdom:∀ y∈post,∃ o',all[y.1]?=some o':=fun y hy=>by
    obtain⟨o',h',_⟩:=h.at (y:=y) (by simp[hy]);exact⟨o',h'⟩
   rw[V.on _ _ x (Ah V hc h1 h2 hi ho hb hdom bound s0)]
   refine ac5 V (p:=fun j=>p j||j==x.1) (fun y hy ht=>?_) (fun y hy ht=>?_) (by simp) s0
   ·simp[hb _ (h1 y hy) ((bound y (List.mem_append_left _ hy) ht).1 (h1 y hy) o ho)]
   ·obtain ⟨o', ho'⟩ := hdom y hy
    have hne:(y.1==x.1)=false:=by simpa using (Nat.ne_of_lt (h2 y hy)).symm
    rw[hne]
    cases hp:p y.1 with
    |false=>rfl
    |true=>
     have:=hc _ _ ho' hp _ (h2 y hy) ((bound y (List.mem_append_right _ hy) ht).2 (h2 y hy) o' ho')
     rw[hi] at this;cases this
 have key:∀ k,jH k x.2.2=true→∀ (y:Fx),jH k y.2.2=true→Clear y.2.2 x.2.2→False:=fun k hx y hy hcl=>hcl.fc hy hx (Ae hy) (Ae hx)
 refine⟨fun t=>pM (Mf t) fun Xc y oy _ hdy hty hoff _=>?_,fun lv sl=>?_,fun v=>pM (Zl v) fun Xc y _ _ _ hty _ hcl=>key _ Xc y hty hcl,pM nvV fun Xc y _ _ _ hty _ hcl=>hcl.all (.inl hty) (tH hty) (tH Xc)⟩
 ·simp [Mf, beq_iff_eq] at Xc hty
  exact hoff.ne t (hdy ▸ hty) (hd ▸ Xc)
 ·have := pM (Up lv sl) fun Xc y _ _ _ hty _ hcl => key _ Xc y hty hcl
  simp[Up,Prod.mk.injEq] at this
  exact this.1
end
end Go.bq
namespace Go.bq
open Go Go.RowKit
section
variable {P:Program} {X:Cx} {nt:Nat} {s:St} {a:Act} {aH:Nat} {call:Go.bq.Call} {sh:Nat→Bool} {dP:Nat→Option TypeId}
theorem eC.put {Y:Cx} {dst:Option Nat} {r:cR} {v:Value} (hs:eC X nt s a) (hx:Ext X Y) (hv:VR Y r.val v) (hm:aA Y (s.app dst r).mem (s.app dst r).aB) (hlt:dst.getD 0<nt):eC Y nt (s.app dst r) (a.put dst v):=by
 cases dst with
 |none=>
  refine⟨fun t=>?_,hs.size,hs.defers,hm⟩
  rw[om]
  exact (hs.slots t).ext hx
 | some d =>
  simp at hlt
  refine⟨fun t=>?_,by simp[Act.put,hs.size],hs.defers,hm⟩
  rw[om,sy]
  simp only[Option.some.injEq]
  by_cases h:d=t
  ·subst h
   have:((a.put (some d) v).tmps.getD d undef)=v:=by simp[Act.put,hs.size,hlt]
   grind
  ·rw [if_neg h]
   have:((a.put (some d) v).tmps.getD t undef)=a.tmps.getD t undef:=by simp[Act.put,Array.getElem?_setIfInBounds_ne h]
   rw[this];exact (hs.slots t).ext hx
theorem C3 (hs:eC X nt s a) {ops:Array Oper} {o:Oper} {ao:aY} (hgd:gdP ops o.guard=some ao.gd) {b:Bool} (hw:ja s.slots ao=some b):Region.wanted o (yielded ops a.tmps)=b:=by
 unfold ja at hw
 unfold Region.wanted
 cases hg:o.guard with
 |none=>
  grind[iJ,gdP]
 | some jb =>
  obtain⟨j,w⟩:=jb
  rw[hg] at hgd
  obtain⟨d,hd,hgd⟩:=aG hgd
  rw[←hgd] at hw
  simp at hw ⊢
  have hv:=hs.slots d
  have hy:yielded ops a.tmps j=match a.tmps[d]? with|some (.bool b)=>some b|_=>none:=by
   unfold yielded<;>grind
  rw[hy]
  split at hw
  ·rename_i t ht
   rw[ht] at hv
   have hv:=VR.sc hv
   cases h:a.tmps[d]? with
   |none=>rw[Array.getD_eq_getD_getElem?,h] at hv;cases hv
   |some v=>
    simp_all
  ·rename_i vs ht
   rw[ht] at hv
   obtain⟨us,hu,_⟩:=hv
   cases hw
   cases h:a.tmps[d]? with
   |none=>rfl
   |some v=>
    simp_all
  grind
theorem Mh (cc:bX P call) (iS:∀ f T,dP f=some T→kf P f T) (hs:eC X nt s a) (hfr:X.ρ aH=none) (z8:aH<s.nv) (hdom:∀ v,s.nv≤v→X.ρ v=none) {ops:Array Oper} {i:Nat} {o:Oper} (hoi:ops[i]?=some o)
  {ao:aY} (hop:Ca P dP o.op=some ao.op) (hd:ao.dst=o.dst) (hgd:gdP ops o.guard=some ao.gd) (hlt:ao.dst.getD 0<nt) {r:cR} (hr:ao.step call sh s aH=some r) {K:Act→World→Prop} {Q:Exit→Act→World→Prop}
  (hK:∀ Y a',Ext X Y→eC Y nt (s.app ao.dst r) a'→ew X Y aH s.nv (s.app ao.dst r).nv→K a' Y.w):wpOp P ops Q i K a X.w:=by
 unfold wpOp
 simp[hoi]
 unfold aY.step at hr
 split at hr
 ·cases hr
 ·rename_i hw
  rw[C3 hs hgd hw]
  refine .inl (Zk (dst:=ao.dst) cc iS hs hfr z8 hdom hop hr K Q fun Y v hx hv hm hdm=>?_)
  rw[←hd]
  exact hK Y _ hx (hs.put hx hv hm hlt) hdm
 ·rename_i hw
  rw[C3 hs hgd hw]
  cases hr
  rw[←hd]
  exact hK X _ (Ext.refl X) (hs.put (Ext.refl X) mN hs.mem hlt) (ew.refl _ _ _)
structure Ka (P:Program) (dP:Nat→Option TypeId) (nt:Nat) (ops:Array Oper) (all:List aY):Prop where
 len:all.length=ops.size
 at_:∀ (i:Nat) (ao:aY),all[i]?=some ao→∃ o:Oper,ops[i]?=some o∧Ca P dP o.op=some ao.op∧ao.dst=o.dst∧gdP ops o.guard=some ao.gd∧ao.dst.getD 0<nt
theorem xH {rows:List (Nat×Nat)} {ops:Array Oper} : ∀ {l:List (Oper×Nat)} {aD:List aY},vX P dP nt rows ops l=some aD→
  aD.length=l.length∧∀ (i:Nat) (ao:aY),aD[i]?=some ao→∃ (o:Oper) (b:Nat),l[i]?=some (o,b)∧ao.mJ=b∧Ca P dP o.op=some ao.op∧ao.dst=o.dst∧gdP ops o.guard=some ao.gd∧ao.dst.getD 0<nt
 |[],aD,h=>by
  cases h<;>grind
 | (o, b) :: r, aD, h => by
  simp[vX] at h
  split at h
  ·rename_i a' as' h1 h2
   cases h
   obtain⟨h3,h4⟩:=xH h2
   refine⟨by simp[h3],fun i ao hi=>?_⟩
   cases i with
   | zero =>
    cases hi
    unfold W3 at h1
    split at h1
    ·rename_i ap g hap hg
     split at h1
     ·rename_i hlt
      cases h1
      exact⟨o,b,rfl,rfl,hap,rfl,hg,hlt⟩
     ·cases h1
    ·cases h1
   |succ i=>exact h4 i ao (by simpa using hi)
  ·cases h
theorem C4 (cc:bX P call) (iS:∀ f T,dP f=some T→kf P f T) {ops:Array Oper} {all:List aY} (uV:Ka P dP nt ops all) {lW:Nat} {Q:Exit→Act→World→Prop} :
  ∀ (l:List aY) (i:Nat) (s s':St) (X:Cx) (a:Act),(∀ k,l[k]?=all[i+k]?)→ko call sh lW i l s=some s'→eC X nt s a→(∀ k,i≤k→k<i+l.length→X.ρ (lW+k)=none)→lW+(i+l.length)≤s.nv→(∀ v,s.nv≤v→X.ρ v=none)→
   (∀ Y a',Ext X Y→eC Y nt s' a'→s.nv≤s'.nv→(∀ v L,Y.ρ v=some L→X.ρ v=some L∨(lW≤v∧v<s'.nv))→Q .normal a' Y.w)→wpOps P ops Q (List.range' i l.length) a X.w
 |[],i,s,s',X,a,_,h,hs,_,_,_,hQ=>by
  cases h
  exact hQ X a (Ext.refl X) hs (Nat.le_refl _) fun _ _ h=>.inl h
 | o :: r, i, s, s', X, a, hall, h, hs, hfr, z8, hdom, hQ => by
  simp[ko] at h
  split at h
  ·cases h
  ·rename_i e he
   have h0:=hall 0
   obtain⟨oc,g1,g2,g3,g4,g5⟩:=uV.at_ i o h0.symm
   simp[List.length_cons] at hfr z8
   refine Mh cc iS hs (hfr i (Nat.le_refl _) (by omega)) (by omega) hdom g1 g2 g3 g4 g5 he fun Y a' hx hs' hd=>?_
   obtain⟨d1,d2⟩:=hd
   refine C4 cc iS uV r (i+1) _ s' Y a' (fun k=>by have:=hall (k+1);rw[List.getElem?_cons_succ] at this;rw[this];congr 1;omega) h hs' (fun k h1 h2=>?_) (by omega) (fun v hv=>?_) fun Z a'' hz Zm hn Cl=>?_
   ·cases hY : Y.ρ (lW + k) with
    |none=>rfl
    |some L=>
     grind
   ·cases hY : Y.ρ v with
    |none=>rfl
    |some L=>
     grind
   ·refine hQ Z a'' (hx.trans hz) Zm (Nat.le_trans d1 hn) fun v L hv=>?_<;>grind
theorem C5 {p q:Nat→Bool} : ∀ {l:List Nat},(∀ x,q x=true→p x=true)→(∃ x∈l,p x=true∧q x=false)→l.countP q<l.countP p
 |[],_,⟨x,hx,_⟩=>by cases hx
 |y :: r,h,⟨x,hx,h1,h2⟩=>by
  have mono:r.countP q≤r.countP p:=List.countP_mono_left fun x _=>h x
  rcases List.mem_cons.1 hx with rfl|hx
  ·grind
  ·have:=C5 h ⟨x,hx,h1,h2⟩<;>grind
theorem Ai {mJ:List Nat} : ∀ {l:List Oper} {bs:List Nat} {i:Nat},CE mJ i l bs=true→∀ k o,l[k]?=some o→∃ b,bs[k]?=some b∧Eo mJ (i+k) o b=true
 |[],_,_,_,k,o,h=>by simp at h
 |o :: r,[],i,h,_,_,_=>by simp[CE] at h
 | o :: r, b :: bs, i, h, k, o', hk => by
  simp[CE,Bool.and_eq_true] at h
  cases k with
  |zero=>
   grind
  |succ k=>
   obtain⟨b',h1,h2⟩:=Ai h.2 k o' (by simpa using hk)<;>grind
structure Qq (ops:Array Oper) (all:List aY):Prop where
 back:∀ (i:Nat) (o:Oper),ops[i]?=some o→∀ e∈o.after,Region.binds .any e=true→e.on<i
 mJ:∀ (i:Nat) (o:Oper) (ao:aY),ops[i]?=some o→all[i]?=some ao→∀ k,k<i→ao.mJ.testBit k=true→
  ∃ e∈o.after,Region.binds .any e=true∧(e.on=k∨(k<e.on∧∀ ao',all[e.on]?=some ao'→ao'.mJ.testBit k=true))
theorem Zn (cc:bX P call) (iS:∀ f T,dP f=some T→kf P f T) {ops:Array Oper} {all:List aY} (uV:Ka P dP nt ops all) (Qr:Qq ops all) (hap:lC [] all=true) {lW:Nat} {s0:St} {L:List Fx}
  (Qs:Mg call sh lW all s0 L) {Q:Exit→Act→World→Prop} :
  ∀ (fuel:Nat) (listed:Array Bool) (X:Cx) (a:Act),listed.size=ops.size→(List.range ops.size).countP (fun j=>!listed.getD j false)≤fuel→EO all (fun j=>listed.getD j false)→
   eC X nt (Gk s0 L fun j=>listed.getD j false) a→(∀ k,k<ops.size→listed.getD k false=false→X.ρ (lW+k)=none)→lW+ops.size≤(Gk s0 L fun j=>listed.getD j false).nv→(∀ v,(Gk s0 L fun j=>listed.getD j false).nv≤v→X.ρ v=none)→
   (∀ Y a',Ext X Y→eC Y nt (jy s0 L) a'→(Gk s0 L fun j=>listed.getD j false).nv≤(jy s0 L).nv→(∀ v M,Y.ρ v=some M→X.ρ v=some M∨(lW≤v∧v<(jy s0 L).nv))→Q .normal a' Y.w)→wpAny P .any ops Q fuel listed a X.w:=by
 have Zo:∀ (listed:Array Bool) (j:Nat),listed.size=ops.size→j<ops.size→listed.getD j true=listed.getD j false:=fun listed j h hj=>by
  simp[show j<listed.size by omega]
 have fin : ∀ (listed : Array Bool) (X : Cx) (a : Act), listed.size = ops.size → Region.ready .any ops listed = [] → eC X nt (Gk s0 L fun j => listed.getD j false) a →
   (∀ Y a',Ext X Y→eC Y nt (jy s0 L) a'→(Gk s0 L fun j=>listed.getD j false).nv≤(jy s0 L).nv→(∀ v M,Y.ρ v=some M→X.ρ v=some M∨(lW≤v∧v<(jy s0 L).nv))→Q .normal a' Y.w)→Q .normal a X.w:=by
  intro listed X a hsz hr hs hQ
  have hall:∀ j,j<ops.size→listed.getD j false=true:=by
   intro j
   induction j using Nat.strongRecOn with
   | _ j ih =>
    intro hj
    cases hl:listed.getD j false with
    |true=>rfl
    | false =>
     have hm:j∈Region.ready .any ops listed:=mem_ready.2 ⟨by rw[Zo _ _ hsz hj];exact hl,ops[j],Array.getElem?_eq_getElem hj,fun e he hb=>by
      have:=Qr.back j _ (Array.getElem?_eq_getElem hj) e he hb
      exact ih _ this (by omega)⟩
     rw[hr] at hm;cases hm
  have hst:(Gk s0 L fun j=>listed.getD j false)=jy s0 L:=by
   unfold Gk
   rw[List.filter_eq_self.2 fun x hx=>hall x.1 (uV.len ▸ (Qs.dom x.1).2 ⟨x,hx,rfl⟩)]
  rw[hst] at hs hQ
  exact hQ X a (Ext.refl X) hs (Nat.le_refl _) fun _ _ h=>.inl h
 intro fuel
 induction fuel with
 | zero =>
  intro listed X a hsz ac7 hc hs hfr z8 hdom hQ
  have hr:Region.ready .any ops listed=[]:=by
   cases hr:Region.ready .any ops listed with
   |nil=>rfl
   |cons j r=>
    have hj:j∈Region.ready .any ops listed:=by rw[hr];exact List.mem_cons_self ..
    obtain⟨h1,o,h2,_⟩:=mem_ready.1 hj
    have hlt:j<ops.size:=(Array.getElem?_eq_some_iff.1 h2).1
    have:=List.countP_eq_zero.1 (Nat.le_zero.1 ac7) j (List.mem_range.2 hlt)
    rw[Zo _ _ hsz hlt] at h1
    rw[h1] at this
    exact absurd rfl this
  exact⟨hr,fin listed X a hsz hr hs hQ⟩
 | succ fuel ih =>
  intro listed X a hsz ac7 hc hs hfr z8 hdom hQ
  refine⟨fun hr=>fin listed X a hsz hr hs hQ,fun i hi=>?_⟩
  obtain⟨hl,o,ho,Zp⟩:=mem_ready.1 hi
  have hlt:i<ops.size:=(Array.getElem?_eq_some_iff.1 ho).1
  rw[Zo _ _ hsz hlt] at hl
  obtain⟨ao,hao⟩:∃ ao,all[i]?=some ao:=⟨all[i]'(by rw[uV.len];exact hlt),List.getElem?_eq_getElem _⟩
  obtain⟨o',g1,g2,g3,g4,g5⟩:=uV.at_ i ao hao
  rw[ho] at g1;injection g1 with g1;subst g1
  have hb:∀ k,k<i→ao.mJ.testBit k=true→listed.getD k false=true:=by
   intro k hk EP
   obtain⟨e,he,Xd,h⟩:=Qr.mJ i o ao ho hao k hk EP
   have hon:=Zp e he Xd
   rcases h with h|⟨h1,h2⟩
   ·rw[←h];exact hon
   ·have hlt' : e.on < all.length := by
     rw[uV.len]
     have:=Qr.back i o ho e he Xd
     omega
    exact hc e.on _ (List.getElem?_eq_getElem hlt') hon k h1 (h2 _ (List.getElem?_eq_getElem hlt'))
  obtain⟨x,hx,rfl,hxd,hstep⟩:=Qs.any hap hc hao hl hb
  have hp':(fun j=>(listed.setIfInBounds x.1 true).getD j false)=fun j=>listed.getD j false||j==x.1:=by
   funext j
   by_cases hj:j=x.1
   ·subst hj;simp[show x.1<listed.size by omega]
   ·rw[getD_set_ne false (Ne.symm hj),show (j==x.1)=false from by simpa using hj,Bool.or_false]
  have hsame:=Qs.after hap hc hx hao hxd hl hb
  rw[←hp'] at hsame
  refine Mh cc iS hs (hfr _ hlt hl) (by omega) hdom ho g2 g3 g4 g5 hstep fun Y a' hx' hs' hd=>?_
  rw[←hxd] at hs' hd
  obtain⟨d1,d2⟩:=hd
  rw[←hsame.nv] at d1 d2
  refine ih (listed.setIfInBounds x.1 true) Y a' (by simpa using hsz) ?_ ?_ ⟨fun t=>?_,hs'.size,hs'.defers,hs'.mem.congr hsame.mem hsame.aB⟩ (fun k hk Jz=>?_) (by omega) (fun v hv=>?_) fun Z a'' hz Zm hn Cl=>?_
  ·have := C5 (p := fun j => !listed.getD j false) (q := fun j => !(listed.setIfInBounds x.1 true).getD j false) (l := List.range ops.size) (fun j hj => by
    have:=congrFun hp' j
    rw[this] at hj
    simp only[Bool.not_eq_true',Bool.or_eq_false_iff] at hj
    simp only[Bool.not_eq_true'];exact hj.1) ⟨x.1,List.mem_range.2 hlt,by simp only[hl,Bool.not_false],by
    have:=congrFun hp' x.1
    simp only[this,beq_self_eq_true,Bool.or_true,Bool.not_true]⟩
   omega
  ·rw [hp']
   intro j oj hoj hj k hk EP
   simp only[Bool.or_eq_true,beq_iff_eq] at hj ⊢
   rcases hj with hj|hj
   ·exact .inl (hc j oj hoj hj k hk EP)
   ·subst hj
    rw[hao] at hoj;injection hoj with hoj;subst hoj
    exact .inl (hb k hk EP)
  ·rw[hsame.slots];exact hs'.slots t
  ·have hk' := congrFun hp' k
   rw[hk'] at Jz
   simp only[Bool.or_eq_false_iff,beq_eq_false_iff_ne] at Jz
   cases hY:Y.ρ (lW+k) with
   |none=>rfl
   |some M=>
    rcases d2 _ _ hY with h|h|h
    ·rw[hfr k hk Jz.1] at h;cases h
    ·omega
    ·omega
  ·cases hY : Y.ρ v with
   |none=>rfl
   |some M=>
    rcases d2 _ _ hY with h|h|h
    ·rw[hdom v (by omega)] at h;cases h
    ·omega
    ·omega
  ·refine hQ Z a'' (hx'.trans hz) Zm (Nat.le_trans d1 hn) fun v M hv => ?_
   rcases Cl v M hv with h|h
   ·rcases d2 v M h with h | h | h
    ·exact .inl h
    ·exact .inr (by omega)
    ·exact .inr (by omega)
   ·exact .inr h
end
end Go.bq
