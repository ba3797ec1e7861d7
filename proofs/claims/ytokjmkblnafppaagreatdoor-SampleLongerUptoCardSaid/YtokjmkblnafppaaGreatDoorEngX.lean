/- Any order of a drawn region, in the machine of pure data. -/
import Derived.Test.YtokjmkblnafppaaGreatDoorEngW
set_option linter.unusedVariables false
set_option linter.unusedSimpArgs false
namespace Go.bI
open Go
structure JW (call:Call) (sh:Nat→Bool) (lg:Nat) (all:List bA) (s0:St) (L:List Fx):Prop where
 lt:L.Pairwise fun x y=>x.1<y.1
 dom:∀ i,i<all.length↔∃ x∈L,x.1=i
 step:∀ pre x post,L=pre++x :: post→∃ o,all[x.1]?=some o∧x.2.1=o.dst∧o.step call sh (jD s0 pre) (lg+x.1)=some x.2.2
 meet:∀ x y,x∈L→y∈L→x.1<y.1→∀ o,all[y.1]?=some o→o.lY.testBit x.1=true∨Clear x.2.2 y.2.2
theorem zN {lY:Nat} {e:fW} : ∀ {past:List (Nat×fW)},clear lY e past=true→∀ y∈past,lY.testBit y.1=true∨Clear y.2 e
 |[],_,y,hy=>by cases hy
 |(i,x) :: r,h,y,hy=>by
  simp only[clear,Bool.and_eq_true,Bool.or_eq_true,Bool.not_eq_true'] at h
  rcases List.mem_cons.1 hy with rfl|hy
  ·exact h.1.imp id Ii
  ·exact zN h.2 y hy
theorem uk {call:Call} {sh:Nat→Bool} {lg:Nat} {all:List bA} : ∀ (ops:List bA) (i:Nat) (past:List (Nat×fW)) (s s':St),(∀ k,ops[k]?=all[i+k]?)→jL call sh lg i ops past s=some s'→
  ∃ L:List Fx,s'=jD s L∧L.map (·.1)=List.range' i ops.length∧
   (∀ pre x post,L=pre++x :: post→∃ o,all[x.1]?=some o∧x.2.1=o.dst∧o.step call sh (jD s pre) (lg+x.1)=some x.2.2∧(∀ y∈pre,o.lY.testBit y.1=true∨Clear y.2.2 x.2.2)∧∀ y∈past,o.lY.testBit y.1=true∨Clear y.2 x.2.2)
 |[],i,past,s,s',_,h=>by
  simp only[jL,Option.some.injEq] at h
  exact⟨[],h.symm,rfl,fun pre x post h=>by simp at h⟩
 | o :: r, i, past, s, s', hall, h => by
  simp only[jL] at h
  split at h
  ·cases h
  ·rename_i e he
   split at h
   ·rename_i hc
    obtain⟨L,h1,h2,h3⟩:=uk r (i+1) ((i,e) :: past) _ _ (fun k=>by have:=hall (k+1);rw[List.getElem?_cons_succ] at this;rw[this];congr 1;omega) h
    refine⟨(i,o.dst,e) :: L,h1,by simp[h2,List.range'_succ],fun pre x post hp=>?_⟩
    cases pre with
    |nil=>
     simp only[List.nil_append,List.cons.injEq] at hp
     obtain⟨rfl,_⟩:=hp
     exact⟨o,by have:=hall 0;simpa using this.symm,rfl,he,⟨fun y hy=>absurd hy List.not_mem_nil,fun y hy=>zN hc y hy⟩⟩
    |cons p pre=>
     simp only[List.cons_append,List.cons.injEq] at hp
     obtain⟨rfl,hp⟩:=hp
     obtain⟨o',g1,g2,g3,g4,g5⟩:=h3 pre x post hp
     refine⟨o',g1,g2,g3,fun y hy=>?_,fun y hy=>g5 y (List.mem_cons_of_mem _ hy)⟩
     rcases List.mem_cons.1 hy with rfl|hy
     ·exact g5 _ (List.mem_cons_self ..)
     ·exact g4 y hy
   ·cases h
theorem JW.of_run {call:Call} {sh:Nat→Bool} {lg:Nat} {all:List bA} {s s':St} (h:jL call sh lg 0 all [] s=some s'):∃ L,s'=jD s L∧JW call sh lg all s L:=by
 obtain⟨L,h1,h2,h3⟩:=uk (all:=all) all 0 [] s s' (fun k=>by simp) h
 refine⟨L,h1,?_,fun i=>?_,fun pre x post hp=>?_,fun x y hx hy hlt o ho=>?_⟩
 ·have : (L.map (·.1)).Pairwise (· < ·) := by rw [h2]; exact List.pairwise_lt_range'
  exact List.pairwise_map.1 this
 ·have : i ∈ L.map (·.1) ↔ i < all.length := by rw [h2, List.mem_range'_1]; omega
  rw[←this,List.mem_map]
 ·obtain ⟨o, g1, g2, g3, _⟩ := h3 pre x post hp
  exact⟨o,g1,g2,g3⟩
 ·obtain ⟨pre, post, rfl⟩ := List.append_of_mem hy
  obtain⟨o',g1,g2,g3,g4,_⟩:=h3 pre y post rfl
  rw[ho] at g1;injection g1 with g1;subst g1
  refine g4 x ?_
  have hL:(pre++y :: post).Pairwise fun x y:Fx=>x.1<y.1:=by
   have:((pre++y :: post).map (·.1)).Pairwise (· < ·):=by rw[h2];exact List.pairwise_lt_range'
   exact List.pairwise_map.1 this
  rcases List.mem_append.1 hx with hx|hx
  ·exact hx
  ·rcases List.mem_cons.1 hx with rfl | hx
   ·omega
   ·have := (List.pairwise_cons.1 (List.pairwise_append.1 hL).2.1).1 x hx
    omega
theorem um {y:bA} : ∀ {past:List bA} {i:Nat},yf y i past=true→∀ k x,past[k]?=some x→y.lY.testBit (i+k)=true∨Rr x y
 |[],_,_,k,x,hx=>by simp at hx
 | p :: r, i, h, k, x, hx => by
  simp only[yf,Bool.and_eq_true,Bool.or_eq_true] at h
  cases k with
  |zero=>
   simp only[List.getElem?_cons_zero,Option.some.injEq] at hx
   subst hx
   exact h.1.imp id apart_spec
  |succ k=>
   have:=um h.2 k x (by simpa using hx)
   rwa[show i+(k+1)=i+1+k by omega]
theorem rV:∀ {l past:List bA},kN past l=true→∀ i j x y,(past++l)[i]?=some x→(past++l)[j]?=some y→i<j→past.length≤j→y.lY.testBit i=true∨Rr x y
 |[],past,_,i,j,x,y,_,hy,_,hj=>by
  rw[List.append_nil] at hy
  rw[List.getElem?_eq_none hj] at hy;cases hy
 | o :: r, past, h, i, j, x, y, hx, hy, hij, hj => by
  simp only[kN,Bool.and_eq_true] at h
  rcases Nat.lt_or_ge past.length j with hl|hl
  ·have e : past ++ o :: r = past ++ [o] ++ r := by simp
   rw[e] at hx hy
   exact rV h.2 i j x y hx hy hij (by simp;omega)
  ·have : j = past.length := by omega
   subst this
   rw[List.getElem?_append_right (Nat.le_refl _),Nat.sub_self,List.getElem?_cons_zero] at hy
   injection hy with hy;subst hy
   rw[List.getElem?_append_left hij] at hx
   have:=um h.1 i x hx
   rwa[Nat.zero_add] at this
section
variable {call:Call} {sh:Nat→Bool} {lg:Nat} {all:List bA} {s0:St} {L:List Fx}
def Eu (s0:St) (L:List Fx) (p:Nat→Bool):St:=jD s0 (L.filter fun x=>p x.1)
def DG (all:List bA) (p:Nat→Bool):Prop:=∀ j o,all[j]?=some o→p j=true→∀ k,k<j→o.lY.testBit k=true→p k=true
theorem JW.split (h:JW call sh lg all s0 L) {i:Nat} (hi:i<all.length):∃ pre x post,L=pre++x :: post∧x.1=i∧(∀ y∈pre,y.1<i)∧∀ y∈post,i<y.1:=by
 obtain⟨x,hx,rfl⟩:=(h.dom i).1 hi
 obtain⟨pre,post,rfl⟩:=List.append_of_mem hx
 refine⟨pre,x,post,rfl,rfl,fun y hy=>?_,fun y hy=>?_⟩
 ·exact (List.pairwise_append.1 h.lt).2.2 y hy x (List.mem_cons_self ..)
 ·exact (List.pairwise_cons.1 (List.pairwise_append.1 h.lt).2.1).1 y hy
def Fq (all:List bA) (i:Nat) (y:Fx):Prop:=
 (y.1<i→∀ o,all[i]?=some o→o.lY.testBit y.1=true)∧(i<y.1→∀ o,all[y.1]?=some o→o.lY.testBit i=true)
theorem part {α : Type} (V:View α) {pre post:List Fx} {x:Fx} {p:Nat→Bool} (hpre:∀ y∈pre,V.eD y=true→p y.1=true) (hpost:∀ y∈post,V.eD y=true→p y.1=false) (hx:p x.1=false) (s:St) :
  V.oF (jD s ((pre++x :: post).filter fun x=>p x.1))=V.oF (jD s pre):=by
 rw[V.filter,V.filter pre,List.filter_filter,List.filter_append,List.filter_cons]
 simp only[hx,Bool.and_false,Bool.false_eq_true,if_false]
 have e1:post.filter (fun a=>V.eD a&&p a.1)=[]:=by
  refine List.filter_eq_nil_iff.2 fun y hy hb=>?_
  have hb:=Bool.and_eq_true_iff.1 hb
  rw[hpost y hy hb.1] at hb
  exact absurd hb.2 (by decide)
 have e2:pre.filter (fun a=>V.eD a&&p a.1)=pre.filter V.eD:=by
  refine List.filter_congr fun y hy=>?_
  cases ht:V.eD y with
  |true=>simp[hpre y hy ht]
  |false=>rfl
 rw[e1,e2,List.append_nil]
theorem zO {α : Type} (V:View α) {p:Nat→Bool} (hc:DG all p) {pre post:List Fx} {x:Fx} (hpre:∀ y∈pre,y.1<x.1) (hpost:∀ y∈post,x.1<y.1) (hi:p x.1=false) {o:bA} (ho:all[x.1]?=some o)
  (hb:∀ k,k<x.1→o.lY.testBit k=true→p k=true) (hdom:∀ y∈post,∃ o',all[y.1]?=some o') (hV:∀ y∈pre++post,V.eD y=true→Fq all x.1 y) (s:St) :
  V.oF (Eu s (pre++x :: post) p)=V.oF (jD s pre):=by
 refine part V (fun y hy ht=>?_) (fun y hy ht=>?_) hi s
 ·exact hb _ (hpre y hy) ((hV y (List.mem_append_left _ hy) ht).1 (hpre y hy) o ho)
 ·obtain ⟨o', ho'⟩ := hdom y hy
  cases hp:p y.1 with
  |false=>rfl
  |true=>
   have:=hc _ _ ho' hp _ (hpost y hy) ((hV y (List.mem_append_right _ hy) ht).2 (hpost y hy) o' ho')
   rw[hi] at this;cases this
theorem ZR {α : Type} (V:View α) {pre post:List Fx} {x:Fx} {p:Nat→Bool} (hpre:∀ y∈pre,V.eD y=true→p y.1=true) (hpost:∀ y∈post,V.eD y=true→p y.1=false) (hx:p x.1=true) (s:St) :
  V.oF (jD s ((pre++x :: post).filter fun x=>p x.1))=V.oF ((jD s pre).app x.2.1 x.2.2):=by
 have e0:(jD s pre).app x.2.1 x.2.2=jD s (pre++[x]):=by rw[wW];rfl
 rw[e0,V.filter,V.filter (pre++[x]),List.filter_filter,List.filter_append,List.filter_append]
 have e1:(x :: post).filter (fun a=>V.eD a&&p a.1)=[x].filter V.eD:=by
  have e1:post.filter (fun a=>V.eD a&&p a.1)=[]:=by
   refine List.filter_eq_nil_iff.2 fun y hy hb=>?_
   have hb:=Bool.and_eq_true_iff.1 hb
   rw[hpost y hy hb.1] at hb
   exact absurd hb.2 (by decide)
  rw[List.filter_cons,e1,List.filter_cons,List.filter_nil,hx,Bool.and_true]
 have e2:pre.filter (fun a=>V.eD a&&p a.1)=pre.filter V.eD:=by
  refine List.filter_congr fun y hy=>?_
  cases ht:V.eD y with
  |true=>simp[hpre y hy ht]
  |false=>rfl
 rw[e1,e2]
theorem JW.pair (h:JW call sh lg all s0 L) (hap:kN [] all=true) {x y:Fx} (hx:x∈L) (hy:y∈L) (hne:y.1≠x.1) {o oy:bA} (ho:all[x.1]?=some o) (QF:all[y.1]?=some oy) :
  Fq all x.1 y∨(Rr oy o∧Clear y.2.2 x.2.2):=by
 have key:=fun i j a b (ha:all[i]?=some a) (hb:all[j]?=some b) (hij:i<j)=>rV (past:=[]) hap i j a b (by simpa using ha) (by simpa using hb) hij (Nat.zero_le _)
 rcases Nat.lt_or_gt_of_ne hne with hl|hl
 ·have b : o.lY.testBit y.1 = true → Fq all x.1 y := fun hb => ⟨fun _ o' ho' => by rw [ho] at ho'; injection ho' with ho'; rw [← ho']; exact hb, fun h => by omega⟩
  rcases h.meet y x hy hx hl o ho with h1|h1
  ·exact .inl (b h1)
  ·rcases key _ _ _ _ QF ho hl with h2 | h2
   ·exact .inl (b h2)
   ·exact .inr ⟨h2,h1⟩
 ·have b : oy.lY.testBit x.1 = true → Fq all x.1 y := fun hb => ⟨fun h => by omega, fun _ o' ho' => by rw [QF] at ho'; injection ho' with ho'; rw [← ho']; exact hb⟩
  rcases h.meet x y hx hy hl oy QF with h1|h1
  ·exact .inl (b h1)
  ·rcases key _ _ _ _ ho QF hl with h2 | h2
   ·exact .inl (b h2)
   ·exact .inr ⟨h2.symm,h1.symm⟩
theorem JW.at (h:JW call sh lg all s0 L) {y:Fx} (hy:y∈L):∃ o,all[y.1]?=some o∧y.2.1=o.dst:=by
 obtain⟨pre,post,rfl⟩:=List.append_of_mem hy
 obtain⟨o,h1,h2,_⟩:=h.step pre y post rfl
 exact⟨o,h1,h2⟩
theorem JW.any (h:JW call sh lg all s0 L) (hap:kN [] all=true) {p:Nat→Bool} (hc:DG all p) {i:Nat} {o:bA} (ho:all[i]?=some o) (hi:p i=false) (hb:∀ k,k<i→o.lY.testBit k=true→p k=true) :
  ∃ x∈L,x.1=i∧x.2.1=o.dst∧o.step call sh (Eu s0 L p) (lg+i)=some x.2.2:=by
 obtain⟨pre,x,post,rfl,rfl,h1,h2⟩:=h.split (List.getElem?_eq_some_iff.1 ho).1
 obtain⟨o',g1,g2,g3⟩:=h.step pre x post rfl
 rw[ho] at g1;injection g1 with g1;subst g1
 have hmem:x∈pre++x :: post:=by simp
 refine⟨x,hmem,rfl,g2,?_⟩
 have oF:∀ {α : Type} (V:View α),(∀ y oy,y∈pre++x :: post→all[y.1]?=some oy→y.2.1=oy.dst→V.eD y=true→Rr oy o→Clear y.2.2 x.2.2→False)→V.oF (Eu s0 (pre++x :: post) p)=V.oF (jD s0 pre):=by
  intro α V hV
  refine zO V hc h1 h2 hi ho hb (fun y hy=>?_) (fun y hy ht=>?_) s0
  ·obtain⟨o',h',_⟩:=h.at (y:=y) (by simp[hy]);exact⟨o',h'⟩
  ·have hy' : y ∈ pre ++ x :: post := by rcases List.mem_append.1 hy with hy | hy <;> simp [hy]
   have hne:y.1≠x.1:=by
    rcases List.mem_append.1 hy with hy|hy
    ·exact Nat.ne_of_lt (h1 y hy)
    ·exact (Nat.ne_of_lt (h2 y hy)).symm
   obtain⟨oy,QF,hd⟩:=h.at hy'
   rcases h.pair hap hmem hy' hne ho QF with hh|hh
   ·exact hh
   ·exact (hV y oy hy' QF hd ht hh.1 hh.2).elim
 refine Ij g3 (fun t ht=>?_) ?_
 ·refine oF (JV t) fun y oy _ _ hd hty hoff _ => ?_
  simp only[JV,beq_iff_eq] at hty
  exact hoff.xy t (hd ▸ hty) ht
 ·cases hr : x.2.2 with
  | bS e =>
   refine⟨fun hl=>?_,fun k hk=>?_⟩
   ·refine oF aem fun y oy _ _ _ hty _ hcl => ?_
    rw[hr] at hcl
    exact hcl.all (.inl hty) (sM hty) hl
   ·have ZS : lN (.bS e) = true := by
     simp only[lN]
     cases hrd:e.rd with
     |nil=>rw[hrd] at hk;cases hk
     |cons=>rfl
    have rd:∀ {b:fW},j8 k b=true→Clear b (.bS e)→False:=by
     intro b hb hcl
     cases b with
     |bS b=>simp only[j8,decide_eq_true_eq] at hb;exact hcl.2.1 k hb hk
     |all=>exact hcl.all (.inl rfl) rfl ZS
    obtain⟨k0,k1,k2⟩:=k
    unfold kR
    by_cases hk0:k0=0
    ·subst hk0
     have:=oF (Rq k1 k2) fun y oy _ _ _ hty _ hcl=>rd (b:=y.2.2) hty (hr ▸ hcl)
     simp only[Rq,Prod.mk.injEq] at this
     simp only[if_true,this.1]
    ·simp only [hk0, if_false]
     by_cases hk1:k0=1∧k2=0
     ·obtain ⟨rfl, rfl⟩ := hk1
      have:=oF (Vc k1) fun y oy _ _ _ hty _ hcl=>rd (b:=y.2.2) hty (hr ▸ hcl)
      simp only[Vc] at this
      simp only[this]
     ·simp only[hk1,if_false]
  | all v m t n =>
   have:=oF ZQ fun y oy _ _ _ hty _ hcl=>by
    rw[hr] at hcl
    exact hcl.all (.inr rfl) hty rfl
   simp only[ZQ,Prod.mk.injEq] at this
   exact this
structure St.aen (s s':St):Prop where
 slots:∀ t,jC s.slots t=jC s'.slots t
 mem:∀ lv sl,aN s.mem lv sl=aN s'.mem lv sl
 aE:∀ v,s.aE.get? v=s'.aE.get? v
 nv:s.nv=s'.nv
theorem JW.after (h:JW call sh lg all s0 L) (hap:kN [] all=true) {p:Nat→Bool} (hc:DG all p) {x:Fx} (hx:x∈L) {o:bA} (ho:all[x.1]?=some o) (hd:x.2.1=o.dst) (hi:p x.1=false) (hb:∀ k,k<x.1→o.lY.testBit k=true→p k=true) :
  St.aen (Eu s0 L fun j=>p j||j==x.1) ((Eu s0 L p).app x.2.1 x.2.2):=by
 obtain⟨pre,x',post,rfl,hxx,h1,h2⟩:=h.split (List.getElem?_eq_some_iff.1 ho).1
 have aeo:x=x':=by
  rcases List.mem_append.1 hx with hx|hx
  ·have:=h1 x hx;omega
  ·rcases List.mem_cons.1 hx with hx | hx
   ·exact hx
   ·have:=h2 x hx;omega
 subst aeo
 have oF : ∀ {α : Type} (V : View α), (V.eD x = true → ∀ y oy, all[y.1]? = some oy → y.2.1 = oy.dst → V.eD y = true → Rr oy o → Clear y.2.2 x.2.2 → False) →
   V.oF (Eu s0 (pre++x :: post) fun j=>p j||j==x.1)=V.oF ((Eu s0 (pre++x :: post) p).app x.2.1 x.2.2):=by
  intro α V hV
  cases ht:V.eD x with
  | false =>
   rw[V.off _ _ ht]
   unfold Eu
   rw[V.filter,V.filter (List.filter (fun x=>p x.1) _),List.filter_filter,List.filter_filter]
   congr 2
   refine List.filter_congr fun y hy=>?_
   by_cases hyx:y.1=x.1
   ·have : y = x := by
     rcases List.mem_append.1 hy with hy|hy
     ·have:=h1 y hy;omega
     ·rcases List.mem_cons.1 hy with hy | hy
      ·exact hy
      ·have:=h2 y hy;omega
    rw[this,ht];rfl
   ·show (V.eD y && (p y.1 || y.1 == x.1)) = _
    rw[show (y.1==x.1)=false from by simpa using hyx,Bool.or_false]
  | true =>
   have hV:=hV ht
   have bound:∀ y∈pre++post,V.eD y=true→Fq all x.1 y:=by
    intro y hy ht
    have hy':y∈pre++x :: post:=by rcases List.mem_append.1 hy with hy|hy<;>simp[hy]
    have hne:y.1≠x.1:=by
     rcases List.mem_append.1 hy with hy|hy
     ·exact Nat.ne_of_lt (h1 y hy)
     ·exact (Nat.ne_of_lt (h2 y hy)).symm
    obtain⟨oy,QF,hd⟩:=h.at hy'
    rcases h.pair hap hx hy' hne ho QF with hh|hh
    ·exact hh
    ·exact (hV y oy QF hd ht hh.1 hh.2).elim
   have hdom:∀ y∈post,∃ o',all[y.1]?=some o':=fun y hy=>by
    obtain⟨o',h',_⟩:=h.at (y:=y) (by simp[hy]);exact⟨o',h'⟩
   rw[V.on _ _ x (zO V hc h1 h2 hi ho hb hdom bound s0)]
   refine ZR V (p:=fun j=>p j||j==x.1) (fun y hy ht=>?_) (fun y hy ht=>?_) (by simp) s0
   ·simp[hb _ (h1 y hy) ((bound y (List.mem_append_left _ hy) ht).1 (h1 y hy) o ho)]
   ·obtain ⟨o', ho'⟩ := hdom y hy
    have hne:(y.1==x.1)=false:=by simpa using (Nat.ne_of_lt (h2 y hy)).symm
    rw[hne,Bool.or_false]
    cases hp:p y.1 with
    |false=>rfl
    |true=>
     have:=hc _ _ ho' hp _ (h2 y hy) ((bound y (List.mem_append_right _ hy) ht).2 (h2 y hy) o' ho')
     rw[hi] at this;cases this
 have key:∀ k,j8 k x.2.2=true→∀ (y:Fx),j8 k y.2.2=true→Clear y.2.2 x.2.2→False:=fun k hx y hy hcl=>hcl.eD hy hx (zL hy) (zL hx)
 refine⟨fun t=>oF (JV t) fun Uc y oy _ hdy hty hoff _=>?_,fun lv sl=>?_,fun v=>oF (Vc v) fun Uc y _ _ _ hty _ hcl=>key _ Uc y hty hcl,oF nvV fun Uc y _ _ _ hty _ hcl=>hcl.all (.inl hty) (sM hty) (sM Uc)⟩
 ·simp only [JV, beq_iff_eq] at Uc hty
  exact hoff.ne t (hdy ▸ hty) (hd ▸ Uc)
 ·have := oF (Rq lv sl) fun Uc y _ _ _ hty _ hcl => key _ Uc y hty hcl
  simp only[Rq,Prod.mk.injEq] at this
  exact this.1
end
end Go.bI
