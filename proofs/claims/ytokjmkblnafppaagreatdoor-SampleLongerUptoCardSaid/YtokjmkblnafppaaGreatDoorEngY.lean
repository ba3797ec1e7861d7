/- Regions of the program against the machine of pure data. -/
import Derived.Test.YtokjmkblnafppaaGreatDoorEngX
set_option linter.unusedVariables false
set_option linter.unusedSimpArgs false
namespace Go.bI
open Go Go.RowKit
section
variable {P:Program} {X:Cx} {nt:Nat} {s:St} {a:Act} {aR:Nat} {call:Go.bI.Call} {sh:Nat→Bool} {bq:Nat→Option TypeId}
theorem eL.put {Y:Cx} {dst:Option Nat} {r:fW} {v:Value} (hs:eL X nt s a) (hx:Ext X Y) (hv:VR Y r.val v) (hm:aB Y (s.app dst r).mem (s.app dst r).aE) (hlt:dst.getD 0<nt):eL Y nt (s.app dst r) (a.put dst v):=by
 cases dst with
 |none=>
  refine⟨fun t=>?_,hs.size,hs.defers,hm⟩
  rw[nE]
  exact (hs.slots t).ext hx
 | some d =>
  simp only[Option.getD_some] at hlt
  refine⟨fun t=>?_,by simp[Act.put,hs.size],hs.defers,hm⟩
  rw[nE,ru]
  simp only[Option.some.injEq]
  by_cases h:d=t
  ·subst h
   rw[if_pos rfl]
   have:((a.put (some d) v).tmps.getD d undef)=v:=by simp[Act.put,hs.size,hlt]
   rw[this];exact hv
  ·rw [if_neg h]
   have:((a.put (some d) v).tmps.getD t undef)=a.tmps.getD t undef:=by simp[Act.put,Array.getElem?_setIfInBounds_ne h]
   rw[this];exact (hs.slots t).ext hx
theorem Cf (hs:eL X nt s a) {ops:Array Oper} {o:Oper} {ao:bA} (hgd:UP ops o.guard=some ao.gd) {b:Bool} (hw:jl s.slots ao=some b):Region.wanted o (yielded ops a.tmps)=b:=by
 unfold jl at hw
 unfold Region.wanted
 cases hg:o.guard with
 |none=>
  rw[hg] at hgd
  simp only[UP,Option.some.injEq] at hgd
  rw[←hgd] at hw
  simpa using hw
 | some jb =>
  obtain⟨j,w⟩:=jb
  rw[hg] at hgd
  simp only[UP] at hgd
  obtain⟨d,hd,hgd⟩:=aM hgd
  rw[←hgd] at hw
  simp only at hw ⊢
  have hv:=hs.slots d
  have hy:yielded ops a.tmps j=match a.tmps[d]? with|some (.bool b)=>some b|_=>none:=by
   unfold yielded;rw[hd];rfl
  rw[hy]
  split at hw
  ·rename_i t ht
   rw[ht] at hv
   have hv:=VR.sc hv
   injection hw with hw
   cases h:a.tmps[d]? with
   |none=>rw[Array.getD_eq_getD_getElem?,h] at hv;cases hv
   |some v=>
    rw[Array.getD_eq_getD_getElem?,h] at hv
    simp only[Option.getD_some] at hv
    subst hv
    rw[←hw]
    cases t<;>cases w<;>rfl
  ·rename_i vs ht
   rw[ht] at hv
   obtain⟨us,hu,_⟩:=hv
   injection hw with hw
   subst hw
   cases h:a.tmps[d]? with
   |none=>rfl
   |some v=>
    rw[Array.getD_eq_getD_getElem?,h] at hu
    simp only[Option.getD_some] at hu
    subst hu
    rfl
  ·cases hw
theorem JX (cE:cF P call) (jf:∀ f T,bq f=some T→j3 P f T) (hs:eL X nt s a) (hfr:X.ρ aR=none) (yl:aR<s.nv) (hdom:∀ v,s.nv≤v→X.ρ v=none) {ops:Array Oper} {i:Nat} {o:Oper} (hoi:ops[i]?=some o)
  {ao:bA} (hop:tu P bq o.op=some ao.op) (hd:ao.dst=o.dst) (hgd:UP ops o.guard=some ao.gd) (hlt:ao.dst.getD 0<nt) {r:fW} (hr:ao.step call sh s aR=some r) {K:Act→World→Prop} {Q:Exit→Act→World→Prop}
  (hK:∀ Y a',Ext X Y→eL Y nt (s.app ao.dst r) a'→eC X Y aR s.nv (s.app ao.dst r).nv→K a' Y.w):wpOp P ops Q i K a X.w:=by
 unfold wpOp
 simp only[hoi]
 unfold bA.step at hr
 split at hr
 ·cases hr
 ·rename_i hw
  rw[Cf hs hgd hw]
  simp only[if_true]
  refine .inl (Vb (dst:=ao.dst) cE jf hs hfr yl hdom hop hr K Q fun Y v hx hv hm hdm=>?_)
  rw[←hd]
  exact hK Y _ hx (hs.put hx hv hm hlt) hdm
 ·rename_i hw
  rw[Cf hs hgd hw]
  simp only[Bool.false_eq_true,if_false]
  injection hr with hr;subst hr
  rw[←hd]
  exact hK X _ (Ext.refl X) (hs.put (Ext.refl X) l8 hs.mem hlt) (eC.refl _ _ _)
structure Ik (P:Program) (bq:Nat→Option TypeId) (nt:Nat) (ops:Array Oper) (all:List bA):Prop where
 len:all.length=ops.size
 at_:∀ (i:Nat) (ao:bA),all[i]?=some ao→∃ o:Oper,ops[i]?=some o∧tu P bq o.op=some ao.op∧ao.dst=o.dst∧UP ops o.guard=some ao.gd∧ao.dst.getD 0<nt
theorem wX {rows:List (Nat×Nat)} {ops:Array Oper} : ∀ {l:List (Oper×Nat)} {aK:List bA},sA P bq nt rows ops l=some aK→
  aK.length=l.length∧∀ (i:Nat) (ao:bA),aK[i]?=some ao→∃ (o:Oper) (b:Nat),l[i]?=some (o,b)∧ao.lY=b∧tu P bq o.op=some ao.op∧ao.dst=o.dst∧UP ops o.guard=some ao.gd∧ao.dst.getD 0<nt
 |[],aK,h=>by
  simp only[sA,Option.some.injEq] at h
  subst h
  exact⟨rfl,fun i ao h=>by simp at h⟩
 | (o, b) :: r, aK, h => by
  simp only[sA] at h
  split at h
  ·rename_i a' as' h1 h2
   injection h with h;subst h
   obtain⟨h3,h4⟩:=wX h2
   refine⟨by simp[h3],fun i ao hi=>?_⟩
   cases i with
   | zero =>
    simp only[List.getElem?_cons_zero,Option.some.injEq] at hi
    subst hi
    unfold T0 at h1
    split at h1
    ·rename_i ap g hap hg
     split at h1
     ·rename_i hlt
      injection h1 with h1;subst h1
      exact⟨o,b,rfl,rfl,hap,rfl,hg,hlt⟩
     ·cases h1
    ·cases h1
   |succ i=>exact h4 i ao (by simpa using hi)
  ·cases h
theorem Cg (cE:cF P call) (jf:∀ f T,bq f=some T→j3 P f T) {ops:Array Oper} {all:List bA} (uo:Ik P bq nt ops all) {lg:Nat} {Q:Exit→Act→World→Prop} :
  ∀ (l:List bA) (i:Nat) (s s':St) (X:Cx) (a:Act),(∀ k,l[k]?=all[i+k]?)→jK call sh lg i l s=some s'→eL X nt s a→(∀ k,i≤k→k<i+l.length→X.ρ (lg+k)=none)→lg+(i+l.length)≤s.nv→(∀ v,s.nv≤v→X.ρ v=none)→
   (∀ Y a',Ext X Y→eL Y nt s' a'→s.nv≤s'.nv→(∀ v L,Y.ρ v=some L→X.ρ v=some L∨(lg≤v∧v<s'.nv))→Q .normal a' Y.w)→wpOps P ops Q (List.range' i l.length) a X.w
 |[],i,s,s',X,a,_,h,hs,_,_,_,hQ=>by
  simp only[jK,Option.some.injEq] at h
  subst h
  exact hQ X a (Ext.refl X) hs (Nat.le_refl _) fun _ _ h=>.inl h
 | o :: r, i, s, s', X, a, hall, h, hs, hfr, yl, hdom, hQ => by
  simp only[jK] at h
  split at h
  ·cases h
  ·rename_i e he
   have h0:=hall 0
   simp only[List.getElem?_cons_zero,Nat.add_zero] at h0
   obtain⟨oc,g1,g2,g3,g4,g5⟩:=uo.at_ i o h0.symm
   simp only[List.length_cons] at hfr yl
   rw[List.length_cons,List.range'_succ,wpOps_cons]
   refine JX cE jf hs (hfr i (Nat.le_refl _) (by omega)) (by omega) hdom g1 g2 g3 g4 g5 he fun Y a' hx hs' hd=>?_
   obtain⟨d1,d2⟩:=hd
   refine Cg cE jf uo r (i+1) _ s' Y a' (fun k=>by have:=hall (k+1);rw[List.getElem?_cons_succ] at this;rw[this];congr 1;omega) h hs' (fun k h1 h2=>?_) (by omega) (fun v hv=>?_) fun Z a'' hz Vd hn Bq=>?_
   ·cases hY : Y.ρ (lg + k) with
    |none=>rfl
    |some L=>
     rcases d2 _ _ hY with h|h|h
     ·rw[hfr k (by omega) (by omega)] at h;cases h
     ·omega
     ·omega
   ·cases hY : Y.ρ v with
    |none=>rfl
    |some L=>
     rcases d2 _ _ hY with h|h|h
     ·rw[hdom v (by omega)] at h;cases h
     ·omega
     ·omega
   ·refine hQ Z a'' (hx.trans hz) Vd (Nat.le_trans d1 hn) fun v L hv => ?_
    rcases Bq v L hv with h|h
    ·rcases d2 v L h with h | h | h
     ·exact .inl h
     ·exact .inr (by omega)
     ·exact .inr (by omega)
    ·exact .inr h
theorem Ch {p q:Nat→Bool} : ∀ {l:List Nat},(∀ x,q x=true→p x=true)→(∃ x∈l,p x=true∧q x=false)→l.countP q<l.countP p
 |[],_,⟨x,hx,_⟩=>by cases hx
 | y :: r, h, ⟨x, hx, h1, h2⟩ => by
  have mono:r.countP q≤r.countP p:=List.countP_mono_left fun x _=>h x
  rw[List.countP_cons,List.countP_cons]
  rcases List.mem_cons.1 hx with rfl|hx
  ·rw[h1,h2];simp;omega
  ·have := Ch h ⟨x, hx, h1, h2⟩
   by_cases hy:q y=true
   ·rw[hy,h y hy];simp;omega
   ·cases p y<;>simp[hy]<;>omega
theorem zP {lY:List Nat} : ∀ {l:List Oper} {bs:List Nat} {i:Nat},BT lY i l bs=true→∀ k o,l[k]?=some o→∃ b,bs[k]?=some b∧Di lY (i+k) o b=true
 |[],_,_,_,k,o,h=>by simp at h
 |o :: r,[],i,h,_,_,_=>by simp[BT] at h
 | o :: r, b :: bs, i, h, k, o', hk => by
  simp only[BT,Bool.and_eq_true] at h
  cases k with
  |zero=>
   simp only[List.getElem?_cons_zero,Option.some.injEq] at hk
   subst hk
   exact⟨b,rfl,h.1⟩
  |succ k=>
   obtain⟨b',h1,h2⟩:=zP h.2 k o' (by simpa using hk)
   exact⟨b',by simpa using h1,by rwa[show i+(k+1)=i+1+k by omega]⟩
structure NB (ops:Array Oper) (all:List bA):Prop where
 back:∀ (i:Nat) (o:Oper),ops[i]?=some o→∀ e∈o.after,Region.binds .any e=true→e.on<i
 lY:∀ (i:Nat) (o:Oper) (ao:bA),ops[i]?=some o→all[i]?=some ao→∀ k,k<i→ao.lY.testBit k=true→
  ∃ e∈o.after,Region.binds .any e=true∧(e.on=k∨(k<e.on∧∀ ao',all[e.on]?=some ao'→ao'.lY.testBit k=true))
theorem Ve (cE:cF P call) (jf:∀ f T,bq f=some T→j3 P f T) {ops:Array Oper} {all:List bA} (uo:Ik P bq nt ops all) (NC:NB ops all) (hap:kN [] all=true) {lg:Nat} {s0:St} {L:List Fx}
  (ND:JW call sh lg all s0 L) {Q:Exit→Act→World→Prop} :
  ∀ (fuel:Nat) (listed:Array Bool) (X:Cx) (a:Act),listed.size=ops.size→(List.range ops.size).countP (fun j=>!listed.getD j false)≤fuel→DG all (fun j=>listed.getD j false)→
   eL X nt (Eu s0 L fun j=>listed.getD j false) a→(∀ k,k<ops.size→listed.getD k false=false→X.ρ (lg+k)=none)→lg+ops.size≤(Eu s0 L fun j=>listed.getD j false).nv→(∀ v,(Eu s0 L fun j=>listed.getD j false).nv≤v→X.ρ v=none)→
   (∀ Y a',Ext X Y→eL Y nt (jD s0 L) a'→(Eu s0 L fun j=>listed.getD j false).nv≤(jD s0 L).nv→(∀ v M,Y.ρ v=some M→X.ρ v=some M∨(lg≤v∧v<(jD s0 L).nv))→Q .normal a' Y.w)→wpAny P .any ops Q fuel listed a X.w:=by
 have Vf:∀ (listed:Array Bool) (j:Nat),listed.size=ops.size→j<ops.size→listed.getD j true=listed.getD j false:=fun listed j h hj=>by
  simp[show j<listed.size by omega]
 have fin : ∀ (listed : Array Bool) (X : Cx) (a : Act), listed.size = ops.size → Region.ready .any ops listed = [] → eL X nt (Eu s0 L fun j => listed.getD j false) a →
   (∀ Y a',Ext X Y→eL Y nt (jD s0 L) a'→(Eu s0 L fun j=>listed.getD j false).nv≤(jD s0 L).nv→(∀ v M,Y.ρ v=some M→X.ρ v=some M∨(lg≤v∧v<(jD s0 L).nv))→Q .normal a' Y.w)→Q .normal a X.w:=by
  intro listed X a hsz hr hs hQ
  have hall:∀ j,j<ops.size→listed.getD j false=true:=by
   intro j
   induction j using Nat.strongRecOn with
   | _ j ih =>
    intro hj
    cases hl:listed.getD j false with
    |true=>rfl
    | false =>
     have hm:j∈Region.ready .any ops listed:=mem_ready.2 ⟨by rw[Vf _ _ hsz hj];exact hl,ops[j],Array.getElem?_eq_getElem hj,fun e he hb=>by
      have:=NC.back j _ (Array.getElem?_eq_getElem hj) e he hb
      exact ih _ this (by omega)⟩
     rw[hr] at hm;cases hm
  have hst:(Eu s0 L fun j=>listed.getD j false)=jD s0 L:=by
   unfold Eu
   rw[List.filter_eq_self.2 fun x hx=>hall x.1 (uo.len ▸ (ND.dom x.1).2 ⟨x,hx,rfl⟩)]
  rw[hst] at hs hQ
  exact hQ X a (Ext.refl X) hs (Nat.le_refl _) fun _ _ h=>.inl h
 intro fuel
 induction fuel with
 | zero =>
  intro listed X a hsz ZT hc hs hfr yl hdom hQ
  have hr:Region.ready .any ops listed=[]:=by
   cases hr:Region.ready .any ops listed with
   |nil=>rfl
   |cons j r=>
    have hj:j∈Region.ready .any ops listed:=by rw[hr];exact List.mem_cons_self ..
    obtain⟨h1,o,h2,_⟩:=mem_ready.1 hj
    have hlt:j<ops.size:=(Array.getElem?_eq_some_iff.1 h2).1
    have:=List.countP_eq_zero.1 (Nat.le_zero.1 ZT) j (List.mem_range.2 hlt)
    rw[Vf _ _ hsz hlt] at h1
    rw[h1] at this
    exact absurd rfl this
  exact⟨hr,fin listed X a hsz hr hs hQ⟩
 | succ fuel ih =>
  intro listed X a hsz ZT hc hs hfr yl hdom hQ
  refine⟨fun hr=>fin listed X a hsz hr hs hQ,fun i hi=>?_⟩
  obtain⟨hl,o,ho,Vg⟩:=mem_ready.1 hi
  have hlt:i<ops.size:=(Array.getElem?_eq_some_iff.1 ho).1
  rw[Vf _ _ hsz hlt] at hl
  obtain⟨ao,hao⟩:∃ ao,all[i]?=some ao:=⟨all[i]'(by rw[uo.len];exact hlt),List.getElem?_eq_getElem _⟩
  obtain⟨o',g1,g2,g3,g4,g5⟩:=uo.at_ i ao hao
  rw[ho] at g1;injection g1 with g1;subst g1
  have hb:∀ k,k<i→ao.lY.testBit k=true→listed.getD k false=true:=by
   intro k hk BB
   obtain⟨e,he,Ud,h⟩:=NC.lY i o ao ho hao k hk BB
   have hon:=Vg e he Ud
   rcases h with h|⟨h1,h2⟩
   ·rw[←h];exact hon
   ·have hlt' : e.on < all.length := by
     rw[uo.len]
     have:=NC.back i o ho e he Ud
     omega
    exact hc e.on _ (List.getElem?_eq_getElem hlt') hon k h1 (h2 _ (List.getElem?_eq_getElem hlt'))
  obtain⟨x,hx,rfl,hxd,hstep⟩:=ND.any hap hc hao hl hb
  have hp':(fun j=>(listed.setIfInBounds x.1 true).getD j false)=fun j=>listed.getD j false||j==x.1:=by
   funext j
   by_cases hj:j=x.1
   ·subst hj;simp[show x.1<listed.size by omega]
   ·rw[getD_set_ne false (Ne.symm hj),show (j==x.1)=false from by simpa using hj,Bool.or_false]
  have hsame:=ND.after hap hc hx hao hxd hl hb
  rw[←hp'] at hsame
  refine JX cE jf hs (hfr _ hlt hl) (by omega) hdom ho g2 g3 g4 g5 hstep fun Y a' hx' hs' hd=>?_
  rw[←hxd] at hs' hd
  obtain⟨d1,d2⟩:=hd
  rw[←hsame.nv] at d1 d2
  refine ih (listed.setIfInBounds x.1 true) Y a' (by simpa using hsz) ?_ ?_ ⟨fun t=>?_,hs'.size,hs'.defers,hs'.mem.congr hsame.mem hsame.aE⟩ (fun k hk JY=>?_) (by omega) (fun v hv=>?_) fun Z a'' hz Vd hn Bq=>?_
  ·have := Ch (p := fun j => !listed.getD j false) (q := fun j => !(listed.setIfInBounds x.1 true).getD j false) (l := List.range ops.size) (fun j hj => by
    have:=congrFun hp' j
    rw[this] at hj
    simp only[Bool.not_eq_true',Bool.or_eq_false_iff] at hj
    simp only[Bool.not_eq_true'];exact hj.1) ⟨x.1,List.mem_range.2 hlt,by simp only[hl,Bool.not_false],by
    have:=congrFun hp' x.1
    simp only[this,beq_self_eq_true,Bool.or_true,Bool.not_true]⟩
   omega
  ·rw [hp']
   intro j oj ZU hj k hk BB
   simp only[Bool.or_eq_true,beq_iff_eq] at hj ⊢
   rcases hj with hj|hj
   ·exact .inl (hc j oj ZU hj k hk BB)
   ·subst hj
    rw[hao] at ZU;injection ZU with ZU;subst ZU
    exact .inl (hb k hk BB)
  ·rw[hsame.slots];exact hs'.slots t
  ·have hk' := congrFun hp' k
   rw[hk'] at JY
   simp only[Bool.or_eq_false_iff,beq_eq_false_iff_ne] at JY
   cases hY:Y.ρ (lg+k) with
   |none=>rfl
   |some M=>
    rcases d2 _ _ hY with h|h|h
    ·rw[hfr k hk JY.1] at h;cases h
    ·omega
    ·omega
  ·cases hY : Y.ρ v with
   |none=>rfl
   |some M=>
    rcases d2 _ _ hY with h|h|h
    ·rw[hdom v (by omega)] at h;cases h
    ·omega
    ·omega
  ·refine hQ Z a'' (hx'.trans hz) Vd (Nat.le_trans d1 hn) fun v M hv => ?_
   rcases Bq v M hv with h|h
   ·rcases d2 v M h with h | h | h
    ·exact .inl h
    ·exact .inr (by omega)
    ·exact .inr (by omega)
   ·exact .inr h
end
end Go.bI
