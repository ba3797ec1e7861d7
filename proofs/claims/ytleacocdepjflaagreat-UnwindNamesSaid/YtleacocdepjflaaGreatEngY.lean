/- Regions of the program against the machine of pure data. -/
import Derived.Test.YtleacocdepjflaaGreatEngX
namespace Go.Eng
open Go Go.RowKit
section
variable {P:Program} {X:Cx} {nt:NT} {s:St} {a:Act} {nvi:Nat} {call:Go.Eng.Call} {sh:Nat→Bool} {lib:Nat→Option TypeId}
theorem Sim.put {Y:Cx} {dst:Option Nat} {r:Res} {v:Value} (hs:Sim X nt s a) (hx:Ext X Y) (hv:VR Y r.val v) (hm:MemOK Y (s.app dst r).mem (s.app dst r).tips) (hlt:dst.getD 0<nt):Sim Y nt (s.app dst r) (a.put dst v):=by
 cases dst with
 |none=>
  refine⟨fun t=>?_,hs.size,hs.defers,hm⟩
  rw[app_slots]
  exact (hs.slots t).ext hx
 | some d =>
  simp only[Option.getD_some] at hlt
  refine⟨fun t=>?_,by simp[Act.put,hs.size],hs.defers,hm⟩
  rw[app_slots,getS_putS]
  simp only[Option.some.injEq]
  by_cases h:d=t
  ·subst h
   rw[if_pos rfl]
   have:((a.put (some d) v).tmps.getD d undef)=v:=by simp[Act.put,hs.size,hlt]
   rw[this];exact hv
  ·rw [if_neg h]
   have:((a.put (some d) v).tmps.getD t undef)=a.tmps.getD t undef:=by simp[Act.put,Array.getElem?_setIfInBounds_ne h]
   rw[this];exact (hs.slots t).ext hx
theorem wanted_ok (hs:Sim X nt s a) {ops:Array Oper} {o:Oper} {ao:AOper} (hgd:gdP ops o.guard=some ao.gd) {b:Bool} (hw:wantedA s.slots ao=some b):Region.wanted o (yielded ops a.tmps)=b:=by
 unfold wantedA at hw
 unfold Region.wanted
 cases hg:o.guard with
 |none=>
  rw[hg] at hgd
  simp only[gdP,Option.some.injEq] at hgd
  rw[←hgd] at hw
  simpa using hw
 | some jb =>
  obtain⟨j,w⟩:=jb
  rw[hg] at hgd
  simp only[gdP] at hgd
  obtain⟨d,hd,hgd⟩:=opt_map hgd
  rw[←hgd] at hw
  simp only at hw ⊢
  have hv:=hs.slots d
  have hy:yielded ops a.tmps j=match a.tmps[d]? with|some (.bool b)=>some b|_=>none:=by
   unfold yielded;rw[hd];rfl
  rw[hy]
  split at hw
  ·rename_i t ht
   rw[ht] at hv
   have hv:=VR.sc hv
   injection hw with hw
   cases h:a.tmps[d]? with
   |none=>rw[Array.getD_eq_getD_getElem?,h] at hv;cases hv
   |some v=>
    rw[Array.getD_eq_getD_getElem?,h] at hv
    simp only[Option.getD_some] at hv
    subst hv
    rw[←hw]
    cases t<;>cases w<;>rfl
  ·rename_i vs ht
   rw[ht] at hv
   obtain⟨us,hu,_⟩:=hv
   injection hw with hw
   subst hw
   cases h:a.tmps[d]? with
   |none=>rfl
   |some v=>
    rw[Array.getD_eq_getD_getElem?,h] at hu
    simp only[Option.getD_some] at hu
    subst hu
    rfl
  ·cases hw
theorem step_ok (hcall:CallOK P call) (hlib:∀ f T,lib f=some T→IsLib P f T) (hs:Sim X nt s a) (hfr:X.ρ nvi=none) (hnv:nvi<s.nv) (hdom:∀ v,s.nv≤v→X.ρ v=none) {ops:Array Oper} {i:Nat} {o:Oper} (hoi:ops[i]?=some o)
  {ao:AOper} (hop:opP P lib o.op=some ao.op) (hd:ao.dst=o.dst) (hgd:gdP ops o.guard=some ao.gd) (hlt:ao.dst.getD 0<nt) {r:Res} (hr:ao.step call sh s nvi=some r) {K:Act→World→Prop} {Q:Exit→Act→World→Prop}
  (hK:∀ Y a',Ext X Y→Sim Y nt (s.app ao.dst r) a'→DomOK X Y nvi s.nv (s.app ao.dst r).nv→K a' Y.w):wpOp P ops Q i K a X.w:=by
 unfold wpOp
 simp only[hoi]
 unfold AOper.step at hr
 split at hr
 ·cases hr
 ·rename_i hw
  rw[wanted_ok hs hgd hw]
  simp only[if_true]
  refine .inl (opP_ok (dst:=ao.dst) hcall hlib hs hfr hnv hdom hop hr K Q fun Y v hx hv hm hdm=>?_)
  rw[←hd]
  exact hK Y _ hx (hs.put hx hv hm hlt) hdm
 ·rename_i hw
  rw[wanted_ok hs hgd hw]
  simp only[Bool.false_eq_true,if_false]
  injection hr with hr;subst hr
  rw[←hd]
  exact hK X _ (Ext.refl X) (hs.put (Ext.refl X) undef_ok hs.mem hlt) (DomOK.refl _ _ _)
structure OpsRel (P:Program) (lib:Nat→Option TypeId) (nt:Nat) (ops:Array Oper) (all:List AOper):Prop where
 len:all.length=ops.size
 at_:∀ (i:Nat) (ao:AOper),all[i]?=some ao→∃ o:Oper,ops[i]?=some o∧opP P lib o.op=some ao.op∧ao.dst=o.dst∧gdP ops o.guard=some ao.gd∧ao.dst.getD 0<nt
theorem opersP_spec {rows:List (Nat×Nat)} {ops:Array Oper} : ∀ {l:List (Oper×Nat)} {as:List AOper},opersP P lib nt rows ops l=some as→
  as.length=l.length∧∀ (i:Nat) (ao:AOper),as[i]?=some ao→∃ (o:Oper) (b:Nat),l[i]?=some (o,b)∧ao.bef=b∧opP P lib o.op=some ao.op∧ao.dst=o.dst∧gdP ops o.guard=some ao.gd∧ao.dst.getD 0<nt
 |[],as,h=>by
  simp only[opersP,Option.some.injEq] at h
  subst h
  exact⟨rfl,fun i ao h=>by simp at h⟩
 | (o, b) :: r, as, h => by
  simp only[opersP] at h
  split at h
  ·rename_i a' as' h1 h2
   injection h with h;subst h
   obtain⟨h3,h4⟩:=opersP_spec h2
   refine⟨by simp[h3],fun i ao hi=>?_⟩
   cases i with
   | zero =>
    simp only[List.getElem?_cons_zero,Option.some.injEq] at hi
    subst hi
    unfold operP at h1
    split at h1
    ·rename_i ap g hap hg
     split at h1
     ·rename_i hlt
      injection h1 with h1;subst h1
      exact⟨o,b,rfl,rfl,hap,rfl,hg,hlt⟩
     ·cases h1
    ·cases h1
   |succ i=>exact h4 i ao (by simpa using hi)
  ·cases h
theorem runOps_ok (hcall:CallOK P call) (hlib:∀ f T,lib f=some T→IsLib P f T) {ops:Array Oper} {all:List AOper} (hrel:OpsRel P lib nt ops all) {nv0:Nat} {Q:Exit→Act→World→Prop} :
  ∀ (l:List AOper) (i:Nat) (s s':St) (X:Cx) (a:Act),(∀ k,l[k]?=all[i+k]?)→runOps call sh nv0 i l s=some s'→Sim X nt s a→(∀ k,i≤k→k<i+l.length→X.ρ (nv0+k)=none)→nv0+(i+l.length)≤s.nv→(∀ v,s.nv≤v→X.ρ v=none)→
   (∀ Y a',Ext X Y→Sim Y nt s' a'→s.nv≤s'.nv→(∀ v L,Y.ρ v=some L→X.ρ v=some L∨(nv0≤v∧v<s'.nv))→Q .normal a' Y.w)→wpOps P ops Q (List.range' i l.length) a X.w
 |[],i,s,s',X,a,_,h,hs,_,_,_,hQ=>by
  simp only[runOps,Option.some.injEq] at h
  subst h
  exact hQ X a (Ext.refl X) hs (Nat.le_refl _) fun _ _ h=>.inl h
 | o :: r, i, s, s', X, a, hall, h, hs, hfr, hnv, hdom, hQ => by
  simp only[runOps] at h
  split at h
  ·cases h
  ·rename_i e he
   have h0:=hall 0
   simp only[List.getElem?_cons_zero,Nat.add_zero] at h0
   obtain⟨oc,g1,g2,g3,g4,g5⟩:=hrel.at_ i o h0.symm
   simp only[List.length_cons] at hfr hnv
   rw[List.length_cons,List.range'_succ,wpOps_cons]
   refine step_ok hcall hlib hs (hfr i (Nat.le_refl _) (by omega)) (by omega) hdom g1 g2 g3 g4 g5 he fun Y a' hx hs' hd=>?_
   obtain⟨d1,d2⟩:=hd
   refine runOps_ok hcall hlib hrel r (i+1) _ s' Y a' (fun k=>by have:=hall (k+1);rw[List.getElem?_cons_succ] at this;rw[this];congr 1;omega) h hs' (fun k h1 h2=>?_) (by omega) (fun v hv=>?_) fun Z a'' hz hs'' hn hzd=>?_
   ·cases hY : Y.ρ (nv0 + k) with
    |none=>rfl
    |some L=>
     rcases d2 _ _ hY with h|h|h
     ·rw[hfr k (by omega) (by omega)] at h;cases h
     ·omega
     ·omega
   ·cases hY : Y.ρ v with
    |none=>rfl
    |some L=>
     rcases d2 _ _ hY with h|h|h
     ·rw[hdom v (by omega)] at h;cases h
     ·omega
     ·omega
   ·refine hQ Z a'' (hx.trans hz) hs'' (Nat.le_trans d1 hn) fun v L hv => ?_
    rcases hzd v L hv with h|h
    ·rcases d2 v L h with h | h | h
     ·exact .inl h
     ·exact .inr (by omega)
     ·exact .inr (by omega)
    ·exact .inr h
theorem countP_lt {p q:Nat→Bool} : ∀ {l:List Nat},(∀ x,q x=true→p x=true)→(∃ x∈l,p x=true∧q x=false)→l.countP q<l.countP p
 |[],_,⟨x,hx,_⟩=>by cases hx
 | y :: r, h, ⟨x, hx, h1, h2⟩ => by
  have mono:r.countP q≤r.countP p:=List.countP_mono_left fun x _=>h x
  rw[List.countP_cons,List.countP_cons]
  rcases List.mem_cons.1 hx with rfl|hx
  ·rw[h1,h2];simp;omega
  ·have := countP_lt h ⟨x, hx, h1, h2⟩
   by_cases hy:q y=true
   ·rw[hy,h y hy];simp;omega
   ·cases p y<;>simp[hy]<;>omega
theorem befOK_spec {bef:List Nat} : ∀ {l:List Oper} {bs:List Nat} {i:Nat},befOK bef i l bs=true→∀ k o,l[k]?=some o→∃ b,bs[k]?=some b∧befOK1 bef (i+k) o b=true
 |[],_,_,_,k,o,h=>by simp at h
 |o :: r,[],i,h,_,_,_=>by simp[befOK] at h
 | o :: r, b :: bs, i, h, k, o', hk => by
  simp only[befOK,Bool.and_eq_true] at h
  cases k with
  |zero=>
   simp only[List.getElem?_cons_zero,Option.some.injEq] at hk
   subst hk
   exact⟨b,rfl,h.1⟩
  |succ k=>
   obtain⟨b',h1,h2⟩:=befOK_spec h.2 k o' (by simpa using hk)
   exact⟨b',by simpa using h1,by rwa[show i+(k+1)=i+1+k by omega]⟩
structure BefRel (ops:Array Oper) (all:List AOper):Prop where
 back:∀ (i:Nat) (o:Oper),ops[i]?=some o→∀ e∈o.after,Region.binds .any e=true→e.on<i
 bef:∀ (i:Nat) (o:Oper) (ao:AOper),ops[i]?=some o→all[i]?=some ao→∀ k,k<i→ao.bef.testBit k=true→
  ∃ e∈o.after,Region.binds .any e=true∧(e.on=k∨(k<e.on∧∀ ao',all[e.on]?=some ao'→ao'.bef.testBit k=true))
theorem any_ok (hcall:CallOK P call) (hlib:∀ f T,lib f=some T→IsLib P f T) {ops:Array Oper} {all:List AOper} (hrel:OpsRel P lib nt ops all) (hbef:BefRel ops all) (hap:apartAll [] all=true) {nv0:Nat} {s0:St} {L:List Fx}
  (hran:Ran call sh nv0 all s0 L) {Q:Exit→Act→World→Prop} :
  ∀ (fuel:Nat) (listed:Array Bool) (X:Cx) (a:Act),listed.size=ops.size→(List.range ops.size).countP (fun j=>!listed.getD j false)≤fuel→Closed all (fun j=>listed.getD j false)→
   Sim X nt (stP s0 L fun j=>listed.getD j false) a→(∀ k,k<ops.size→listed.getD k false=false→X.ρ (nv0+k)=none)→nv0+ops.size≤(stP s0 L fun j=>listed.getD j false).nv→(∀ v,(stP s0 L fun j=>listed.getD j false).nv≤v→X.ρ v=none)→
   (∀ Y a',Ext X Y→Sim Y nt (appL s0 L) a'→(stP s0 L fun j=>listed.getD j false).nv≤(appL s0 L).nv→(∀ v M,Y.ρ v=some M→X.ρ v=some M∨(nv0≤v∧v<(appL s0 L).nv))→Q .normal a' Y.w)→wpAny P .any ops Q fuel listed a X.w:=by
 have getT:∀ (listed:Array Bool) (j:Nat),listed.size=ops.size→j<ops.size→listed.getD j true=listed.getD j false:=fun listed j h hj=>by
  simp[show j<listed.size by omega]
 have fin : ∀ (listed : Array Bool) (X : Cx) (a : Act), listed.size = ops.size → Region.ready .any ops listed = [] → Sim X nt (stP s0 L fun j => listed.getD j false) a →
   (∀ Y a',Ext X Y→Sim Y nt (appL s0 L) a'→(stP s0 L fun j=>listed.getD j false).nv≤(appL s0 L).nv→(∀ v M,Y.ρ v=some M→X.ρ v=some M∨(nv0≤v∧v<(appL s0 L).nv))→Q .normal a' Y.w)→Q .normal a X.w:=by
  intro listed X a hsz hr hs hQ
  have hall:∀ j,j<ops.size→listed.getD j false=true:=by
   intro j
   induction j using Nat.strongRecOn with
   | _ j ih =>
    intro hj
    cases hl:listed.getD j false with
    |true=>rfl
    | false =>
     have hm:j∈Region.ready .any ops listed:=mem_ready.2 ⟨by rw[getT _ _ hsz hj];exact hl,ops[j],Array.getElem?_eq_getElem hj,fun e he hb=>by
      have:=hbef.back j _ (Array.getElem?_eq_getElem hj) e he hb
      exact ih _ this (by omega)⟩
     rw[hr] at hm;cases hm
  have hst:(stP s0 L fun j=>listed.getD j false)=appL s0 L:=by
   unfold stP
   rw[List.filter_eq_self.2 fun x hx=>hall x.1 (hrel.len ▸ (hran.dom x.1).2 ⟨x,hx,rfl⟩)]
  rw[hst] at hs hQ
  exact hQ X a (Ext.refl X) hs (Nat.le_refl _) fun _ _ h=>.inl h
 intro fuel
 induction fuel with
 | zero =>
  intro listed X a hsz hcnt hc hs hfr hnv hdom hQ
  have hr:Region.ready .any ops listed=[]:=by
   cases hr:Region.ready .any ops listed with
   |nil=>rfl
   |cons j r=>
    have hj:j∈Region.ready .any ops listed:=by rw[hr];exact List.mem_cons_self ..
    obtain⟨h1,o,h2,_⟩:=mem_ready.1 hj
    have hlt:j<ops.size:=(Array.getElem?_eq_some_iff.1 h2).1
    have:=List.countP_eq_zero.1 (Nat.le_zero.1 hcnt) j (List.mem_range.2 hlt)
    rw[getT _ _ hsz hlt] at h1
    rw[h1] at this
    exact absurd rfl this
  exact⟨hr,fin listed X a hsz hr hs hQ⟩
 | succ fuel ih =>
  intro listed X a hsz hcnt hc hs hfr hnv hdom hQ
  refine⟨fun hr=>fin listed X a hsz hr hs hQ,fun i hi=>?_⟩
  obtain⟨hl,o,ho,hafter⟩:=mem_ready.1 hi
  have hlt:i<ops.size:=(Array.getElem?_eq_some_iff.1 ho).1
  rw[getT _ _ hsz hlt] at hl
  obtain⟨ao,hao⟩:∃ ao,all[i]?=some ao:=⟨all[i]'(by rw[hrel.len];exact hlt),List.getElem?_eq_getElem _⟩
  obtain⟨o',g1,g2,g3,g4,g5⟩:=hrel.at_ i ao hao
  rw[ho] at g1;injection g1 with g1;subst g1
  have hb:∀ k,k<i→ao.bef.testBit k=true→listed.getD k false=true:=by
   intro k hk hbit
   obtain⟨e,he,hbind,h⟩:=hbef.bef i o ao ho hao k hk hbit
   have hon:=hafter e he hbind
   rcases h with h|⟨h1,h2⟩
   ·rw[←h];exact hon
   ·have hlt' : e.on < all.length := by
     rw[hrel.len]
     have:=hbef.back i o ho e he hbind
     omega
    exact hc e.on _ (List.getElem?_eq_getElem hlt') hon k h1 (h2 _ (List.getElem?_eq_getElem hlt'))
  obtain⟨x,hx,rfl,hxd,hstep⟩:=hran.any hap hc hao hl hb
  have hp':(fun j=>(listed.setIfInBounds x.1 true).getD j false)=fun j=>listed.getD j false||j==x.1:=by
   funext j
   by_cases hj:j=x.1
   ·subst hj;simp[show x.1<listed.size by omega]
   ·rw[getD_set_ne false (Ne.symm hj),show (j==x.1)=false from by simpa using hj,Bool.or_false]
  have hsame:=hran.after hap hc hx hao hxd hl hb
  rw[←hp'] at hsame
  refine step_ok hcall hlib hs (hfr _ hlt hl) (by omega) hdom ho g2 g3 g4 g5 hstep fun Y a' hx' hs' hd=>?_
  rw[←hxd] at hs' hd
  obtain⟨d1,d2⟩:=hd
  rw[←hsame.nv] at d1 d2
  refine ih (listed.setIfInBounds x.1 true) Y a' (by simpa using hsz) ?_ ?_ ⟨fun t=>?_,hs'.size,hs'.defers,hs'.mem.congr hsame.mem hsame.tips⟩ (fun k hk hkl=>?_) (by omega) (fun v hv=>?_) fun Z a'' hz hs'' hn hzd=>?_
  ·have := countP_lt (p := fun j => !listed.getD j false) (q := fun j => !(listed.setIfInBounds x.1 true).getD j false) (l := List.range ops.size) (fun j hj => by
    have:=congrFun hp' j
    rw[this] at hj
    simp only[Bool.not_eq_true',Bool.or_eq_false_iff] at hj
    simp only[Bool.not_eq_true'];exact hj.1) ⟨x.1,List.mem_range.2 hlt,by simp only[hl,Bool.not_false],by
    have:=congrFun hp' x.1
    simp only[this,beq_self_eq_true,Bool.or_true,Bool.not_true]⟩
   omega
  ·rw [hp']
   intro j oj hoj hj k hk hbit
   simp only[Bool.or_eq_true,beq_iff_eq] at hj ⊢
   rcases hj with hj|hj
   ·exact .inl (hc j oj hoj hj k hk hbit)
   ·subst hj
    rw[hao] at hoj;injection hoj with hoj;subst hoj
    exact .inl (hb k hk hbit)
  ·rw[hsame.slots];exact hs'.slots t
  ·have hk' := congrFun hp' k
   rw[hk'] at hkl
   simp only[Bool.or_eq_false_iff,beq_eq_false_iff_ne] at hkl
   cases hY:Y.ρ (nv0+k) with
   |none=>rfl
   |some M=>
    rcases d2 _ _ hY with h|h|h
    ·rw[hfr k hk hkl.1] at h;cases h
    ·omega
    ·omega
  ·cases hY : Y.ρ v with
   |none=>rfl
   |some M=>
    rcases d2 _ _ hY with h|h|h
    ·rw[hdom v (by omega)] at h;cases h
    ·omega
    ·omega
  ·refine hQ Z a'' (hx'.trans hz) hs'' (Nat.le_trans d1 hn) fun v M hv => ?_
   rcases hzd v M hv with h|h
   ·rcases d2 v M h with h | h | h
    ·exact .inl h
    ·exact .inr (by omega)
    ·exact .inr (by omega)
   ·exact .inr h
end
end Go.Eng
