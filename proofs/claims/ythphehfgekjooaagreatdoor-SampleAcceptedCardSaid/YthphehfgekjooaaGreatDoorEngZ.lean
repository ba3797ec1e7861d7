/- Code of the program against the machine of pure data. -/
import Derived.Test.YthphehfgekjooaaGreatDoorEngY
import Derived.ScopeJumps
set_option linter.unusedVariables false
set_option linter.unusedSimpArgs false
namespace Go.bq
open Go Go.RowKit
def AX.exit':AX→Exit
 |.normal=>.normal
 |.exit id=>if Nat.blt id gb=true then .exit id else .goto ((id-gb) / 2)
 |.ret=>.ret
theorem uW {id:Nat} (h:Nat.blt id gb=true):(AX.exit id).exit'=.exit id:=by simp[AX.exit',h]
theorem C6 (l:Nat):(AX.exit (gid l)).exit'=.goto l:=by
 simp_all[gid,AX.exit']
def Post (X:Cx) (nt:Nat) (s:St) (r:AX×St) (Q:Exit→Act→World→Prop):Prop:=
 ∀ Y a',Ext X Y→eC Y nt r.2 a'→s.nv≤r.2.nv→(∀ v L,Y.ρ v=some L→X.ρ v=some L∨(s.nv≤v∧v<r.2.nv))→Q r.1.exit' a' Y.w
theorem Post.trans {X Y:Cx} {nt:Nat} {s s':St} {r:AX×St} {Q:Exit→Act→World→Prop} (h:Post X nt s r Q) (hx:Ext X Y) (hn:s.nv≤s'.nv) (hd:∀ v L,Y.ρ v=some L→X.ρ v=some L∨(s.nv≤v∧v<s'.nv)):Post Y nt s' r Q:=by
 intro Z a' hz hs hn' hd'
 refine h Z a' (hx.trans hz) hs (Nat.le_trans hn hn') fun v L hv=>?_<;>grind
theorem Post.now {X:Cx} {nt:Nat} {s:St} {a:Act} {x:AX} {Q:Exit→Act→World→Prop} (h:Post X nt s (x,s) Q) (hs:eC X nt s a):Q x.exit' a X.w:=
 h X a (Ext.refl X) hs (Nat.le_refl _) fun _ _ h=>.inl h
theorem uX {X Y:Cx} {n m:Nat} (h:∀ v,n≤v→X.ρ v=none) (hn:n≤m) (hd:∀ v L,Y.ρ v=some L→X.ρ v=some L∨(n≤v∧v<m)):∀ v,m≤v→Y.ρ v=none:=by
 intro v hv
 cases hY:Y.ρ v with
 |none=>rfl
 |some L=>
  grind
theorem Ext.drew (X:Cx):Ext X { X with w:=X.w.drew }:=
 ⟨rfl,(dK.refl _ _).drew,fun _ _ h=>h,fun _ _ _=>rfl,fun _ _ h=>h,fun _ _ h=>.inl h⟩
theorem eC.drew {X:Cx} {nt:Nat} {s:St} {a:Act} (h:eC X nt s a):eC { X with w:=X.w.drew } nt s a:=
 ⟨fun t=>(h.slots t).ext (Ext.drew X),h.size,h.defers,h.mem.move (Ext.drew X) (fun _ _ _ _ _ _=>rfl) (fun _ _ _ _ _ _ _ h=>h) h.mem.ni⟩
section
variable {P:Program} {nt:Nat} {call:Go.bq.Call} {sh:Nat→Bool} {dP:Nat→Option TypeId} {rows:List (Nat×Nat)}
theorem C7 {ops:Array Oper} {bs:List Nat} {l:List aY} (hb:bs.length=ops.size) (h:vX P dP nt rows ops (ops.toList.zip bs)=some l):Ka P dP nt ops l∧∀ (i:Nat) (ao:aY),l[i]?=some ao→bs[i]?=some ao.mJ:=by
 obtain⟨h1,h2⟩:=xH h
 refine⟨⟨by rw[h1,List.length_zip];simp[hb],fun i ao hi=>?_⟩,fun i ao hi=>?_⟩
 ·obtain ⟨o, b, g1, _, g2, g3, g4, g5⟩ := h2 i ao hi
  have:=(List.getElem?_zip_eq_some.1 g1).1
  exact⟨o,by simpa using this,g2,g3,g4,g5⟩
 ·obtain ⟨o, b, g1, g2, _⟩ := h2 i ao hi
  have:=(List.getElem?_zip_eq_some.1 g1).2
  rw[g2];exact this
theorem Ur {ops:Array Oper} {bs:List Nat} {l:List aY} (ajl:l.length=ops.size) (hl:∀ (i:Nat) (ao:aY),l[i]?=some ao→bs[i]?=some ao.mJ) (h:CE bs 0 ops.toList bs=true):Qq ops l:=by
 have key:=fun i o (ho:ops[i]?=some o)=>Ai h i o (by simpa using ho)
 refine⟨fun i o ho e he hb=>?_,fun i o ao ho hao k hk EP=>?_⟩
 ·obtain ⟨b, _, h2⟩ := key i o ho
  simp only[Eo,Bool.and_eq_true,List.all_eq_true,Bool.or_eq_true,Bool.not_eq_true'] at h2
  rcases h2.1 e (by simpa using he) with h|h
  ·rw[show Edge.En e=Region.binds .any e from rfl,hb] at h;cases h
  ·rw[Nat.zero_add] at h;exact Nat.blt_eq.mp h
 ·obtain ⟨b, h1, h2⟩ := key i o ho
  simp only[Eo,Bool.and_eq_true,List.all_eq_true,Bool.or_eq_true,Bool.not_eq_true',List.mem_range] at h2
  rcases h2.2 k (by omega) with h|h
  ·grind
  ·obtain ⟨e, he, h⟩ := List.any_eq_true.1 h
   simp only[Bool.and_eq_true,Bool.or_eq_true] at h
   refine⟨e,by simpa using he,h.1,?_⟩
   rcases h.2 with h|h
   ·exact .inl (Nat.eq_of_beq_eq_true h)
   ·refine .inr ⟨Nat.blt_eq.mp h.1, fun ao' ahn => ?_⟩
    have:=hl _ _ ahn
    rw[List.getD_eq_getElem?_getD,this] at h
    exact h.2
theorem NI (hm:P.follows .mixedOrders=true) (cc:bX P call) (iS:∀ f T,dP f=some T→kf P f T) {X:Cx} {s s':St} {a:Act} {id:Nat} {ops:Array Oper} {draw:Bool} {l:List aY} {dr:Bool}
  (hp:TX P dP nt rows ops draw=some (.region l dr)) (hr:iw call sh l dr s=some s') (hs:eC X nt s a) (hdom:∀ v,s.nv≤v→X.ρ v=none) {Q:Exit→Act→World→Prop} (hQ:Post X nt s (.normal,s') Q):(Code.region id ops draw).wp P Q a X.w:=by
 have hs1:eC X nt { s with nv:=s.nv+l.length } a:=⟨hs.slots,hs.size,hs.defers,hs.mem⟩
 unfold TX at hp
 cases draw with
 | false =>
  obtain⟨l',hl,hp⟩:=aG hp
  injection hp with h1 h2;subst h1;subst h2
  have hz:ops.toList.map (fun o=>(o,0))=ops.toList.zip (List.replicate ops.size 0):=by
   apply List.ext_getElem
   ·simp
   ·simp
  rw[hz] at hl
  obtain⟨uV,_⟩:=C7 (by simp) hl
  refine wp_region ?_
  rw[←uV.len,List.range_eq_range']
  refine C4 cc iS uV l' 0 _ s' X a (fun k=>by simp) hr hs1 (fun k _ _=>hdom _ (by omega)) (by simp) (fun v hv=>hdom v (by simp at hv;omega)) fun Y a' hx hs' hn hd=>?_
  exact hQ Y a' hx hs' (by simp at hn ⊢;omega) hd
 | true =>
  simp at hp
  split at hp
  ·rename_i l' hb hl
   split at hp
   ·rename_i hap
    injection hp with hp
    injection hp with h1 h2;subst h1;subst h2
    simp at hb
    obtain⟨uV,L7⟩:=C7 hb.1 hl
    have Qr:=Ur uV.len L7 hb.2
    obtain⟨L,rfl,Qs⟩:=Mg.of_run hr
    refine wp_region_any hm ?_
    have hf:∀ j,(Array.replicate ops.size false).getD j false=false:=fun j=>by
     rw[Array.getD_eq_getD_getElem?]
     rcases Nat.lt_or_ge j ops.size with h|h
     ·simp[h]
     ·simp[h]
    have hst:(Gk { s with nv:=s.nv+l'.length } L fun j=>(Array.replicate ops.size false).getD j false) = { s with nv:=s.nv+l'.length }:=by
     unfold Gk
     rw[List.filter_eq_nil_iff.2 fun x _=>by show ¬(Array.replicate ops.size false).getD x.1 false=true;rw[hf];exact Bool.false_ne_true]
     rfl
    refine Zn cc iS uV Qr hap Qs ops.size _ { X with w:=X.w.drew } a (by simp) ?_ (fun j o _ hj=>absurd ((hf j).symm.trans hj) (by decide)) ?_ (fun k _ _=>hdom _ (by omega)) ?_ ?_ fun Y a' hx hs' hn hd=>?_
    ·simp_all
    ·rw[hst];exact hs1.drew
    ·rw[hst];simp[uV.len]
    ·grind
    ·rw [hst] at hn
     exact hQ Y a' ((Ext.drew X).trans hx) hs' (by simp at hn ⊢;omega) hd
   grind
  grind
def pO (P:Program) (c:Code) (Q:Exit→Act→World→Prop) (a:Act) (w:World):Prop:=
 ∀ (b:Frame) (k:List Item) (cs:List Frame),∃ e a' w',Q e a' w'∧Arrives P (lone (b.at a (.code c :: .inLoop c :: k)) cs w) b k cs e a' w'
theorem pO.round {c:Code} {Q:Exit→Act→World→Prop} {a:Act} {w:World} (h:c.wp P (Exit.then (pO P c Q) Q) a w):pO P c Q a w:=by
 intro b k cs
 obtain⟨e,a₁,w₁,hq,Hi⟩:=h b (.inLoop c :: k) cs
 cases e with
 |normal=>
  obtain⟨e₂,a₂,w₂,hq₂,ac9⟩:=hq b k cs
  exact⟨e₂,a₂,w₂,hq₂,.of_steps (Steps.trans Hi (.one step_inLoop)) ac9⟩
 |exit id=>exact⟨_,a₁,w₁,hq,.pass (x:=.inLoop c) rfl (fun _ _=>.inl (by simp)) Hi⟩
 |goto l=>exact⟨_,a₁,w₁,hq,.pass (x:=.inLoop c) rfl (fun _ _=>.inl (by simp)) Hi⟩
 |ret=>exact⟨_,a₁,w₁,hq,.pass (x:=.inLoop c) rfl (fun _ _=>.inl (by simp)) Hi⟩
 |panic ch=>exact⟨_,a₁,w₁,hq,.pass (x:=.inLoop c) rfl (fun _ _=>.inl (by simp)) Hi⟩
 |outgrown=>exact⟨_,a₁,w₁,hq,.pass (x:=.inLoop c) rfl (fun _ _=>.inl (by simp)) Hi⟩
theorem pO.wp {c:Code} {Q:Exit→Act→World→Prop} {a:Act} {w:World} (h:pO P c Q a w):(Code.loop c).wp P Q a w:=fun b k cs=>
 let ⟨e,a',w',hq,Hi⟩:=h b k cs
 ⟨e,a',w',hq,.of_steps (.one step_loop) Hi⟩
theorem gA (n:Nat) (c:AC) (s:St):exec call sh (n+1) c s=match c with
  |.skip=>some (.normal,s)
  |.region ops draw=>(iw call sh ops draw s).map fun s'=>(.normal,s')
  |.seq a b=>match exec call sh n a s with
   |some (.normal,s')=>exec call sh n b s'
   |r=>r
  |.cond c a b=>match iu (c.ev s.slots) with
   |some true=>exec call sh n a s
   |some false=>exec call sh n b s
   |none=>none
  | .block id c => match exec call sh n c s with
   |some (.exit id',s')=>match Nat.beq id' id with
    |true=>some (.normal,s')
    |false=>some (.exit id',s')
   |r=>r
  |.loop c=>match exec call sh n c s with
   |some (.normal,s')=>exec call sh n (.loop c) s'
   |r=>r
  |.exit id=>some (.exit id,s)
  |.ret=>some (.ret,s):=rfl
theorem NJ:∀ (n:Nat) (c:AC) (s:St) (r:AX×St),exec call sh n c s=some r→exec call sh (n+1) c s=some r:=by
 intro n
 induction n with
 |zero=>simp_all[Call,exec]
 | succ n ih =>
  intro c s r h
  cases c with
  |skip=>exact h
  |region ops draw=>exact h
  |exit id=>exact h
  |ret=>exact h
  | seq a b =>
   rw[gA n] at h;rw[gA (n+1)];dsimp at h ⊢
   split at h
   ·rename_i s' he
    rw[ih _ _ _ he];exact ih _ _ _ h
   ·rename_i hne
    rw[ih _ _ _ h]
    obtain⟨x,s'⟩:=r
    cases x with
    |normal=>exact absurd h (hne s')
    |exit id=>rfl
    |ret=>rfl
  |cond c a b=>
   rw[gA n] at h;rw[gA (n+1)];dsimp at h ⊢
   split at h
   ·exact ih _ _ _ h
   ·exact ih _ _ _ h
   ·cases h
  | block id c =>
   rw[gA n] at h;rw[gA (n+1)];dsimp at h ⊢
   split at h
   ·rename_i he
    rw[ih _ _ _ he];exact h
   ·rename_i hne
    rw[ih _ _ _ h]
    obtain⟨x,s'⟩:=r
    cases x with
    |normal=>rfl
    |exit id=>exact absurd h (hne id s')
    |ret=>rfl
  | loop c =>
   rw[gA n] at h;rw[gA (n+1)];dsimp at h ⊢
   split at h
   ·rename_i s' he
    rw[ih _ _ _ he];exact ih _ _ _ h
   ·rename_i hne
    rw[ih _ _ _ h]
    obtain⟨x,s'⟩:=r
    cases x with
    |normal=>exact absurd h (hne s')
    |exit id=>rfl
    |ret=>rfl
theorem ER {n m:Nat} (hle:n≤m) {c:AC} {s:St} {r:AX×St} (h:exec call sh n c s=some r):exec call sh m c s=some r:=by
 induction hle with
 |refl=>exact h
 |step _ ih=>exact NJ _ _ _ _ ih
theorem C8 {p:Nat→Bool} : ∀ (n:Nat) (c:AC) (s s':St) (id:Nat),leaves p c=true→exec call sh n c s=some (.exit id,s')→p id=true:=by
 intro n
 induction n with
 |zero=>simp_all[Call,exec,leaves]
 | succ n ih =>
  intro c s s' id hl h
  cases c with
  |skip=>simp[exec] at h
  |region ops draw=>
   simp_all[exec,leaves,Call]
  |exit id'=>cases h;exact hl
  |ret=>simp[exec] at h
  |seq a b=>
   simp[leaves,Bool.and_eq_true] at hl
   simp[exec] at h<;>grind
  |cond c a b=>
   simp[leaves,Bool.and_eq_true] at hl
   simp[exec] at h<;>grind
  |block id' c=>
   simp[leaves] at hl
   simp[exec] at h<;>grind
  |loop c=>
   simp[leaves] at hl
   simp[exec] at h
   split at h
   ·exact ih (.loop c) _ _ _ hl h
   grind
theorem Hj {n l : Nat} {c : AC} {s : St} {r : AX × St} (h : exec call sh n (.loop (.block (gid l) (.seq c (.exit (yE l))))) s = some r) :
  ∃ m x s',m<n∧exec call sh m c s=some (x,s')∧((x=.exit (gid l)∧exec call sh (n-1) (.loop (.block (gid l) (.seq c (.exit (yE l))))) s'=some r)∨(x=.normal∧r=(.exit (yE l),s'))∨(x≠.normal∧x≠.exit (gid l)∧r=(x,s'))):=by
 cases n with
 |zero=>simp[exec] at h
 | succ n =>
  have hk:Nat.beq (yE l) (gid l)=false:=by
   cases hb:Nat.beq (yE l) (gid l) with
   |false=>rfl
   |true=>simp_all[yE,gid,exec,Call]
  simp[exec] at h
  cases n with
  |zero=>simp[exec] at h
  | succ n =>
   cases n with
   |zero=>simp[exec] at h
   | succ n =>
    cases hc:exec call sh n c s with
    |none=>simp[exec,hc] at h
    | some xs =>
     obtain⟨x,s'⟩:=xs
     refine⟨n,x,s',by omega,hc,?_⟩
     cases n with
     |zero=>simp[exec] at hc
     | succ n =>
      cases x with
      | normal =>
       have e1:exec call sh (n+1) (.exit (yE l)) s'=some (.exit (yE l),s'):=rfl
       have e2:exec call sh (n+1+1) (.seq c (.exit (yE l))) s=some (.exit (yE l),s'):=by
        rw[exec];simp[hc,e1]
       have e3:exec call sh (n+1+1+1) (.block (gid l) (.seq c (.exit (yE l)))) s=some (.exit (yE l),s'):=by
        rw[exec];simp[e2,hk]
       rw[e3] at h
       simp at h
       exact .inr (.inl ⟨rfl,h.symm⟩)
      | exit id =>
       have e2:exec call sh (n+1+1) (.seq c (.exit (yE l))) s=some (.exit id,s'):=by
        rw[exec];simp[hc]
       cases hb:Nat.beq id (gid l) with
       | true =>
        have e3:exec call sh (n+1+1+1) (.block (gid l) (.seq c (.exit (yE l)))) s=some (.normal,s'):=by
         rw[exec];simp[e2,hb]
        rw[e3] at h
        exact .inl ⟨by rw[Nat.eq_of_beq_eq_true hb],h⟩
       | false =>
        have e3:exec call sh (n+1+1+1) (.block (gid l) (.seq c (.exit (yE l)))) s=some (.exit id,s'):=by
         rw[exec];simp[e2,hb]
        rw[e3] at h
        simp at h
        exact .inr (.inr ⟨by simp,fun hx=>by injection hx with hx;exact Nat.ne_of_beq_eq_false hb hx,h.symm⟩)
      | ret =>
       have e2:exec call sh (n+1+1) (.seq c (.exit (yE l))) s=some (.ret,s'):=by
        rw[exec];simp[hc]
       have e3:exec call sh (n+1+1+1) (.block (gid l) (.seq c (.exit (yE l)))) s=some (.ret,s'):=by
        rw[exec];simp[e2]
       rw[e3] at h
       simp at h
       exact .inr (.inr ⟨by simp,by simp,h.symm⟩)
section
open Classical
def jI (call:Call) (sh:Nat→Bool) (nt:Nat) (Q:Exit→Act→World→Prop) (l:Nat) (c:AC) (m:Nat) (a:Act) (w:World):Prop:=
 ∃ Y s r,Y.w=w∧eC Y nt s a∧(∀ v,s.nv≤v→Y.ρ v=none)∧exec call sh m (.loop (.block (gid l) (.seq c (.exit (yE l))))) s=some r∧
  Post Y nt s ((match r.1 with|.exit id=>if id=yE l then .normal else .exit id|x=>x),r.2) Q
theorem least {p:Nat→Prop} : ∀ {n:Nat},p n→∃ m,p m∧∀ k,p k→m≤k:=by
 intro n
 induction n using Nat.strongRecOn with
 |_ n ih=>
  grind
noncomputable def rounds (call:Call) (sh:Nat→Bool) (nt:Nat) (Q:Exit→Act→World→Prop) (l:Nat) (c:AC) (a:Act) (w:World):Nat:=
 if h:∃ m,jI call sh nt Q l c m a w then Classical.choose (least (p:=fun m=>jI call sh nt Q l c m a w) h.choose_spec) else 0
theorem C9 {Q:Exit→Act→World→Prop} {l:Nat} {c:AC} {m:Nat} {a:Act} {w:World} (h:jI call sh nt Q l c m a w):rounds call sh nt Q l c a w≤m:=by
 have hh:∃ m,jI call sh nt Q l c m a w:=⟨m,h⟩
 unfold rounds<;>grind
theorem NK {Q:Exit→Act→World→Prop} {l:Nat} {c:AC} {m:Nat} {a:Act} {w:World} (h:jI call sh nt Q l c m a w):jI call sh nt Q l c (rounds call sh nt Q l c a w) a w:=by
 have hh:∃ m,jI call sh nt Q l c m a w:=⟨m,h⟩
 unfold rounds
 rw[dif_pos hh]
 exact (Classical.choose_spec (least (p:=fun m=>jI call sh nt Q l c m a w) hh.choose_spec)).1
end
theorem Da {A:Act→World→Prop} {Q:Exit→Act→World→Prop} {id:Nat} {a:Act} {w:World} (h:Q (AX.exit id).exit' a w):Exit.then A Q (AX.exit id).exit' a w:=by
 unfold AX.exit' at h ⊢
 simp at h ⊢
 split
 ·rename_i hb;rw[if_pos hb] at h;exact h
 ·rename_i hb;rw[if_neg hb] at h;exact h
section
variable {n:Nat} (Gl:∀ (c:Code) (ac:AC) (X:Cx) (s:St) (a:Act) (r:AX×St) (Q:Exit→Act→World→Prop),cT P dP nt rows c none=some ac→exec call sh n ac s=some r→eC X nt s a→(∀ v,s.nv≤v→X.ρ v=none)→Post X nt s r Q→c.wp P Q a X.w)
include Gl
theorem Aj {c0:Code} {ac:AC} {l m:Nat} {a:Act} {w:World} {Q:Exit→Act→World→Prop} (hc:cT P dP nt rows c0 none=some ac) (hl:leaves (fun id=>Nat.blt id gb||Nat.beq id (gid l)) ac=true) (hm:m≤n)
  (h:jI call sh nt Q l ac m a w):c0.wp P (Exit.jump l (fun a' w'=>(∃ k,k≤n∧jI call sh nt Q l ac k a' w')∧rounds call sh nt Q l ac a' w'<m) Q) a w:=by
 obtain⟨Y,s,r,rfl,hs,hdom,hex,hpost⟩:=h
 obtain⟨m1,x,s',hlt,hx,ada⟩:=Hj hex
 refine Gl c0 ac Y s a (x,s') _ hc (ER (by omega) hx) hs hdom fun Z a' hYZ hsZ hn hd=>?_
 rcases ada with⟨rfl,h1⟩|⟨rfl,h1⟩|⟨h1,h2,h3⟩
 ·rw [C6]
  have hR:jI call sh nt Q l ac (m-1) a' Z.w:=⟨Z,s',r,rfl,hsZ,uX hdom hn hd,h1,hpost.trans hYZ hn hd⟩
  have:=C9 hR
  exact⟨rfl,⟨m-1,by omega,hR⟩,by omega⟩
 ·subst h1
  have:=hpost Z a' hYZ hsZ hn hd
  simp at this
  exact this
 ·subst h3
  cases x with
  |normal=>grind
  | exit id =>
   have hb:=C8 _ _ _ _ _ hl hx
   have hlt':Nat.blt id gb=true:=by
    simp_all
   have hk:id≠yE l:=by
    have:=Nat.le_of_ble_eq_true hlt'
    simp[yE];omega
   have:=hpost Z a' hYZ hsZ hn hd
   simp[if_neg hk] at this
   rw[uW hlt'] at this ⊢
   exact this
  |ret=>exact hpost Z a' hYZ hsZ hn hd
theorem xI : ∀ (c : Code) (ac : AC) (l : Nat), cT P dP nt rows c (some l) = some ac → ∃ c0 PD, findLabel c l = some (.seq .skip c0) ∧ cT P dP nt rows c0 none = some PD ∧ leaves (fun id => Nat.blt id gb || Nat.beq id (gid l)) PD = true ∧
  ∀ (m:Nat) (X:Cx) (s:St) (a:Act) (r:AX×St) (Q:Exit→Act→World→Prop),m≤n+1→exec call sh m ac s=some r→eC X nt s a→(∀ v,s.nv≤v→X.ρ v=none)→Post X nt s r Q→
   c.wp P (Exit.jump l (fun a' w'=>∃ k,k≤n∧jI call sh nt Q l PD k a' w') Q) a X.w
 | .seq x y, ac, l, hc => by
  rw[cT] at hc
  split at hc
  ·rename_i l' Qt
   have hx:x=.label l':=by
    cases x<;>simp only[Y1] at Qt<;>first|(injection Qt with Qt;rw[Qt])|cases Qt
   subst hx
   split at hc
   ·rename_i PD hb hc0
    have hl':=Nat.eq_of_beq_eq_true hb
    subst hl'
    unfold PT at hc
    split at hc
    ·rename_i hl
     cases hc
     refine⟨y,PD,by simp[findLabel],hc0,hl,fun m X s a r Q hm hex hs hdom hpost=>?_⟩
     have key:∃ k r',k≤n∧exec call sh k (.loop (.block (gid l') (.seq PD (.exit (yE l'))))) s=some r'∧r=((match r'.1 with|.exit id=>if id=yE l' then .normal else .exit id|x=>x),r'.2):=by
      cases m with
      |zero=>simp[exec] at hex
      | succ k =>
       rw[gA k] at hex
       dsimp at hex
       split at hex
       ·rename_i id s' he
        refine⟨k,_,by omega,he,?_⟩
        split at hex
        ·simp_all
        ·rename_i hid
         cases hex
         simp[if_neg (Nat.ne_of_beq_eq_false hid)]
       ·refine ⟨k, _, by omega, hex, ?_⟩
        obtain⟨z,s'⟩:=r<;>simp_all
     obtain⟨k,r',hk,aho,rfl⟩:=key
     have hp:=Aj Gl hc0 hl hk ⟨X,s,r',rfl,hs,hdom,aho,hpost⟩
     have hp':=wp_mono (Q':=Exit.jump l' (fun a' w'=>∃ k,k≤n∧jI call sh nt Q l' PD k a' w') Q) hp fun e a w h=>by
      cases e with
      |goto l=>exact⟨h.1,h.2.1⟩
      |_=>exact h
     exact wp_seq (wp_label hp')
    grind
   grind
  ·split at hc
   ·rename_i ax ay hf hx hy
    split at hc
    ·rename_i hlv
     cases hc
     obtain⟨c0,PD,h1,h2,h3,h4⟩:=xI y ay l hy
     refine⟨c0,PD,by simp[findLabel,hf,h1],h2,h3,fun m X s a r Q hm hex hs hdom hpost=>?_⟩
     cases m with
     |zero=>simp[exec] at hex
     | succ k =>
      rw[gA k] at hex
      dsimp at hex
      refine wp_seq ?_
      split at hex
      ·rename_i s' he
       refine Gl x ax X s a (.normal,s') _ hx (ER (by omega) he) hs hdom fun Y a' hx' hs' hn hd=>?_
       exact h4 k Y s' a' r Q (by omega) hex hs' (uX hdom hn hd) (hpost.trans hx' hn hd)
      ·refine Gl x ax X s a r _ hx (ER (by omega) hex) hs hdom fun Y a' hx' hs' hn hd => ?_
       have:=hpost Y a' hx' hs' hn hd
       obtain⟨z,s'⟩:=r
       cases z with
       |normal=>grind
       |exit id=>
        have hb:=C8 _ _ _ _ _ hlv hex
        rw[uW hb] at this ⊢
        exact this
       |ret=>exact this
    grind
   grind
 |.skip,_,_,hc=>by simp[cT] at hc
 |.region ..,_,_,hc=>by simp[cT] at hc
 |.cond ..,_,_,hc=>by simp[cT] at hc
 |.block ..,_,_,hc=>by simp[cT] at hc
 |.loop ..,_,_,hc=>by simp[cT] at hc
 |.exit ..,_,_,hc=>by simp[cT] at hc
 |.goto ..,_,_,hc=>by simp[cT] at hc
 |.label ..,_,_,hc=>by simp[cT] at hc
 |.scope ..,_,_,hc=>by simp[cT] at hc
 |.ret,_,_,hc=>by simp[cT] at hc
 |.rangeFunc ..,_,_,hc=>by simp[cT] at hc
 |.refuse ..,_,_,hc=>by simp[cT] at hc
end
theorem Mi (hm:P.follows .mixedOrders=true) (cc:bX P call) (iS:∀ f T,dP f=some T→kf P f T):∀ (n:Nat),
  (∀ (c:Code) (ac:AC) (X:Cx) (s:St) (a:Act) (r:AX×St) (Q:Exit→Act→World→Prop),cT P dP nt rows c none=some ac→exec call sh n ac s=some r→eC X nt s a→(∀ v,s.nv≤v→X.ρ v=none)→Post X nt s r Q→c.wp P Q a X.w)∧
  (∀ (c:Code) (ac:AC) (X:Cx) (s:St) (a:Act) (r:AX×St) (Q:Exit→Act→World→Prop),cT P dP nt rows c none=some ac→exec call sh n (.loop ac) s=some r→eC X nt s a→(∀ v,s.nv≤v→X.ρ v=none)→Post X nt s r Q→pO P c Q a X.w):=by
 intro n
 induction n with
 |zero=>simp_all[bX,Call,pO,Post,exec,cT]
 | succ n ih =>
  obtain⟨Gl,ihB⟩:=ih
  have B:∀ (c:Code) (ac:AC) (X:Cx) (s:St) (a:Act) (r:AX×St) (Q:Exit→Act→World→Prop),cT P dP nt rows c none=some ac→exec call sh (n+1) (.loop ac) s=some r→eC X nt s a→(∀ v,s.nv≤v→X.ρ v=none)→Post X nt s r Q→pO P c Q a X.w:=by
   intro c ac X s a r Q hc hr hs hdom hQ
   simp[exec] at hr
   refine pO.round ?_
   split at hr
   ·rename_i s' he
    refine Gl c ac X s a (.normal,s') _ hc he hs hdom fun Y a' hx hs' hn hd=>?_
    exact ihB c ac Y s' a' r Q hc hr hs' (uX hdom hn hd) (hQ.trans hx hn hd)
   ·rename_i hne
    refine Gl c ac X s a r _ hc hr hs hdom fun Y a' hx hs' hn hd=>?_
    have:=hQ Y a' hx hs' hn hd
    obtain⟨x,s'⟩:=r
    cases x with
    |normal=>exact absurd hr (hne s')
    |exit id=>exact Da this
    |ret=>exact this
  refine⟨fun c ac X s a r Q hc hr hs hdom hQ=>?_,B⟩
  cases c with
  |skip=>
   cases hc
   cases hr
   exact wp_skip (hQ.now hs)
  | region id ops draw =>
   simp[cT] at hc
   have:∃ l dr,ac=.region l dr:=by
    unfold TX at hc
    split at hc
    ·obtain⟨l,_,rfl⟩:=aG hc;exact⟨_,_,rfl⟩
    ·simp at hc
     split at hc
     ·split at hc
      ·injection hc with hc;exact⟨_,_,hc.symm⟩
      ·cases hc
     ·cases hc
   obtain⟨l,dr,rfl⟩:=this
   obtain⟨s',hr',rfl⟩:=aG hr
   exact NI hm cc iS hc hr' hs hdom hQ
  | seq x y =>
   simp[cT] at hc
   split at hc
   ·rename_i ax ay hx hy
    cases hc
    simp[exec] at hr
    refine wp_seq ?_
    split at hr
    ·rename_i s' he
     refine Gl x ax X s a (.normal,s') _ hx he hs hdom fun Y a' hx' hs' hn hd=>?_
     exact Gl y ay Y s' a' r Q hy hr hs' (uX hdom hn hd) (hQ.trans hx' hn hd)
    ·rename_i hne
     refine Gl x ax X s a r _ hx hr hs hdom fun Y a' hx' hs' hn hd=>?_
     have:=hQ Y a' hx' hs' hn hd
     obtain⟨z,s'⟩:=r
     cases z with
     |normal=>exact absurd hr (hne s')
     |exit id=>exact Da this
     |ret=>exact this
   ·cases hc
  | cond c x y =>
   simp[cT] at hc
   split at hc
   ·rename_i c' ax ay Ci hx hy
    cases hc
    simp[exec] at hr
    have hv:=aU hs Ci
    split at hr
    ·rename_i hb
     exact wp_cond_true (mO hb hv) (Gl x ax X s a r Q hx hr hs hdom hQ)
    ·rename_i hb
     exact wp_cond_false (mO hb hv) (Gl y ay X s a r Q hy hr hs hdom hQ)
    ·cases hr
   ·cases hc
  | block id c =>
   simp[cT] at hc
   split at hc
   ·rename_i Zq
    obtain⟨ac',Ci,rfl⟩:=aG hc
    simp[exec] at hr
    refine wp_block ?_
    split at hr
    ·rename_i id' s' he
     split at hr
     ·rename_i hid
      cases hr
      refine Gl c ac' X s a (.exit id',s') _ Ci he hs hdom fun Y a' hx' hs' hn hd=>?_
      have:=hQ Y a' hx' hs' hn hd
      have hid:=Nat.eq_of_beq_eq_true hid
      subst hid
      rw[uW Zq]
      simp[Exit.inBlock,if_true]
      exact this
     ·rename_i hid
      cases hr
      refine Gl c ac' X s a (.exit id',s') _ Ci he hs hdom fun Y a' hx' hs' hn hd=>?_
      have:=hQ Y a' hx' hs' hn hd
      simp[AX.exit'] at this ⊢
      split
      ·rename_i hb
       rw[if_pos hb] at this
       simp[Exit.inBlock,Nat.ne_of_beq_eq_false hid,if_false]
       exact this
      ·rename_i hb
       rw[if_neg hb] at this
       exact this
    ·rename_i hne
     refine Gl c ac' X s a r _ Ci hr hs hdom fun Y a' hx' hs' hn hd=>?_
     have:=hQ Y a' hx' hs' hn hd
     obtain⟨z,s'⟩:=r
     cases z with
     |normal=>exact this
     |exit id=>exact absurd hr (hne id s')
     |ret=>exact this
   ·cases hc
  |loop c=>
   obtain⟨ac',Ci,rfl⟩:=aG hc
   exact (B c ac' X s a r Q Ci hr hs hdom hQ).wp
  | exit id =>
   simp[cT] at hc
   split at hc
   ·rename_i Zq
    cases hc
    cases hr
    have:=hQ.now hs
    rw[uW Zq] at this
    exact wp_exit this
   ·cases hc
  |goto l=>
   cases hc
   cases hr
   have:=hQ.now hs
   rw[C6] at this
   exact wp_goto this
  | scope c =>
   simp[cT] at hc
   split at hc
   ·rename_i l hl
    obtain⟨c0,PD,h1,h2,h3,h4⟩:=xI Gl c ac l hc
    refine wp_scope_jumps l (fun a w=>∃ k,k≤n∧jI call sh nt Q l PD k a w) (rounds call sh nt Q l PD) h1 (h4 (n+1) X s a r Q (Nat.le_refl _) hr hs hdom hQ) fun a w hJ=>?_
    obtain⟨k,hk,hR⟩:=hJ
    exact wp_seq (wp_skip (Aj Gl h2 h3 (Nat.le_trans (C9 hR) hk) (NK hR)))
   ·cases hc
  |ret=>
   cases hc
   cases hr
   exact wp_ret (hQ.now hs)
  |_=>simp[cT] at hc
end
end Go.bq
