/- Code of the program against the machine of pure data. -/
import Derived.Test.YtokjmkblnafppaaGreatDoorEngY
import Derived.ScopeJumps
set_option linter.unusedVariables false
set_option linter.unusedSimpArgs false
namespace Go.bI
open Go Go.RowKit
def AX.exit':AX→Exit
 |.normal=>.normal
 |.exit id=>if Nat.blt id gb=true then .exit id else .goto ((id-gb) / 2)
 |.ret=>.ret
theorem uq {id:Nat} (h:Nat.blt id gb=true):(AX.exit id).exit'=.exit id:=by simp[AX.exit',h]
theorem Ci (l:Nat):(AX.exit (gid l)).exit'=.goto l:=by
 have h:Nat.blt (gid l) gb=false:=by
  cases h:Nat.blt (gid l) gb with
  |false=>rfl
  |true=>have:=Nat.le_of_ble_eq_true h;simp only[gid] at this;omega
 show (if Nat.blt (gid l) gb=true then Exit.exit (gid l) else Exit.goto ((gid l-gb) / 2))=_
 rw[h,if_neg (by decide)]
 have:(gid l-gb) / 2=l:=by simp only[gid];omega
 rw[this]
def Post (X:Cx) (nt:Nat) (s:St) (r:AX×St) (Q:Exit→Act→World→Prop):Prop:=
 ∀ Y a',Ext X Y→eL Y nt r.2 a'→s.nv≤r.2.nv→(∀ v L,Y.ρ v=some L→X.ρ v=some L∨(s.nv≤v∧v<r.2.nv))→Q r.1.exit' a' Y.w
theorem Post.trans {X Y:Cx} {nt:Nat} {s s':St} {r:AX×St} {Q:Exit→Act→World→Prop} (h:Post X nt s r Q) (hx:Ext X Y) (hn:s.nv≤s'.nv) (hd:∀ v L,Y.ρ v=some L→X.ρ v=some L∨(s.nv≤v∧v<s'.nv)):Post Y nt s' r Q:=by
 intro Z a' hz hs hn' hd'
 refine h Z a' (hx.trans hz) hs (Nat.le_trans hn hn') fun v L hv=>?_
 rcases hd' v L hv with h|h
 ·rcases hd v L h with h | h
  ·exact .inl h
  ·exact .inr (by omega)
 ·exact .inr (by omega)
theorem Post.now {X:Cx} {nt:Nat} {s:St} {a:Act} {x:AX} {Q:Exit→Act→World→Prop} (h:Post X nt s (x,s) Q) (hs:eL X nt s a):Q x.exit' a X.w:=
 h X a (Ext.refl X) hs (Nat.le_refl _) fun _ _ h=>.inl h
theorem ur {X Y:Cx} {n m:Nat} (h:∀ v,n≤v→X.ρ v=none) (hn:n≤m) (hd:∀ v L,Y.ρ v=some L→X.ρ v=some L∨(n≤v∧v<m)):∀ v,m≤v→Y.ρ v=none:=by
 intro v hv
 cases hY:Y.ρ v with
 |none=>rfl
 |some L=>
  rcases hd v L hY with h'|h'
  ·rw[h v (by omega)] at h';cases h'
  ·omega
theorem Ext.drew (X:Cx):Ext X { X with w:=X.w.drew }:=
 ⟨rfl,(dO.refl _ _).drew,fun _ _ h=>h,fun _ _ _=>rfl,fun _ _ h=>h,fun _ _ h=>.inl h⟩
theorem eL.drew {X:Cx} {nt:Nat} {s:St} {a:Act} (h:eL X nt s a):eL { X with w:=X.w.drew } nt s a:=
 ⟨fun t=>(h.slots t).ext (Ext.drew X),h.size,h.defers,h.mem.move (Ext.drew X) (fun _ _ _ _ _ _=>rfl) (fun _ _ _ _ _ _ _ h=>h) h.mem.mI⟩
section
variable {P:Program} {nt:Nat} {call:Go.bI.Call} {sh:Nat→Bool} {bq:Nat→Option TypeId} {rows:List (Nat×Nat)}
theorem Cj {ops:Array Oper} {bs:List Nat} {l:List bA} (hb:bs.length=ops.size) (h:sA P bq nt rows ops (ops.toList.zip bs)=some l):Ik P bq nt ops l∧∀ (i:Nat) (ao:bA),l[i]?=some ao→bs[i]?=some ao.lY:=by
 obtain⟨h1,h2⟩:=wX h
 refine⟨⟨by rw[h1,List.length_zip];simp[hb],fun i ao hi=>?_⟩,fun i ao hi=>?_⟩
 ·obtain ⟨o, b, g1, _, g2, g3, g4, g5⟩ := h2 i ao hi
  have:=(List.getElem?_zip_eq_some.1 g1).1
  exact⟨o,by simpa using this,g2,g3,g4,g5⟩
 ·obtain ⟨o, b, g1, g2, _⟩ := h2 i ao hi
  have:=(List.getElem?_zip_eq_some.1 g1).2
  rw[g2];exact this
theorem Rs {ops:Array Oper} {bs:List Nat} {l:List bA} (ahb:l.length=ops.size) (hl:∀ (i:Nat) (ao:bA),l[i]?=some ao→bs[i]?=some ao.lY) (h:BT bs 0 ops.toList bs=true):NB ops l:=by
 have key:=fun i o (ho:ops[i]?=some o)=>zP h i o (by simpa using ho)
 refine⟨fun i o ho e he hb=>?_,fun i o ao ho hao k hk BB=>?_⟩
 ·obtain ⟨b, _, h2⟩ := key i o ho
  simp only[Di,Bool.and_eq_true,List.all_eq_true,Bool.or_eq_true,Bool.not_eq_true'] at h2
  rcases h2.1 e (by simpa using he) with h|h
  ·rw[show Edge.Dh e=Region.binds .any e from rfl,hb] at h;cases h
  ·rw[Nat.zero_add] at h;exact Nat.blt_eq.mp h
 ·obtain ⟨b, h1, h2⟩ := key i o ho
  rw[hl i ao hao] at h1;injection h1 with h1;subst h1
  simp only[Di,Bool.and_eq_true,List.all_eq_true,Bool.or_eq_true,Bool.not_eq_true',List.mem_range] at h2
  rcases h2.2 k (by omega) with h|h
  ·rw[BB] at h;cases h
  ·obtain ⟨e, he, h⟩ := List.any_eq_true.1 h
   simp only[Bool.and_eq_true,Bool.or_eq_true] at h
   refine⟨e,by simpa using he,h.1,?_⟩
   rcases h.2 with h|h
   ·exact .inl (Nat.eq_of_beq_eq_true h)
   ·refine .inr ⟨Nat.blt_eq.mp h.1, fun ao' aer => ?_⟩
    have:=hl _ _ aer
    rw[List.getD_eq_getElem?_getD,this] at h
    exact h.2
theorem Lr (hm:P.follows .mixedOrders=true) (cE:cF P call) (jf:∀ f T,bq f=some T→j3 P f T) {X:Cx} {s s':St} {a:Act} {id:Nat} {ops:Array Oper} {draw:Bool} {l:List bA} {dr:Bool}
  (hp:QW P bq nt rows ops draw=some (.region l dr)) (hr:fk call sh l dr s=some s') (hs:eL X nt s a) (hdom:∀ v,s.nv≤v→X.ρ v=none) {Q:Exit→Act→World→Prop} (hQ:Post X nt s (.normal,s') Q):(Code.region id ops draw).wp P Q a X.w:=by
 have hs1:eL X nt { s with nv:=s.nv+l.length } a:=⟨hs.slots,hs.size,hs.defers,hs.mem⟩
 unfold QW at hp
 cases draw with
 | false =>
  simp only at hp
  obtain⟨l',hl,hp⟩:=aM hp
  injection hp with h1 h2;subst h1;subst h2
  have hz:ops.toList.map (fun o=>(o,0))=ops.toList.zip (List.replicate ops.size 0):=by
   apply List.ext_getElem
   ·simp
   ·intro i h1 h2;simp
  rw[hz] at hl
  obtain⟨uo,_⟩:=Cj (by simp) hl
  simp only[fk] at hr
  refine wp_region ?_
  rw[←uo.len,List.range_eq_range']
  refine Cg cE jf uo l' 0 _ s' X a (fun k=>by simp) hr hs1 (fun k _ _=>hdom _ (by omega)) (by simp) (fun v hv=>hdom v (by simp at hv;omega)) fun Y a' hx hs' hn hd=>?_
  exact hQ Y a' hx hs' (by simp at hn ⊢;omega) hd
 | true =>
  simp only at hp
  split at hp
  ·rename_i l' hb hl
   split at hp
   ·rename_i hap
    injection hp with hp
    injection hp with h1 h2;subst h1;subst h2
    simp only[Bool.and_eq_true,beq_iff_eq] at hb
    obtain⟨uo,HM⟩:=Cj hb.1 hl
    have NC:=Rs uo.len HM hb.2
    simp only[fk] at hr
    obtain⟨L,rfl,ND⟩:=JW.of_run hr
    refine wp_region_any hm ?_
    have hf:∀ j,(Array.replicate ops.size false).getD j false=false:=fun j=>by
     rw[Array.getD_eq_getD_getElem?]
     rcases Nat.lt_or_ge j ops.size with h|h
     ·simp[h]
     ·simp[h]
    have hst:(Eu { s with nv:=s.nv+l'.length } L fun j=>(Array.replicate ops.size false).getD j false) = { s with nv:=s.nv+l'.length }:=by
     unfold Eu
     rw[List.filter_eq_nil_iff.2 fun x _=>by show ¬(Array.replicate ops.size false).getD x.1 false=true;rw[hf];exact Bool.false_ne_true]
     rfl
    refine Ve cE jf uo NC hap ND ops.size _ { X with w:=X.w.drew } a (by simp) ?_ (fun j o _ hj=>absurd ((hf j).symm.trans hj) (by decide)) ?_ (fun k _ _=>hdom _ (by omega)) ?_ ?_ fun Y a' hx hs' hn hd=>?_
    ·exact Nat.le_trans List.countP_le_length (by simp)
    ·rw[hst];exact hs1.drew
    ·rw[hst];simp[uo.len]
    ·rw[hst];exact fun v hv=>hdom v (by simp at hv;omega)
    ·rw [hst] at hn
     exact hQ Y a' ((Ext.drew X).trans hx) hs' (by simp at hn ⊢;omega) hd
   ·cases hp
  ·cases hp
def qk (P:Program) (c:Code) (Q:Exit→Act→World→Prop) (a:Act) (w:World):Prop:=
 ∀ (b:Frame) (k:List Item) (cs:List Frame),∃ e a' w',Q e a' w'∧Arrives P (lone (b.at a (.code c :: .inLoop c :: k)) cs w) b k cs e a' w'
theorem qk.round {c:Code} {Q:Exit→Act→World→Prop} {a:Act} {w:World} (h:c.wp P (Exit.then (qk P c Q) Q) a w):qk P c Q a w:=by
 intro b k cs
 obtain⟨e,a₁,w₁,hq,Ft⟩:=h b (.inLoop c :: k) cs
 cases e with
 |normal=>
  obtain⟨e₂,a₂,w₂,hq₂,ZV⟩:=hq b k cs
  exact⟨e₂,a₂,w₂,hq₂,.of_steps (Steps.trans Ft (.one step_inLoop)) ZV⟩
 |exit id=>exact⟨_,a₁,w₁,hq,.pass (x:=.inLoop c) rfl (fun _ _=>.inl (by simp)) Ft⟩
 |goto l=>exact⟨_,a₁,w₁,hq,.pass (x:=.inLoop c) rfl (fun _ _=>.inl (by simp)) Ft⟩
 |ret=>exact⟨_,a₁,w₁,hq,.pass (x:=.inLoop c) rfl (fun _ _=>.inl (by simp)) Ft⟩
 |panic ch=>exact⟨_,a₁,w₁,hq,.pass (x:=.inLoop c) rfl (fun _ _=>.inl (by simp)) Ft⟩
 |outgrown=>exact⟨_,a₁,w₁,hq,.pass (x:=.inLoop c) rfl (fun _ _=>.inl (by simp)) Ft⟩
theorem qk.wp {c:Code} {Q:Exit→Act→World→Prop} {a:Act} {w:World} (h:qk P c Q a w):(Code.loop c).wp P Q a w:=fun b k cs=>
 let ⟨e,a',w',hq,Ft⟩:=h b k cs
 ⟨e,a',w',hq,.of_steps (.one step_loop) Ft⟩
theorem gM (n:Nat) (c:AC) (s:St):exec call sh (n+1) c s=match c with
  |.skip=>some (.normal,s)
  |.region ops draw=>(fk call sh ops draw s).map fun s'=>(.normal,s')
  |.seq a b=>match exec call sh n a s with
   |some (.normal,s')=>exec call sh n b s'
   |r=>r
  |.cond c a b=>match iG (c.ev s.slots) with
   |some true=>exec call sh n a s
   |some false=>exec call sh n b s
   |none=>none
  | .block id c => match exec call sh n c s with
   |some (.exit id',s')=>match Nat.beq id' id with
    |true=>some (.normal,s')
    |false=>some (.exit id',s')
   |r=>r
  |.loop c=>match exec call sh n c s with
   |some (.normal,s')=>exec call sh n (.loop c) s'
   |r=>r
  |.exit id=>some (.exit id,s)
  |.ret=>some (.ret,s):=rfl
theorem Ls:∀ (n:Nat) (c:AC) (s:St) (r:AX×St),exec call sh n c s=some r→exec call sh (n+1) c s=some r:=by
 intro n
 induction n with
 |zero=>intro c s r h;simp[exec] at h
 | succ n ih =>
  intro c s r h
  cases c with
  |skip=>exact h
  |region ops draw=>exact h
  |exit id=>exact h
  |ret=>exact h
  | seq a b =>
   rw[gM n] at h;rw[gM (n+1)];dsimp only at h ⊢
   split at h
   ·rename_i s' he
    rw[ih _ _ _ he];exact ih _ _ _ h
   ·rename_i hne
    rw[ih _ _ _ h]
    obtain⟨x,s'⟩:=r
    cases x with
    |normal=>exact absurd h (hne s')
    |exit id=>rfl
    |ret=>rfl
  |cond c a b=>
   rw[gM n] at h;rw[gM (n+1)];dsimp only at h ⊢
   split at h
   ·exact ih _ _ _ h
   ·exact ih _ _ _ h
   ·cases h
  | block id c =>
   rw[gM n] at h;rw[gM (n+1)];dsimp only at h ⊢
   split at h
   ·rename_i he
    rw[ih _ _ _ he];exact h
   ·rename_i hne
    rw[ih _ _ _ h]
    obtain⟨x,s'⟩:=r
    cases x with
    |normal=>rfl
    |exit id=>exact absurd h (hne id s')
    |ret=>rfl
  | loop c =>
   rw[gM n] at h;rw[gM (n+1)];dsimp only at h ⊢
   split at h
   ·rename_i s' he
    rw[ih _ _ _ he];exact ih _ _ _ h
   ·rename_i hne
    rw[ih _ _ _ h]
    obtain⟨x,s'⟩:=r
    cases x with
    |normal=>exact absurd h (hne s')
    |exit id=>rfl
    |ret=>rfl
theorem DH {n m:Nat} (hle:n≤m) {c:AC} {s:St} {r:AX×St} (h:exec call sh n c s=some r):exec call sh m c s=some r:=by
 induction hle with
 |refl=>exact h
 |step _ ih=>exact Ls _ _ _ _ ih
theorem Ck {p:Nat→Bool} : ∀ (n:Nat) (c:AC) (s s':St) (id:Nat),leaves p c=true→exec call sh n c s=some (.exit id,s')→p id=true:=by
 intro n
 induction n with
 |zero=>intro c s s' id _ h;simp[exec] at h
 | succ n ih =>
  intro c s s' id hl h
  cases c with
  |skip=>simp[exec] at h
  |region ops draw=>
   simp only[exec] at h
   obtain⟨_,_,h⟩:=aM h
   cases h
  |exit id'=>simp only[exec,Option.some.injEq,Prod.mk.injEq,AX.exit.injEq] at h;rw[←h.1];exact hl
  |ret=>simp[exec] at h
  |seq a b=>
   simp only[leaves,Bool.and_eq_true] at hl
   simp only[exec] at h
   split at h
   ·exact ih _ _ _ _ hl.2 h
   ·exact ih _ _ _ _ hl.1 h
  |cond c a b=>
   simp only[leaves,Bool.and_eq_true] at hl
   simp only[exec] at h
   split at h
   ·exact ih _ _ _ _ hl.1 h
   ·exact ih _ _ _ _ hl.2 h
   ·cases h
  | block id' c =>
   simp only[leaves] at hl
   simp only[exec] at h
   split at h
   ·rename_i he
    split at h
    ·cases h
    ·injection h with h
     simp only[Prod.mk.injEq,AX.exit.injEq] at h
     rw[←h.1];exact ih _ _ _ _ hl he
   ·exact ih _ _ _ _ hl h
  |loop c=>
   simp only[leaves] at hl
   simp only[exec] at h
   split at h
   ·exact ih (.loop c) _ _ _ hl h
   ·exact ih _ _ _ _ hl h
theorem Fu {n l : Nat} {c : AC} {s : St} {r : AX × St} (h : exec call sh n (.loop (.block (gid l) (.seq c (.exit (xP l))))) s = some r) :
  ∃ m x s',m<n∧exec call sh m c s=some (x,s')∧((x=.exit (gid l)∧exec call sh (n-1) (.loop (.block (gid l) (.seq c (.exit (xP l))))) s'=some r)∨(x=.normal∧r=(.exit (xP l),s'))∨(x≠.normal∧x≠.exit (gid l)∧r=(x,s'))):=by
 cases n with
 |zero=>simp[exec] at h
 | succ n =>
  have hk:Nat.beq (xP l) (gid l)=false:=by
   cases hb:Nat.beq (xP l) (gid l) with
   |false=>rfl
   |true=>have:=Nat.eq_of_beq_eq_true hb;simp only[xP,gid] at this;omega
  simp only[exec] at h
  cases n with
  |zero=>simp[exec] at h
  | succ n =>
   cases n with
   |zero=>simp[exec] at h
   | succ n =>
    cases hc:exec call sh n c s with
    |none=>simp[exec,hc] at h
    | some xs =>
     obtain⟨x,s'⟩:=xs
     refine⟨n,x,s',by omega,hc,?_⟩
     cases n with
     |zero=>simp[exec] at hc
     | succ n =>
      cases x with
      | normal =>
       have e1:exec call sh (n+1) (.exit (xP l)) s'=some (.exit (xP l),s'):=rfl
       have e2:exec call sh (n+1+1) (.seq c (.exit (xP l))) s=some (.exit (xP l),s'):=by
        rw[exec];simp only[hc,e1]
       have e3:exec call sh (n+1+1+1) (.block (gid l) (.seq c (.exit (xP l)))) s=some (.exit (xP l),s'):=by
        rw[exec];simp only[e2,hk]
       rw[e3] at h
       simp only[Option.some.injEq] at h
       exact .inr (.inl ⟨rfl,h.symm⟩)
      | exit id =>
       have e2:exec call sh (n+1+1) (.seq c (.exit (xP l))) s=some (.exit id,s'):=by
        rw[exec];simp only[hc]
       cases hb:Nat.beq id (gid l) with
       | true =>
        have e3:exec call sh (n+1+1+1) (.block (gid l) (.seq c (.exit (xP l)))) s=some (.normal,s'):=by
         rw[exec];simp only[e2,hb]
        rw[e3] at h
        exact .inl ⟨by rw[Nat.eq_of_beq_eq_true hb],h⟩
       | false =>
        have e3:exec call sh (n+1+1+1) (.block (gid l) (.seq c (.exit (xP l)))) s=some (.exit id,s'):=by
         rw[exec];simp only[e2,hb]
        rw[e3] at h
        simp only[Option.some.injEq] at h
        exact .inr (.inr ⟨by simp,fun hx=>by injection hx with hx;exact Nat.ne_of_beq_eq_false hb hx,h.symm⟩)
      | ret =>
       have e2:exec call sh (n+1+1) (.seq c (.exit (xP l))) s=some (.ret,s'):=by
        rw[exec];simp only[hc]
       have e3:exec call sh (n+1+1+1) (.block (gid l) (.seq c (.exit (xP l)))) s=some (.ret,s'):=by
        rw[exec];simp only[e2]
       rw[e3] at h
       simp only[Option.some.injEq] at h
       exact .inr (.inr ⟨by simp,by simp,h.symm⟩)
section
open Classical
def jt (call:Call) (sh:Nat→Bool) (nt:Nat) (Q:Exit→Act→World→Prop) (l:Nat) (c:AC) (m:Nat) (a:Act) (w:World):Prop:=
 ∃ Y s r,Y.w=w∧eL Y nt s a∧(∀ v,s.nv≤v→Y.ρ v=none)∧exec call sh m (.loop (.block (gid l) (.seq c (.exit (xP l))))) s=some r∧
  Post Y nt s ((match r.1 with|.exit id=>if id=xP l then .normal else .exit id|x=>x),r.2) Q
theorem least {p:Nat→Prop} : ∀ {n:Nat},p n→∃ m,p m∧∀ k,p k→m≤k:=by
 intro n
 induction n using Nat.strongRecOn with
 | _ n ih =>
  intro h
  by_cases hk:∃ k,k<n∧p k
  ·obtain ⟨k, hk, hp⟩ := hk
   exact ih k hk hp
  ·exact⟨n,h,fun k hp=>Nat.le_of_not_lt fun hlt=>hk ⟨k,hlt,hp⟩⟩
noncomputable def rounds (call:Call) (sh:Nat→Bool) (nt:Nat) (Q:Exit→Act→World→Prop) (l:Nat) (c:AC) (a:Act) (w:World):Nat:=
 if h:∃ m,jt call sh nt Q l c m a w then Classical.choose (least (p:=fun m=>jt call sh nt Q l c m a w) h.choose_spec) else 0
theorem Cl {Q:Exit→Act→World→Prop} {l:Nat} {c:AC} {m:Nat} {a:Act} {w:World} (h:jt call sh nt Q l c m a w):rounds call sh nt Q l c a w≤m:=by
 have hh:∃ m,jt call sh nt Q l c m a w:=⟨m,h⟩
 unfold rounds
 rw[dif_pos hh]
 exact (Classical.choose_spec (least (p:=fun m=>jt call sh nt Q l c m a w) hh.choose_spec)).2 _ h
theorem Lt {Q:Exit→Act→World→Prop} {l:Nat} {c:AC} {m:Nat} {a:Act} {w:World} (h:jt call sh nt Q l c m a w):jt call sh nt Q l c (rounds call sh nt Q l c a w) a w:=by
 have hh:∃ m,jt call sh nt Q l c m a w:=⟨m,h⟩
 unfold rounds
 rw[dif_pos hh]
 exact (Classical.choose_spec (least (p:=fun m=>jt call sh nt Q l c m a w) hh.choose_spec)).1
end
theorem Cm {A:Act→World→Prop} {Q:Exit→Act→World→Prop} {id:Nat} {a:Act} {w:World} (h:Q (AX.exit id).exit' a w):Exit.then A Q (AX.exit id).exit' a w:=by
 unfold AX.exit' at h ⊢
 simp only at h ⊢
 split
 ·rename_i hb;rw[if_pos hb] at h;exact h
 ·rename_i hb;rw[if_neg hb] at h;exact h
section
variable {n:Nat} (Ew:∀ (c:Code) (ac:AC) (X:Cx) (s:St) (a:Act) (r:AX×St) (Q:Exit→Act→World→Prop),cT P bq nt rows c none=some ac→exec call sh n ac s=some r→eL X nt s a→(∀ v,s.nv≤v→X.ρ v=none)→Post X nt s r Q→c.wp P Q a X.w)
include Ew
theorem zQ {c0:Code} {ac:AC} {l m:Nat} {a:Act} {w:World} {Q:Exit→Act→World→Prop} (hc:cT P bq nt rows c0 none=some ac) (hl:leaves (fun id=>Nat.blt id gb||Nat.beq id (gid l)) ac=true) (hm:m≤n)
  (h:jt call sh nt Q l ac m a w):c0.wp P (Exit.jump l (fun a' w'=>(∃ k,k≤n∧jt call sh nt Q l ac k a' w')∧rounds call sh nt Q l ac a' w'<m) Q) a w:=by
 obtain⟨Y,s,r,rfl,hs,hdom,hex,hpost⟩:=h
 obtain⟨m1,x,s',hlt,hx,ZW⟩:=Fu hex
 refine Ew c0 ac Y s a (x,s') _ hc (DH (by omega) hx) hs hdom fun Z a' hYZ hsZ hn hd=>?_
 rcases ZW with⟨rfl,h1⟩|⟨rfl,h1⟩|⟨h1,h2,h3⟩
 ·rw [Ci]
  have hR:jt call sh nt Q l ac (m-1) a' Z.w:=⟨Z,s',r,rfl,hsZ,ur hdom hn hd,h1,hpost.trans hYZ hn hd⟩
  have:=Cl hR
  exact⟨rfl,⟨m-1,by omega,hR⟩,by omega⟩
 ·subst h1
  have:=hpost Z a' hYZ hsZ hn hd
  simp only[if_true] at this
  exact this
 ·subst h3
  cases x with
  |normal=>exact absurd rfl h1
  | exit id =>
   have hb:=Ck _ _ _ _ _ hl hx
   have hg:id≠gid l:=fun he=>h2 (by rw[he])
   have hlt':Nat.blt id gb=true:=by
    rcases Bool.or_eq_true_iff.1 hb with hb|hb
    ·exact hb
    ·exact absurd (Nat.eq_of_beq_eq_true hb) hg
   have hk:id≠xP l:=by
    have:=Nat.le_of_ble_eq_true hlt'
    simp only[xP];omega
   have:=hpost Z a' hYZ hsZ hn hd
   simp only[if_neg hk] at this
   rw[uq hlt'] at this ⊢
   exact this
  |ret=>exact hpost Z a' hYZ hsZ hn hd
theorem wY : ∀ (c : Code) (ac : AC) (l : Nat), cT P bq nt rows c (some l) = some ac → ∃ c0 MQ, findLabel c l = some (.seq .skip c0) ∧ cT P bq nt rows c0 none = some MQ ∧ leaves (fun id => Nat.blt id gb || Nat.beq id (gid l)) MQ = true ∧
  ∀ (m:Nat) (X:Cx) (s:St) (a:Act) (r:AX×St) (Q:Exit→Act→World→Prop),m≤n+1→exec call sh m ac s=some r→eL X nt s a→(∀ v,s.nv≤v→X.ρ v=none)→Post X nt s r Q→
   c.wp P (Exit.jump l (fun a' w'=>∃ k,k≤n∧jt call sh nt Q l MQ k a' w') Q) a X.w
 | .seq x y, ac, l, hc => by
  rw[cT] at hc
  split at hc
  ·rename_i l' Lu
   have hx:x=.label l':=by
    cases x<;>simp only[UQ] at Lu<;>first|(injection Lu with Lu;rw[Lu])|cases Lu
   subst hx
   split at hc
   ·rename_i MQ hb hc0
    have hl':=Nat.eq_of_beq_eq_true hb
    subst hl'
    unfold M7 at hc
    split at hc
    ·rename_i hl
     injection hc with hc;subst hc
     refine⟨y,MQ,by simp[findLabel],hc0,hl,fun m X s a r Q hm hex hs hdom hpost=>?_⟩
     have key:∃ k r',k≤n∧exec call sh k (.loop (.block (gid l') (.seq MQ (.exit (xP l'))))) s=some r'∧r=((match r'.1 with|.exit id=>if id=xP l' then .normal else .exit id|x=>x),r'.2):=by
      cases m with
      |zero=>simp[exec] at hex
      | succ k =>
       rw[gM k] at hex
       dsimp only at hex
       split at hex
       ·rename_i id s' he
        refine⟨k,_,by omega,he,?_⟩
        split at hex
        ·rename_i hid
         injection hex with hex;subst hex
         simp only[Nat.eq_of_beq_eq_true hid,if_true]
        ·rename_i hid
         injection hex with hex;subst hex
         simp only[if_neg (Nat.ne_of_beq_eq_false hid)]
       ·rename_i hne
        refine⟨k,_,by omega,hex,?_⟩
        obtain⟨z,s'⟩:=r
        cases z with
        |normal=>rfl
        |exit id=>exact absurd hex (hne id s')
        |ret=>rfl
     obtain⟨k,r',hk,aes,rfl⟩:=key
     have hp:=zQ Ew hc0 hl hk ⟨X,s,r',rfl,hs,hdom,aes,hpost⟩
     have hp':=wp_mono (Q':=Exit.jump l' (fun a' w'=>∃ k,k≤n∧jt call sh nt Q l' MQ k a' w') Q) hp fun e a w h=>by
      cases e with
      |goto l=>exact⟨h.1,h.2.1⟩
      |_=>exact h
     exact wp_seq (wp_label hp')
    ·cases hc
   ·cases hc
  ·rename_i Lu
   split at hc
   ·rename_i ax ay hf hx hy
    split at hc
    ·rename_i hlv
     injection hc with hc;subst hc
     obtain⟨c0,MQ,h1,h2,h3,h4⟩:=wY y ay l hy
     refine⟨c0,MQ,by simp[findLabel,hf,h1],h2,h3,fun m X s a r Q hm hex hs hdom hpost=>?_⟩
     cases m with
     |zero=>simp[exec] at hex
     | succ k =>
      rw[gM k] at hex
      dsimp only at hex
      refine wp_seq ?_
      split at hex
      ·rename_i s' he
       refine Ew x ax X s a (.normal,s') _ hx (DH (by omega) he) hs hdom fun Y a' hx' hs' hn hd=>?_
       exact h4 k Y s' a' r Q (by omega) hex hs' (ur hdom hn hd) (hpost.trans hx' hn hd)
      ·rename_i hne
       refine Ew x ax X s a r _ hx (DH (by omega) hex) hs hdom fun Y a' hx' hs' hn hd=>?_
       have:=hpost Y a' hx' hs' hn hd
       obtain⟨z,s'⟩:=r
       cases z with
       |normal=>exact absurd hex (hne s')
       |exit id=>
        have hb:=Ck _ _ _ _ _ hlv hex
        simp only at this ⊢
        rw[uq hb] at this ⊢
        exact this
       |ret=>exact this
    ·cases hc
   ·cases hc
 |.skip,_,_,hc=>by simp[cT] at hc
 |.region ..,_,_,hc=>by simp[cT] at hc
 |.cond ..,_,_,hc=>by simp[cT] at hc
 |.block ..,_,_,hc=>by simp[cT] at hc
 |.loop ..,_,_,hc=>by simp[cT] at hc
 |.exit ..,_,_,hc=>by simp[cT] at hc
 |.goto ..,_,_,hc=>by simp[cT] at hc
 |.label ..,_,_,hc=>by simp[cT] at hc
 |.scope ..,_,_,hc=>by simp[cT] at hc
 |.ret,_,_,hc=>by simp[cT] at hc
 |.rangeFunc ..,_,_,hc=>by simp[cT] at hc
 |.refuse ..,_,_,hc=>by simp[cT] at hc
end
theorem JZ (hm:P.follows .mixedOrders=true) (cE:cF P call) (jf:∀ f T,bq f=some T→j3 P f T):∀ (n:Nat),
  (∀ (c:Code) (ac:AC) (X:Cx) (s:St) (a:Act) (r:AX×St) (Q:Exit→Act→World→Prop),cT P bq nt rows c none=some ac→exec call sh n ac s=some r→eL X nt s a→(∀ v,s.nv≤v→X.ρ v=none)→Post X nt s r Q→c.wp P Q a X.w)∧
  (∀ (c:Code) (ac:AC) (X:Cx) (s:St) (a:Act) (r:AX×St) (Q:Exit→Act→World→Prop),cT P bq nt rows c none=some ac→exec call sh n (.loop ac) s=some r→eL X nt s a→(∀ v,s.nv≤v→X.ρ v=none)→Post X nt s r Q→qk P c Q a X.w):=by
 intro n
 induction n with
 |zero=>exact⟨fun _ _ _ _ _ _ _ _ h=>by simp[exec] at h,fun _ _ _ _ _ _ _ _ h=>by simp[exec] at h⟩
 | succ n ih =>
  obtain⟨Ew,ihB⟩:=ih
  have B:∀ (c:Code) (ac:AC) (X:Cx) (s:St) (a:Act) (r:AX×St) (Q:Exit→Act→World→Prop),cT P bq nt rows c none=some ac→exec call sh (n+1) (.loop ac) s=some r→eL X nt s a→(∀ v,s.nv≤v→X.ρ v=none)→Post X nt s r Q→qk P c Q a X.w:=by
   intro c ac X s a r Q hc hr hs hdom hQ
   simp only[exec] at hr
   refine qk.round ?_
   split at hr
   ·rename_i s' he
    refine Ew c ac X s a (.normal,s') _ hc he hs hdom fun Y a' hx hs' hn hd=>?_
    exact ihB c ac Y s' a' r Q hc hr hs' (ur hdom hn hd) (hQ.trans hx hn hd)
   ·rename_i hne
    refine Ew c ac X s a r _ hc hr hs hdom fun Y a' hx hs' hn hd=>?_
    have:=hQ Y a' hx hs' hn hd
    obtain⟨x,s'⟩:=r
    cases x with
    |normal=>exact absurd hr (hne s')
    |exit id=>exact Cm this
    |ret=>exact this
  refine⟨fun c ac X s a r Q hc hr hs hdom hQ=>?_,B⟩
  cases c with
  |skip=>
   simp only[cT,Option.some.injEq] at hc
   subst hc
   simp only[exec,Option.some.injEq] at hr
   subst hr
   exact wp_skip (hQ.now hs)
  | region id ops draw =>
   simp only[cT] at hc
   have:∃ l dr,ac=.region l dr:=by
    unfold QW at hc
    split at hc
    ·obtain⟨l,_,rfl⟩:=aM hc;exact⟨_,_,rfl⟩
    ·simp only at hc
     split at hc
     ·split at hc
      ·injection hc with hc;exact⟨_,_,hc.symm⟩
      ·cases hc
     ·cases hc
   obtain⟨l,dr,rfl⟩:=this
   simp only[exec] at hr
   obtain⟨s',hr',rfl⟩:=aM hr
   exact Lr hm cE jf hc hr' hs hdom hQ
  | seq x y =>
   simp only[cT] at hc
   split at hc
   ·rename_i ax ay hx hy
    injection hc with hc;subst hc
    simp only[exec] at hr
    refine wp_seq ?_
    split at hr
    ·rename_i s' he
     refine Ew x ax X s a (.normal,s') _ hx he hs hdom fun Y a' hx' hs' hn hd=>?_
     exact Ew y ay Y s' a' r Q hy hr hs' (ur hdom hn hd) (hQ.trans hx' hn hd)
    ·rename_i hne
     refine Ew x ax X s a r _ hx hr hs hdom fun Y a' hx' hs' hn hd=>?_
     have:=hQ Y a' hx' hs' hn hd
     obtain⟨z,s'⟩:=r
     cases z with
     |normal=>exact absurd hr (hne s')
     |exit id=>exact Cm this
     |ret=>exact this
   ·cases hc
  | cond c x y =>
   simp only[cT] at hc
   split at hc
   ·rename_i c' ax ay yY hx hy
    injection hc with hc;subst hc
    simp only[exec] at hr
    have hv:=bw hs yY
    split at hr
    ·rename_i hb
     exact wp_cond_true (l9 hb hv) (Ew x ax X s a r Q hx hr hs hdom hQ)
    ·rename_i hb
     exact wp_cond_false (l9 hb hv) (Ew y ay X s a r Q hy hr hs hdom hQ)
    ·cases hr
   ·cases hc
  | block id c =>
   simp only[cT] at hc
   split at hc
   ·rename_i Vh
    obtain⟨ac',yY,rfl⟩:=aM hc
    simp only[exec] at hr
    refine wp_block ?_
    split at hr
    ·rename_i id' s' he
     split at hr
     ·rename_i hid
      injection hr with hr;subst hr
      refine Ew c ac' X s a (.exit id',s') _ yY he hs hdom fun Y a' hx' hs' hn hd=>?_
      have:=hQ Y a' hx' hs' hn hd
      have hid:=Nat.eq_of_beq_eq_true hid
      subst hid
      simp only
      rw[uq Vh]
      simp only[Exit.inBlock,if_true]
      exact this
     ·rename_i hid
      injection hr with hr;subst hr
      refine Ew c ac' X s a (.exit id',s') _ yY he hs hdom fun Y a' hx' hs' hn hd=>?_
      have:=hQ Y a' hx' hs' hn hd
      simp only[AX.exit'] at this ⊢
      split
      ·rename_i hb
       rw[if_pos hb] at this
       simp only[Exit.inBlock,Nat.ne_of_beq_eq_false hid,if_false]
       exact this
      ·rename_i hb
       rw[if_neg hb] at this
       exact this
    ·rename_i hne
     refine Ew c ac' X s a r _ yY hr hs hdom fun Y a' hx' hs' hn hd=>?_
     have:=hQ Y a' hx' hs' hn hd
     obtain⟨z,s'⟩:=r
     cases z with
     |normal=>exact this
     |exit id=>exact absurd hr (hne id s')
     |ret=>exact this
   ·cases hc
  |loop c=>
   simp only[cT] at hc
   obtain⟨ac',yY,rfl⟩:=aM hc
   exact (B c ac' X s a r Q yY hr hs hdom hQ).wp
  | exit id =>
   simp only[cT] at hc
   split at hc
   ·rename_i Vh
    injection hc with hc;subst hc
    simp only[exec,Option.some.injEq] at hr
    subst hr
    have:=hQ.now hs
    rw[uq Vh] at this
    exact wp_exit this
   ·cases hc
  |goto l=>
   simp only[cT,Option.some.injEq] at hc
   subst hc
   simp only[exec,Option.some.injEq] at hr
   subst hr
   have:=hQ.now hs
   rw[Ci] at this
   exact wp_goto this
  | scope c =>
   simp only[cT] at hc
   split at hc
   ·rename_i l hl
    obtain⟨c0,MQ,h1,h2,h3,h4⟩:=wY Ew c ac l hc
    refine wp_scope_jumps l (fun a w=>∃ k,k≤n∧jt call sh nt Q l MQ k a w) (rounds call sh nt Q l MQ) h1 (h4 (n+1) X s a r Q (Nat.le_refl _) hr hs hdom hQ) fun a w hJ=>?_
    obtain⟨k,hk,hR⟩:=hJ
    exact wp_seq (wp_skip (zQ Ew h2 h3 (Nat.le_trans (Cl hR) hk) (Lt hR)))
   ·cases hc
  |ret=>
   simp only[cT,Option.some.injEq] at hc
   subst hc
   simp only[exec,Option.some.injEq] at hr
   subst hr
   exact wp_ret (hQ.now hs)
  |_=>simp[cT] at hc
end
end Go.bI
