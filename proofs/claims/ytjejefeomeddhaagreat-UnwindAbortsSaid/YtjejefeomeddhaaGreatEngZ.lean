/- A part of the proof: EngW, EngX, EngY, EngZ. -/
import Derived.Test.YtjejefeomeddhaaGreatEngV
import Derived.ScopeJumps
set_option linter.unusedVariables false
set_option linter.unusedSimpArgs false
variable [Go.Eng.Rho]
set_option linter.unusedSectionVars false
namespace Go.Eng
open Go
abbrev Fx:=Nat×Option Nat×Res
def appL (s:St):List Fx→St
  |[]=>s
  |x :: r=>appL (s.app x.2.1 x.2.2) r
theorem appL_append:∀ (l l':List Fx) (s:St),appL s (l++l')=appL (appL s l) l'
  |[],_,_=>rfl
  |_ :: r,l',_=>appL_append r l' _
structure View (α : Type) where
  see:St→α
  touch:Fx→Bool
  good:Fx→Bool:=fun _=>true
  off:∀ (s:St) (x:Fx),touch x=false→see (s.app x.2.1 x.2.2)=see s
  on:∀ (s s':St) (x:Fx),good x=true→see s=see s'→see (s.app x.2.1 x.2.2)=see (s'.app x.2.1 x.2.2)
section
variable {α : Type} (V:View α)
theorem View.congr:∀ (l:List Fx) {s s':St},(∀ x∈l,V.good x=true)→V.see s=V.see s'→V.see (appL s l)=V.see (appL s' l)
  |[],_,_,_,h=>h
  |x :: r,_,_,hg,h=>View.congr r (fun y hy=>hg y (List.mem_cons_of_mem _ hy)) (V.on _ _ x (hg x (List.mem_cons_self ..)) h)
theorem View.filter:∀ (l:List Fx) (s:St),(∀ x∈l,V.good x=true)→V.see (appL s l)=V.see (appL s (l.filter V.touch))
  |[],_,_=>rfl
  | x :: r, s, hg => by
    have hr:∀ y∈r,V.good y=true:=fun y hy=>hg y (List.mem_cons_of_mem _ hy)
    cases h:V.touch x with
    |true=>simp[List.filter_cons,h,if_true,appL];exact View.filter r _ hr
    | false =>
      simp[List.filter_cons,h,appL,Bool.false_eq_true,if_false]
      exact (View.congr V r hr (V.off s x h)).trans (View.filter r s hr)
end
theorem getS_putS (t:Tr AV) (dst:Option Nat) (v:AV) (n:Nat):getS (putS t dst v) n=if dst=some n then v else getS t n:=by
  unfold getS putS
  cases dst with
  |none=>simp
  | some d =>
    simp[Tr.get_set,Option.some.injEq]<;>grind
theorem app_slots (s:St) (d:Option Nat) (r:Res):(s.app d r).slots=putS s.slots d r.val:=by cases r<;>rfl
def slotV (t : Nat) : View AV where
  see s:=getS s.slots t
  touch x:=x.2.1==some t
  off s x h:=by
    rw[app_slots,getS_putS,if_neg (by simpa using h)]
  on s s' x _ h:=by
    rw[app_slots,app_slots,getS_putS,getS_putS,h]
theorem memSet_length (m:List (Tr Ent)) (lv sl:Nat) (e:Option Ent):(memSet m lv sl e).length=m.length:=by simp[memSet]
theorem applyUpd_length:∀ (u:List (Nat×Nat×Option Ent)) (m:List (Tr Ent)),(applyUpd m u).length=m.length
  |[],_=>rfl
  |(lv,sl,e) :: r,m=>(applyUpd_length r _).trans (memSet_length m lv sl e)
def isAll:Res→Bool
  |.eff _=>false
  |.all ..=>true
def whole:Res→Bool
  |.eff _=>false
  |.all _ _ _ _ kp kr=>(kp++kr).isEmpty
def lenV : View Nat where
  see s:=s.mem.length
  touch x:=whole x.2.2
  off s x h := by
    obtain⟨i,d,r⟩:=x
    cases r with
    |eff e=>exact applyUpd_length _ _
    | all v m t n kp kr =>
      refine back_length ?_
      intro q
      simp only[whole,q] at h
      cases h
  on s s' x _ h:=by
    obtain⟨i,d,r⟩:=x
    cases r with
    |eff e=>exact (applyUpd_length _ _).trans (h.trans (applyUpd_length _ _).symm)
    | all v m t n kp kr =>
      show (back s.mem m (kp++kr)).length=(back s'.mem m (kp++kr)).length
      cases kp++kr with
      |nil=>rfl
      |cons k r=>exact (back_length (kp:=k :: r) (by simp)).trans (h.trans (back_length (kp:=k :: r) (by simp)).symm)
def nvV : View Nat where
  see s:=s.nv
  touch x:=isAll x.2.2
  off s x h:=by
    obtain⟨i,d,r⟩:=x
    cases r with
    |eff e=>rfl
    |all=>cases h
  on s s' x _ h:=by
    obtain⟨i,d,r⟩:=x
    cases r with
    |eff e=>exact h
    |all=>rfl
theorem applyUpd_get {lv sl:Nat} : ∀ (u:List (Nat×Nat×Option Ent)) (m m':List (Tr Ent)),memGet m lv sl=memGet m' lv sl→m.length=m'.length→memGet (applyUpd m u) lv sl=memGet (applyUpd m' u) lv sl
  |[],_,_,h,_=>h
  |(a,b,e) :: r,m,m',h,hl=>applyUpd_get r _ _ (by rw[memGet_set,memGet_set,h,hl]) (by grind[memGet,memSet])
theorem applyUpd_off {lv sl:Nat} : ∀ (u:List (Nat×Nat×Option Ent)) (m:List (Tr Ent)),keyE lv sl ∉ u.map (fun u=>keyE u.1 u.2.1)→memGet (applyUpd m u) lv sl=memGet m lv sl
  |[],_,_=>rfl
  | (a, b, e) :: r, m, h => by
    simp only[List.map_cons,List.mem_cons,not_or] at h
    rw[applyUpd,applyUpd_off r _ h.2,memGet_set,if_neg]<;>grind
theorem applyTip_get {v:Nat} : ∀ (u:List (Nat×Bool)) (m m':Tr Unit),m.get? v=m'.get? v→(applyTip m u).get? v=(applyTip m' u).get? v
  |[],_,_,h=>h
  |(a,b) :: r,m,m',h=>applyTip_get r _ _ (by rw[Tr.get_set,Tr.get_set,h])
theorem applyTip_off {v:Nat} : ∀ (u:List (Nat×Bool)) (m:Tr Unit),keyT v ∉ u.map (fun u=>keyT u.1)→(applyTip m u).get? v=m.get? v
  |[],_,_=>rfl
  | (a, b) :: r, m, h => by
    simp only[List.map_cons,List.mem_cons,not_or] at h
    rw[applyTip,applyTip_off r _ h.2,Tr.get_set,if_neg]<;>grind
def InK (kp:List (Nat×Nat)) (k:Nat×Nat×Nat):Prop:=∃ p∈kp,k=keyE p.1 p.2
theorem InK.mem {kp:List (Nat×Nat)} {lv sl:Nat} (h:InK kp (keyE lv sl)):(lv,sl)∈kp:=by
  grind[keyE,InK]
def inK (kp:List (Nat×Nat)) (k:Nat×Nat×Nat):Bool:=kp.any fun p=>k==keyE p.1 p.2
theorem inK_iff {kp:List (Nat×Nat)} {k:Nat×Nat×Nat} : inK kp k=true↔InK kp k:=by
  grind[InK,inK]
def touchE (k:Nat×Nat×Nat):Res→Bool
  |.eff e=>decide (k∈e.wr)
  |.all _ _ _ _ kp kr=>!inK (kp++kr) k
def entV (lv sl : Nat) : View (Option Ent × Nat) where
  see s:=(memGet s.mem lv sl,s.mem.length)
  touch x:=touchE (keyE lv sl) x.2.2
  off s x h := by
    obtain⟨i,d,r⟩:=x
    cases r with
    | eff e =>
      simp only[touchE,Eff.wr,List.mem_append,not_or,decide_eq_false_iff_not] at h
      simp only[St.app,applyUpd_length,applyUpd_off _ _ h.1]
    | all v m t n kp kr =>
      simp only[touchE,Bool.not_eq_false'] at h
      have hk:=(inK_iff.1 h).mem
      have hne:kp++kr≠[]:=by intro q;rw[q] at hk;cases hk
      simp only[St.app,back_length hne,memGet_back,if_neg hne,if_pos hk]
  on s s' x _ h:=by
    obtain⟨i,d,r⟩:=x
    simp only[Prod.mk.injEq] at h
    cases r with
    |eff e=>simp only[St.app,applyUpd_length,applyUpd_get _ _ _ h.1 h.2,h.2]
    | all v m t n kp kr =>
      simp only[St.app]
      cases kp++kr with
      |nil=>rfl
      | cons k r =>
        have hne:k :: r≠[]:=by simp
        simp only[back_length hne,memGet_back,if_neg hne,h.1,h.2]
def tipV (v : Nat) : View (Option Unit) where
  see s:=s.tips.get? v
  touch x:=touchE (keyT v) x.2.2
  off s x h := by
    obtain⟨i,d,r⟩:=x
    cases r with
    | eff e =>
      simp only[touchE,Eff.wr,List.mem_append,not_or,decide_eq_false_iff_not] at h
      exact applyTip_off _ _ h.2
    | all v' m t n kp kr =>
      simp only[touchE,Bool.not_eq_false'] at h
      obtain⟨p,_,hp⟩:=inK_iff.1 h
      exact (keyE_ne_keyT hp.symm).elim
  on s s' x _ h:=by
    obtain⟨i,d,r⟩:=x
    cases r with
    |eff e=>exact applyTip_get _ _ _ h
    |all=>rfl
def Clear:Res→Res→Prop
  |.eff a,.eff b=>(∀ k∈a.rd,k ∉ b.wr)∧(∀ k∈a.wr,k ∉ b.rd)∧∀ k∈a.wr,k ∉ b.wr
  |.all _ _ _ _ kp kr,.eff b=>(∀ k∈b.rd,InK (kp++kr) k)∧∀ k∈b.wr,InK kp k
  |.eff a,.all _ _ _ _ kp kr=>(∀ k∈a.rd,InK (kp++kr) k)∧∀ k∈a.wr,InK kp k
  |.all ..,.all ..=>False
theorem Clear.symm {a b:Res} (h:Clear a b):Clear b a:=by
  cases a<;>cases b<;>grind[Clear]
theorem within_spec {kp kr:List (Nat×Nat)} {e:Eff} (h:within kp kr e=true):(∀ k∈e.rd,InK (kp++kr) k)∧∀ k∈e.wr,InK kp k:=by
  grind[within,Eff.wr,InK]
theorem InK.left {kp kr:List (Nat×Nat)} {k:Nat×Nat×Nat} (h:InK kp k):InK (kp++kr) k:=by
  obtain⟨p,hp,he⟩:=h<;>grind[InK]
theorem clash_spec {a b:Res} (h:clash a b=false):Clear a b:=by
  cases a<;>cases b
  · simp [clash, Bool.or_eq_false_iff] at h
    grind[Eff.wr,meets,Clear]
  · simp [clash, Bool.not_eq_false'] at h
    exact within_spec h
  · simp [clash, Bool.not_eq_false'] at h
    exact within_spec h
  · cases h
theorem loud_key {e:Eff} (h:loud (.eff e)=true):∃ k,k∈e.rd++e.wr:=by
  simp only[loud,Bool.not_eq_true',Bool.and_eq_false_iff] at h
  rcases h with (h|h)|h
  · cases hr : e.rd with
    |nil=>grind
    |cons k r=>simp_all
  · cases hr : e.upd with
    |nil=>grind
    |cons k r=>exact⟨keyE k.1 k.2.1,by simp[Eff.wr,hr]⟩
  · cases hr : e.tip with
    |nil=>grind
    |cons k r=>exact⟨keyT k.1,by simp[Eff.wr,hr]⟩
theorem Clear.whole {a b : Res} (h : Clear a b) (ha : whole a = true) (hb : loud b = true) : False := by
  cases a with
  |eff=>cases ha
  | all v m t n kp kr =>
    have ha:kp++kr=[]:=List.isEmpty_iff.1 ha
    cases b with
    |all=>exact h
    | eff e =>
      obtain⟨k,hk⟩:=loud_key hb
      have:InK (kp++kr) k:=by
        rcases List.mem_append.1 hk with hk|hk
        · exact h.1 k hk
        · exact (h.2 k hk).left
      rw[ha] at this
      obtain⟨p,hp,_⟩:=this
      cases hp
theorem Clear.alls {a b:Res} (h:Clear a b) (ha:isAll a=true) (hb:isAll b=true):False:=by
  cases a with
  |eff=>cases ha
  | all => cases b with
    |eff=>cases hb
    |all=>exact h
theorem Clear.touch {a b:Res} (h:Clear a b) {k:Nat×Nat×Nat} (ha:touchE k a=true) (hb:touchE k b=true):False:=by
  cases a<;>cases b
  · grind[Clear,touchE]
  · simp [touchE, decide_eq_true_eq, Bool.not_eq_true'] at ha hb
    exact Bool.noConfusion (hb.symm.trans (inK_iff.2 (h.2 k ha).left))
  · simp [touchE, decide_eq_true_eq, Bool.not_eq_true'] at ha hb
    exact Bool.noConfusion (ha.symm.trans (inK_iff.2 (h.2 k hb).left))
  · exact h
theorem Tr.set_set {α : Type} : ∀ (f g : Nat) (t : Tr α) (n : Nat) (x y : Option α), n < f → n < g → Tr.setF f (Tr.setF g t n x) n y = Tr.setF f t n y
  |0,_,_,_,_,_,h,_=>by omega
  |_+1,0,_,_,_,_,_,h=>by omega
  | f + 1, g + 1, t, n, x, y, hf, hg => by
    cases h0:Nat.beq n 0 with
    |true=>simp[Tr.setF,h0,Tr.left,Tr.right]
    | false =>
      have hn:n≠0:=by rintro rfl;cases h0
      cases h1:Nat.beq (n % 2) 1 with
      | true =>
        simp[Tr.setF,h0,h1,Tr.top,Tr.left,Tr.right]
        rw[Tr.set_set f g _ _ _ _ (by omega) (by omega)]
      | false =>
        simp[Tr.setF,h0,h1,Tr.top,Tr.left,Tr.right]
        rw[Tr.set_set f g _ _ _ _ (by omega) (by omega)]
theorem Tr.set_comm {α : Type} : ∀ (f g:Nat) (t:Tr α) (n m:Nat) (x y:Option α),n<f→m<g→n≠m→Tr.setF f (Tr.setF g t m y) n x=Tr.setF g (Tr.setF f t n x) m y
  |0,_,_,_,_,_,_,h,_,_=>by omega
  |_+1,0,_,_,_,_,_,_,h,_=>by omega
  | f + 1, g + 1, t, n, m, x, y, hf, hg, hne => by
    have b:∀ k,Nat.beq k 0=true→k=0:=fun k h=>Nat.eq_of_beq_eq_true h
    have c:∀ k,Nat.beq k 0=false→k≠0:=fun k h=>by rintro rfl;cases h
    have d:∀ k,Nat.beq (k % 2) 1=true→k % 2=1:=fun k h=>Nat.eq_of_beq_eq_true h
    have e:∀ k,Nat.beq (k % 2) 1=false→k % 2≠1:=fun k h q=>by rw[q] at h;cases h
    simp[Tr.setF]
    cases hn:Nat.beq n 0<;>cases hm:Nat.beq m 0<;>cases hn1:Nat.beq (n % 2) 1<;>cases hm1:Nat.beq (m % 2) 1<;>simp only[Tr.top,Tr.left,Tr.right]
    all_goals first
      |rfl
      |(exfalso;have:=b _ hn;have:=b _ hm;omega)
      | (have h1 := c _ hn; have h2 := c _ hm
         first
         |(have h3:=d _ hn1;have h4:=d _ hm1;rw[Tr.set_comm f g _ _ _ _ _ (by omega) (by omega) (by omega)])
         |(have h3:=e _ hn1;have h4:=e _ hm1;rw[Tr.set_comm f g _ _ _ _ _ (by omega) (by omega) (by omega)])
         |rfl)
theorem memSet_same (m:List (Tr Ent)) (lv sl:Nat) (x y:Option Ent):memSet (memSet m lv sl x) lv sl y=memSet m lv sl y:=by
  unfold memSet
  rw[List.modify_modify_eq]
  congr 1
  funext t
  exact Tr.set_set _ _ _ _ _ _ (by omega) (by omega)
theorem memSet_comm (m:List (Tr Ent)) {lv sl lv' sl':Nat} (x y:Option Ent) (h:(lv,sl)≠(lv',sl')):memSet (memSet m lv sl x) lv' sl' y=memSet (memSet m lv' sl' y) lv sl x:=by
  unfold memSet
  by_cases hl:lv=lv'
  · subst hl
    rw[List.modify_modify_eq,List.modify_modify_eq]
    congr 1
    funext t
    exact Tr.set_comm _ _ _ _ _ _ _ (by omega) (by omega) (fun q=>h (by rw[q]))
  · exact List.modify_modify_ne _ _ _ hl
theorem hide_set : ∀ (kp : List (Nat × Nat)) (m : List (Tr Ent)) (lv sl : Nat) (e : Option Ent), hide (memSet m lv sl e) kp = if (lv, sl) ∈ kp then hide m kp else memSet (hide m kp) lv sl e
  |[],m,lv,sl,e=>by simp[hide,applyUpd]
  | (a, b) :: r, m, lv, sl, e => by
    show hide (memSet (memSet m lv sl e) a b none) r=_
    by_cases hab:(lv,sl)=(a,b)
    · cases hab
      rw[if_pos (List.mem_cons_self ..),memSet_same]
      rfl
    · rw [memSet_comm m e none hab, hide_set r]
      by_cases hr:(lv,sl)∈r
      · rw[if_pos hr,if_pos (List.mem_cons_of_mem _ hr)];rfl
      · rw [if_neg hr, if_neg]
        · rfl
        grind
theorem hide_upd_in {kp:List (Nat×Nat)} : ∀ (u:List (Nat×Nat×Option Ent)) (m:List (Tr Ent)),(∀ x∈u,(x.1,x.2.1)∈kp)→hide (applyUpd m u) kp=hide m kp
  |[],_,_=>rfl
  | (a, b, e) :: r, m, h => by
    rw[applyUpd,hide_upd_in r _ fun x hx=>h x (List.mem_cons_of_mem _ hx),hide_set,if_pos (h _ (List.mem_cons_self ..))]
theorem hide_upd {kp:List (Nat×Nat)} : ∀ (u:List (Nat×Nat×Option Ent)) {m m':List (Tr Ent)},hide m kp=hide m' kp→hide (applyUpd m u) kp=hide (applyUpd m' u) kp
  |[],_,_,h=>h
  | (a, b, e) :: r, m, m', h => by
    refine hide_upd r ?_
    rw[hide_set,hide_set,h]
theorem hide_fit {old old' m:List (Tr Ent)} (h:old.length=old'.length):fit old m=fit old' m:=by
  unfold fit;rw[h]
theorem hide_back {m m':List (Tr Ent)} {kp:List (Nat×Nat)} (h:hide m kp=hide m' kp):∀ (l:List (Nat×Nat)) {F F':List (Tr Ent)},hide F kp=hide F' kp→hide (applyUpd F (l.map fun k=>(k.1,k.2,memGet m k.1 k.2))) kp=hide (applyUpd F' (l.map fun k=>(k.1,k.2,memGet m' k.1 k.2))) kp
  |[],_,_,hF=>hF
  | (a, b) :: r, F, F', hF => by
    refine hide_back h r ?_
    rw[hide_set,hide_set]
    by_cases hk:(a,b)∈kp
    · grind
    · rw [if_neg hk, if_neg hk, hF]
      have e1:=memGet_hide m kp a b
      have e2:=memGet_hide m' kp a b<;>grind
def hidV (kp : List (Nat × Nat)) : View (List (Tr Ent) × Tr Unit × Nat) where
  see s:=(hide s.mem kp,s.tips,s.nv)
  touch x:=match x.2.2 with
    |.eff e=>!(e.upd.all (fun u=>decide ((u.1,u.2.1)∈kp))&&e.tip.isEmpty)
    |.all ..=>true
  off s x h := by
    obtain⟨i,d,r⟩:=x
    cases r with
    | eff e =>
      simp only[Bool.not_eq_false',Bool.and_eq_true,List.isEmpty_iff] at h
      simp only[St.app,h.2]
      rw[hide_upd_in e.upd s.mem fun u hu=>by simpa using List.all_eq_true.1 h.1 u hu]
      rfl
    |all=>cases h
  on s s' x _ h := by
    obtain⟨i,d,r⟩:=x
    simp only[Prod.mk.injEq] at h
    cases r with
    |eff e=>simp only[St.app,h.2.1,h.2.2,hide_upd e.upd h.1]
    | all v m t n kp' kr' =>
      have hl:=hide_len h.1
      have:hide (back s.mem m (kp'++kr')) kp=hide (back s'.mem m (kp'++kr')) kp:=by
        cases kp'++kr' with
        |nil=>rfl
        | cons k r =>
          unfold back
          rw[hide_fit hl]
          exact hide_back h.1 (k :: r) rfl
      simp only[St.app,this]
theorem hasNat_iff {l:List Nat} {n:Nat} : hasNat l n=true↔n∈l:=by
  simp_all[hasNat]
structure Off (x y:AOper):Prop where
  xy:∀ t,x.dst=some t→t ∉ y.looks
  yx:∀ t,y.dst=some t→t ∉ x.looks
  ne:∀ t,x.dst=some t→y.dst≠some t
theorem Off.symm {x y:AOper} (h:Off x y):Off y x:=⟨h.yx,h.xy,fun t h1 h2=>h.ne t h2 h1⟩
theorem apart_spec {x y:AOper} (h:x.apart y=true):Off x y:=by
  simp[AOper.apart,Bool.and_eq_true] at h
  refine⟨fun t ht hm=>?_,fun t ht hm=>?_,fun t ht h'=>?_⟩
  · have:=h.1.1;simp[dstOff,ht,hasNat_iff.2 hm] at this
  · have:=h.1.2;simp[dstOff,ht,hasNat_iff.2 hm] at this
  simp_all[dstsOff,dstOff]
theorem step_local {call:Call} {sh:Nat→Bool} {s s':St} {o:AOper} {nvi:Nat} {r:Res} (h:o.step call sh s nvi=some r) (hs:∀ t∈o.looks,getS s'.slots t=getS s.slots t) (hn:Near s s' r):o.step call sh s' nvi=some r:=by
  have hw:wantedA s'.slots o=wantedA s.slots o:=by
    unfold wantedA
    split<;>simp_all[Near,AOper.looks,AOper.step,Call,getS]
  unfold AOper.step at h ⊢
  rw[hw]
  split at h
  · cases h
  · refine run_local h (fun x hx => ?_) hn
    cases x with
    |t n=>exact hs n (by simp only[AOper.looks,List.mem_append,List.mem_flatMap];exact .inl ⟨_,hx,by simp[Opd.slot]⟩)
    |c v=>rfl
  omega
end Go.Eng
set_option linter.unusedSectionVars false
namespace Go.Eng
open Go
structure Ran (call:Call) (sh:Nat→Bool) (nv0:Nat) (all:List AOper) (s0:St) (L:List Fx):Prop where
  lt:L.Pairwise fun x y=>x.1<y.1
  dom:∀ i,i<all.length↔∃ x∈L,x.1=i
  step:∀ pre x post,L=pre++x :: post→∃ o,all[x.1]?=some o∧x.2.1=o.dst∧o.step call sh (appL s0 pre) (nv0+x.1)=some x.2.2
  meet:∀ x y,x∈L→y∈L→x.1<y.1→∀ o,all[y.1]?=some o→o.bef.testBit x.1=true∨Clear x.2.2 y.2.2
theorem clear_spec {bef:Nat} {e:Res} : ∀ {past:List (Nat×Res)},clear bef e past=true→∀ y∈past,bef.testBit y.1=true∨Clear y.2 e
  |[],_,y,hy=>by cases hy
  | (i, x) :: r, h, y, hy => by
    simp[clear,Bool.and_eq_true,Bool.or_eq_true,Bool.not_eq_true'] at h
    rcases List.mem_cons.1 hy with rfl|hy
    · exact h.1.imp id clash_spec
    · exact clear_spec h.2 y hy
theorem runAny_trace {call : Call} {sh : Nat → Bool} {nv0 : Nat} {all : List AOper} : ∀ (ops : List AOper) (i : Nat) (past : List (Nat × Res)) (s s' : St), (∀ k, ops[k]? = all[i + k]?) → runAny call sh nv0 i ops past s = some s' →
    ∃ L : List Fx, s' = appL s L ∧ L.map (·.1) = List.range' i ops.length ∧
      (∀ pre x post,L=pre++x :: post→∃ o,all[x.1]?=some o∧x.2.1=o.dst∧o.step call sh (appL s pre) (nv0+x.1)=some x.2.2∧(∀ y∈pre,o.bef.testBit y.1=true∨Clear y.2.2 x.2.2)∧∀ y∈past,o.bef.testBit y.1=true∨Clear y.2 x.2.2)
  | [], i, past, s, s', _, h => by
    simp[runAny,Option.some.injEq] at h
    exact⟨[],h.symm,rfl,fun pre x post h=>by simp at h⟩
  | o :: r, i, past, s, s', hall, h => by
    simp[runAny] at h
    split at h
    · cases h
    · rename_i e he
      split at h
      · rename_i hc
        obtain⟨L,h1,h2,h3⟩:=runAny_trace r (i+1) ((i,e) :: past) _ _ (fun k=>by have:=hall (k+1);rw[List.getElem?_cons_succ] at this;rw[this];congr 1;omega) h
        refine⟨(i,o.dst,e) :: L,h1,by simp[h2,List.range'_succ],fun pre x post hp=>?_⟩
        cases pre with
        | nil =>
          cases hp
          exact⟨o,by have:=hall 0;simpa using this.symm,rfl,he,⟨fun y hy=>absurd hy List.not_mem_nil,fun y hy=>clear_spec hc y hy⟩⟩
        | cons p pre =>
          simp at hp
          obtain⟨rfl,hp⟩:=hp
          obtain⟨o',g1,g2,g3,g4,g5⟩:=h3 pre x post hp
          refine⟨o',g1,g2,g3,fun y hy=>?_,fun y hy=>g5 y (List.mem_cons_of_mem _ hy)⟩
          rcases List.mem_cons.1 hy with rfl|hy
          · exact g5 _ (List.mem_cons_self ..)
          · exact g4 y hy
      · cases h
theorem Ran.of_run {call : Call} {sh : Nat → Bool} {nv0 : Nat} {all : List AOper} {s s' : St} (h : runAny call sh nv0 0 all [] s = some s') : ∃ L, s' = appL s L ∧ Ran call sh nv0 all s L := by
  obtain⟨L,h1,h2,h3⟩:=runAny_trace (all:=all) all 0 [] s s' (fun k=>by simp) h
  refine⟨L,h1,?_,fun i=>?_,fun pre x post hp=>?_,fun x y hx hy hlt o ho=>?_⟩
  · have : (L.map (·.1)).Pairwise (· < ·) := by rw [h2]; exact List.pairwise_lt_range'
    exact List.pairwise_map.1 this
  · have : i ∈ L.map (·.1) ↔ i < all.length := by rw [h2, List.mem_range'_1]; omega
    rw[←this,List.mem_map]
  · obtain ⟨o, g1, g2, g3, _⟩ := h3 pre x post hp
    exact⟨o,g1,g2,g3⟩
  · obtain ⟨pre, post, rfl⟩ := List.append_of_mem hy
    obtain⟨o',g1,g2,g3,g4,_⟩:=h3 pre y post rfl
    rw[ho] at g1;cases g1
    refine g4 x ?_
    have hL:(pre++y :: post).Pairwise fun x y:Fx=>x.1<y.1:=by
      have:((pre++y :: post).map (·.1)).Pairwise (· < ·):=by rw[h2];exact List.pairwise_lt_range'
      exact List.pairwise_map.1 this
    rcases List.mem_append.1 hx with hx|hx
    · exact hx
    · rcases List.mem_cons.1 hx with rfl | hx
      · omega
      · have := (List.pairwise_cons.1 (List.pairwise_append.1 hL).2.1).1 x hx
        omega
theorem apartTo_spec {y:AOper} : ∀ {past:List AOper} {i:Nat},apartTo y i past=true→∀ k x,past[k]?=some x→y.bef.testBit (i+k)=true∨Off x y
  |[],_,_,k,x,hx=>by grind
  | p :: r, i, h, k, x, hx => by
    simp[apartTo,Bool.and_eq_true,Bool.or_eq_true] at h
    cases k with
    | zero =>
      cases hx
      exact h.1.imp id apart_spec
    | succ k =>
      have:=apartTo_spec h.2 k x (by simpa using hx)
      rwa[show i+(k+1)=i+1+k by omega]
theorem apartAll_spec:∀ {l past:List AOper},apartAll past l=true→∀ i j x y,(past++l)[i]?=some x→(past++l)[j]?=some y→i<j→past.length≤j→y.bef.testBit i=true∨Off x y
  | [], past, _, i, j, x, y, _, hy, _, hj => by
    grind
  | o :: r, past, h, i, j, x, y, hx, hy, hij, hj => by
    simp[apartAll,Bool.and_eq_true] at h
    rcases Nat.lt_or_ge past.length j with hl|hl
    · have e : past ++ o :: r = past ++ [o] ++ r := by simp
      rw[e] at hx hy
      exact apartAll_spec h.2 i j x y hx hy hij (by simp;omega)
    · have : j = past.length := by omega
      subst this
      rw[List.getElem?_append_left hij] at hx
      have:=apartTo_spec h.1 i x hx<;>grind
section
variable {call:Call} {sh:Nat→Bool} {nv0:Nat} {all:List AOper} {s0:St} {L:List Fx}
def stP (s0:St) (L:List Fx) (p:Nat→Bool):St:=appL s0 (L.filter fun x=>p x.1)
def Closed (all:List AOper) (p:Nat→Bool):Prop:=∀ j o,all[j]?=some o→p j=true→∀ k,k<j→o.bef.testBit k=true→p k=true
theorem Ran.split (h:Ran call sh nv0 all s0 L) {i:Nat} (hi:i<all.length):∃ pre x post,L=pre++x :: post∧x.1=i∧(∀ y∈pre,y.1<i)∧∀ y∈post,i<y.1:=by
  obtain⟨x,hx,rfl⟩:=(h.dom i).1 hi
  obtain⟨pre,post,rfl⟩:=List.append_of_mem hx
  refine⟨pre,x,post,rfl,rfl,fun y hy=>?_,fun y hy=>?_⟩
  · exact (List.pairwise_append.1 h.lt).2.2 y hy x (List.mem_cons_self ..)
  · exact (List.pairwise_cons.1 (List.pairwise_append.1 h.lt).2.1).1 y hy
def Bound (all:List AOper) (i:Nat) (y:Fx):Prop:=
  (y.1<i→∀ o,all[i]?=some o→o.bef.testBit y.1=true)∧(i<y.1→∀ o,all[y.1]?=some o→o.bef.testBit i=true)
theorem part {α : Type} (V:View α) {pre post:List Fx} {x:Fx} {p:Nat→Bool} (hg:∀ y∈pre++x :: post,V.good y=true) (hpre:∀ y∈pre,V.touch y=true→p y.1=true) (hpost:∀ y∈post,V.touch y=true→p y.1=false) (hx:p x.1=false) (s:St) :
    V.see (appL s ((pre++x :: post).filter fun x=>p x.1))=V.see (appL s pre):=by
  rw[V.filter _ _ fun y hy=>hg y ((List.mem_filter.1 hy).1),V.filter pre _ fun y hy=>hg y (List.mem_append_left _ hy),List.filter_filter,List.filter_append,List.filter_cons]
  have e1:post.filter (fun a=>V.touch a&&p a.1)=[]:=by
    refine List.filter_eq_nil_iff.2 fun y hy hb=>?_<;>grind
  have e2:pre.filter (fun a=>V.touch a&&p a.1)=pre.filter V.touch:=by
    refine List.filter_congr fun y hy=>?_<;>grind
  grind
theorem see_before {α : Type} (V:View α) {p:Nat→Bool} (hc:Closed all p) {pre post:List Fx} {x:Fx} (hg:∀ y∈pre++x :: post,V.good y=true) (hpre:∀ y∈pre,y.1<x.1) (hpost:∀ y∈post,x.1<y.1) (hi:p x.1=false) {o:AOper} (ho:all[x.1]?=some o)
    (hb:∀ k,k<x.1→o.bef.testBit k=true→p k=true) (hdom:∀ y∈post,∃ o',all[y.1]?=some o') (hV:∀ y∈pre++post,V.touch y=true→Bound all x.1 y) (s:St) :
    V.see (stP s (pre++x :: post) p)=V.see (appL s pre):=by
  refine part V hg (fun y hy ht=>?_) (fun y hy ht=>?_) hi s
  · exact hb _ (hpre y hy) ((hV y (List.mem_append_left _ hy) ht).1 (hpre y hy) o ho)
  · obtain ⟨o', ho'⟩ := hdom y hy
    cases hp:p y.1 with
    |false=>rfl
    | true =>
      have:=hc _ _ ho' hp _ (hpost y hy) ((hV y (List.mem_append_right _ hy) ht).2 (hpost y hy) o' ho')<;>grind
theorem part2 {α : Type} (V:View α) {pre post:List Fx} {x:Fx} {p:Nat→Bool} (hg:∀ y∈pre++x :: post,V.good y=true) (hpre:∀ y∈pre,V.touch y=true→p y.1=true) (hpost:∀ y∈post,V.touch y=true→p y.1=false) (hx:p x.1=true) (s:St) :
    V.see (appL s ((pre++x :: post).filter fun x=>p x.1))=V.see ((appL s pre).app x.2.1 x.2.2):=by
  have e0:(appL s pre).app x.2.1 x.2.2=appL s (pre++[x]):=by rw[appL_append];rfl
  rw[e0,V.filter _ _ fun y hy=>hg y ((List.mem_filter.1 hy).1),V.filter (pre++[x]) _ fun y hy=>hg y (by rcases List.mem_append.1 hy with hy|hy<;>simp_all),List.filter_filter,List.filter_append]
  have e1:(x :: post).filter (fun a=>V.touch a&&p a.1)=[x].filter V.touch:=by
    have e1:post.filter (fun a=>V.touch a&&p a.1)=[]:=by
      refine List.filter_eq_nil_iff.2 fun y hy hb=>?_<;>grind
    grind
  have e2:pre.filter (fun a=>V.touch a&&p a.1)=pre.filter V.touch:=by
    refine List.filter_congr fun y hy=>?_<;>grind
  grind
theorem Ran.pair (h:Ran call sh nv0 all s0 L) (hap:apartAll [] all=true) {x y:Fx} (hx:x∈L) (hy:y∈L) (hne:y.1≠x.1) {o oy:AOper} (ho:all[x.1]?=some o) (hoy:all[y.1]?=some oy) :
    Bound all x.1 y∨(Off oy o∧Clear y.2.2 x.2.2):=by
  have key:=fun i j a b (ha:all[i]?=some a) (hb:all[j]?=some b) (hij:i<j)=>apartAll_spec (past:=[]) hap i j a b (by simpa using ha) (by simpa using hb) hij (Nat.zero_le _)
  rcases Nat.lt_or_gt_of_ne hne with hl|hl
  · have b : o.bef.testBit y.1 = true → Bound all x.1 y := fun hb => ⟨fun _ o' ho' => by rw [ho] at ho'; injection ho' with ho'; rw [← ho']; exact hb, fun h => by omega⟩
    rcases h.meet y x hy hx hl o ho with h1|h1<;>grind
  · have b : oy.bef.testBit x.1 = true → Bound all x.1 y := fun hb => ⟨fun h => by omega, fun _ o' ho' => by rw [hoy] at ho'; injection ho' with ho'; rw [← ho']; exact hb⟩
    rcases h.meet x y hx hy hl oy hoy with h1|h1
    · grind
    · rcases key _ _ _ _ ho hoy hl with h2 | h2
      · exact .inl (b h2)
      · exact .inr ⟨h2.symm,h1.symm⟩
theorem Ran.at (h:Ran call sh nv0 all s0 L) {y:Fx} (hy:y∈L):∃ o,all[y.1]?=some o∧y.2.1=o.dst:=by
  obtain⟨pre,post,rfl⟩:=List.append_of_mem hy
  obtain⟨o,h1,h2,_⟩:=h.step pre y post rfl<;>grind
theorem Ran.any (h : Ran call sh nv0 all s0 L) (hap : apartAll [] all = true) {p : Nat → Bool} (hc : Closed all p) {i : Nat} {o : AOper} (ho : all[i]? = some o) (hi : p i = false) (hb : ∀ k, k < i → o.bef.testBit k = true → p k = true) :
    ∃ x∈L,x.1=i∧x.2.1=o.dst∧o.step call sh (stP s0 L p) (nv0+i)=some x.2.2:=by
  obtain⟨pre,x,post,rfl,rfl,h1,h2⟩:=h.split (List.getElem?_eq_some_iff.1 ho).1
  obtain⟨o',g1,g2,g3⟩:=h.step pre x post rfl
  rw[ho] at g1;cases g1
  have hmem:x∈pre++x :: post:=by simp
  refine⟨x,hmem,rfl,g2,?_⟩
  have see:∀ {α : Type} (V:View α),(∀ y∈pre++x :: post,V.good y=true)→(∀ y oy,y∈pre++x :: post→all[y.1]?=some oy→y.2.1=oy.dst→V.touch y=true→Off oy o→Clear y.2.2 x.2.2→False)→V.see (stP s0 (pre++x :: post) p)=V.see (appL s0 pre):=by
    intro α V hg hV
    refine see_before V hc hg h1 h2 hi ho hb (fun y hy=>?_) (fun y hy ht=>?_) s0
    · obtain⟨o',h',_⟩:=h.at (y:=y) (by simp[hy])<;>grind
    · have hy' : y ∈ pre ++ x :: post := by grind
      have hne:y.1≠x.1:=by
        grind
      obtain⟨oy,hoy,hd⟩:=h.at hy'
      rcases h.pair hap hmem hy' hne ho hoy with hh|hh<;>grind
  refine step_local g3 (fun t ht=>?_) ?_
  · refine see (slotV t) (fun _ _ => rfl) fun y oy _ _ hd hty hoff _ => ?_
    simp only[slotV,beq_iff_eq] at hty
    exact hoff.xy t (hd ▸ hty) ht
  · cases hr : x.2.2 with
    | eff e =>
      refine⟨fun hl=>?_,fun k hk=>?_⟩
      · refine see lenV (fun _ _ => rfl) fun y oy _ _ _ hty _ hcl => ?_
        rw[hr] at hcl
        exact hcl.whole hty hl
      · have rd : ∀ {b : Res}, touchE k b = true → Clear b (.eff e) → False := by
          intro b hb hcl
          cases b with
          |eff b=>simp only[touchE,decide_eq_true_eq] at hb;exact hcl.2.1 k hb hk
          | all =>
            simp[touchE,Bool.not_eq_true'] at hb
            have:=inK_iff.2 (hcl.1 k hk)<;>grind
        obtain⟨k0,k1,k2⟩:=k
        unfold keyAt
        by_cases hk0:k0=0
        · subst hk0
          have:=see (entV k1 k2) (fun _ _=>rfl) fun y oy _ _ _ hty _ hcl=>rd (b:=y.2.2) hty (hr ▸ hcl)
          simp only[entV,Prod.mk.injEq] at this<;>grind
        · simp [hk0, if_false]
          by_cases hk1:k0=1∧k2=0
          · obtain ⟨rfl, rfl⟩ := hk1
            have:=see (tipV k1) (fun _ _=>rfl) fun y oy _ _ _ hty _ hcl=>rd (b:=y.2.2) hty (hr ▸ hcl)
            simp only[tipV] at this<;>grind
          grind
    | all v m t n kp kr =>
      have:=see (hidV kp) (fun _ _=>rfl) fun y oy _ _ _ hty _ hcl=>?_
      · simp [hidV, Prod.mk.injEq] at this
        exact this
      · rw [hr] at hcl
        cases hy2:y.2.2 with
        |all=>rw[hy2] at hcl;exact hcl
        | eff e =>
          rw[hy2] at hcl
          simp only[hidV,hy2,Bool.not_eq_true',Bool.and_eq_false_iff] at hty
          rcases hty with hty|hty
          · have : e.upd.all (fun u => decide ((u.1, u.2.1) ∈ kp)) = true := by
              refine List.all_eq_true.2 fun u hu=>?_
              have:=(hcl.2 (keyE u.1 u.2.1) (by simp only[Eff.wr,List.mem_append,List.mem_map];exact .inl ⟨u,hu,rfl⟩)).mem<;>grind
            grind
          · cases ht : e.tip with
            |nil=>grind
            | cons u r =>
              obtain⟨p,_,hp⟩:=hcl.2 (keyT u.1) (by simp[Eff.wr,ht])
              exact keyE_ne_keyT hp.symm
structure St.Same (s s':St):Prop where
  slots:∀ t,getS s.slots t=getS s'.slots t
  mem:∀ lv sl,memGet s.mem lv sl=memGet s'.mem lv sl
  tips:∀ v,s.tips.get? v=s'.tips.get? v
  nv:s.nv=s'.nv
theorem Ran.after (h : Ran call sh nv0 all s0 L) (hap : apartAll [] all = true) {p : Nat → Bool} (hc : Closed all p) {x : Fx} (hx : x ∈ L) {o : AOper} (ho : all[x.1]? = some o) (hd : x.2.1 = o.dst) (hi : p x.1 = false) (hb : ∀ k, k < x.1 → o.bef.testBit k = true → p k = true) :
    St.Same (stP s0 L fun j=>p j||j==x.1) ((stP s0 L p).app x.2.1 x.2.2):=by
  obtain⟨pre,x',post,rfl,hxx,h1,h2⟩:=h.split (List.getElem?_eq_some_iff.1 ho).1
  have hxx':x=x':=by
    grind
  subst hxx'
  have see:∀ {α : Type} (V:View α),(∀ y∈pre++x :: post,V.good y=true)→(V.touch x=true→∀ y oy,all[y.1]?=some oy→y.2.1=oy.dst→V.touch y=true→Off oy o→Clear y.2.2 x.2.2→False)→
      V.see (stP s0 (pre++x :: post) fun j=>p j||j==x.1)=V.see ((stP s0 (pre++x :: post) p).app x.2.1 x.2.2):=by
    intro α V hg hV
    cases ht:V.touch x with
    | false =>
      rw[V.off _ _ ht]
      unfold stP
      rw[V.filter _ _ fun y hy=>hg y ((List.mem_filter.1 hy).1),V.filter (List.filter (fun x=>p x.1) _) _ fun y hy=>hg y ((List.mem_filter.1 hy).1),List.filter_filter,List.filter_filter]
      congr 2
      refine List.filter_congr fun y hy=>?_<;>grind
    | true =>
      have hV:=hV ht
      have bound:∀ y∈pre++post,V.touch y=true→Bound all x.1 y:=by
        intro y hy ht
        have hy':y∈pre++x :: post:=by rcases List.mem_append.1 hy with hy|hy<;>simp[hy]
        have hne:y.1≠x.1:=by
          rcases List.mem_append.1 hy with hy|hy
          · exact Nat.ne_of_lt (h1 y hy)
          · exact (Nat.ne_of_lt (h2 y hy)).symm
        obtain⟨oy,hoy,hd⟩:=h.at hy'
        rcases h.pair hap hx hy' hne ho hoy with hh|hh
        · exact hh
        · exact (hV y oy hoy hd ht hh.1 hh.2).elim
      have hdom:∀ y∈post,∃ o',all[y.1]?=some o':=fun y hy=>by
        obtain⟨o',h',_⟩:=h.at (y:=y) (by simp[hy]);exact⟨o',h'⟩
      rw[V.on _ _ x (hg x hx) (see_before V hc hg h1 h2 hi ho hb hdom bound s0)]
      refine part2 V (p:=fun j=>p j||j==x.1) hg (fun y hy ht=>?_) (fun y hy ht=>?_) (by simp) s0
      · simp[hb _ (h1 y hy) ((bound y (List.mem_append_left _ hy) ht).1 (h1 y hy) o ho)]
      · obtain ⟨o', ho'⟩ := hdom y hy
        have hne:(y.1==x.1)=false:=by simpa using (Nat.ne_of_lt (h2 y hy)).symm
        rw[hne]
        cases hp:p y.1 with
        |false=>rfl
        | true =>
          have:=hc _ _ ho' hp _ (h2 y hy) ((bound y (List.mem_append_right _ hy) ht).2 (h2 y hy) o' ho')
          rw[hi] at this;cases this
  have key:∀ k,touchE k x.2.2=true→∀ (y:Fx),touchE k y.2.2=true→Clear y.2.2 x.2.2→False:=fun k hx y hy hcl=>hcl.touch hy hx
  refine⟨fun t=>see (slotV t) (fun _ _=>rfl) fun hxt y oy _ hdy hty hoff _=>?_,fun lv sl=>?_,fun v=>see (tipV v) (fun _ _=>rfl) fun hxt y _ _ _ hty _ hcl=>key _ hxt y hty hcl,see nvV (fun _ _=>rfl) fun hxt y _ _ _ hty _ hcl=>hcl.alls hty hxt⟩
  · simp only [slotV, beq_iff_eq] at hxt hty
    exact hoff.ne t (hdy ▸ hty) (hd ▸ hxt)
  · have := see (entV lv sl) (fun _ _ => rfl) fun hxt y _ _ _ hty _ hcl => key _ hxt y hty hcl
    simp only[entV,Prod.mk.injEq] at this<;>grind
end
end Go.Eng
set_option linter.unusedSectionVars false
namespace Go.Eng
open Go Go.RowKit
section
variable {P:Program} {X:Cx} {nt:NT} {s:St} {a:Act} {nvi:Nat} {call:Go.Eng.Call} {sh:Nat→Bool} {lib:Nat→Option TypeId}
theorem Sim.put {Y:Cx} {dst:Option Nat} {r:Res} {v:Value} (hs:Sim X nt s a) (hx:Ext X Y) (hv:VR Y r.val v) (hm:MemOK Y (s.app dst r).mem (s.app dst r).tips) (hlt:dst.getD 0<nt):Sim Y nt (s.app dst r) (a.put dst v):=by
  cases dst with
  | none =>
    refine⟨fun t=>?_,hs.size,hs.defers,hm⟩
    rw[app_slots]
    exact (hs.slots t).ext hx
  | some d =>
    simp at hlt
    refine⟨fun t=>?_,by simp[Act.put,hs.size],hs.defers,hm⟩
    rw[app_slots,getS_putS]
    simp only[Option.some.injEq]
    by_cases h:d=t
    · subst h
      have:((a.put (some d) v).tmps.getD d undef)=v:=by simp[Act.put,hs.size,hlt]
      grind
    · rw [if_neg h]
      have:((a.put (some d) v).tmps.getD t undef)=a.tmps.getD t undef:=by simp[Act.put,Array.getElem?_setIfInBounds_ne h]
      rw[this];exact (hs.slots t).ext hx
theorem wanted_ok (hs : Sim X nt s a) {ops : Array Oper} {o : Oper} {ao : AOper} (hgd : gdP ops o.guard = some ao.gd) {b : Bool} (hw : wantedA s.slots ao = some b) : Region.wanted o (yielded ops a.tmps) = b := by
  unfold wantedA at hw
  unfold Region.wanted
  cases hg:o.guard with
  | none =>
    grind[getS,gdP]
  | some jb =>
    obtain⟨j,w⟩:=jb
    rw[hg] at hgd
    obtain⟨d,hd,hgd⟩:=opt_map hgd
    rw[←hgd] at hw
    simp at hw ⊢
    have hv:=hs.slots d
    have hy:yielded ops a.tmps j=match a.tmps[d]? with|some (.bool b)=>some b|_=>none:=by
      unfold yielded<;>grind
    rw[hy]
    split at hw
    · rename_i t ht
      rw[ht] at hv
      have hv:=VR.sc hv
      cases h:a.tmps[d]? with
      |none=>rw[Array.getD_eq_getD_getElem?,h] at hv;cases hv
      | some v =>
        simp_all
    · rename_i vs ht
      rw[ht] at hv
      obtain⟨us,hu,_⟩:=hv
      cases hw
      cases h:a.tmps[d]? with
      |none=>rfl
      | some v =>
        simp_all
    grind
theorem step_ok (hcall:CallOK P call) (hlib:∀ f T,lib f=some T→IsLib P f T) (hs:Sim X nt s a) (hfr:X.ρ nvi=none) (hnv:nvi<s.nv) (hdom:∀ v,s.nv≤v→X.ρ v=none) {ops:Array Oper} {i:Nat} {o:Oper} (hoi:ops[i]?=some o)
    {ao:AOper} (hop:opP P lib o.op=some ao.op) (hd:ao.dst=o.dst) (hgd:gdP ops o.guard=some ao.gd) (hlt:ao.dst.getD 0<nt) {r:Res} (hr:ao.step call sh s nvi=some r) {K:Act→World→Prop} {Q:Exit→Act→World→Prop}
    (hK:∀ Y a',Ext X Y→Sim Y nt (s.app ao.dst r) a'→DomOK X Y nvi s.nv (s.app ao.dst r).nv→K a' Y.w):wpOp P ops Q i K a X.w:=by
  unfold wpOp
  simp[hoi]
  unfold AOper.step at hr
  split at hr
  · cases hr
  · rename_i hw
    rw[wanted_ok hs hgd hw]
    refine .inl (opP_ok (dst:=ao.dst) hcall hlib hs hfr hnv hdom hop hr K Q fun Y v hx hv hm hdm=>?_)
    rw[←hd]
    exact hK Y _ hx (hs.put hx hv hm hlt) hdm
  · rename_i hw
    rw[wanted_ok hs hgd hw]
    cases hr
    rw[←hd]
    exact hK X _ (Ext.refl X) (hs.put (Ext.refl X) undef_ok hs.mem hlt) (DomOK.refl _ _ _)
structure OpsRel (P:Program) (lib:Nat→Option TypeId) (nt:Nat) (ops:Array Oper) (all:List AOper):Prop where
  len:all.length=ops.size
  at_:∀ (i:Nat) (ao:AOper),all[i]?=some ao→∃ o:Oper,ops[i]?=some o∧opP P lib o.op=some ao.op∧ao.dst=o.dst∧gdP ops o.guard=some ao.gd∧ao.dst.getD 0<nt
theorem opersP_spec {rows : List (Nat × Nat)} {ops : Array Oper} : ∀ {l : List (Oper × Nat)} {aSz : List AOper}, opersP P lib nt rows ops l = some aSz →
    aSz.length=l.length∧∀ (i:Nat) (ao:AOper),aSz[i]?=some ao→∃ (o:Oper) (b:Nat),l[i]?=some (o,b)∧ao.bef=b∧opP P lib o.op=some ao.op∧ao.dst=o.dst∧gdP ops o.guard=some ao.gd∧ao.dst.getD 0<nt
  | [], aSz, h => by
    cases h<;>grind
  | (o, b) :: r, aSz, h => by
    simp[opersP] at h
    split at h
    · rename_i a' as' h1 h2
      cases h
      obtain⟨h3,h4⟩:=opersP_spec h2
      refine⟨by simp[h3],fun i ao hi=>?_⟩
      cases i with
      | zero =>
        cases hi
        unfold operP at h1
        split at h1
        · rename_i ap g hap hg
          split at h1
          · rename_i hlt
            cases h1
            exact⟨o,b,rfl,rfl,hap,rfl,hg,hlt⟩
          · cases h1
        · cases h1
      |succ i=>exact h4 i ao (by simpa using hi)
    · cases h
theorem runOps_ok (hcall : CallOK P call) (hlib : ∀ f T, lib f = some T → IsLib P f T) {ops : Array Oper} {all : List AOper} (hrel : OpsRel P lib nt ops all) {nv0 : Nat} {Q : Exit → Act → World → Prop} :
    ∀ (l : List AOper) (i : Nat) (s s' : St) (X : Cx) (a : Act), (∀ k, l[k]? = all[i + k]?) → runOps call sh nv0 i l s = some s' → Sim X nt s a → (∀ k, i ≤ k → k < i + l.length → X.ρ (nv0 + k) = none) → nv0 + (i + l.length) ≤ s.nv → (∀ v, s.nv ≤ v → X.ρ v = none) →
      (∀ Y a',Ext X Y→Sim Y nt s' a'→s.nv≤s'.nv→(∀ v L,Y.ρ v=some L→X.ρ v=some L∨(nv0≤v∧v<s'.nv))→Q .normal a' Y.w)→wpOps P ops Q (List.range' i l.length) a X.w
  | [], i, s, s', X, a, _, h, hs, _, _, _, hQ => by
    cases h
    exact hQ X a (Ext.refl X) hs (Nat.le_refl _) fun _ _ h=>.inl h
  | o :: r, i, s, s', X, a, hall, h, hs, hfr, hnv, hdom, hQ => by
    simp[runOps] at h
    split at h
    · cases h
    · rename_i e he
      have h0:=hall 0
      obtain⟨oc,g1,g2,g3,g4,g5⟩:=hrel.at_ i o h0.symm
      simp[List.length_cons] at hfr hnv
      refine step_ok hcall hlib hs (hfr i (Nat.le_refl _) (by omega)) (by omega) hdom g1 g2 g3 g4 g5 he fun Y a' hx hs' hd=>?_
      obtain⟨d1,d2⟩:=hd
      refine runOps_ok hcall hlib hrel r (i+1) _ s' Y a' (fun k=>by have:=hall (k+1);rw[List.getElem?_cons_succ] at this;rw[this];congr 1;omega) h hs' (fun k h1 h2=>?_) (by omega) (fun v hv=>?_) fun Z a'' hz hs'' hn hzd=>?_
      · cases hY : Y.ρ (nv0 + k) with
        |none=>rfl
        | some L =>
          grind
      · cases hY : Y.ρ v with
        |none=>rfl
        | some L =>
          grind
      · refine hQ Z a'' (hx.trans hz) hs'' (Nat.le_trans d1 hn) fun v L hv=>?_<;>grind
theorem countP_lt {p q:Nat→Bool} : ∀ {l:List Nat},(∀ x,q x=true→p x=true)→(∃ x∈l,p x=true∧q x=false)→l.countP q<l.countP p
  |[],_,⟨x,hx,_⟩=>by cases hx
  | y :: r, h, ⟨x, hx, h1, h2⟩ => by
    have mono:r.countP q≤r.countP p:=List.countP_mono_left fun x _=>h x
    rcases List.mem_cons.1 hx with rfl|hx
    · grind
    · have:=countP_lt h ⟨x,hx,h1,h2⟩<;>grind
theorem befOK_spec {bef:List Nat} : ∀ {l:List Oper} {bs:List Nat} {i:Nat},befOK bef i l bs=true→∀ k o,l[k]?=some o→∃ b,bs[k]?=some b∧befOK1 bef (i+k) o b=true
  |[],_,_,_,k,o,h=>by simp at h
  |o :: r,[],i,h,_,_,_=>by simp[befOK] at h
  | o :: r, b :: bs, i, h, k, o', hk => by
    simp[befOK,Bool.and_eq_true] at h
    cases k with
    | zero =>
      grind
    | succ k =>
      obtain⟨b',h1,h2⟩:=befOK_spec h.2 k o' (by simpa using hk)<;>grind
structure BefRel (ops:Array Oper) (all:List AOper):Prop where
  back:∀ (i:Nat) (o:Oper),ops[i]?=some o→∀ e∈o.after,Region.binds .any e=true→e.on<i
  bef:∀ (i:Nat) (o:Oper) (ao:AOper),ops[i]?=some o→all[i]?=some ao→∀ k,k<i→ao.bef.testBit k=true→
    ∃ e∈o.after,Region.binds .any e=true∧(e.on=k∨(k<e.on∧∀ ao',all[e.on]?=some ao'→ao'.bef.testBit k=true))
theorem any_ok (hcall : CallOK P call) (hlib : ∀ f T, lib f = some T → IsLib P f T) {ops : Array Oper} {all : List AOper} (hrel : OpsRel P lib nt ops all) (hbef : BefRel ops all) (hap : apartAll [] all = true) {nv0 : Nat} {s0 : St} {L : List Fx}
    (hran:Ran call sh nv0 all s0 L) {Q:Exit→Act→World→Prop} :
    ∀ (fuel : Nat) (listed : Array Bool) (X : Cx) (a : Act), listed.size = ops.size → (List.range ops.size).countP (fun j => !listed.getD j false) ≤ fuel → Closed all (fun j => listed.getD j false) →
      Sim X nt (stP s0 L fun j=>listed.getD j false) a→(∀ k,k<ops.size→listed.getD k false=false→X.ρ (nv0+k)=none)→nv0+ops.size≤(stP s0 L fun j=>listed.getD j false).nv→(∀ v,(stP s0 L fun j=>listed.getD j false).nv≤v→X.ρ v=none)→
      (∀ Y a',Ext X Y→Sim Y nt (appL s0 L) a'→(stP s0 L fun j=>listed.getD j false).nv≤(appL s0 L).nv→(∀ v M,Y.ρ v=some M→X.ρ v=some M∨(nv0≤v∧v<(appL s0 L).nv))→Q .normal a' Y.w)→wpAny P .any ops Q fuel listed a X.w:=by
  have getT:∀ (listed:Array Bool) (j:Nat),listed.size=ops.size→j<ops.size→listed.getD j true=listed.getD j false:=fun listed j h hj=>by
    simp[show j<listed.size by omega]
  have fin:∀ (listed:Array Bool) (X:Cx) (a:Act),listed.size=ops.size→Region.ready .any ops listed=[]→Sim X nt (stP s0 L fun j=>listed.getD j false) a→
      (∀ Y a',Ext X Y→Sim Y nt (appL s0 L) a'→(stP s0 L fun j=>listed.getD j false).nv≤(appL s0 L).nv→(∀ v M,Y.ρ v=some M→X.ρ v=some M∨(nv0≤v∧v<(appL s0 L).nv))→Q .normal a' Y.w)→Q .normal a X.w:=by
    intro listed X a hsz hr hs hQ
    have hall:∀ j,j<ops.size→listed.getD j false=true:=by
      intro j
      induction j using Nat.strongRecOn with
      | _ j ih =>
        intro hj
        cases hl:listed.getD j false with
        |true=>rfl
        | false =>
          have hm:j∈Region.ready .any ops listed:=mem_ready.2 ⟨by rw[getT _ _ hsz hj];exact hl,ops[j],Array.getElem?_eq_getElem hj,fun e he hb=>by
            have:=hbef.back j _ (Array.getElem?_eq_getElem hj) e he hb
            exact ih _ this (by omega)⟩
          rw[hr] at hm;cases hm
    have hst:(stP s0 L fun j=>listed.getD j false)=appL s0 L:=by
      unfold stP
      rw[List.filter_eq_self.2 fun x hx=>hall x.1 (hrel.len ▸ (hran.dom x.1).2 ⟨x,hx,rfl⟩)]
    rw[hst] at hs hQ
    exact hQ X a (Ext.refl X) hs (Nat.le_refl _) fun _ _ h=>.inl h
  intro fuel
  induction fuel with
  | zero =>
    intro listed X a hsz hcnt hc hs hfr hnv hdom hQ
    have hr:Region.ready .any ops listed=[]:=by
      cases hr:Region.ready .any ops listed with
      |nil=>rfl
      | cons j r =>
        have hj:j∈Region.ready .any ops listed:=by rw[hr];exact List.mem_cons_self ..
        obtain⟨h1,o,h2,_⟩:=mem_ready.1 hj
        have hlt:j<ops.size:=(Array.getElem?_eq_some_iff.1 h2).1
        have:=List.countP_eq_zero.1 (Nat.le_zero.1 hcnt) j (List.mem_range.2 hlt)
        rw[getT _ _ hsz hlt] at h1
        rw[h1] at this
        exact absurd rfl this
    exact⟨hr,fin listed X a hsz hr hs hQ⟩
  | succ fuel ih =>
    intro listed X a hsz hcnt hc hs hfr hnv hdom hQ
    refine⟨fun hr=>fin listed X a hsz hr hs hQ,fun i hi=>?_⟩
    obtain⟨hl,o,ho,hafter⟩:=mem_ready.1 hi
    have hlt:i<ops.size:=(Array.getElem?_eq_some_iff.1 ho).1
    rw[getT _ _ hsz hlt] at hl
    obtain⟨ao,hao⟩:∃ ao,all[i]?=some ao:=⟨all[i]'(by rw[hrel.len];exact hlt),List.getElem?_eq_getElem _⟩
    obtain⟨o',g1,g2,g3,g4,g5⟩:=hrel.at_ i ao hao
    rw[ho] at g1;injection g1 with g1;subst g1
    have hb:∀ k,k<i→ao.bef.testBit k=true→listed.getD k false=true:=by
      intro k hk hbit
      obtain⟨e,he,hbind,h⟩:=hbef.bef i o ao ho hao k hk hbit
      have hon:=hafter e he hbind
      rcases h with h|⟨h1,h2⟩
      · rw[←h];exact hon
      · have hlt' : e.on < all.length := by
          rw[hrel.len]
          have:=hbef.back i o ho e he hbind
          omega
        exact hc e.on _ (List.getElem?_eq_getElem hlt') hon k h1 (h2 _ (List.getElem?_eq_getElem hlt'))
    obtain⟨x,hx,rfl,hxd,hstep⟩:=hran.any hap hc hao hl hb
    have hp':(fun j=>(listed.setIfInBounds x.1 true).getD j false)=fun j=>listed.getD j false||j==x.1:=by
      funext j
      by_cases hj:j=x.1
      · subst hj;simp[show x.1<listed.size by omega]
      · rw[getD_set_ne false (Ne.symm hj),show (j==x.1)=false from by simpa using hj,Bool.or_false]
    have hsame:=hran.after hap hc hx hao hxd hl hb
    rw[←hp'] at hsame
    refine step_ok hcall hlib hs (hfr _ hlt hl) (by omega) hdom ho g2 g3 g4 g5 hstep fun Y a' hx' hs' hd=>?_
    rw[←hxd] at hs' hd
    obtain⟨d1,d2⟩:=hd
    rw[←hsame.nv] at d1 d2
    refine ih (listed.setIfInBounds x.1 true) Y a' (by simpa using hsz) ?_ ?_ ⟨fun t=>?_,hs'.size,hs'.defers,hs'.mem.congr hsame.mem hsame.tips⟩ (fun k hk hkl=>?_) (by omega) (fun v hv=>?_) fun Z a'' hz hs'' hn hzd=>?_
    · have := countP_lt (p := fun j => !listed.getD j false) (q := fun j => !(listed.setIfInBounds x.1 true).getD j false) (l := List.range ops.size) (fun j hj => by
        have:=congrFun hp' j
        rw[this] at hj
        simp only[Bool.not_eq_true',Bool.or_eq_false_iff] at hj
        simp only[Bool.not_eq_true'];exact hj.1) ⟨x.1,List.mem_range.2 hlt,by simp only[hl,Bool.not_false],by
        have:=congrFun hp' x.1
        simp only[this,beq_self_eq_true,Bool.or_true,Bool.not_true]⟩
      omega
    · rw [hp']
      intro j oj hoj hj k hk hbit
      simp only[Bool.or_eq_true,beq_iff_eq] at hj ⊢
      rcases hj with hj|hj
      · exact .inl (hc j oj hoj hj k hk hbit)
      · subst hj
        rw[hao] at hoj;injection hoj with hoj;subst hoj
        exact .inl (hb k hk hbit)
    · rw[hsame.slots];exact hs'.slots t
    · have hk' := congrFun hp' k
      rw[hk'] at hkl
      simp only[Bool.or_eq_false_iff,beq_eq_false_iff_ne] at hkl
      cases hY:Y.ρ (nv0+k) with
      |none=>rfl
      | some M =>
        rcases d2 _ _ hY with h|h|h
        · rw[hfr k hk hkl.1] at h;cases h
        · omega
        · omega
    · cases hY : Y.ρ v with
      |none=>rfl
      | some M =>
        rcases d2 _ _ hY with h|h|h
        · rw[hdom v (by omega)] at h;cases h
        · omega
        · omega
    · refine hQ Z a'' (hx'.trans hz) hs'' (Nat.le_trans d1 hn) fun v M hv => ?_
      rcases hzd v M hv with h|h
      · rcases d2 v M h with h | h | h
        · exact .inl h
        · exact .inr (by omega)
        · exact .inr (by omega)
      · exact .inr h
end
end Go.Eng
set_option linter.unusedSectionVars false
namespace Go.Eng
open Go Go.RowKit
def AX.exit':AX→Exit
  |.normal=>.normal
  |.exit id=>if Nat.blt id gb=true then .exit id else .goto ((id-gb) / 2)
  |.ret=>.ret
theorem exit'_lt {id:Nat} (h:Nat.blt id gb=true):(AX.exit id).exit'=.exit id:=by simp[AX.exit',h]
theorem exit'_gid (l:Nat):(AX.exit (gid l)).exit'=.goto l:=by
  simp_all[gid,AX.exit']
def Post (X:Cx) (nt:NT) (s:St) (r:AX×St) (Q:Exit→Act→World→Prop):Prop:=
  ∀ Y a',Ext X Y→Sim Y nt r.2 a'→s.nv≤r.2.nv→(∀ v L,Y.ρ v=some L→X.ρ v=some L∨(s.nv≤v∧v<r.2.nv))→Q r.1.exit' a' Y.w
theorem Post.trans {X Y:Cx} {nt:NT} {s s':St} {r:AX×St} {Q:Exit→Act→World→Prop} (h:Post X nt s r Q) (hx:Ext X Y) (hn:s.nv≤s'.nv) (hd:∀ v L,Y.ρ v=some L→X.ρ v=some L∨(s.nv≤v∧v<s'.nv)):Post Y nt s' r Q:=by
  intro Z a' hz hs hn' hd'
  refine h Z a' (hx.trans hz) hs (Nat.le_trans hn hn') fun v L hv=>?_<;>grind
theorem Post.now {X:Cx} {nt:NT} {s:St} {a:Act} {x:AX} {Q:Exit→Act→World→Prop} (h:Post X nt s (x,s) Q) (hs:Sim X nt s a):Q x.exit' a X.w:=
  h X a (Ext.refl X) hs (Nat.le_refl _) fun _ _ h=>.inl h
theorem dom_step {X Y:Cx} {n m:Nat} (h:∀ v,n≤v→X.ρ v=none) (hn:n≤m) (hd:∀ v L,Y.ρ v=some L→X.ρ v=some L∨(n≤v∧v<m)):∀ v,m≤v→Y.ρ v=none:=by
  intro v hv
  cases hY:Y.ρ v with
  |none=>rfl
  | some L =>
    grind
theorem Ext.drew (X:Cx):Ext X { X with w:=X.w.drew }:=
  ⟨rfl,(Stays.refl _ _).drew,fun _ _ h=>h,fun _ _ _=>rfl,fun _ _ h=>h,fun _ _ h=>.inl h⟩
theorem Sim.drew {X:Cx} {nt:NT} {s:St} {a:Act} (h:Sim X nt s a):Sim { X with w:=X.w.drew } nt s a:=
  ⟨fun t=>(h.slots t).ext (Ext.drew X),h.size,h.defers,h.mem.move (Ext.drew X) (fun _ _ _ _ _ _=>rfl) (fun _ _ _ _ _ _ _ h=>h) h.mem.inF⟩
section
variable {P:Program} {nt:NT} {call:Go.Eng.Call} {sh:Nat→Bool} {lib:Nat→Option TypeId} {rows:List (Nat×Nat)}
theorem opers_rel {ops:Array Oper} {bs:List Nat} {l:List AOper} (hb:bs.length=ops.size) (h:opersP P lib nt rows ops (ops.toList.zip bs)=some l):OpsRel P lib nt ops l∧∀ (i:Nat) (ao:AOper),l[i]?=some ao→bs[i]?=some ao.bef:=by
  obtain⟨h1,h2⟩:=opersP_spec h
  refine⟨⟨by rw[h1,List.length_zip];simp[hb],fun i ao hi=>?_⟩,fun i ao hi=>?_⟩
  · obtain ⟨o, b, g1, _, g2, g3, g4, g5⟩ := h2 i ao hi
    have:=(List.getElem?_zip_eq_some.1 g1).1
    exact⟨o,by simpa using this,g2,g3,g4,g5⟩
  · obtain ⟨o, b, g1, g2, _⟩ := h2 i ao hi
    have:=(List.getElem?_zip_eq_some.1 g1).2
    rw[g2];exact this
theorem bef_rel {ops : Array Oper} {bs : List Nat} {l : List AOper} (_hlen : l.length = ops.size) (hl : ∀ (i : Nat) (ao : AOper), l[i]? = some ao → bs[i]? = some ao.bef) (h : befOK bs 0 ops.toList bs = true) : BefRel ops l := by
  have key:=fun i o (ho:ops[i]?=some o)=>befOK_spec h i o (by simpa using ho)
  refine⟨fun i o ho e he hb=>?_,fun i o ao ho hao k hk hbit=>?_⟩
  · obtain ⟨b, _, h2⟩ := key i o ho
    simp only[befOK1,Bool.and_eq_true,List.all_eq_true,Bool.or_eq_true,Bool.not_eq_true'] at h2
    rcases h2.1 e (by simpa using he) with h|h
    · rw[show Edge.binds' e=Region.binds .any e from rfl,hb] at h;cases h
    · rw[Nat.zero_add] at h;exact Nat.blt_eq.mp h
  · obtain ⟨b, h1, h2⟩ := key i o ho
    simp only[befOK1,Bool.and_eq_true,List.all_eq_true,Bool.or_eq_true,Bool.not_eq_true',List.mem_range] at h2
    rcases h2.2 k (by omega) with h|h
    · grind
    · obtain ⟨e, he, h⟩ := List.any_eq_true.1 h
      simp only[Bool.and_eq_true,Bool.or_eq_true] at h
      refine⟨e,by simpa using he,h.1,?_⟩
      rcases h.2 with h|h
      · exact .inl (Nat.eq_of_beq_eq_true h)
      · refine .inr ⟨Nat.blt_eq.mp h.1, fun ao' hao' => ?_⟩
        have:=hl _ _ hao'
        rw[List.getD_eq_getElem?_getD,this] at h
        exact h.2
theorem region_ok (hm : P.follows .mixedOrders = true) (hcall : CallOK P call) (hlib : ∀ f T, lib f = some T → IsLib P f T) {X : Cx} {s s' : St} {a : Act} {id : Nat} {ops : Array Oper} {draw : Bool} {l : List AOper} {dr : Bool}
    (hp:regP P lib nt rows ops draw=some (.region l dr)) (hr:runRegion call sh l dr s=some s') (hs:Sim X nt s a) (hdom:∀ v,s.nv≤v→X.ρ v=none) {Q:Exit→Act→World→Prop} (hQ:Post X nt s (.normal,s') Q):(Code.region id ops draw).wp P Q a X.w:=by
  have hs1:Sim X nt { s with nv:=s.nv+l.length } a:=⟨hs.slots,hs.size,hs.defers,hs.mem⟩
  unfold regP at hp
  cases draw with
  | false =>
    obtain⟨l',hl,hp⟩:=opt_map hp
    injection hp with h1 h2;subst h1;subst h2
    have hz:ops.toList.map (fun o=>(o,0))=ops.toList.zip (List.replicate ops.size 0):=by
      apply List.ext_getElem
      · simp
      · simp
    rw[hz] at hl
    obtain⟨hrel,_⟩:=opers_rel (by simp) hl
    refine wp_region ?_
    rw[←hrel.len,List.range_eq_range']
    refine runOps_ok hcall hlib hrel l' 0 _ s' X a (fun k=>by simp) hr hs1 (fun k _ _=>hdom _ (by omega)) (by simp) (fun v hv=>hdom v (by simp at hv;omega)) fun Y a' hx hs' hn hd=>?_
    exact hQ Y a' hx hs' (by simp at hn ⊢;omega) hd
  | true =>
    simp at hp
    split at hp
    · rename_i l' hb hl
      split at hp
      · rename_i hap
        injection hp with hp
        injection hp with h1 h2;subst h1;subst h2
        simp at hb
        obtain⟨hrel,hbs⟩:=opers_rel hb.1 hl
        have hbef:=bef_rel hrel.len hbs hb.2
        obtain⟨L,rfl,hran⟩:=Ran.of_run hr
        refine wp_region_any hm ?_
        have hf:∀ j,(Array.replicate ops.size false).getD j false=false:=fun j=>by
          rw[Array.getD_eq_getD_getElem?]
          rcases Nat.lt_or_ge j ops.size with h|h
          · simp[h]
          · simp[h]
        have hst:(stP { s with nv:=s.nv+l'.length } L fun j=>(Array.replicate ops.size false).getD j false) = { s with nv:=s.nv+l'.length }:=by
          unfold stP
          rw[List.filter_eq_nil_iff.2 fun x _=>by show ¬(Array.replicate ops.size false).getD x.1 false=true;rw[hf];exact Bool.false_ne_true]
          rfl
        refine any_ok hcall hlib hrel hbef hap hran ops.size _ { X with w:=X.w.drew } a (by simp) ?_ (fun j o _ hj=>absurd ((hf j).symm.trans hj) (by decide)) ?_ (fun k _ _=>hdom _ (by omega)) ?_ ?_ fun Y a' hx hs' hn hd=>?_
        · simp_all
        · rw[hst];exact hs1.drew
        · rw[hst];simp[hrel.len]
        · grind
        · rw [hst] at hn
          exact hQ Y a' ((Ext.drew X).trans hx) hs' (by simp at hn ⊢;omega) hd
      grind
    grind
def LoopAt (P:Program) (c:Code) (Q:Exit→Act→World→Prop) (a:Act) (w:World):Prop:=
  ∀ (b:Frame) (k:List Item) (cs:List Frame),∃ e a' w',Q e a' w'∧Arrives P (lone (b.at a (.code c :: .inLoop c :: k)) cs w) b k cs e a' w'
theorem LoopAt.round {c:Code} {Q:Exit→Act→World→Prop} {a:Act} {w:World} (h:c.wp P (Exit.then (LoopAt P c Q) Q) a w):LoopAt P c Q a w:=by
  intro b k cs
  obtain⟨e,a₁,w₁,hq,harr⟩:=h b (.inLoop c :: k) cs
  cases e with
  | normal =>
    obtain⟨e₂,a₂,w₂,hq₂,harr₂⟩:=hq b k cs
    exact⟨e₂,a₂,w₂,hq₂,.of_steps (Steps.trans harr (.one step_inLoop)) harr₂⟩
  |exit id=>exact⟨_,a₁,w₁,hq,.pass (x:=.inLoop c) rfl (fun _ _=>.inl (by simp)) harr⟩
  |goto l=>exact⟨_,a₁,w₁,hq,.pass (x:=.inLoop c) rfl (fun _ _=>.inl (by simp)) harr⟩
  |ret=>exact⟨_,a₁,w₁,hq,.pass (x:=.inLoop c) rfl (fun _ _=>.inl (by simp)) harr⟩
  |panic ch=>exact⟨_,a₁,w₁,hq,.pass (x:=.inLoop c) rfl (fun _ _=>.inl (by simp)) harr⟩
  |outgrown=>exact⟨_,a₁,w₁,hq,.pass (x:=.inLoop c) rfl (fun _ _=>.inl (by simp)) harr⟩
theorem LoopAt.wp {c:Code} {Q:Exit→Act→World→Prop} {a:Act} {w:World} (h:LoopAt P c Q a w):(Code.loop c).wp P Q a w:=fun b k cs=>
  let ⟨e,a',w',hq,harr⟩:=h b k cs
  ⟨e,a',w',hq,.of_steps (.one step_loop) harr⟩
theorem exec_succ (n : Nat) (c : AC) (s : St) : exec call sh (n + 1) c s = match c with
    |.skip=>some (.normal,s)
    |.region ops draw=>(runRegion call sh ops draw s).map fun s'=>(.normal,s')
    | .seq a b => match exec call sh n a s with
      |some (.normal,s')=>exec call sh n b s'
      |r=>r
    | .cond c a b => match boolOfA (c.ev s.slots) with
      |some true=>exec call sh n a s
      |some false=>exec call sh n b s
      |none=>none
    | .block id c => match exec call sh n c s with
      | some (.exit id', s') => match Nat.beq id' id with
        |true=>some (.normal,s')
        |false=>some (.exit id',s')
      |r=>r
    | .loop c => match exec call sh n c s with
      |some (.normal,s')=>exec call sh n (.loop c) s'
      |r=>r
    |.exit id=>some (.exit id,s)
    |.ret=>some (.ret,s):=rfl
theorem exec_mono : ∀ (n : Nat) (c : AC) (s : St) (r : AX × St), exec call sh n c s = some r → exec call sh (n + 1) c s = some r := by
  intro n
  induction n with
  |zero=>simp_all[Call,exec]
  | succ n ih =>
    intro c s r h
    cases c with
    |skip=>exact h
    |region ops draw=>exact h
    |exit id=>exact h
    |ret=>exact h
    | seq a b =>
      rw[exec_succ n] at h;rw[exec_succ (n+1)];dsimp at h ⊢
      split at h
      · rename_i s' he
        rw[ih _ _ _ he];exact ih _ _ _ h
      · rename_i hne
        rw[ih _ _ _ h]
        obtain⟨x,s'⟩:=r
        cases x with
        |normal=>exact absurd h (hne s')
        |exit id=>rfl
        |ret=>rfl
    | cond c a b =>
      rw[exec_succ n] at h;rw[exec_succ (n+1)];dsimp at h ⊢
      split at h
      · exact ih _ _ _ h
      · exact ih _ _ _ h
      · cases h
    | block id c =>
      rw[exec_succ n] at h;rw[exec_succ (n+1)];dsimp at h ⊢
      split at h
      · rename_i he
        rw[ih _ _ _ he];exact h
      · rename_i hne
        rw[ih _ _ _ h]
        obtain⟨x,s'⟩:=r
        cases x with
        |normal=>rfl
        |exit id=>exact absurd h (hne id s')
        |ret=>rfl
    | loop c =>
      rw[exec_succ n] at h;rw[exec_succ (n+1)];dsimp at h ⊢
      split at h
      · rename_i s' he
        rw[ih _ _ _ he];exact ih _ _ _ h
      · rename_i hne
        rw[ih _ _ _ h]
        obtain⟨x,s'⟩:=r
        cases x with
        |normal=>exact absurd h (hne s')
        |exit id=>rfl
        |ret=>rfl
theorem exec_le {n m:Nat} (hle:n≤m) {c:AC} {s:St} {r:AX×St} (h:exec call sh n c s=some r):exec call sh m c s=some r:=by
  induction hle with
  |refl=>exact h
  |step _ ih=>exact exec_mono _ _ _ _ ih
theorem leaves_ok {p:Nat→Bool} : ∀ (n:Nat) (c:AC) (s s':St) (id:Nat),leaves p c=true→exec call sh n c s=some (.exit id,s')→p id=true:=by
  intro n
  induction n with
  |zero=>simp_all[Call,exec,leaves]
  | succ n ih =>
    intro c s s' id hl h
    cases c with
    |skip=>simp[exec] at h
    | region ops draw =>
      simp_all[exec,leaves,Call]
    |exit id'=>cases h;exact hl
    |ret=>simp[exec] at h
    | seq a b =>
      simp[leaves,Bool.and_eq_true] at hl
      simp[exec] at h<;>grind
    | cond c a b =>
      simp[leaves,Bool.and_eq_true] at hl
      simp[exec] at h<;>grind
    | block id' c =>
      simp[leaves] at hl
      simp[exec] at h<;>grind
    | loop c =>
      simp[leaves] at hl
      simp[exec] at h
      split at h
      · exact ih (.loop c) _ _ _ hl h
      grind
theorem scope_round {n l : Nat} {c : AC} {s : St} {r : AX × St} (h : exec call sh n (.loop (.block (gid l) (.seq c (.exit (kid l))))) s = some r) :
    ∃ m x s',m<n∧exec call sh m c s=some (x,s')∧((x=.exit (gid l)∧exec call sh (n-1) (.loop (.block (gid l) (.seq c (.exit (kid l))))) s'=some r)∨(x=.normal∧r=(.exit (kid l),s'))∨(x≠.normal∧x≠.exit (gid l)∧r=(x,s'))):=by
  cases n with
  |zero=>simp[exec] at h
  | succ n =>
    have hk:Nat.beq (kid l) (gid l)=false:=by
      cases hb:Nat.beq (kid l) (gid l) with
      |false=>rfl
      |true=>simp_all[kid,gid,exec,Call]
    simp[exec] at h
    cases n with
    |zero=>simp[exec] at h
    | succ n =>
      cases n with
      |zero=>simp[exec] at h
      | succ n =>
        cases hc:exec call sh n c s with
        |none=>simp[exec,hc] at h
        | some xs =>
          obtain⟨x,s'⟩:=xs
          refine⟨n,x,s',by omega,hc,?_⟩
          cases n with
          |zero=>simp[exec] at hc
          | succ n =>
            cases x with
            | normal =>
              have e1:exec call sh (n+1) (.exit (kid l)) s'=some (.exit (kid l),s'):=rfl
              have e2:exec call sh (n+1+1) (.seq c (.exit (kid l))) s=some (.exit (kid l),s'):=by
                rw[exec];simp[hc,e1]
              have e3:exec call sh (n+1+1+1) (.block (gid l) (.seq c (.exit (kid l)))) s=some (.exit (kid l),s'):=by
                rw[exec];simp[e2,hk]
              rw[e3] at h
              simp at h
              exact .inr (.inl ⟨rfl,h.symm⟩)
            | exit id =>
              have e2:exec call sh (n+1+1) (.seq c (.exit (kid l))) s=some (.exit id,s'):=by
                rw[exec];simp[hc]
              cases hb:Nat.beq id (gid l) with
              | true =>
                have e3:exec call sh (n+1+1+1) (.block (gid l) (.seq c (.exit (kid l)))) s=some (.normal,s'):=by
                  rw[exec];simp[e2,hb]
                rw[e3] at h
                exact .inl ⟨by rw[Nat.eq_of_beq_eq_true hb],h⟩
              | false =>
                have e3:exec call sh (n+1+1+1) (.block (gid l) (.seq c (.exit (kid l)))) s=some (.exit id,s'):=by
                  rw[exec];simp[e2,hb]
                rw[e3] at h
                simp at h
                exact .inr (.inr ⟨by simp,fun hx=>by injection hx with hx;exact Nat.ne_of_beq_eq_false hb hx,h.symm⟩)
            | ret =>
              have e2:exec call sh (n+1+1) (.seq c (.exit (kid l))) s=some (.ret,s'):=by
                rw[exec];simp[hc]
              have e3:exec call sh (n+1+1+1) (.block (gid l) (.seq c (.exit (kid l)))) s=some (.ret,s'):=by
                rw[exec];simp[e2]
              rw[e3] at h
              simp at h
              exact .inr (.inr ⟨by simp,by simp,h.symm⟩)
section
open Classical
def Rounds (call : Call) (sh : Nat → Bool) (nt : NT) (Q : Exit → Act → World → Prop) (l : Nat) (c : AC) (m : Nat) (a : Act) (w : World) : Prop :=
  ∃ Y s r, Y.w = w ∧ Sim Y nt s a ∧ (∀ v, s.nv ≤ v → Y.ρ v = none) ∧ exec call sh m (.loop (.block (gid l) (.seq c (.exit (kid l))))) s = some r ∧
    Post Y nt s ((match r.1 with|.exit id=>if id=kid l then .normal else .exit id|x=>x),r.2) Q
theorem least {p:Nat→Prop} : ∀ {n:Nat},p n→∃ m,p m∧∀ k,p k→m≤k:=by
  intro n
  induction n using Nat.strongRecOn with
  | _ n ih =>
    grind
noncomputable def rounds (call:Call) (sh:Nat→Bool) (nt:NT) (Q:Exit→Act→World→Prop) (l:Nat) (c:AC) (a:Act) (w:World):Nat:=
  if h:∃ m,Rounds call sh nt Q l c m a w then Classical.choose (least (p:=fun m=>Rounds call sh nt Q l c m a w) h.choose_spec) else 0
theorem rounds_le {Q:Exit→Act→World→Prop} {l:Nat} {c:AC} {m:Nat} {a:Act} {w:World} (h:Rounds call sh nt Q l c m a w):rounds call sh nt Q l c a w≤m:=by
  have hh:∃ m,Rounds call sh nt Q l c m a w:=⟨m,h⟩
  unfold rounds<;>grind
theorem rounds_at {Q:Exit→Act→World→Prop} {l:Nat} {c:AC} {m:Nat} {a:Act} {w:World} (h:Rounds call sh nt Q l c m a w):Rounds call sh nt Q l c (rounds call sh nt Q l c a w) a w:=by
  have hh:∃ m,Rounds call sh nt Q l c m a w:=⟨m,h⟩
  unfold rounds
  rw[dif_pos hh]
  exact (Classical.choose_spec (least (p:=fun m=>Rounds call sh nt Q l c m a w) hh.choose_spec)).1
end
theorem then_exit {A:Act→World→Prop} {Q:Exit→Act→World→Prop} {id:Nat} {a:Act} {w:World} (h:Q (AX.exit id).exit' a w):Exit.then A Q (AX.exit id).exit' a w:=by
  unfold AX.exit' at h ⊢
  simp at h ⊢
  split
  · rename_i hb;rw[if_pos hb] at h;exact h
  · rename_i hb;rw[if_neg hb] at h;exact h
section
variable {n:Nat} (ihA:∀ (c:Code) (ac:AC) (X:Cx) (s:St) (a:Act) (r:AX×St) (Q:Exit→Act→World→Prop),codeG P lib nt rows c none=some ac→exec call sh n ac s=some r→Sim X nt s a→(∀ v,s.nv≤v→X.ρ v=none)→Post X nt s r Q→c.wp P Q a X.w)
include ihA
theorem scope_pass {c0 : Code} {ac : AC} {l m : Nat} {a : Act} {w : World} {Q : Exit → Act → World → Prop} (hc : codeG P lib nt rows c0 none = some ac) (hl : leaves (fun id => Nat.blt id gb || Nat.beq id (gid l)) ac = true) (hm : m ≤ n)
    (h:Rounds call sh nt Q l ac m a w):c0.wp P (Exit.jump l (fun a' w'=>(∃ k,k≤n∧Rounds call sh nt Q l ac k a' w')∧rounds call sh nt Q l ac a' w'<m) Q) a w:=by
  obtain⟨Y,s,r,rfl,hs,hdom,hex,hpost⟩:=h
  obtain⟨m1,x,s',hlt,hx,hcase⟩:=scope_round hex
  refine ihA c0 ac Y s a (x,s') _ hc (exec_le (by omega) hx) hs hdom fun Z a' hYZ hsZ hn hd=>?_
  rcases hcase with⟨rfl,h1⟩|⟨rfl,h1⟩|⟨h1,h2,h3⟩
  · rw [exit'_gid]
    have hR:Rounds call sh nt Q l ac (m-1) a' Z.w:=⟨Z,s',r,rfl,hsZ,dom_step hdom hn hd,h1,hpost.trans hYZ hn hd⟩
    have:=rounds_le hR
    exact⟨rfl,⟨m-1,by omega,hR⟩,by omega⟩
  · subst h1
    have:=hpost Z a' hYZ hsZ hn hd
    simp at this
    exact this
  · subst h3
    cases x with
    |normal=>grind
    | exit id =>
      have hb:=leaves_ok _ _ _ _ _ hl hx
      have hlt':Nat.blt id gb=true:=by
        simp_all
      have hk:id≠kid l:=by
        have:=Nat.le_of_ble_eq_true hlt'
        simp[kid];omega
      have:=hpost Z a' hYZ hsZ hn hd
      simp[if_neg hk] at this
      rw[exit'_lt hlt'] at this ⊢
      exact this
    |ret=>exact hpost Z a' hYZ hsZ hn hd
theorem scope_first : ∀ (c : Code) (ac : AC) (l : Nat), codeG P lib nt rows c (some l) = some ac → ∃ c0 ac0, findLabel c l = some (.seq .skip c0) ∧ codeG P lib nt rows c0 none = some ac0 ∧ leaves (fun id => Nat.blt id gb || Nat.beq id (gid l)) ac0 = true ∧
    ∀ (m : Nat) (X : Cx) (s : St) (a : Act) (r : AX × St) (Q : Exit → Act → World → Prop), m ≤ n + 1 → exec call sh m ac s = some r → Sim X nt s a → (∀ v, s.nv ≤ v → X.ρ v = none) → Post X nt s r Q →
      c.wp P (Exit.jump l (fun a' w'=>∃ k,k≤n∧Rounds call sh nt Q l ac0 k a' w') Q) a X.w
  | .seq x y, ac, l, hc => by
    rw[codeG] at hc
    split at hc
    · rename_i l' hlab
      have hx:x=.label l':=by
        cases x<;>simp only[lab1] at hlab<;>first|(injection hlab with hlab;rw[hlab])|cases hlab
      subst hx
      split at hc
      · rename_i ac0 hb hc0
        have hl':=Nat.eq_of_beq_eq_true hb
        subst hl'
        unfold scopeA at hc
        split at hc
        · rename_i hl
          cases hc
          refine⟨y,ac0,by simp[findLabel],hc0,hl,fun m X s a r Q hm hex hs hdom hpost=>?_⟩
          have key:∃ k r',k≤n∧exec call sh k (.loop (.block (gid l') (.seq ac0 (.exit (kid l'))))) s=some r'∧r=((match r'.1 with|.exit id=>if id=kid l' then .normal else .exit id|x=>x),r'.2):=by
            cases m with
            |zero=>simp[exec] at hex
            | succ k =>
              rw[exec_succ k] at hex
              dsimp at hex
              split at hex
              · rename_i id s' he
                refine⟨k,_,by omega,he,?_⟩
                split at hex
                · simp_all
                · rename_i hid
                  cases hex
                  simp[if_neg (Nat.ne_of_beq_eq_false hid)]
              · refine ⟨k, _, by omega, hex, ?_⟩
                obtain⟨z,s'⟩:=r<;>simp_all
          obtain⟨k,r',hk,hex',rfl⟩:=key
          have hp:=scope_pass ihA hc0 hl hk ⟨X,s,r',rfl,hs,hdom,hex',hpost⟩
          have hp':=wp_mono (Q':=Exit.jump l' (fun a' w'=>∃ k,k≤n∧Rounds call sh nt Q l' ac0 k a' w') Q) hp fun e a w h=>by
            cases e with
            |goto l=>exact⟨h.1,h.2.1⟩
            |_=>exact h
          exact wp_seq (wp_label hp')
        grind
      grind
    · split at hc
      · rename_i ax ay hf hx hy
        split at hc
        · rename_i hlv
          cases hc
          obtain⟨c0,ac0,h1,h2,h3,h4⟩:=scope_first y ay l hy
          refine⟨c0,ac0,by simp[findLabel,hf,h1],h2,h3,fun m X s a r Q hm hex hs hdom hpost=>?_⟩
          cases m with
          |zero=>simp[exec] at hex
          | succ k =>
            rw[exec_succ k] at hex
            dsimp at hex
            refine wp_seq ?_
            split at hex
            · rename_i s' he
              refine ihA x ax X s a (.normal,s') _ hx (exec_le (by omega) he) hs hdom fun Y a' hx' hs' hn hd=>?_
              exact h4 k Y s' a' r Q (by omega) hex hs' (dom_step hdom hn hd) (hpost.trans hx' hn hd)
            · refine ihA x ax X s a r _ hx (exec_le (by omega) hex) hs hdom fun Y a' hx' hs' hn hd => ?_
              have:=hpost Y a' hx' hs' hn hd
              obtain⟨z,s'⟩:=r
              cases z with
              |normal=>grind
              | exit id =>
                have hb:=leaves_ok _ _ _ _ _ hlv hex
                rw[exit'_lt hb] at this ⊢
                exact this
              |ret=>exact this
        grind
      grind
  |.skip,_,_,hc=>by simp[codeG] at hc
  |.region ..,_,_,hc=>by simp[codeG] at hc
  |.cond ..,_,_,hc=>by simp[codeG] at hc
  |.block ..,_,_,hc=>by simp[codeG] at hc
  |.loop ..,_,_,hc=>by simp[codeG] at hc
  |.exit ..,_,_,hc=>by simp[codeG] at hc
  |.goto ..,_,_,hc=>by simp[codeG] at hc
  |.label ..,_,_,hc=>by simp[codeG] at hc
  |.scope ..,_,_,hc=>by simp[codeG] at hc
  |.ret,_,_,hc=>by simp[codeG] at hc
  |.rangeFunc ..,_,_,hc=>by simp[codeG] at hc
  |.refuse ..,_,_,hc=>by simp[codeG] at hc
end
theorem exec_ok (hm : P.follows .mixedOrders = true) (hcall : CallOK P call) (hlib : ∀ f T, lib f = some T → IsLib P f T) : ∀ (n : Nat),
    (∀ (c:Code) (ac:AC) (X:Cx) (s:St) (a:Act) (r:AX×St) (Q:Exit→Act→World→Prop),codeG P lib nt rows c none=some ac→exec call sh n ac s=some r→Sim X nt s a→(∀ v,s.nv≤v→X.ρ v=none)→Post X nt s r Q→c.wp P Q a X.w)∧
    (∀ (c:Code) (ac:AC) (X:Cx) (s:St) (a:Act) (r:AX×St) (Q:Exit→Act→World→Prop),codeG P lib nt rows c none=some ac→exec call sh n (.loop ac) s=some r→Sim X nt s a→(∀ v,s.nv≤v→X.ρ v=none)→Post X nt s r Q→LoopAt P c Q a X.w):=by
  intro n
  induction n with
  |zero=>simp_all[CallOK,Call,LoopAt,Post,exec,codeG]
  | succ n ih =>
    obtain⟨ihA,ihB⟩:=ih
    have B:∀ (c:Code) (ac:AC) (X:Cx) (s:St) (a:Act) (r:AX×St) (Q:Exit→Act→World→Prop),codeG P lib nt rows c none=some ac→exec call sh (n+1) (.loop ac) s=some r→Sim X nt s a→(∀ v,s.nv≤v→X.ρ v=none)→Post X nt s r Q→LoopAt P c Q a X.w:=by
      intro c ac X s a r Q hc hr hs hdom hQ
      simp[exec] at hr
      refine LoopAt.round ?_
      split at hr
      · rename_i s' he
        refine ihA c ac X s a (.normal,s') _ hc he hs hdom fun Y a' hx hs' hn hd=>?_
        exact ihB c ac Y s' a' r Q hc hr hs' (dom_step hdom hn hd) (hQ.trans hx hn hd)
      · rename_i hne
        refine ihA c ac X s a r _ hc hr hs hdom fun Y a' hx hs' hn hd=>?_
        have:=hQ Y a' hx hs' hn hd
        obtain⟨x,s'⟩:=r
        cases x with
        |normal=>exact absurd hr (hne s')
        |exit id=>exact then_exit this
        |ret=>exact this
    refine⟨fun c ac X s a r Q hc hr hs hdom hQ=>?_,B⟩
    cases c with
    | skip =>
      cases hc
      cases hr
      exact wp_skip (hQ.now hs)
    | region id ops draw =>
      simp[codeG] at hc
      have:∃ l dr,ac=.region l dr:=by
        unfold regP at hc
        split at hc
        · obtain⟨l,_,rfl⟩:=opt_map hc;exact⟨_,_,rfl⟩
        · simp at hc
          split at hc
          · split at hc
            · injection hc with hc;exact⟨_,_,hc.symm⟩
            · cases hc
          · cases hc
      obtain⟨l,dr,rfl⟩:=this
      obtain⟨s',hr',rfl⟩:=opt_map hr
      exact region_ok hm hcall hlib hc hr' hs hdom hQ
    | seq x y =>
      simp[codeG] at hc
      split at hc
      · rename_i ax ay hx hy
        cases hc
        simp[exec] at hr
        refine wp_seq ?_
        split at hr
        · rename_i s' he
          refine ihA x ax X s a (.normal,s') _ hx he hs hdom fun Y a' hx' hs' hn hd=>?_
          exact ihA y ay Y s' a' r Q hy hr hs' (dom_step hdom hn hd) (hQ.trans hx' hn hd)
        · rename_i hne
          refine ihA x ax X s a r _ hx hr hs hdom fun Y a' hx' hs' hn hd=>?_
          have:=hQ Y a' hx' hs' hn hd
          obtain⟨z,s'⟩:=r
          cases z with
          |normal=>exact absurd hr (hne s')
          |exit id=>exact then_exit this
          |ret=>exact this
      · cases hc
    | cond c x y =>
      simp[codeG] at hc
      split at hc
      · rename_i c' ax ay hc' hx hy
        cases hc
        simp[exec] at hr
        have hv:=opd_ok hs hc'
        split at hr
        · rename_i hb
          exact wp_cond_true (boolOfA_ok hb hv) (ihA x ax X s a r Q hx hr hs hdom hQ)
        · rename_i hb
          exact wp_cond_false (boolOfA_ok hb hv) (ihA y ay X s a r Q hy hr hs hdom hQ)
        · cases hr
      · cases hc
    | block id c =>
      simp[codeG] at hc
      split at hc
      · rename_i hblt
        obtain⟨ac',hc',rfl⟩:=opt_map hc
        simp[exec] at hr
        refine wp_block ?_
        split at hr
        · rename_i id' s' he
          split at hr
          · rename_i hid
            cases hr
            refine ihA c ac' X s a (.exit id',s') _ hc' he hs hdom fun Y a' hx' hs' hn hd=>?_
            have:=hQ Y a' hx' hs' hn hd
            have hid:=Nat.eq_of_beq_eq_true hid
            subst hid
            rw[exit'_lt hblt]
            simp[Exit.inBlock,if_true]
            exact this
          · rename_i hid
            cases hr
            refine ihA c ac' X s a (.exit id',s') _ hc' he hs hdom fun Y a' hx' hs' hn hd=>?_
            have:=hQ Y a' hx' hs' hn hd
            simp[AX.exit'] at this ⊢
            split
            · rename_i hb
              rw[if_pos hb] at this
              simp[Exit.inBlock,Nat.ne_of_beq_eq_false hid,if_false]
              exact this
            · rename_i hb
              rw[if_neg hb] at this
              exact this
        · rename_i hne
          refine ihA c ac' X s a r _ hc' hr hs hdom fun Y a' hx' hs' hn hd=>?_
          have:=hQ Y a' hx' hs' hn hd
          obtain⟨z,s'⟩:=r
          cases z with
          |normal=>exact this
          |exit id=>exact absurd hr (hne id s')
          |ret=>exact this
      · cases hc
    | loop c =>
      obtain⟨ac',hc',rfl⟩:=opt_map hc
      exact (B c ac' X s a r Q hc' hr hs hdom hQ).wp
    | exit id =>
      simp[codeG] at hc
      split at hc
      · rename_i hblt
        cases hc
        cases hr
        have:=hQ.now hs
        rw[exit'_lt hblt] at this
        exact wp_exit this
      · cases hc
    | goto l =>
      cases hc
      cases hr
      have:=hQ.now hs
      rw[exit'_gid] at this
      exact wp_goto this
    | scope c =>
      simp[codeG] at hc
      split at hc
      · rename_i l hl
        obtain⟨c0,ac0,h1,h2,h3,h4⟩:=scope_first ihA c ac l hc
        refine wp_scope_jumps l (fun a w=>∃ k,k≤n∧Rounds call sh nt Q l ac0 k a w) (rounds call sh nt Q l ac0) h1 (h4 (n+1) X s a r Q (Nat.le_refl _) hr hs hdom hQ) fun a w hJ=>?_
        obtain⟨k,hk,hR⟩:=hJ
        exact wp_seq (wp_skip (scope_pass ihA h2 h3 (Nat.le_trans (rounds_le hR) hk) (rounds_at hR)))
      · cases hc
    | ret =>
      cases hc
      cases hr
      exact wp_ret (hQ.now hs)
    |_=>simp[codeG] at hc
end
end Go.Eng
