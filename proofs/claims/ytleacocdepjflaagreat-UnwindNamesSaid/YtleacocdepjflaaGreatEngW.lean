/- Whatever order a drawn region takes: it comes to the same state. -/
import Derived.Test.YtleacocdepjflaaGreatEngV
namespace Go.Eng
open Go
abbrev Fx:=Nat×Option Nat×Res
def appL (s:St):List Fx→St
  |[]=>s
  |x :: r=>appL (s.app x.2.1 x.2.2) r
theorem appL_append:∀ (l l':List Fx) (s:St),appL s (l++l')=appL (appL s l) l'
  |[],_,_=>rfl
  |_ :: r,l',_=>appL_append r l' _
structure View (α : Type) where
  see:St→α
  touch:Fx→Bool
  good:Fx→Bool:=fun _=>true
  off:∀ (s:St) (x:Fx),touch x=false→see (s.app x.2.1 x.2.2)=see s
  on:∀ (s s':St) (x:Fx),good x=true→see s=see s'→see (s.app x.2.1 x.2.2)=see (s'.app x.2.1 x.2.2)
section
variable {α : Type} (V:View α)
theorem View.congr:∀ (l:List Fx) {s s':St},(∀ x∈l,V.good x=true)→V.see s=V.see s'→V.see (appL s l)=V.see (appL s' l)
  |[],_,_,_,h=>h
  |x :: r,_,_,hg,h=>View.congr r (fun y hy=>hg y (List.mem_cons_of_mem _ hy)) (V.on _ _ x (hg x (List.mem_cons_self ..)) h)
theorem View.filter:∀ (l:List Fx) (s:St),(∀ x∈l,V.good x=true)→V.see (appL s l)=V.see (appL s (l.filter V.touch))
  |[],_,_=>rfl
  | x :: r, s, hg => by
    have hr:∀ y∈r,V.good y=true:=fun y hy=>hg y (List.mem_cons_of_mem _ hy)
    cases h:V.touch x with
    |true=>simp only[List.filter_cons,h,if_true,appL];exact View.filter r _ hr
    | false =>
      simp only[List.filter_cons,h,appL,Bool.false_eq_true,if_false]
      exact (View.congr V r hr (V.off s x h)).trans (View.filter r s hr)
end
theorem getS_putS (t:Tr AV) (dst:Option Nat) (v:AV) (n:Nat):getS (putS t dst v) n=if dst=some n then v else getS t n:=by
  unfold getS putS
  cases dst with
  |none=>simp
  | some d =>
    simp only[Tr.get_set,Option.some.injEq]
    split<;>rfl
theorem app_slots (s:St) (d:Option Nat) (r:Res):(s.app d r).slots=putS s.slots d r.val:=by cases r<;>rfl
def slotV (t : Nat) : View AV where
  see s:=getS s.slots t
  touch x:=x.2.1==some t
  off s x h:=by
    rw[app_slots,getS_putS,if_neg (by simpa using h)]
  on s s' x _ h:=by
    rw[app_slots,app_slots,getS_putS,getS_putS,h]
theorem memSet_length (m:List (Tr Ent)) (lv sl:Nat) (e:Option Ent):(memSet m lv sl e).length=m.length:=by simp[memSet]
theorem applyUpd_length:∀ (u:List (Nat×Nat×Option Ent)) (m:List (Tr Ent)),(applyUpd m u).length=m.length
  |[],_=>rfl
  |(lv,sl,e) :: r,m=>(applyUpd_length r _).trans (memSet_length m lv sl e)
def isAll:Res→Bool
  |.eff _=>false
  |.all ..=>true
def whole:Res→Bool
  |.eff _=>false
  |.all _ _ _ _ kp kr=>(kp++kr).isEmpty
def lenV : View Nat where
  see s:=s.mem.length
  touch x:=whole x.2.2
  off s x h := by
    obtain⟨i,d,r⟩:=x
    cases r with
    |eff e=>exact applyUpd_length _ _
    | all v m t n kp kr =>
      refine back_length ?_
      intro q
      simp only[whole,q] at h
      cases h
  on s s' x _ h:=by
    obtain⟨i,d,r⟩:=x
    cases r with
    |eff e=>exact (applyUpd_length _ _).trans (h.trans (applyUpd_length _ _).symm)
    | all v m t n kp kr =>
      show (back s.mem m (kp++kr)).length=(back s'.mem m (kp++kr)).length
      cases kp++kr with
      |nil=>rfl
      |cons k r=>exact (back_length (kp:=k :: r) (by simp)).trans (h.trans (back_length (kp:=k :: r) (by simp)).symm)
def nvV : View Nat where
  see s:=s.nv
  touch x:=isAll x.2.2
  off s x h:=by
    obtain⟨i,d,r⟩:=x
    cases r with
    |eff e=>rfl
    |all=>cases h
  on s s' x _ h:=by
    obtain⟨i,d,r⟩:=x
    cases r with
    |eff e=>exact h
    |all=>rfl
theorem applyUpd_get {lv sl:Nat} : ∀ (u:List (Nat×Nat×Option Ent)) (m m':List (Tr Ent)),memGet m lv sl=memGet m' lv sl→m.length=m'.length→memGet (applyUpd m u) lv sl=memGet (applyUpd m' u) lv sl
  |[],_,_,h,_=>h
  |(a,b,e) :: r,m,m',h,hl=>applyUpd_get r _ _ (by rw[memGet_set,memGet_set,h,hl]) (by rw[memSet_length,memSet_length,hl])
theorem applyUpd_off {lv sl:Nat} : ∀ (u:List (Nat×Nat×Option Ent)) (m:List (Tr Ent)),keyE lv sl ∉ u.map (fun u=>keyE u.1 u.2.1)→memGet (applyUpd m u) lv sl=memGet m lv sl
  |[],_,_=>rfl
  | (a, b, e) :: r, m, h => by
    simp only[List.map_cons,List.mem_cons,not_or] at h
    rw[applyUpd,applyUpd_off r _ h.2,memGet_set,if_neg]
    rintro⟨rfl,rfl,_⟩
    exact h.1 rfl
theorem applyTip_get {v:Nat} : ∀ (u:List (Nat×Bool)) (m m':Tr Unit),m.get? v=m'.get? v→(applyTip m u).get? v=(applyTip m' u).get? v
  |[],_,_,h=>h
  |(a,b) :: r,m,m',h=>applyTip_get r _ _ (by rw[Tr.get_set,Tr.get_set,h])
theorem applyTip_off {v:Nat} : ∀ (u:List (Nat×Bool)) (m:Tr Unit),keyT v ∉ u.map (fun u=>keyT u.1)→(applyTip m u).get? v=m.get? v
  |[],_,_=>rfl
  | (a, b) :: r, m, h => by
    simp only[List.map_cons,List.mem_cons,not_or] at h
    rw[applyTip,applyTip_off r _ h.2,Tr.get_set,if_neg]
    rintro rfl
    exact h.1 rfl
def InK (kp:List (Nat×Nat)) (k:Nat×Nat×Nat):Prop:=∃ p∈kp,k=keyE p.1 p.2
theorem InK.mem {kp:List (Nat×Nat)} {lv sl:Nat} (h:InK kp (keyE lv sl)):(lv,sl)∈kp:=by
  obtain⟨p,hp,he⟩:=h
  obtain⟨rfl,rfl⟩:=keyE_inj he
  exact hp
def inK (kp:List (Nat×Nat)) (k:Nat×Nat×Nat):Bool:=kp.any fun p=>k==keyE p.1 p.2
theorem inK_iff {kp:List (Nat×Nat)} {k:Nat×Nat×Nat} : inK kp k=true↔InK kp k:=by
  unfold inK InK
  rw[List.any_eq_true]
  constructor
  · rintro⟨p,hp,he⟩;exact⟨p,hp,by simpa using he⟩
  · rintro⟨p,hp,he⟩;exact⟨p,hp,by simpa using he⟩
def touchE (k:Nat×Nat×Nat):Res→Bool
  |.eff e=>decide (k∈e.wr)
  |.all _ _ _ _ kp kr=>!inK (kp++kr) k
def entV (lv sl : Nat) : View (Option Ent × Nat) where
  see s:=(memGet s.mem lv sl,s.mem.length)
  touch x:=touchE (keyE lv sl) x.2.2
  off s x h := by
    obtain⟨i,d,r⟩:=x
    cases r with
    | eff e =>
      simp only[touchE,Eff.wr,List.mem_append,not_or,decide_eq_false_iff_not] at h
      simp only[St.app,applyUpd_length,applyUpd_off _ _ h.1]
    | all v m t n kp kr =>
      simp only[touchE,Bool.not_eq_false'] at h
      have hk:=(inK_iff.1 h).mem
      have hne:kp++kr≠[]:=by intro q;rw[q] at hk;cases hk
      simp only[St.app,back_length hne,memGet_back,if_neg hne,if_pos hk]
  on s s' x _ h:=by
    obtain⟨i,d,r⟩:=x
    simp only[Prod.mk.injEq] at h
    cases r with
    |eff e=>simp only[St.app,applyUpd_length,applyUpd_get _ _ _ h.1 h.2,h.2]
    | all v m t n kp kr =>
      simp only[St.app]
      cases kp++kr with
      |nil=>rfl
      | cons k r =>
        have hne:k :: r≠[]:=by simp
        simp only[back_length hne,memGet_back,if_neg hne,h.1,h.2]
def tipV (v : Nat) : View (Option Unit) where
  see s:=s.tips.get? v
  touch x:=touchE (keyT v) x.2.2
  off s x h := by
    obtain⟨i,d,r⟩:=x
    cases r with
    | eff e =>
      simp only[touchE,Eff.wr,List.mem_append,not_or,decide_eq_false_iff_not] at h
      exact applyTip_off _ _ h.2
    | all v' m t n kp kr =>
      simp only[touchE,Bool.not_eq_false'] at h
      obtain⟨p,_,hp⟩:=inK_iff.1 h
      exact (keyE_ne_keyT hp.symm).elim
  on s s' x _ h:=by
    obtain⟨i,d,r⟩:=x
    cases r with
    |eff e=>exact applyTip_get _ _ _ h
    |all=>rfl
def Clear:Res→Res→Prop
  |.eff a,.eff b=>(∀ k∈a.rd,k ∉ b.wr)∧(∀ k∈a.wr,k ∉ b.rd)∧∀ k∈a.wr,k ∉ b.wr
  |.all _ _ _ _ kp kr,.eff b=>(∀ k∈b.rd,InK (kp++kr) k)∧∀ k∈b.wr,InK kp k
  |.eff a,.all _ _ _ _ kp kr=>(∀ k∈a.rd,InK (kp++kr) k)∧∀ k∈a.wr,InK kp k
  |.all ..,.all ..=>False
theorem Clear.symm {a b:Res} (h:Clear a b):Clear b a:=by
  cases a<;>cases b
  · exact⟨fun k hk h'=>h.2.1 k h' hk,fun k hk h'=>h.1 k h' hk,fun k hk h'=>h.2.2 k h' hk⟩
  · exact h
  · exact h
  · exact h
theorem meets_spec {a b:List (Nat×Nat×Nat)} (h:meets a b=false):∀ k∈a,k ∉ b:=by
  intro k hk hb
  have:meets a b=true:=List.any_eq_true.2 ⟨k,hk,by simpa using hb⟩
  rw[this] at h;cases h
theorem within_spec {kp kr:List (Nat×Nat)} {e:Eff} (h:within kp kr e=true):(∀ k∈e.rd,InK (kp++kr) k)∧∀ k∈e.wr,InK kp k:=by
  unfold within at h
  rw[Bool.and_eq_true] at h
  exact⟨fun k hk=>inK_iff.1 (List.all_eq_true.1 h.1 k hk),fun k hk=>inK_iff.1 (List.all_eq_true.1 h.2 k hk)⟩
theorem InK.left {kp kr:List (Nat×Nat)} {k:Nat×Nat×Nat} (h:InK kp k):InK (kp++kr) k:=by
  obtain⟨p,hp,he⟩:=h
  exact⟨p,List.mem_append_left _ hp,he⟩
theorem clash_spec {a b:Res} (h:clash a b=false):Clear a b:=by
  cases a<;>cases b
  · simp only [clash, Bool.or_eq_false_iff] at h
    exact⟨meets_spec h.1.1,meets_spec h.1.2,meets_spec h.2⟩
  · simp only [clash, Bool.not_eq_false'] at h
    exact within_spec h
  · simp only [clash, Bool.not_eq_false'] at h
    exact within_spec h
  · cases h
theorem loud_key {e:Eff} (h:loud (.eff e)=true):∃ k,k∈e.rd++e.wr:=by
  simp only[loud,Bool.not_eq_true',Bool.and_eq_false_iff] at h
  rcases h with (h|h)|h
  · cases hr : e.rd with
    |nil=>rw[hr] at h;cases h
    |cons k r=>exact⟨k,by simp⟩
  · cases hr : e.upd with
    |nil=>rw[hr] at h;cases h
    |cons k r=>exact⟨keyE k.1 k.2.1,by simp[Eff.wr,hr]⟩
  · cases hr : e.tip with
    |nil=>rw[hr] at h;cases h
    |cons k r=>exact⟨keyT k.1,by simp[Eff.wr,hr]⟩
theorem Clear.whole {a b : Res} (h : Clear a b) (ha : whole a = true) (hb : loud b = true) : False := by
  cases a with
  |eff=>cases ha
  | all v m t n kp kr =>
    have ha:kp++kr=[]:=List.isEmpty_iff.1 ha
    cases b with
    |all=>exact h
    | eff e =>
      obtain⟨k,hk⟩:=loud_key hb
      have:InK (kp++kr) k:=by
        rcases List.mem_append.1 hk with hk|hk
        · exact h.1 k hk
        · exact (h.2 k hk).left
      rw[ha] at this
      obtain⟨p,hp,_⟩:=this
      cases hp
theorem Clear.alls {a b:Res} (h:Clear a b) (ha:isAll a=true) (hb:isAll b=true):False:=by
  cases a with
  |eff=>cases ha
  | all => cases b with
    |eff=>cases hb
    |all=>exact h
theorem Clear.touch {a b:Res} (h:Clear a b) {k:Nat×Nat×Nat} (ha:touchE k a=true) (hb:touchE k b=true):False:=by
  cases a<;>cases b
  · simp only [touchE, decide_eq_true_eq] at ha hb
    exact h.2.2 k ha hb
  · simp only [touchE, decide_eq_true_eq, Bool.not_eq_true'] at ha hb
    exact Bool.noConfusion (hb.symm.trans (inK_iff.2 (h.2 k ha).left))
  · simp only [touchE, decide_eq_true_eq, Bool.not_eq_true'] at ha hb
    exact Bool.noConfusion (ha.symm.trans (inK_iff.2 (h.2 k hb).left))
  · exact h
theorem Tr.set_set {α : Type} : ∀ (f g : Nat) (t : Tr α) (n : Nat) (x y : Option α), n < f → n < g → Tr.setF f (Tr.setF g t n x) n y = Tr.setF f t n y
  |0,_,_,_,_,_,h,_=>by omega
  |_+1,0,_,_,_,_,_,h=>by omega
  | f + 1, g + 1, t, n, x, y, hf, hg => by
    cases h0:Nat.beq n 0 with
    |true=>simp only[Tr.setF,h0,Tr.left,Tr.right]
    | false =>
      have hn:n≠0:=by rintro rfl;cases h0
      cases h1:Nat.beq (n % 2) 1 with
      | true =>
        simp only[Tr.setF,h0,h1,Tr.top,Tr.left,Tr.right]
        rw[Tr.set_set f g _ _ _ _ (by omega) (by omega)]
      | false =>
        simp only[Tr.setF,h0,h1,Tr.top,Tr.left,Tr.right]
        rw[Tr.set_set f g _ _ _ _ (by omega) (by omega)]
theorem Tr.set_comm {α : Type} : ∀ (f g:Nat) (t:Tr α) (n m:Nat) (x y:Option α),n<f→m<g→n≠m→Tr.setF f (Tr.setF g t m y) n x=Tr.setF g (Tr.setF f t n x) m y
  |0,_,_,_,_,_,_,h,_,_=>by omega
  |_+1,0,_,_,_,_,_,_,h,_=>by omega
  | f + 1, g + 1, t, n, m, x, y, hf, hg, hne => by
    have b:∀ k,Nat.beq k 0=true→k=0:=fun k h=>Nat.eq_of_beq_eq_true h
    have c:∀ k,Nat.beq k 0=false→k≠0:=fun k h=>by rintro rfl;cases h
    have d:∀ k,Nat.beq (k % 2) 1=true→k % 2=1:=fun k h=>Nat.eq_of_beq_eq_true h
    have e:∀ k,Nat.beq (k % 2) 1=false→k % 2≠1:=fun k h q=>by rw[q] at h;cases h
    simp only[Tr.setF]
    cases hn:Nat.beq n 0<;>cases hm:Nat.beq m 0<;>cases hn1:Nat.beq (n % 2) 1<;>cases hm1:Nat.beq (m % 2) 1<;>simp only[Tr.top,Tr.left,Tr.right]
    all_goals first
      |rfl
      |(exfalso;have:=b _ hn;have:=b _ hm;omega)
      | (have h1 := c _ hn; have h2 := c _ hm
         first
         |(have h3:=d _ hn1;have h4:=d _ hm1;rw[Tr.set_comm f g _ _ _ _ _ (by omega) (by omega) (by omega)])
         |(have h3:=e _ hn1;have h4:=e _ hm1;rw[Tr.set_comm f g _ _ _ _ _ (by omega) (by omega) (by omega)])
         |rfl)
theorem memSet_same (m:List (Tr Ent)) (lv sl:Nat) (x y:Option Ent):memSet (memSet m lv sl x) lv sl y=memSet m lv sl y:=by
  unfold memSet
  rw[List.modify_modify_eq]
  congr 1
  funext t
  exact Tr.set_set _ _ _ _ _ _ (by omega) (by omega)
theorem memSet_comm (m:List (Tr Ent)) {lv sl lv' sl':Nat} (x y:Option Ent) (h:(lv,sl)≠(lv',sl')):memSet (memSet m lv sl x) lv' sl' y=memSet (memSet m lv' sl' y) lv sl x:=by
  unfold memSet
  by_cases hl:lv=lv'
  · subst hl
    rw[List.modify_modify_eq,List.modify_modify_eq]
    congr 1
    funext t
    exact Tr.set_comm _ _ _ _ _ _ _ (by omega) (by omega) (fun q=>h (by rw[q]))
  · exact List.modify_modify_ne _ _ _ hl
theorem hide_set : ∀ (kp : List (Nat × Nat)) (m : List (Tr Ent)) (lv sl : Nat) (e : Option Ent), hide (memSet m lv sl e) kp = if (lv, sl) ∈ kp then hide m kp else memSet (hide m kp) lv sl e
  |[],m,lv,sl,e=>by simp[hide,applyUpd]
  | (a, b) :: r, m, lv, sl, e => by
    show hide (memSet (memSet m lv sl e) a b none) r=_
    by_cases hab:(lv,sl)=(a,b)
    · injection hab with h1 h2
      subst h1;subst h2
      rw[if_pos (List.mem_cons_self ..),memSet_same]
      rfl
    · rw [memSet_comm m e none hab, hide_set r]
      by_cases hr:(lv,sl)∈r
      · rw[if_pos hr,if_pos (List.mem_cons_of_mem _ hr)];rfl
      · rw [if_neg hr, if_neg]
        · rfl
        · intro h
          rcases List.mem_cons.1 h with h|h
          · exact hab h
          · exact hr h
theorem hide_upd_in {kp:List (Nat×Nat)} : ∀ (u:List (Nat×Nat×Option Ent)) (m:List (Tr Ent)),(∀ x∈u,(x.1,x.2.1)∈kp)→hide (applyUpd m u) kp=hide m kp
  |[],_,_=>rfl
  | (a, b, e) :: r, m, h => by
    rw[applyUpd,hide_upd_in r _ fun x hx=>h x (List.mem_cons_of_mem _ hx),hide_set,if_pos (h _ (List.mem_cons_self ..))]
theorem hide_upd {kp:List (Nat×Nat)} : ∀ (u:List (Nat×Nat×Option Ent)) {m m':List (Tr Ent)},hide m kp=hide m' kp→hide (applyUpd m u) kp=hide (applyUpd m' u) kp
  |[],_,_,h=>h
  | (a, b, e) :: r, m, m', h => by
    refine hide_upd r ?_
    rw[hide_set,hide_set,h]
theorem hide_fit {old old' m:List (Tr Ent)} (h:old.length=old'.length):fit old m=fit old' m:=by
  unfold fit;rw[h]
theorem hide_back {m m':List (Tr Ent)} {kp:List (Nat×Nat)} (h:hide m kp=hide m' kp):∀ (l:List (Nat×Nat)) {F F':List (Tr Ent)},hide F kp=hide F' kp→hide (applyUpd F (l.map fun k=>(k.1,k.2,memGet m k.1 k.2))) kp=hide (applyUpd F' (l.map fun k=>(k.1,k.2,memGet m' k.1 k.2))) kp
  |[],_,_,hF=>hF
  | (a, b) :: r, F, F', hF => by
    refine hide_back h r ?_
    rw[hide_set,hide_set]
    by_cases hk:(a,b)∈kp
    · rw[if_pos hk,if_pos hk,hF]
    · rw [if_neg hk, if_neg hk, hF]
      have e1:=memGet_hide m kp a b
      have e2:=memGet_hide m' kp a b
      rw[if_neg hk] at e1 e2
      rw[←e1,←e2,h]
def hidV (kp : List (Nat × Nat)) : View (List (Tr Ent) × Tr Unit × Nat) where
  see s:=(hide s.mem kp,s.tips,s.nv)
  touch x:=match x.2.2 with
    |.eff e=>!(e.upd.all (fun u=>decide ((u.1,u.2.1)∈kp))&&e.tip.isEmpty)
    |.all ..=>true
  off s x h := by
    obtain⟨i,d,r⟩:=x
    cases r with
    | eff e =>
      simp only[Bool.not_eq_false',Bool.and_eq_true,List.isEmpty_iff] at h
      simp only[St.app,h.2]
      rw[hide_upd_in e.upd s.mem fun u hu=>by simpa using List.all_eq_true.1 h.1 u hu]
      rfl
    |all=>cases h
  on s s' x _ h := by
    obtain⟨i,d,r⟩:=x
    simp only[Prod.mk.injEq] at h
    cases r with
    |eff e=>simp only[St.app,h.2.1,h.2.2,hide_upd e.upd h.1]
    | all v m t n kp' kr' =>
      have hl:=hide_len h.1
      have:hide (back s.mem m (kp'++kr')) kp=hide (back s'.mem m (kp'++kr')) kp:=by
        cases kp'++kr' with
        |nil=>rfl
        | cons k r =>
          unfold back
          rw[hide_fit hl]
          exact hide_back h.1 (k :: r) rfl
      simp only[St.app,this]
theorem hasNat_iff {l:List Nat} {n:Nat} : hasNat l n=true↔n∈l:=by
  unfold hasNat
  rw[List.any_eq_true]
  constructor
  · rintro⟨m,hm,h⟩;rw[←Nat.eq_of_beq_eq_true h];exact hm
  · intro h;exact⟨n,h,Nat.beq_refl n⟩
structure Off (x y:AOper):Prop where
  xy:∀ t,x.dst=some t→t ∉ y.looks
  yx:∀ t,y.dst=some t→t ∉ x.looks
  ne:∀ t,x.dst=some t→y.dst≠some t
theorem Off.symm {x y:AOper} (h:Off x y):Off y x:=⟨h.yx,h.xy,fun t h1 h2=>h.ne t h2 h1⟩
theorem apart_spec {x y:AOper} (h:x.apart y=true):Off x y:=by
  simp only[AOper.apart,Bool.and_eq_true] at h
  refine⟨fun t ht hm=>?_,fun t ht hm=>?_,fun t ht h'=>?_⟩
  · have:=h.1.1;simp[dstOff,ht,hasNat_iff.2 hm] at this
  · have:=h.1.2;simp[dstOff,ht,hasNat_iff.2 hm] at this
  · have:=h.2;simp[dstsOff,ht,h'] at this
theorem step_local {call:Call} {sh:Nat→Bool} {s s':St} {o:AOper} {nvi:Nat} {r:Res} (h:o.step call sh s nvi=some r) (hs:∀ t∈o.looks,getS s'.slots t=getS s.slots t) (hn:Near s s' r):o.step call sh s' nvi=some r:=by
  have hw:wantedA s'.slots o=wantedA s.slots o:=by
    unfold wantedA
    split
    · rfl
    · rename_i g b hg
      rw[hs g (by simp[AOper.looks,hg])]
  unfold AOper.step at h ⊢
  rw[hw]
  split at h
  · cases h
  · refine run_local h (fun x hx => ?_) hn
    cases x with
    |t n=>exact hs n (by simp only[AOper.looks,List.mem_append,List.mem_flatMap];exact .inl ⟨_,hx,by simp[Opd.slot]⟩)
    |c v=>rfl
  · exact h
end Go.Eng
