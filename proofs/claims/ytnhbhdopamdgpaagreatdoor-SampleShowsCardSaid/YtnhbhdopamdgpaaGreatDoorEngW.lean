/- Whatever order a drawn region takes: it comes to the same state. -/
import Derived.Test.YtnhbhdopamdgpaaGreatDoorEngV
namespace Go.Eng
open Go
abbrev Fx:=Nat×Option Nat×Res
def appL (s:St):List Fx→St
 |[]=>s
 |x :: r=>appL (s.app x.2.1 x.2.2) r
theorem appL_append:∀ (l l':List Fx) (s:St),appL s (l++l')=appL (appL s l) l'
 |[],_,_=>rfl
 |_ :: r,l',_=>appL_append r l' _
structure View (α : Type) where
 see:St→α
 touch:Fx→Bool
 off:∀ (s:St) (x:Fx),touch x=false→see (s.app x.2.1 x.2.2)=see s
 on:∀ (s s':St) (x:Fx),see s=see s'→see (s.app x.2.1 x.2.2)=see (s'.app x.2.1 x.2.2)
section
variable {α : Type} (V:View α)
theorem View.congr:∀ (l:List Fx) {s s':St},V.see s=V.see s'→V.see (appL s l)=V.see (appL s' l)
 |[],_,_,h=>h
 |x :: r,_,_,h=>View.congr r (V.on _ _ x h)
theorem View.filter:∀ (l:List Fx) (s:St),V.see (appL s l)=V.see (appL s (l.filter V.touch))
 |[],_=>rfl
 | x :: r, s => by
  cases h:V.touch x with
  |true=>simp only[List.filter_cons,h,if_true,appL];exact View.filter r _
  |false=>
   simp only[List.filter_cons,h,appL,Bool.false_eq_true,if_false]
   exact (View.congr V r (V.off s x h)).trans (View.filter r s)
end
theorem getS_putS (t:Tr AV) (dst:Option Nat) (v:AV) (n:Nat):getS (putS t dst v) n=if dst=some n then v else getS t n:=by
 unfold getS putS
 cases dst with
 |none=>simp
 |some d=>
  simp only[Tr.get_set,Option.some.injEq]
  split<;>rfl
theorem app_slots (s:St) (d:Option Nat) (r:Res):(s.app d r).slots=putS s.slots d r.val:=by cases r<;>rfl
def slotV (t:Nat):View AV where
 see s:=getS s.slots t
 touch x:=x.2.1==some t
 off s x h:=by
  rw[app_slots,getS_putS,if_neg (by simpa using h)]
 on s s' x h:=by
  rw[app_slots,app_slots,getS_putS,getS_putS,h]
theorem memSet_length (m:List (Tr Ent)) (lv sl:Nat) (e:Option Ent):(memSet m lv sl e).length=m.length:=by simp[memSet]
theorem applyUpd_length:∀ (u:List (Nat×Nat×Option Ent)) (m:List (Tr Ent)),(applyUpd m u).length=m.length
 |[],_=>rfl
 |(lv,sl,e) :: r,m=>(applyUpd_length r _).trans (memSet_length m lv sl e)
def isAll:Res→Bool
 |.eff _=>false
 |.all ..=>true
def lenV:View Nat where
 see s:=s.mem.length
 touch x:=isAll x.2.2
 off s x h:=by
  obtain⟨i,d,r⟩:=x
  cases r with
  |eff e=>exact applyUpd_length _ _
  |all=>cases h
 on s s' x h:=by
  obtain⟨i,d,r⟩:=x
  cases r with
  |eff e=>exact (applyUpd_length _ _).trans (h.trans (applyUpd_length _ _).symm)
  |all=>rfl
def nvV:View Nat where
 see s:=s.nv
 touch x:=isAll x.2.2
 off s x h:=by
  obtain⟨i,d,r⟩:=x
  cases r with
  |eff e=>rfl
  |all=>cases h
 on s s' x h:=by
  obtain⟨i,d,r⟩:=x
  cases r with
  |eff e=>exact h
  |all=>rfl
theorem quiet_app {s:St} {d:Option Nat} {r:Res} (h:loud r=false):(s.app d r).mem=s.mem∧(s.app d r).tips=s.tips∧(s.app d r).nv=s.nv:=by
 cases r with
 |eff e=>
  simp only[loud,Bool.not_eq_false',Bool.and_eq_true,List.isEmpty_iff] at h
  simp only[St.app,h.1.2,h.2]
  exact⟨rfl,rfl,trivial⟩
 |all=>cases h
def memV:View (List (Tr Ent)×Tr Unit×Nat) where
 see s:=(s.mem,s.tips,s.nv)
 touch x:=loud x.2.2
 off s x h:=by obtain⟨h1,h2,h3⟩:=quiet_app (s:=s) (d:=x.2.1) h;simp only[h1,h2,h3]
 on s s' x h:=by
  obtain⟨i,d,r⟩:=x
  simp only[Prod.mk.injEq] at h
  cases r with
  |eff e=>simp only[St.app,h.1,h.2.1,h.2.2]
  |all=>rfl
theorem applyUpd_get {lv sl:Nat} : ∀ (u:List (Nat×Nat×Option Ent)) (m m':List (Tr Ent)),memGet m lv sl=memGet m' lv sl→m.length=m'.length→memGet (applyUpd m u) lv sl=memGet (applyUpd m' u) lv sl
 |[],_,_,h,_=>h
 |(a,b,e) :: r,m,m',h,hl=>applyUpd_get r _ _ (by rw[memGet_set,memGet_set,h,hl]) (by rw[memSet_length,memSet_length,hl])
theorem applyUpd_off {lv sl:Nat} : ∀ (u:List (Nat×Nat×Option Ent)) (m:List (Tr Ent)),keyE lv sl ∉ u.map (fun u=>keyE u.1 u.2.1)→memGet (applyUpd m u) lv sl=memGet m lv sl
 |[],_,_=>rfl
 |(a,b,e) :: r,m,h=>by
  simp only[List.map_cons,List.mem_cons,not_or] at h
  rw[applyUpd,applyUpd_off r _ h.2,memGet_set,if_neg]
  rintro⟨rfl,rfl,_⟩
  exact h.1 rfl
theorem applyTip_get {v:Nat} : ∀ (u:List (Nat×Bool)) (m m':Tr Unit),m.get? v=m'.get? v→(applyTip m u).get? v=(applyTip m' u).get? v
 |[],_,_,h=>h
 |(a,b) :: r,m,m',h=>applyTip_get r _ _ (by rw[Tr.get_set,Tr.get_set,h])
theorem applyTip_off {v:Nat} : ∀ (u:List (Nat×Bool)) (m:Tr Unit),keyT v ∉ u.map (fun u=>keyT u.1)→(applyTip m u).get? v=m.get? v
 |[],_,_=>rfl
 |(a,b) :: r,m,h=>by
  simp only[List.map_cons,List.mem_cons,not_or] at h
  rw[applyTip,applyTip_off r _ h.2,Tr.get_set,if_neg]
  rintro rfl
  exact h.1 rfl
def touchE (k:Nat×Nat×Nat):Res→Bool
 |.eff e=>decide (k∈e.wr)
 |.all ..=>true
def entV (lv sl:Nat):View (Option Ent×Nat) where
 see s:=(memGet s.mem lv sl,s.mem.length)
 touch x:=touchE (keyE lv sl) x.2.2
 off s x h:=by
  obtain⟨i,d,r⟩:=x
  cases r with
  |eff e=>
   simp only[touchE,Eff.wr,List.mem_append,not_or,decide_eq_false_iff_not] at h
   simp only[St.app,applyUpd_length,applyUpd_off _ _ h.1]
  |all=>cases h
 on s s' x h:=by
  obtain⟨i,d,r⟩:=x
  simp only[Prod.mk.injEq] at h
  cases r with
  |eff e=>simp only[St.app,applyUpd_length,applyUpd_get _ _ _ h.1 h.2,h.2]
  |all=>rfl
def tipV (v:Nat):View (Option Unit) where
 see s:=s.tips.get? v
 touch x:=touchE (keyT v) x.2.2
 off s x h:=by
  obtain⟨i,d,r⟩:=x
  cases r with
  |eff e=>
   simp only[touchE,Eff.wr,List.mem_append,not_or,decide_eq_false_iff_not] at h
   exact applyTip_off _ _ h.2
  |all=>cases h
 on s s' x h:=by
  obtain⟨i,d,r⟩:=x
  cases r with
  |eff e=>exact applyTip_get _ _ _ h
  |all=>rfl
def Clear:Res→Res→Prop
 |.eff a,.eff b=>(∀ k∈a.rd,k ∉ b.wr)∧(∀ k∈a.wr,k ∉ b.rd)∧∀ k∈a.wr,k ∉ b.wr
 |a,b=>¬(loud a=true∧loud b=true)
theorem Clear.symm {a b:Res} (h:Clear a b):Clear b a:=by
 cases a<;>cases b
 ·exact⟨fun k hk h'=>h.2.1 k h' hk,fun k hk h'=>h.1 k h' hk,fun k hk h'=>h.2.2 k h' hk⟩
 ·exact fun h'=>h ⟨h'.2,h'.1⟩
 ·exact fun h'=>h ⟨h'.2,h'.1⟩
 ·exact fun h'=>h ⟨h'.2,h'.1⟩
theorem meets_spec {a b:List (Nat×Nat×Nat)} (h:meets a b=false):∀ k∈a,k ∉ b:=by
 intro k hk hb
 have:meets a b=true:=List.any_eq_true.2 ⟨k,hk,by simpa using hb⟩
 rw[this] at h;cases h
theorem clash_spec {a b:Res} (h:clash a b=false):Clear a b:=by
 cases a<;>cases b
 ·simp only [clash, Bool.or_eq_false_iff] at h
  exact⟨meets_spec h.1.1,meets_spec h.1.2,meets_spec h.2⟩
 all_goals
  rintro⟨h1,h2⟩
  simp only[clash,h1,h2] at h
  cases h
theorem Clear.all {a b:Res} (h:Clear a b) (hab:isAll a=true∨isAll b=true) (ha:loud a=true) (hb:loud b=true):False:=by
 cases a<;>cases b
 ·rcases hab with h|h<;>cases h
 all_goals exact h ⟨ha,hb⟩
theorem isAll_loud {a:Res} (h:isAll a=true):loud a=true:=by cases a<;>first|rfl|cases h
theorem Clear.touch {a b:Res} (h:Clear a b) {k:Nat×Nat×Nat} (ha:touchE k a=true) (hb:touchE k b=true) (hla:loud a=true) (hlb:loud b=true):False:=by
 cases a<;>cases b
 ·simp only [touchE, decide_eq_true_eq] at ha hb
  exact h.2.2 k ha hb
 all_goals exact h ⟨hla,hlb⟩
theorem touch_loud {a:Res} {k:Nat×Nat×Nat} (h:touchE k a=true):loud a=true:=by
 cases a with
 | eff e =>
  simp only[touchE,decide_eq_true_eq,Eff.wr,List.mem_append] at h
  simp only[loud]
  rcases h with h|h
  ·cases hu : e.upd with
   |nil=>rw[hu] at h;cases h
   |cons=>simp
  ·cases hu : e.tip with
   |nil=>rw[hu] at h;cases h
   |cons=>simp
 |all=>rfl
theorem hasNat_iff {l:List Nat} {n:Nat} : hasNat l n=true↔n∈l:=by
 unfold hasNat
 rw[List.any_eq_true]
 constructor
 ·rintro⟨m,hm,h⟩;rw[←Nat.eq_of_beq_eq_true h];exact hm
 ·intro h;exact⟨n,h,Nat.beq_refl n⟩
structure Off (x y:AOper):Prop where
 xy:∀ t,x.dst=some t→t ∉ y.looks
 yx:∀ t,y.dst=some t→t ∉ x.looks
 ne:∀ t,x.dst=some t→y.dst≠some t
theorem Off.symm {x y:AOper} (h:Off x y):Off y x:=⟨h.yx,h.xy,fun t h1 h2=>h.ne t h2 h1⟩
theorem apart_spec {x y:AOper} (h:x.apart y=true):Off x y:=by
 simp only[AOper.apart,Bool.and_eq_true] at h
 refine⟨fun t ht hm=>?_,fun t ht hm=>?_,fun t ht h'=>?_⟩
 ·have:=h.1.1;simp[dstOff,ht,hasNat_iff.2 hm] at this
 ·have:=h.1.2;simp[dstOff,ht,hasNat_iff.2 hm] at this
 ·have:=h.2;simp[dstsOff,ht,h'] at this
theorem step_local {call:Call} {sh:Nat→Bool} {s s':St} {o:AOper} {nvi:Nat} {r:Res} (h:o.step call sh s nvi=some r) (hs:∀ t∈o.looks,getS s'.slots t=getS s.slots t) (hn:Near s s' r):o.step call sh s' nvi=some r:=by
 have hw:wantedA s'.slots o=wantedA s.slots o:=by
  unfold wantedA
  split
  ·rfl
  ·rename_i g b hg
   rw[hs g (by simp[AOper.looks,hg])]
 unfold AOper.step at h ⊢
 rw[hw]
 split at h
 ·cases h
 ·refine run_local h (fun x hx => ?_) hn
  cases x with
  |t n=>exact hs n (by simp only[AOper.looks,List.mem_append,List.mem_flatMap];exact .inl ⟨_,hx,by simp[Opd.slot]⟩)
  |c v=>rfl
 ·exact h
end Go.Eng
