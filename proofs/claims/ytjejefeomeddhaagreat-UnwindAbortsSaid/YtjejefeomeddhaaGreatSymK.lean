/- The machine over typed data: regions, code, loops, functions. -/
import Derived.Test.YtjejefeomeddhaaGreatSymJ
import Derived.Test.YtjejefeomeddhaaGreatSymGM
set_option linter.unusedVariables false
set_option linter.unusedSimpArgs false
variable [Go.Eng.Rho]
set_option linter.unusedSectionVars false
namespace Go.Sym
open Go Go.Eng
section
variable {Fs:Tb} {E:SEnv} {wk:Wk} {α : Type} {ρ : VMap} {nx rem p:Nat} {os:List (Tr AV)} {s2:S2} {s:St} {ctx row d:Nat} {K:Res2→Option α} {r : α}
theorem row_small {row d nvi:Nat} (h:Nat.ble 4294967296 row=false):rowQ row=row∧dstQ row d nvi=d∧Nat.ble 1099511627776 row=false:=by
 have h:¬4294967296≤row:=fun q=>by rw[Nat.ble_eq_true_of_le q] at h;cases h
 have h1:Nat.ble 4294967296 (row % 1099511627776)=false:=by rw[Bool.eq_false_iff];intro q;have:=Nat.le_of_ble_eq_true q;omega
 have h2:Nat.ble 1099511627776 row=false:=by rw[Bool.eq_false_iff];intro q;have:=Nat.le_of_ble_eq_true q;omega
 refine⟨by unfold rowQ;omega,?_,h2⟩
 unfold dstQ
 rw[h1]
theorem run2_ok (hwk:WkOK Fs wk) (hE:EnvOK Fs E) (hi:RI ρ nx (rem+1) os s2 s p) (hlow:Nat.ble 1099511627776 row=false) {op:AOp} (h:run2 E wk ctx s2 row d nx op K=some r) :
  ∃ r2 e,(∃ n0,∀ n,n0≤n→op.run (runG Fs n) (shF Fs) s row d p=some e)∧ResOK ρ nx os s2 s r2 e∧K r2=some r:=by
 have hnx : ρ nx=some p:=by simpa using hi.pend 0 (by omega)
 have hm:=hi.mem
 have ht:=hi.tips
 have hsl:=hi.slots
 have hB:nx≤nx:=Nat.le_refl _
 have hB1:nx≤nx+1:=by omega
 have hinj:=hi.ver.inj
 have conv:Does ρ nx (nx+1) s2 s op row d p K r→∃ r2 e,(∃ n0,∀ n,n0≤n→op.run (runG Fs n) (shF Fs) s row d p=some e)∧ResOK ρ nx os s2 s r2 e∧K r2=some r:=by
  rintro⟨E',e,h1,h2,h3⟩
  exact⟨.eff E',.eff e,⟨0,fun n _=>h1 _ _⟩,h2,h3⟩
 cases op with
 |mov x=>exact conv (does_mov hm ht hsl hB hnx h)
 |compact x=>exact conv (does_compact hm ht hsl hB hnx h)
 |pick c a b=>exact conv (does_pick hm ht hsl hB1 h)
 |alloc z=>exact conv (does_alloc hm ht hB hnx h)
 |box x=>exact conv (does_box hm ht hsl hB hnx h)
 |build z ps=>exact conv (does_build hm ht hsl hB1 h)
 |buildSlice sz n z ps=>exact conv (does_buildSlice hm ht hsl hB hnx h)
 |load sz agg x=>exact conv (does_load hm ht hsl hB h)
 |store sz x v=>exact conv (does_store hm ht hsl hB h)
 |nilCheck x=>exact conv (does_nilCheck hm ht hsl hB1 h)
 |bin op x y=>exact conv (does_bin hm ht hsl hB1 h)
 |eqb neg x y=>exact conv (does_eqb hm ht hsl hB1 h)
 |eqA neg sz l x y=>exact conv (does_eqA hm ht hsl hB1 h)
 |un op x=>exact conv (does_un hm ht hsl hB1 h)
 |conv k x=>exact conv (does_conv hm ht hsl hB1 h)
 |field off sz agg x=>exact conv (does_field hm ht hsl hB1 h)
 |fieldAddr off x=>exact conv (does_fieldAddr hm ht hsl hB1 h)
 |indexAddr sz x i=>exact conv (does_indexAddr hm ht hsl hB1 h)
 |indexArr n sz x i=>exact conv (does_indexArr hm ht hsl hB1 h)
 |indexA n sz agg x i=>exact conv (does_indexA hm ht hsl hB1 h)
 |indexS x i=>exact conv (does_indexS hm ht hsl hB1 h)
 |slice sz x lo hi mx=>exact conv (does_slice hm ht hsl hB hnx h)
 |sliceS x lo hi=>exact conv (does_sliceS hm ht hsl hB1 h)
 |extract x i=>exact conv (does_extract hm ht hsl hB1 h)
 |len x=>exact conv (does_len hm ht hsl hB1 h)
 |lenS x=>exact conv (does_lenS hm ht hsl hB1 h)
 |capF x=>exact conv (does_capF hm ht hsl hB1 h)
 |lenC n=>exact conv (does_lenC hm ht hB1 h)
 |mini x y=>exact conv (does_mini hm ht hsl hB1 h)
 |maxi x y=>exact conv (does_maxi hm ht hsl hB1 h)
 |append sz bytes x y=>exact conv (does_append hm ht hsl hB hnx hinj h)
 |appendZ sz bytes z x n=>exact conv (does_appendZ hm ht hsl hB hnx hinj h)
 |clone sz bytes x=>exact conv (does_clone hm ht hsl hB hnx hinj h)
 |sort x=>exact conv (does_sort hm ht hsl hB h)
 |copy sz x y=>exact conv (does_copy hm ht hsl hB h)
 |makeSlice sz bytes z l c=>exact conv (does_makeSlice hm ht hsl hB hnx h)
 |makeFunc f cap=>exact conv (does_makeFunc hm ht hsl hB1 h)
 |clear sz z x=>exact conv (does_clear hm ht hsl hB h)
 |grow sz x n=>exact conv (does_grow hm ht hsl hB hnx h)
 | call f args =>
  simp[run2] at h
  split at h
  ·rename_i h7 h8 h9 h10
   obtain⟨vs,hv,h⟩:=optK_some h
   obtain⟨r2,e,⟨n0,h1⟩,h2,h3⟩:=callK_ok hwk hE hi (by omega) h (evs2_ok hsl hv)
   exact⟨r2,e,⟨n0,fun n hn=>by simp only[AOp.run,hlow,h7,h8,h9,h10];exact h1 n hn⟩,h2,h3⟩
  ·rename_i h7 h8 h9
   obtain⟨vs,hv,h⟩:=optK_some h
   obtain⟨r2,e,⟨n0,h1⟩,h2,h3⟩:=callG_ok hE hi h (evs2_ok hsl hv)
   exact⟨r2,e,⟨n0,fun n hn=>by simp only[AOp.run,hlow,h7,h8,h9];exact h1 n hn⟩,h2,h3⟩
  ·rename_i h7 h8 h9 h10
   obtain⟨vs,hv,h⟩:=optK_some h
   obtain⟨r2,e,⟨n0,h1⟩,h2,h3⟩:=callL_ok hE hi h (evs2_ok hsl hv)
   exact⟨r2,e,⟨n0,fun n hn=>by simp only[AOp.run,hlow,h7,h8,h9,h10];exact h1 n hn⟩,h2,h3⟩
  grind
 | callF f args =>
  obtain⟨vs,hv,h⟩:=optK_some h
  have hse:E.sh f=shF Fs f:=by simp[SEnv.sh,shF,hE.fns]
  rw[hse] at h
  cases hsf:shF Fs f with
  |true=>
   rw[hsf] at h
   obtain⟨r2,e,⟨n0,h1⟩,h2,h3⟩:=callK_ok hwk hE hi (by omega) h (evs2_ok hsl hv)
   refine⟨r2,e,⟨n0,fun n hn=>?_⟩,h2,h3⟩
   have:=h1 n hn
   rw[hsf] at this
   simp[AOp.run,hlow,hsf,this]
  |false=>
   rw[hsf] at h
   obtain⟨r2,e,⟨n0,h1⟩,h2,h3⟩:=callFK_ok hE hi h (evs2_ok hsl hv)
   exact⟨r2,e,⟨n0,fun n hn=>by simp only[AOp.run,hlow,hsf,h1 n hn]⟩,h2,h3⟩
 | callv x args =>
  simp[run2] at h
  split at h
  ·rename_i f cap hx
   obtain⟨vs,hv,h⟩:=optK_some h
   obtain⟨aSz,he,hc⟩:=ev2_ok hsl hx
   have hc:All2 (RV ρ nx s2.mem) (cap.map .c) aSz:=by
    have:∀ {cs:List Cell} {aSz:List AV},All2 (RC ρ nx s2.mem) cs aSz→All2 (RV ρ nx s2.mem) (cs.map .c) aSz:=by
     intro cs
     induction cs with
     |nil=>intro aSz h;match aSz,h with|[],_=>trivial
     |cons c cs ih=>intro aSz h;match aSz,h with|a :: aSz,h=>exact⟨h.1,ih h.2⟩
    grind
   obtain⟨r2,e,⟨n0,h1⟩,h2,h3⟩:=callK_ok hwk hE hi (by omega) h ((evs2_ok hsl hv).append hc)
   exact⟨r2,e,⟨n0,fun n hn=>by simp only[AOp.run,he];exact h1 n hn⟩,h2,h3⟩
  grind
 |sliceB n sz x=>exact conv (does_sliceB hm ht hsl hB1 h)
 |b2s x=>exact conv (does_b2s hm ht hsl hB h)
 |s2b x=>exact conv (does_s2b hm ht hsl hB h)
 |mkSet=>exact conv (does_mkSet hm ht hB hnx h)
 |hasK x y=>exact conv (does_hasK hm ht hsl hB h)
 |addK x y=>exact conv (does_addK hm ht hsl hB h)
 |isErr neg x=>exact conv (does_isErr hm ht hsl hB1 h)
 |sliceL lo n sz x=>exact conv (does_sliceL hm ht hsl hB1 h)
 |bad=>simp[run2] at h
theorem RI.set_bool (hi:RI ρ nx rem os s2 s p) {g:Nat} {t:Bool} (hg:getS s.slots g=.d (.sc (.bool t))):RI ρ nx rem os { s2 with slots:=s2.slots.set g (some (.c (.bool t))) } s p:=by
 refine⟨fun k v hk=>?_,hi.outer,hi.mem,hi.tips,hi.ver,hi.pend,hi.nv,hi.pn⟩
 rw[Tr.get_set] at hk
 split at hk
 ·subst_vars
  cases hk
  exact hg
 ·exact hi.slots k v hk
theorem step2_ok (hwk:WkOK Fs wk) (hE:EnvOK Fs E) (hi:RI ρ nx (rem+1) os s2 s p) {o:AOper} {K:S2→Res2→Option α} (h:step2 E wk ctx s2 nx o K=some r) :
  ∃ s2' r2 e,(∃ n0,∀ n,n0≤n→o.step (runG Fs n) (shF Fs) s p=some e)∧RI ρ nx (rem+1) os s2' s p∧ResOK ρ nx os s2' s r2 e∧K s2' r2=some r:=by
 have skip:∀ {s2'},RI ρ nx (rem+1) os s2' s p→ResOK ρ nx os s2' s (pureE (.tup [])) (.eff { val:=undefA,upd:=[],tip:=[],rd:=[] }):=fun hi'=>
  EffOK.of_val hi'.mem hi'.tips (by omega) undef_rv KeysR.nil
 unfold step2 at h
 split at h
 ·cases h
 rename_i hlow
 obtain⟨q1,q2,q3⟩:=row_small (d:=o.dst.getD 0) (nvi:=p) hlow
 split at h
 ·rename_i hg
  obtain⟨r2,e,⟨n0,h1⟩,h2,h3⟩:=run2_ok hwk hE hi q3 h
  refine⟨s2,r2,e,⟨n0,fun n hn=>?_⟩,hi,h2,h3⟩
  simp[AOper.step,wantedA,hg,q1,q2]<;>grind
 ·rename_i g b hg
  split at h
  ·rename_i t ht
   have hv:getS s.slots g=.d (.sc (.bool t)):=hi.slots g _ ht
   have hi':=hi.set_bool hv
   cases t with
   | true =>
    cases b with
    |true=>
     obtain⟨r2,e,⟨n0,h1⟩,h2,h3⟩:=run2_ok hwk hE hi' q3 h
     refine⟨_,r2,e,⟨n0,fun n hn=>?_⟩,hi',h2,h3⟩
     simp[AOper.step,wantedA,hg,hv,q1,q2,beq_self_eq_true]<;>grind
    |false=>
     refine⟨_,_,_,⟨0,fun n _=>?_⟩,hi',skip hi',h⟩
     simp[AOper.step,wantedA,hg,hv]
     rfl
   | false =>
    cases b with
    |true=>
     refine⟨_,_,_,⟨0,fun n _=>?_⟩,hi',skip hi',h⟩
     simp[AOper.step,wantedA,hg,hv]
     rfl
    |false=>
     obtain⟨r2,e,⟨n0,h1⟩,h2,h3⟩:=run2_ok hwk hE hi' q3 h
     refine⟨_,r2,e,⟨n0,fun n hn=>?_⟩,hi',h2,h3⟩
     simp[AOper.step,wantedA,hg,hv,q1,q2,beq_self_eq_true]<;>grind
  ·rename_i ht
   obtain⟨aSz,hv,_⟩:=hi.slots g _ ht
   refine⟨_,_,_,⟨0,fun n _=>?_⟩,hi,skip hi,h⟩
   simp[AOper.step,wantedA,hg,hv]
   rfl
  grind
theorem put_slr {B:Nat} {m:List (Tr E2)} {t:Tr V2} {o:Tr AV} (h:SlR ρ B m t o) {v:V2} {a:AV} (hv:RV ρ B m v a) (dst:Option Nat):SlR ρ B m (putV t dst v) (putS o dst a):=by
 cases dst with
 |none=>exact h
 | some n =>
  intro k w hk
  simp[putV] at hk
  simp[putS,getS]
  rw[Tr.get_set] at hk ⊢
  split at hk
  ·grind
  ·rename_i hne
   rw[if_neg hne]
   exact h k w hk
theorem RI.eff (hi:RI ρ nx (rem+1) os s2 s p) {E':Eff2} {e:Eff} (h:EffOK ρ nx (nx+1) s2 s E' e) (dst:Option Nat):RI ρ (nx+1) rem os (s2.app dst (.eff E')) (s.app dst (.eff e)) (p+1):=by
 refine⟨?_,?_,h.mem,h.tips,hi.ver,fun j hj=>?_,?_,?_⟩
 ·exact put_slr (hi.slots.move h.stab (by omega) fun _ _=>rfl) h.val dst
 ·exact all2_slr_mono h.stab (by omega) (fun _ _=>rfl) hi.outer
 ·have:=hi.pend (j+1) (by omega)<;>grind
 ·have := hi.nv
  show nx+1+rem=s2.nv
  omega
 ·have := hi.pn
  show p+1+rem≤s.nv
  omega
theorem ResOK.all_nil {v:V2} {t2:S2} {a:AV} {m:List (Tr Ent)} {t:Tr Unit} {n:Nat} {kp kr:List (Nat×Nat)} (h:ResOK ρ nx os s2 s (.all v t2) (.all a m t n kp kr)):kp=[]∧kr=[]:=by
 cases kp<;>cases kr<;>first|exact⟨rfl,rfl⟩|exact h.elim
theorem RI.all (hi:RI ρ nx (rem+1) os s2 s p) {v:V2} {t2:S2} {a:AV} {m:List (Tr Ent)} {t:Tr Unit} {n:Nat} (h:ResOK ρ nx os s2 s (.all v t2) (.all a m t n [] [])) (dst:Option Nat) :
  ∃ ρ',RI ρ' t2.nv rem os { t2.app dst (.all v t2) with nv:=t2.nv+rem } (s.app dst (.all a m t n [] [])) (p+1)∧Fr ρ (nx+1) s.nv ρ' t2.nv∧s.nv≤n:=by
 obtain⟨ρ1,hs,hv,hf,hn⟩:=h
 have hpn:=hi.pn
 let ρ':VMap:=fun v=>if v<t2.nv then ρ1 v else if v<t2.nv+rem then some (p+1+(v-t2.nv)) else some (n+(v-(t2.nv+rem)))
 have e1:∀ v,v<t2.nv→ρ' v = ρ1 v:=fun v h=>if_pos h
 have e3:∀ v,t2.nv+rem≤v→ρ' v=some (n+(v-(t2.nv+rem))):=fun v h=>by
  show (if v<t2.nv then _ else _)=_
  rw[if_neg (by omega),if_neg (by omega)]
 have apart:∀ v u,v<t2.nv→ρ1 v=some u→u<p+1∨p+1+rem≤u:=by
  intro v u hv hu
  rcases hf v u hv hu with⟨w,hw,hwu⟩|h'
  ·rcases Nat.lt_or_ge u (p + 1) with h1 | h1
   ·grind
   ·rcases Nat.lt_or_ge u (p + 1 + rem) with h2 | h2
    ·have := hi.pend (u - p) (by omega)
     rw[show p+(u-p)=u from by omega] at this
     have:=hi.ver.inj _ _ _ hwu this<;>omega
    omega
  omega
 refine⟨ρ',⟨?_,?_,?_,?_,?_,fun j hj=>?_,rfl,?_⟩,?_,hn⟩
 ·exact put_slr (hs.slots.move (Stab.refl _ _) (Nat.le_refl _) e1) (hv.move (Stab.refl _ _) (Nat.le_refl _) e1) dst
 ·exact all2_slr_mono (Stab.refl _ _) (Nat.le_refl _) e1 hs.outer
 ·exact hs.mem.ren e1
 ·intro v hv
  obtain⟨h1,h2⟩:=hs.tips v hv
  exact⟨h1,fun u hu=>h2 u (by rw[←e1 v h1];exact hu)⟩
 ·refine ⟨fun v u hv hu => ?_, fun v hv => e3 v hv, fun v v' u hu hu' => ?_⟩
  ·show u < n
   rcases Nat.lt_or_ge v t2.nv with h1|h1
   ·rw [e1 v h1] at hu
    exact hs.ver.low v u h1 hu
   grind
  ·rcases Nat.lt_or_ge v t2.nv with h1 | h1
   ·rw [e1 v h1] at hu
    have hlow:=hs.ver.low v u h1 hu
    rcases Nat.lt_or_ge v' t2.nv with h2|h2
    ·rw [e1 v' h2] at hu'
     exact hs.ver.inj v v' u hu hu'
    grind
   ·rcases Nat.lt_or_ge v (t2.nv + rem) with h3 | h3
    ·grind
    ·simp_all
     rcases Nat.lt_or_ge v' t2.nv with h2|h2
     ·rw [e1 v' h2] at hu'
      have:u<n:=hs.ver.low v' u h2 hu'<;>omega
     grind
 ·grind
 ·show p + 1 + rem ≤ n
  omega
 ·intro v u hv hu
  rw[e1 v hv] at hu
  exact hf v u hv hu
theorem RI.done (hi:RI ρ nx 0 os s2 s p):SR' ρ os s2 s:=by
 have:nx=s2.nv:=hi.nv
 subst this
 exact⟨hi.slots,hi.outer,hi.mem,hi.tips,hi.ver,Nat.le_refl _⟩
def Goes (ρ : VMap) (nx:Nat) (os:List (Tr AV)) (lo n:Nat) (K:S2→Option α) (r : α) (s':St):Prop:=
 ∃ ρ' s2',SR' ρ' os s2' s'∧Fr ρ nx lo ρ' s2'.nv∧n≤s'.nv∧K s2'=some r
theorem runOps2_ok (hwk:WkOK Fs wk) (hE:EnvOK Fs E) {K:S2→Option α} {nv0 lo:Nat} : ∀ {ops:List AOper} {i nx:Nat} {ρ : VMap} {s2:S2} {s:St},runOps2 E wk ctx nx ops s2 K=some r→RI ρ nx ops.length os s2 s (nv0+i)→lo≤nv0→
  ∃ s',(∃ n0,∀ n,n0≤n→runOps (runG Fs n) (shF Fs) nv0 i ops s=some s')∧Goes ρ nx os lo s.nv K r s'
 | [], i, nx, ρ, s2, s, h, hi, _ => ⟨s, ⟨0, fun _ _ => rfl⟩, ρ, s2, hi.done, by
   have:nx=s2.nv:=hi.nv
   subst this
   exact Fr.refl _ _ _,Nat.le_refl _,h⟩
 | o :: ops, i, nx, ρ, s2, s, h, hi, hlo => by
  obtain⟨s2',r2,e,⟨n0,h1⟩,h2,h3,h4⟩:=step2_ok hwk hE hi h
  cases r2 with
  | eff E' =>
   cases e with
   | eff e =>
    have hi':=h2.eff h3 o.dst
    rw[Nat.add_assoc] at hi'
    obtain⟨s',⟨n1,g1⟩,ρ',s3,g2,g3,g4,g5⟩:=runOps2_ok hwk hE h4 hi' hlo
    refine⟨s',⟨max n0 n1,fun n hn=>?_⟩,ρ',s3,g2,fun v u hv hu=>?_,g4,g5⟩
    ·simp[runOps,h1 n (by omega)]<;>grind
    ·rcases g3 v u hv hu with ⟨w, hw, hwu⟩ | h'
     ·by_cases hwn : w = nx
      ·have:=hi.pend 0 (by simp)<;>grind
      grind
     omega
   |all=>exact h3.elim
  | all v t2 =>
   cases e with
   |eff e=>exact h3.elim
   | all a m t n' kp kr =>
    obtain⟨e1,e2⟩:=h3.all_nil
    subst e1;subst e2
    obtain⟨ρ1,hi',hf,hn'⟩:=h2.all h3 o.dst
    rw[Nat.add_assoc] at hi'
    obtain⟨s',⟨n1,g1⟩,ρ',s3,g2,g3,g4,g5⟩:=runOps2_ok hwk hE h4 hi' hlo
    have hsn:lo≤s.nv:=by have:=hi.pn;omega
    refine⟨s',⟨max n0 n1,fun n hn=>?_⟩,ρ',s3,g2,fun v u hv hu=>?_,Nat.le_trans hn' g4,g5⟩
    ·simp[runOps,h1 n (by omega)]<;>grind
    ·rcases g3 v u hv hu with ⟨w, hw, hwu⟩ | h'
     ·rcases hf w u hw hwu with ⟨w', hw', hwu'⟩ | h'
      ·by_cases hwn : w' = nx
       ·have:=hi.pend 0 (by simp)<;>grind
       grind
      omega
     omega
def KeyRel (ρ : VMap):Res2→Res→Prop
 |.eff E,.eff e=>KeysR ρ E.rd e.rd∧KeysR ρ E.wr e.wr
 |.all _ _,_=>True
 |_,_=>False
def PastR (ρ : VMap):List (Nat×Res2)→List (Nat×Res)→Prop:=All2 fun x y=>x.1=y.1∧KeyRel ρ x.2 y.2
theorem keq_true {a b:Nat×Nat×Nat} : keq a b=true↔a=b:=by
 obtain⟨a1,a2,a3⟩:=a
 obtain⟨b1,b2,b3⟩:=b
 simp[keq,and_assoc]
theorem KR.inj (hinj:∀ v v' u,ρ v=some u→ρ v'=some u→v=v') {a b k:Nat×Nat×Nat} (ha:KR ρ a k) (hb:KR ρ b k):a=b:=by
 rcases ha with⟨rfl,h⟩|⟨v,u,rfl,rfl,hu⟩
 ·rcases hb with ⟨rfl, _⟩ | ⟨v', u', rfl, rfl, _⟩
  ·rfl
  ·cases h
 ·rcases hb with ⟨rfl, h⟩ | ⟨v', u', rfl, h, hu'⟩
  ·cases h
  ·have : u = u' := by simpa [keyT] using h
   grind
theorem meets_ok (hinj:∀ v v' u,ρ v=some u→ρ v'=some u→v=v') {a2 b2 a b:List (Nat×Nat×Nat)} (ha:KeysR ρ a2 a) (hb:KeysR ρ b2 b) (h:meets2 a2 b2=false):meets a b=false:=by
 rw[Bool.eq_false_iff]
 intro hm
 unfold meets at hm
 rw[List.any_eq_true] at hm
 obtain⟨k,hk,hc⟩:=hm
 obtain⟨k2,h1,h2⟩:=ha k hk
 obtain⟨k2',h3,h4⟩:=hb k (by simpa using hc)
 have:=KR.inj hinj h2 h4
 subst this
 have:meets2 a2 b2=true:=by
  unfold meets2
  rw[List.any_eq_true]
  exact⟨k2,h1,by rw[List.any_eq_true];exact⟨k2,h3,keq_true.2 rfl⟩⟩
 rw[h] at this
 cases this
theorem keys_nil {l:List (Nat×Nat×Nat)} (h:KeysR ρ [] l):l=[]:=by
 cases l with
 |nil=>rfl
 |cons k l=>obtain⟨_,h1,_⟩:=h k List.mem_cons_self<;>grind
theorem quiet {E':Eff2} {e:Eff} (h:loud2 (.eff E')=false) (hr:KeyRel ρ (.eff E') (.eff e)):e.rd=[]∧e.upd=[]∧e.tip=[]:=by
 simp[loud2,Bool.not_eq_false',Bool.and_eq_true,List.isEmpty_iff] at h
 obtain⟨⟨h1,h2⟩,h3⟩:=h
 obtain⟨k1,k2⟩:=hr
 rw[h1] at k1
 have hw:E'.wr=[]:=by simp[Eff2.wr,h2,h3]
 rw[hw] at k2
 have:=keys_nil k2
 simp[Eff.wr,List.append_eq_nil_iff,List.map_eq_nil_iff] at this
 exact⟨keys_nil k1,this.1,this.2⟩
theorem quiet_loud {e:Eff} (h:e.rd=[]∧e.upd=[]∧e.tip=[]):loud (.eff e)=false:=by
 grind[loud]
theorem clash_quiet {x:Res} {e:Eff} (h:e.rd=[]∧e.upd=[]∧e.tip=[]):clash x (.eff e)=false∧clash (.eff e) x=false:=by
 have hl:=quiet_loud h
 obtain⟨h1,h2,h3⟩:=h
 have hw:e.wr=[]:=by simp[Eff.wr,h2,h3]
 cases x with
 |eff a=>simp[clash,h1,hw,meets]
 |all=>simp[clash,within,h1,hw]
theorem clash_ok (hinj:∀ v v' u,ρ v=some u→ρ v'=some u→v=v') {x2 r2:Res2} {x e:Res} (hx:KeyRel ρ x2 x) (he:KeyRel ρ r2 e) (hr:∀ v t,r2=.all v t→∃ a m tt n,e=.all a m tt n [] []) (h:clash2 x2 r2=false):clash x e=false:=by
 cases r2 with
 | eff E' =>
  cases e with
  |all=>exact he.elim
  | eff e =>
   cases x2 with
   | eff X =>
    cases x with
    |all=>exact hx.elim
    |eff x=>
     simp[clash2,Bool.or_eq_false_iff] at h
     simp[clash,Bool.or_eq_false_iff]
     exact⟨⟨meets_ok hinj hx.1 he.2 h.1.1,meets_ok hinj hx.2 he.1 h.1.2⟩,meets_ok hinj hx.2 he.2 h.2⟩
   |all v t=>
    have:loud2 (.eff E')=false:=by simpa[clash2,loud2] using h
    exact (clash_quiet (quiet this he)).1
 | all v t =>
  cases x2 with
  | eff X =>
   cases x with
   |all=>exact hx.elim
   |eff x=>
    have:loud2 (.eff X)=false:=by simpa[clash2,loud2] using h
    exact (clash_quiet (quiet this hx)).2
  |all v' t'=>simp[clash2,loud2] at h
theorem clear_ok (hinj:∀ v v' u,ρ v=some u→ρ v'=some u→v=v') {bef:Nat} {r2:Res2} {e:Res} (he:KeyRel ρ r2 e) (hr:∀ v t,r2=.all v t→∃ a m tt n,e=.all a m tt n [] []):∀ {past2:List (Nat×Res2)} {past:List (Nat×Res)},PastR ρ past2 past→clear2 bef r2 past2=true→clear bef e past=true
 |[],[],_,_=>rfl
 |(i,x2) :: r2',(j,x) :: r',hp,h=>by
  obtain⟨⟨h1,h2⟩,h3⟩:=hp
  subst h1
  simp[clear2,Bool.and_eq_true,Bool.or_eq_true,Bool.not_eq_true'] at h
  simp[clear,Bool.and_eq_true,Bool.or_eq_true,Bool.not_eq_true']
  exact⟨h.1.imp id (clash_ok hinj h2 he hr),clear_ok hinj he hr h3 h.2⟩
 |[],_ :: _,h,_=>h.elim
 |_ :: _,[],h,_=>h.elim
theorem past2_ok {ρ':VMap} : ∀ {l2:List (Nat×Res2)} {l:List (Nat×Res)},PastR ρ l2 l→PastR ρ' (past2 l2) l
 |[],[],_=>trivial
 | (i, x2) :: r2', (j, x) :: r', hp => by
  obtain⟨⟨h1,h2⟩,h3⟩:=hp
  refine⟨⟨h1,?_⟩,past2_ok h3⟩
  show KeyRel ρ' (match loud2 x2 with|true=>_|false=>x2) x
  cases hl:loud2 x2 with
  |true=>trivial
  | false =>
   cases x2 with
   |all=>simp[loud2] at hl
   | eff X =>
    cases x with
    |all=>exact h2.elim
    | eff x =>
     obtain⟨q1,q2,q3⟩:=quiet hl h2
     refine⟨?_,?_⟩
     ·rw[q1];exact KeysR.nil
     ·have : x.wr = [] := by simp [Eff.wr, q2, q3]
      rw[this];exact KeysR.nil
 |[],_ :: _,h=>h.elim
 |_ :: _,[],h=>h.elim
theorem ResOK.key {r2:Res2} {e:Res} (h:ResOK ρ nx os s2 s r2 e):KeyRel ρ r2 e∧∀ v t,r2=.all v t→∃ a m tt n,e=.all a m tt n [] []:=by
 cases r2 with
 |eff E'=>cases e with
  |eff e=>exact⟨⟨h.rd,h.wr⟩,fun _ _ h=>by cases h⟩
  |all=>exact h.elim
 | all v t => cases e with
  |eff e=>exact h.elim
  |all a m tt n kp kr=>
   obtain⟨e1,e2⟩:=h.all_nil
   subst e1;subst e2
   exact⟨trivial,fun _ _ _=>⟨a,m,tt,n,rfl⟩⟩
theorem runAny2_ok (hwk : WkOK Fs wk) (hE : EnvOK Fs E) {K : S2 → Option α} {nv0 lo : Nat} : ∀ {ops : List AOper} {i nx : Nat} {ρ : VMap} {s2 : S2} {s : St} {past2 : List (Nat × Res2)} {past : List (Nat × Res)}, runAny2 E wk ctx i nx ops past2 s2 K = some r → PastR ρ past2 past → RI ρ nx ops.length os s2 s (nv0 + i) → lo ≤ nv0 →
  ∃ s',(∃ n0,∀ n,n0≤n→runAny (runG Fs n) (shF Fs) nv0 i ops past s=some s')∧Goes ρ nx os lo s.nv K r s'
 | [], i, nx, ρ, s2, s, _, _, h, _, hi, _ => ⟨s, ⟨0, fun _ _ => rfl⟩, ρ, s2, hi.done, by
   have:nx=s2.nv:=hi.nv
   subst this
   exact Fr.refl _ _ _,Nat.le_refl _,h⟩
 | o :: ops, i, nx, ρ, s2, s, pa2, past, h, hp, hi, hlo => by
  obtain⟨s2',r2,e,⟨n0,h1⟩,h2,h3,h4⟩:=step2_ok hwk hE hi h
  split at h4
  ·rename_i hcl
   have hkey:=h3.key
   have hcl:=clear_ok hi.ver.inj hkey.1 hkey.2 hp hcl
   cases r2 with
   | eff E' =>
    cases e with
    | eff e =>
     have hi':=h2.eff h3 o.dst
     obtain⟨s',⟨n1,g1⟩,ρ',s3,g2,g3,g4,g5⟩:=runAny2_ok hwk hE h4 (past:=(i,.eff e) :: past) ⟨⟨rfl,hkey.1⟩,hp⟩ hi' hlo
     refine⟨s',⟨max n0 n1,fun n hn=>?_⟩,ρ',s3,g2,fun v u hv hu=>?_,g4,g5⟩
     ·simp[runAny,h1 n (by omega),hcl]<;>grind
     ·rcases g3 v u hv hu with ⟨w, hw, hwu⟩ | h'
      ·by_cases hwn : w = nx
       ·have:=hi.pend 0 (by simp)<;>grind
       grind
      omega
    |all=>exact h3.elim
   | all v t2 =>
    cases e with
    |eff e=>grind
    | all a m t n' kp kr =>
     obtain⟨e1,e2⟩:=h3.all_nil
     subst e1;subst e2
     obtain⟨ρ1,hi',hf,hn'⟩:=h2.all h3 o.dst
     obtain⟨s',⟨n1,g1⟩,ρ',s3,g2,g3,g4,g5⟩:=runAny2_ok hwk hE h4 (past:=(i,.all a m t n' [] []) :: past) ⟨⟨rfl,trivial⟩,past2_ok hp⟩ hi' hlo
     have hsn:lo≤s.nv:=by have:=hi.pn;omega
     refine⟨s',⟨max n0 n1,fun n hn=>?_⟩,ρ',s3,g2,fun v u hv hu=>?_,Nat.le_trans hn' g4,g5⟩
     ·simp[runAny,h1 n (by omega),hcl]<;>grind
     ·rcases g3 v u hv hu with ⟨w, hw, hwu⟩ | h'
      ·rcases hf w u hw hwu with ⟨w', hw', hwu'⟩ | h'
       ·by_cases hwn : w' = nx
        ·have:=hi.pend 0 (by simp)<;>grind
        grind
       omega
      omega
  grind
theorem regK_ok (hwk:WkOK Fs wk) (hE:EnvOK Fs E) {ops:List AOper} {draw:Bool} {K:S2→Option α} (h:regK E wk ctx ops draw s2 K=some r) (hs:SR' ρ os s2 s) :
  ∃ s',Ev Fs (.region ops draw) s (.normal,s')∧Goes ρ s2.nv os s.nv s.nv K r s':=by
 have start:RI ρ s2.nv ops.length os { s2 with nv:=s2.nv+ops.length } { s with nv:=s.nv+ops.length } (s.nv+0):=by
  refine⟨hs.slots,hs.outer,hs.mem,hs.tips,⟨fun v u hv hu=>?_,fun v hv=>?_,hs.ver.inj⟩,fun j hj=>?_,rfl,Nat.le_refl _⟩
  ·show u < s.nv + ops.length
   rcases Nat.lt_or_ge v s2.nv with h1|h1
   ·have:=hs.ver.low v u h1 hu;omega
   ·rw[hs.ver.high v h1] at hu<;>grind
  ·have hv : s2.nv + ops.length ≤ v := hv
   rw[hs.ver.high v (by omega)]<;>grind
  ·rw[hs.ver.high _ (by omega)]<;>grind
 have lift:∀ {s':St},Goes ρ s2.nv os s.nv (s.nv+ops.length) K r s'→Goes ρ s2.nv os s.nv s.nv K r s':=by
  rintro s' ⟨ρ',s3,g2,g3,g4,g5⟩
  exact⟨ρ',s3,g2,g3,by omega,g5⟩
 cases draw with
 |false=>
  obtain⟨s',⟨n0,h1⟩,g⟩:=runOps2_ok hwk hE (lo:=s.nv) h start (Nat.le_refl _)
  refine⟨s',⟨n0+1,fun k n hk hn=>?_⟩,lift g⟩
  obtain⟨n,rfl⟩:∃ q,n=q+1:=⟨n-1,by omega⟩
  simp[exec,runRegion,h1 k (by omega),Option.map_some]
 |true=>
  obtain⟨s',⟨n0,h1⟩,g⟩:=runAny2_ok hwk hE (lo:=s.nv) (past:=[]) h trivial start (Nat.le_refl _)
  refine⟨s',⟨n0+1,fun k n hk hn=>?_⟩,lift g⟩
  obtain⟨n,rfl⟩:∃ q,n=q+1:=⟨n-1,by omega⟩
  simp[exec,runRegion,h1 k (by omega),Option.map_some]
end
section
variable {Fs:Tb} {E:SEnv}
theorem SR.setB {ρ : VMap} {os:List (Tr AV)} {s2:S2} {s:St} {c:Opd} {b:Bool} (hs:SR' ρ os s2 s) (hb:boolOfA (c.ev s.slots)=some b):SR' ρ os (setB s2 c b) s:=by
 cases c with
 |c v=>exact hs
 | t n =>
  have he:getS s.slots n=.d (.sc (.bool b)):=by
   unfold boolOfA at hb
   split at hb
   ·rename_i b' e;simp_all;exact e
   ·cases hb
  refine⟨fun k v hk=>?_,hs.outer,hs.mem,hs.tips,hs.ver,hs.le⟩
  simp[Go.Sym.setB] at hk
  rw[Tr.get_set] at hk
  split at hk
  ·subst_vars
   cases hk
   exact he
  ·exact hs.slots k v hk
theorem mild_run {call:Eng.Call} {sh:Nat→Bool} {s:St} {dst nvi:Nat} {op:AOp} {e:Res} (hm:mildO sh op=true) (h:op.run call sh s 0 dst nvi=some e):∃ v rd,e=.eff { val:=v,upd:=[],tip:=[],rd }:=by
 have pure:∀ {v:AV},Eff.pure v=some e→∃ v rd,e=.eff { val:=v,upd:=[],tip:=[],rd }:=fun h=>by injection h with h;exact⟨_,_,h.symm⟩
 have obind:∀ {α : Type} {o:Option α} {k : α→Option Res},Option.bind o k=some e→∃ x,k x=some e:=fun {α o k} h=>by
  cases o with
  |none=>cases h
  |some x=>exact⟨x,h⟩
 cases op with
 |mov x=>
  injection h with h
  exact⟨_,_,h.symm⟩
 |load sz agg x=>
  obtain⟨cs,h⟩:=obind h
  cases hw:wrapAgg agg cs with
  |none=>rw[hw] at h;cases h
  |some v=>simp_all;exact⟨_,_,h.symm⟩
 | callF f args =>
  simp[mildO,Bool.not_eq_true'] at hm
  simp[AOp.run,hm,doFlat] at h
  split at h
  ·cases h
  ·split at h
   ·cases h
   ·split at h
    ·split at h
     ·simp_all;exact⟨_,_,h.symm⟩
     ·cases h
    ·cases h
 | slice sz x lo hi mx =>
  simp[AOp.run] at h
  split at h
  ·split at h
   ·rename_i hz;simp at hz
   ·obtain⟨v,h⟩:=obind h;exact pure h
  ·cases h
 |_=>first
  |(cases hm;done)
  |(simp only[AOp.run] at h;repeat' (first|split at h|(simp only[Option.bind_eq_some_iff] at h;obtain⟨_,_,h⟩:=h)|(cases h;done)|exact pure h))
structure Mild (l:List Nat) (s s':St):Prop where
 mem:s'.mem=s.mem
 tips:s'.tips=s.tips
 nv:s.nv≤s'.nv
 slots:∀ k,¬k∈l→getS s'.slots k=getS s.slots k
theorem Mild.refl (l:List Nat) (s:St):Mild l s s:=⟨rfl,rfl,Nat.le_refl _,fun _ _=>rfl⟩
theorem Mild.trans {l:List Nat} {s s' s'':St} (h:Mild l s s') (k:Mild l s' s''):Mild l s s'':=
 ⟨k.mem.trans h.mem,k.tips.trans h.tips,Nat.le_trans h.nv k.nv,fun i hi=>(k.slots i hi).trans (h.slots i hi)⟩
theorem Mild.mono {l l':List Nat} {s s':St} (h:Mild l s s') (hl:∀ k,k∈l→k∈l'):Mild l' s s':=⟨h.mem,h.tips,h.nv,fun k hk=>h.slots k fun h'=>hk (hl k h')⟩
theorem mild_step {call:Eng.Call} {sh:Nat→Bool} {s:St} {nvi:Nat} {o:AOper} {e:Res} (hm:mildR sh o=true) (h:o.step call sh s nvi=some e):Mild o.dst.toList s (s.app o.dst e):=by
 simp only[mildR,Bool.and_eq_true] at hm
 have hr:=Nat.eq_of_beq_eq_true hm.1
 have key:∃ v rd,e=.eff { val:=v,upd:=[],tip:=[],rd }:=by
  simp[AOper.step] at h
  split at h
  ·cases h
  ·rw[hr] at h;exact mild_run hm.2 h
  ·injection h with h;exact⟨_,_,h.symm⟩
 obtain⟨v,rd,rfl⟩:=key
 refine⟨rfl,rfl,Nat.le_refl _,fun k hk=>?_⟩
 simp[St.app,putS]
 cases hd:o.dst with
 |none=>rfl
 |some n=>
  simp[getS,Tr.get_set]<;>grind
theorem mild_ops {call:Eng.Call} {sh:Nat→Bool} {nv0:Nat} : ∀ {ops:List AOper} {i:Nat} {s s':St},ops.all (mildR sh)=true→runOps call sh nv0 i ops s=some s'→Mild (ops.flatMap fun o=>o.dst.toList) s s'
 |[],_,s,s',_,h=>by cases h;exact Mild.refl _ _
 | o :: r, i, s, s', hm, h => by
  simp only[List.all_cons,Bool.and_eq_true] at hm
  simp[runOps] at h
  split at h
  ·cases h
  ·rename_i e he
   exact ((mild_step hm.1 he).mono fun k hk=>by simp only[List.flatMap_cons,List.mem_append];exact .inl hk).trans
    ((mild_ops hm.2 h).mono fun k hk=>by simp only[List.flatMap_cons,List.mem_append];exact .inr hk)
theorem mild_any {call:Eng.Call} {sh:Nat→Bool} {nv0:Nat} : ∀ {ops:List AOper} {i:Nat} {past:List (Nat×Res)} {s s':St},ops.all (mildR sh)=true→runAny call sh nv0 i ops past s=some s'→Mild (ops.flatMap fun o=>o.dst.toList) s s'
 |[],_,_,s,s',_,h=>by cases h;exact Mild.refl _ _
 | o :: r, i, past, s, s', hm, h => by
  simp only[List.all_cons,Bool.and_eq_true] at hm
  simp[runAny] at h
  split at h
  ·cases h
  ·rename_i e he
   split at h
   ·exact ((mild_step hm.1 he).mono fun k hk=>by simp only[List.flatMap_cons,List.mem_append];exact .inl hk).trans
     ((mild_any hm.2 h).mono fun k hk=>by simp only[List.flatMap_cons,List.mem_append];exact .inr hk)
   grind
theorem mild_exec {call:Eng.Call} {sh:Nat→Bool} : ∀ {n:Nat} {c:AC} {s s':St} {ax:AX},mildC sh c=true→exec call sh n c s=some (ax,s')→Mild (putsC c) s s'
 |0,_,_,_,_,_,h=>by cases h
 | n + 1, c, s, s', ax, hm, h => by
  cases c with
  |skip=>cases h;exact Mild.refl _ _
  | region ops draw =>
   simp only[exec] at h
   cases hr:runRegion call sh ops draw s with
   |none=>grind
   | some t =>
    rw[hr] at h;cases h
    cases draw with
    |false=>
     have g:=mild_ops hm hr
     exact⟨g.mem,g.tips,by have:=g.nv;simp only at this;omega,g.slots⟩
    |true=>
     have g:=mild_any hm hr
     exact⟨g.mem,g.tips,by have:=g.nv;simp only at this;omega,g.slots⟩
  | seq a b =>
   simp[mildC,Bool.and_eq_true] at hm
   simp[exec] at h
   split at h
   ·rename_i t ht
    exact ((mild_exec hm.1 ht).mono fun k hk=>by simp only[putsC,List.mem_append];exact .inl hk).trans
     ((mild_exec hm.2 h).mono fun k hk=>by simp only[putsC,List.mem_append];exact .inr hk)
   ·exact (mild_exec hm.1 h).mono fun k hk=>by simp only[putsC,List.mem_append];exact .inl hk
  |cond c a b=>
   simp[mildC,Bool.and_eq_true] at hm
   simp[exec] at h
   split at h
   ·exact (mild_exec hm.1 h).mono fun k hk=>by simp only[putsC,List.mem_append];exact .inl hk
   ·exact (mild_exec hm.2 h).mono fun k hk=>by simp only[putsC,List.mem_append];exact .inr hk
   grind
  |block=>cases hm
  |loop=>cases hm
  |exit=>cases hm
  |ret=>cases hm
theorem dropS_get:∀ (l:List Nat) (t:Tr V2) (k:Nat) (v:V2),(dropS l t).get? k=some v→¬k∈l∧t.get? k=some v
 |[],t,k,v,h=>⟨by simp,h⟩
 |n :: r,t,k,v,h=>by
  obtain⟨h1,h2⟩:=dropS_get r _ k v h
  rw[Tr.get_set] at h2<;>grind
theorem plain_rc {ρ : VMap} {B:Nat} {m:List (Tr E2)} {t:Ty} {c c':Cell} {x:t.den} {a:AV} (h:plainV t c=some x) (h':plainC t x=some c') (hc:RC ρ B m c a):∀ {ρ':VMap} {B':Nat} {m':List (Tr E2)},RC ρ' B' m' c' a:=by
 unfold plainV at h
 split at h
 ·split at h
  ·rename_i e _
   cases h
   subst e
   cases h'
   exact hc
  ·cases h
 ·cases h
  cases h'
  exact hc
 ·cases h
  cases h'
  exact hc
 ·cases h
theorem valAt_some {t:Ty} {m:Nat} {ax:AX} {s2:S2} {x:t.den} (h:valAt t m ax s2=some x):ax=.normal∧∃ c,s2.slots.get? m=some (.c c)∧plainV t c=some x:=by
 unfold valAt at h<;>grind
theorem mild_state {ρ : VMap} {os:List (Tr AV)} {s2:S2} {s t:St} {l:List Nat} {m:Nat} {y:Cell} (hs:SR' ρ os s2 s) (hm:Mild l s t) (hy:∀ {ρ':VMap} {B':Nat} {m':List (Tr E2)},RC ρ' B' m' y (getS t.slots m)) :
  ∃ ρ',SR' ρ' os { s2 with slots:=(dropS l s2.slots).set m (some (.c y)) } t∧Fr ρ s2.nv s.nv ρ' s2.nv:=by
 let ρ':VMap:=fun v=>if v<s2.nv then ρ v else some (t.nv+(v-s2.nv))
 have hρ : ∀ v,v<s2.nv→ρ' v = ρ v:=fun v hv=>if_pos hv
 have hρ2:∀ v,s2.nv≤v→ρ' v=some (t.nv+(v-s2.nv)):=fun v hv=>if_neg (by omega)
 have hnv:=hm.nv
 refine⟨ρ',⟨fun k v hk=>?_,hs.outer.mono fun _ _ h=>h.move (Stab.refl _ _) (Nat.le_refl _) hρ,?_,fun v hv=>?_,⟨fun v u hv hu=>?_,fun v hv=>hρ2 v hv,fun v v' u hu hu'=>?_⟩,Nat.le_refl _⟩,fun v u hv hu=>.inl ⟨v,hv,by rw[←hρ v hv];exact hu⟩⟩
 ·rw [Tr.get_set] at hk
  split at hk
  ·subst_vars
   cases hk
   exact hy
  ·obtain ⟨h1, h2⟩ := dropS_get _ _ _ _ hk
   rw[hm.slots k h1]
   exact (hs.slots k v h2).move (Stab.refl _ _) (Nat.le_refl _) hρ
 ·rw [hm.mem]
  refine⟨hs.mem.len,fun lv sl e2 he=>?_⟩
  obtain⟨e,h1,h2⟩:=hs.mem.ents lv sl e2 he
  exact⟨e,h1,RE.mono (Nat.le_refl _) hρ (fun _ _=>RC.move (Stab.refl _ _) (Nat.le_refl _) hρ) h2⟩
 ·rw [hm.tips]
  obtain⟨h1,h2⟩:=hs.tips v hv<;>grind
 ·rw [hρ v hv] at hu
  have:=hs.ver.low v u hv hu
  omega
 ·by_cases h1 : v < s2.nv
  ·rw [hρ v h1] at hu
   by_cases h2:v'<s2.nv
   ·rw[hρ v' h2] at hu';exact hs.ver.inj _ _ _ hu hu'
   ·simp_all
    have:=hs.ver.low v u h1 hu<;>omega
  ·simp_all
   by_cases h2:v'<s2.nv
   ·rw [hρ v' h2] at hu'
    have:=hs.ver.low v' u h2 hu'<;>omega
   grind
theorem walk_ok (hE:EnvOK Fs E):∀ n,WkOK Fs (walk E n)
 |0=>fun _ _ _ _ _ _ _ h=>by cases h
 | n + 1 => by
  have ih:=walk_ok hE n
  intro α ctx i c s2 K r h ρ os s hs
  simp[walk] at h
  have meet:∀ {outs:Outs} {y:(outTy outs).den} {ax:AX} {t2:S2} {ρ':VMap} {t:St},outsG outs ax t2=some y→SR' ρ' os t2 t→Fr ρ s2.nv s.nv ρ' t2.nv→s.nv≤t.nv→outsK outs y K=some r→
    ∃ t3 ρ3,SR' ρ3 os t3 t∧Fr ρ s2.nv s.nv ρ3 t3.nv∧K ax t3=some r:=by
   intro outs y ax t2 ρ' t hy hsr hfr hn hk
   obtain⟨t3,ρ3,g1,g2,g3⟩:=outs_ok hsr hy
   exact⟨t3,ρ3,g1,hfr.trans g2 hn,(g3 K).symm.trans hk⟩
  cases c with
  |skip=>exact⟨.normal,s2,ρ,s,⟨1,fun k n _ hn=>by obtain⟨n,rfl⟩:∃ q,n=q+1:=⟨n-1,by omega⟩;rfl⟩,hs,Fr.refl _ _ _,Nat.le_refl _,h⟩
  |exit id=>exact⟨.exit id,s2,ρ,s,⟨1,fun k n _ hn=>by obtain⟨n,rfl⟩:∃ q,n=q+1:=⟨n-1,by omega⟩;rfl⟩,hs,Fr.refl _ _ _,Nat.le_refl _,h⟩
  |ret=>exact⟨.ret,s2,ρ,s,⟨1,fun k n _ hn=>by obtain⟨n,rfl⟩:∃ q,n=q+1:=⟨n-1,by omega⟩;rfl⟩,hs,Fr.refl _ _ _,Nat.le_refl _,h⟩
  | region ops draw =>
   simp at h
   split at h
   ·rename_i m _
    split at h
    ·rename_i hmild
     have hsh:E.sh=shF Fs:=by funext g;simp[SEnv.sh,shF,hE.fns]
     rw[hsh] at hmild
     obtain⟨y,hy,h⟩:=bind_some h
     obtain⟨s',⟨n0,hev⟩,ρ',s3,g2,g3,g4,g5⟩:=regK_ok ih hE hy hs
     obtain⟨_,c',hc',g5⟩:=valAt_some g5
     obtain⟨y',hy',h⟩:=optK_some h
     obtain⟨ρ3,q1,q2⟩:=mild_state hs (mild_exec (c:=.region ops draw) hmild (hev n0 n0 (Nat.le_refl _) (Nat.le_refl _))) (plain_rc g5 hy' (show RC _ _ _ c' _ from g2.slots m.1 _ hc'))
     exact⟨.normal,_,ρ3,s',⟨n0,hev⟩,q1,q2,g4,h⟩
    grind
   split at h
   ·obtain⟨s',hev,ρ',s3,g2,g3,g4,g5⟩:=regK_ok ih hE h hs<;>grind
   ·obtain ⟨y, hy, h⟩ := bind_some h
    obtain⟨s',hev,ρ',s3,g2,g3,g4,g5⟩:=regK_ok ih hE hy hs<;>grind
  | seq a b =>
   obtain⟨ax,t2,ρ',t,⟨n0,hev⟩,g2,g3,g4,g5⟩:=ih _ _ _ _ _ _ _ h _ _ _ hs
   cases ax with
   |normal=>
    obtain⟨ax',t3,ρ3,t',⟨n1,hev'⟩,q2,q3,q4,q5⟩:=ih _ _ _ _ _ _ _ g5 _ _ _ g2
    refine⟨ax',t3,ρ3,t',⟨max n0 n1+1,fun k m hk hm=>?_⟩,q2,g3.trans q3 g4,Nat.le_trans g4 q4,q5⟩
    obtain⟨m,rfl⟩:∃ q,m=q+1:=⟨m-1,by omega⟩
    simp[exec,hev k m (by omega) (by omega)]<;>grind
   |exit id=>
    refine⟨.exit id,t2,ρ',t,⟨n0+1,fun k m hk hm=>?_⟩,g2,g3,g4,g5⟩
    obtain⟨m,rfl⟩:∃ q,m=q+1:=⟨m-1,by omega⟩
    simp[exec,hev k m (by omega) (by omega)]
   |ret=>
    refine⟨.ret,t2,ρ',t,⟨n0+1,fun k m hk hm=>?_⟩,g2,g3,g4,g5⟩
    obtain⟨m,rfl⟩:∃ q,m=q+1:=⟨m-1,by omega⟩
    simp[exec,hev k m (by omega) (by omega)]
  | cond c a b =>
   have way:∀ {β : Type} {K':AX→S2→Option β} {r' : β},(boolK (ev2 s2 c) fun t=>cond t (walk E n β ctx (i+1) a (setB s2 c true) K') (walk E n β ctx (i+1+cntC a) b (setB s2 c false) K'))=some r'→
     ∃ ax t2 ρ' t,Ev Fs (.cond c a b) s (ax,t)∧SR' ρ' os t2 t∧Fr ρ s2.nv s.nv ρ' t2.nv∧s.nv≤t.nv∧K' ax t2=some r':=by
    intro β K' r' h
    obtain⟨t,ht,h⟩:=boolK_some h
    have hb:=boolOf_ok' (ev2_ok hs.slots ht)
    cases t with
    |true=>
     have hnv:(setB s2 c true).nv=s2.nv:=by cases c<;>rfl
     obtain⟨ax,t2,ρ',t,⟨n0,hev⟩,g2,g3,g4,g5⟩:=ih _ _ _ _ _ _ _ h _ _ _ (hs.setB hb)
     rw[hnv] at g3
     refine⟨ax,t2,ρ',t,⟨n0+1,fun k m hk hm=>?_⟩,g2,g3,g4,g5⟩
     obtain⟨m,rfl⟩:∃ q,m=q+1:=⟨m-1,by omega⟩
     simp[exec,hb]<;>grind
    |false=>
     have hnv:(setB s2 c false).nv=s2.nv:=by cases c<;>rfl
     obtain⟨ax,t2,ρ',t,⟨n0,hev⟩,g2,g3,g4,g5⟩:=ih _ _ _ _ _ _ _ h _ _ _ (hs.setB hb)
     rw[hnv] at g3
     refine⟨ax,t2,ρ',t,⟨n0+1,fun k m hk hm=>?_⟩,g2,g3,g4,g5⟩
     obtain⟨m,rfl⟩:∃ q,m=q+1:=⟨m-1,by omega⟩
     simp[exec,hb]<;>grind
   simp at h
   split at h
   ·rename_i m _
    split at h
    ·rename_i hmild
     simp at hmild
     have hsh:E.sh=shF Fs:=by funext g;simp[SEnv.sh,shF,hE.fns]
     rw[hsh] at hmild
     obtain⟨y,hy,h⟩:=bind_some h
     obtain⟨ax,t2,ρ',t,⟨n0,hev⟩,g2,g3,g4,g5⟩:=way hy
     obtain⟨rfl,c',hc',g5⟩:=valAt_some g5
     obtain⟨y',hy',h⟩:=optK_some h
     have hmd:mildC (shF Fs) (.cond c a b)=true:=by simp[mildC,hmild.1,hmild.2,Bool.and_true]
     obtain⟨ρ3,q1,q2⟩:=mild_state hs (mild_exec hmd (hev n0 n0 (Nat.le_refl _) (Nat.le_refl _))) (plain_rc g5 hy' (show RC _ _ _ c' _ from g2.slots m.1 _ hc'))
     exact⟨.normal,_,ρ3,t,⟨n0,hev⟩,q1,q2,g4,h⟩
    grind
   ·split at h
    ·exact way h
    ·obtain ⟨y, hy, h⟩ := bind_some h
     obtain⟨ax,t2,ρ',t,hev,g2,g3,g4,g5⟩:=way hy<;>grind
  | block id c =>
   have way:∀ {β : Type} {K':AX→S2→Option β} {r' : β},(walk E n β ctx (i+1) c s2 fun ax s'=>match ax with
      |.exit id'=>match Nat.beq id' id with
       |true=>K' .normal s'
       |false=>K' (.exit id') s'
      |ax=>K' ax s')=some r'→
     ∃ ax t2 ρ' t,Ev Fs (.block id c) s (ax,t)∧SR' ρ' os t2 t∧Fr ρ s2.nv s.nv ρ' t2.nv∧s.nv≤t.nv∧K' ax t2=some r':=by
    intro β K' r' h
    obtain⟨ax,t2,ρ',t,⟨n0,hev⟩,g2,g3,g4,g5⟩:=ih _ _ _ _ _ _ _ h _ _ _ hs
    cases ax with
    |normal=>
     refine⟨.normal,t2,ρ',t,⟨n0+1,fun k m hk hm=>?_⟩,g2,g3,g4,g5⟩
     obtain⟨m,rfl⟩:∃ q,m=q+1:=⟨m-1,by omega⟩
     simp[exec,hev k m (by omega) (by omega)]
    |ret=>
     refine⟨.ret,t2,ρ',t,⟨n0+1,fun k m hk hm=>?_⟩,g2,g3,g4,g5⟩
     obtain⟨m,rfl⟩:∃ q,m=q+1:=⟨m-1,by omega⟩
     simp[exec,hev k m (by omega) (by omega)]
    | exit id' =>
     simp at g5
     cases hb:Nat.beq id' id with
     |true=>
      rw[hb] at g5
      refine⟨.normal,t2,ρ',t,⟨n0+1,fun k m hk hm=>?_⟩,g2,g3,g4,g5⟩
      obtain⟨m,rfl⟩:∃ q,m=q+1:=⟨m-1,by omega⟩
      simp[exec,hev k m (by omega) (by omega),hb]
     |false=>
      rw[hb] at g5
      refine⟨.exit id',t2,ρ',t,⟨n0+1,fun k m hk hm=>?_⟩,g2,g3,g4,g5⟩
      obtain⟨m,rfl⟩:∃ q,m=q+1:=⟨m-1,by omega⟩
      simp[exec,hev k m (by omega) (by omega),hb]
   simp at h
   split at h
   ·exact way h
   ·obtain ⟨y, hy, h⟩ := bind_some h
    obtain⟨ax,t2,ρ',t,hev,g2,g3,g4,g5⟩:=way hy<;>grind
  | loop c =>
   simp at h
   split at h
   ·obtain ⟨ax, t2, ρ', t, ⟨n0, hev⟩, g2, g3, g4, g5⟩ := ih _ _ _ _ _ _ _ h _ _ _ hs
    cases ax with
    |normal=>
     obtain⟨ax',t3,ρ3,t',⟨n1,hev'⟩,q2,q3,q4,q5⟩:=ih _ _ _ _ _ _ _ g5 _ _ _ g2
     refine⟨ax',t3,ρ3,t',⟨max n0 n1+1,fun k m hk hm=>?_⟩,q2,g3.trans q3 g4,Nat.le_trans g4 q4,q5⟩
     obtain⟨m,rfl⟩:∃ q,m=q+1:=⟨m-1,by omega⟩
     simp[exec,hev k m (by omega) (by omega)]<;>grind
    |exit id=>
     refine⟨.exit id,t2,ρ',t,⟨n0+1,fun k m hk hm=>?_⟩,g2,g3,g4,g5⟩
     obtain⟨m,rfl⟩:∃ q,m=q+1:=⟨m-1,by omega⟩
     simp[exec,hev k m (by omega) (by omega)]
    |ret=>
     refine⟨.ret,t2,ρ',t,⟨n0+1,fun k m hk hm=>?_⟩,g2,g3,g4,g5⟩
     obtain⟨m,rfl⟩:∃ q,m=q+1:=⟨m-1,by omega⟩
     simp[exec,hev k m (by omega) (by omega)]
   obtain⟨L,hL,h⟩:=optK_some h
   obtain⟨ds,hd,h⟩:=optK_some h
   obtain⟨x,hx,h⟩:=optK_some h
   obtain⟨y,hy,h⟩:=bind_some h
   obtain⟨t2,ρ',g1,g2,g3⟩:=tmpl_ok hd hs
   obtain⟨ax,t3,ρ3,t,q1,q2,q3,q4,q5⟩:=hE.loops ctx _ c L hL x y hy t2 (by rw[unpack_pack hx];exact g1) _ _ _ g2
   exact⟨ax,t3,ρ3,t,q1,q2,g3.trans q3 (Nat.le_refl _),q4,(q5 K).symm.trans h⟩
theorem loop_ok (hE:EnvOK Fs E) (N ctx i:Nat) (body:AC) (T:Tmpl) (outs:Outs):∀ k,LoopOK Fs body ⟨T,outs,loopF (loopStep E N ctx i body T outs) k⟩
 |0=>fun x y h=>by cases h
 | k + 1 => by
  have ih:=loop_ok hE N ctx i body T outs k
  intro x y h s2 hst ρ os s hs
  obtain⟨s2',hst',h⟩:=optK_some h
  rw[hst] at hst'
  cases hst'
  obtain⟨ax,t2,ρ',t,⟨n0,hev⟩,g2,g3,g4,g5⟩:=walk_ok hE N _ _ _ _ _ _ _ h _ _ _ hs
  have leave:∀ {ax:AX},ax≠.normal→Ev Fs body s (ax,t)→outsG outs ax t2=some y→∃ ax s2' ρ' s',Ev Fs (.loop body) s (ax,s')∧SR' ρ' os s2' s'∧Fr ρ s2.nv s.nv ρ' s2'.nv∧s.nv≤s'.nv∧∀ {α : Type} (K:AX→S2→Option α),outsK outs y K=K ax s2':=by
   rintro ax hax ⟨n0,hev⟩ hy
   obtain⟨t3,ρ3,q1,q2,q3⟩:=outs_ok g2 hy
   refine⟨ax,t3,ρ3,t,⟨n0+1,fun k m hk hm=>?_⟩,q1,g3.trans q2 g4,g4,q3⟩
   obtain⟨m,rfl⟩:∃ q,m=q+1:=⟨m-1,by omega⟩
   simp[exec,hev k m (by omega) (by omega)]<;>grind
  cases ax with
  |normal=>
   obtain⟨ds,hd,g5⟩:=optK_some g5
   obtain⟨x',hx,g5⟩:=optK_some g5
   obtain⟨t3,ρ3,q1,q2,q3⟩:=tmpl_ok hd g2
   obtain⟨ax',t4,ρ4,t',⟨n1,hev'⟩,w2,w3,w4,w5⟩:=ih x' y g5 t3 (by simp only;rw[unpack_pack hx];exact q1) _ _ _ q2
   refine⟨ax',t4,ρ4,t',⟨max n0 n1+1,fun k m hk hm=>?_⟩,w2,(g3.trans q3 g4).trans w3 g4,Nat.le_trans g4 w4,w5⟩
   obtain⟨m,rfl⟩:∃ q,m=q+1:=⟨m-1,by omega⟩
   simp[exec,hev k m (by omega) (by omega)]<;>grind
  |exit id=>exact leave (fun h=>by cases h) ⟨n0,hev⟩ g5
  |ret=>exact leave (fun h=>by cases h) ⟨n0,hev⟩ g5
theorem hi0 (x:Cell):hiC 0 x=true:=by
 cases x<;>first|rfl|exact Nat.ble_eq.2 (Nat.zero_le _)
theorem resC_ok {ρ : VMap} {B:Nat} {m2:List (Tr E2)} {m:List (Tr Ent)} (hm:MR ρ B m2 m) {top k lv sl ver:Nat} {c:CSh} {x x':Cell} {ks:List (Nat×Nat)} {a:AV} {d:List Dyn} (hh:hiC top x=true) (h:frz1 m2 x=some (x',ks)) (hd:resDynC c x'=some d) (hx:RC ρ B m2 x a) :
  ∃ y x2,impCell m top 0 k lv sl ver a=some (.d y,[])∧(∀ rest,c.fill (d++rest)=some (x2,rest))∧∀ (ρ : VMap) (B:Nat) (m:List (Tr E2)),RC ρ B m x2 (.d y):=by
 have imp:∃ y,cellD x'=some y∧impCell m top 0 k lv sl ver a=some (.d y,[]):=by
  unfold frz1 at h
  split at h
  ·cases h;cases hx;exact⟨_,rfl,rfl⟩
  ·cases h;cases hx;exact⟨_,rfl,rfl⟩
  ·cases h;cases hx;exact⟨_,rfl,rfl⟩
  ·cases h;cases hx;exact⟨_,rfl,rfl⟩
  ·cases h
   rcases (els_nil (m:=m) hx).2 with rfl|⟨o,ho,rfl⟩
   ·exact⟨_,rfl,rfl⟩
   ·exact⟨_,rfl,impD_own ho⟩
  ·cases h
  ·rename_i t l o hne
   cases h
   rcases (els_sl (m:=m) hx).2.2 (fun e=>hne e) with rfl|⟨o',ho,rfl⟩
   ·exact⟨_,rfl,rfl⟩
   ·exact⟨_,rfl,impD_own ho⟩
  ·split at h
   ·rename_i r hr
    cases h
    have he:=els_ref hm hx hr
    obtain⟨_,u,n,hu,rfl,hn⟩:=hx
    refine⟨_,rfl,?_⟩
    simp only[hiC] at hh
    simp[impCell,he,hh,beq_true.2 rfl]
   grind
  ·split at h
   ·rename_i r hr
    cases h
    have he:=els_refp hm hx hr (hx.2.choose_spec.2.2 r hr)
    obtain⟨_,u,hu,rfl,hn⟩:=hx
    refine⟨_,rfl,?_⟩
    simp only[hiC] at hh
    simp[impCell,he,hh,beq_true.2 rfl]
   grind
  grind
 obtain⟨y,h1,h2⟩:=imp
 obtain⟨x2,h3,h4⟩:=resDynC_fill hd h1<;>simp_all
theorem resCs_ok {ρ : VMap} {B:Nat} {m2:List (Tr E2)} {m:List (Tr Ent)} (hm:MR ρ B m2 m) {top lv sl ver:Nat} : ∀ {cs:List CSh} {xs xs':List Cell} {ks:List (Nat×Nat)} {aSz:List AV} {d:List Dyn} {k:Nat},(∀ x∈xs,hiC top x=true)→frz m2 xs=some (xs',ks)→resDynCs cs xs'=some d→All2 (RC ρ B m2) xs aSz→
  ∃ as' xs2,impCells m top 0 lv sl ver k aSz=some (as',[])∧(∀ rest,fillCs cs (d++rest)=some (xs2,rest))∧as'.all isDat=true∧∀ (ρ : VMap) (B:Nat) (m:List (Tr E2)),All2 (RC ρ B m) xs2 as'
 | cs, [], xs', ks, aSz, d, k, _, h, hd, ha => by
  cases h
  match aSz,ha with
  | [], _ =>
   match cs,hd with
   |[],hd=>
    cases hd
    exact⟨[],[],rfl,fun _=>rfl,rfl,fun _ _ _=>trivial⟩
 | cs, x :: xs, xs', ks, aSz, d, k, hh, h, hd, ha => by
  simp[frz] at h
  split at h
  ·rename_i y k1 ys k2 h1 h2
   cases h
   match aSz,ha with
   | a :: aSz, ha =>
    match cs,hd with
    |[],hd=>simp[resDynCs] at hd
    | c :: cs, hd =>
     simp[resDynCs] at hd
     split at hd
     ·rename_i d1 d2 h5 h6
      cases hd
      obtain⟨a',x2,g1,g2,g3⟩:=resC_ok hm (k:=k) (lv:=lv) (sl:=sl) (ver:=ver) (hh x List.mem_cons_self) h1 h5 ha.1
      obtain⟨as',xs2,g4,g5,g7,g6⟩:=resCs_ok hm (lv:=lv) (sl:=sl) (ver:=ver) (k:=k+1) (fun x hx=>hh x (List.mem_cons_of_mem _ hx)) h2 h6 ha.2
      exact⟨.d a' :: as',x2 :: xs2,by simp only[impCells,g1,g4,List.append_nil],fun rest=>by simp only[fillCs,List.append_assoc,g2,g5],by rw[List.all_cons,g7];rfl,fun ρ B m=>⟨g3 _ _ _,g6 _ _ _⟩⟩
     grind
  grind
theorem res1_ok {ρ : VMap} {B:Nat} {m2:List (Tr E2)} {m:List (Tr Ent)} (hm:MR ρ B m2 m) {top lv sl ver k:Nat} {b:Bool} {cs:List CSh} {xs xs':List Cell} {ks:List (Nat×Nat)} {a:AV} {d:List Dyn} (hh:∀ x∈xs,hiC top x=true) (h:frz m2 xs=some (xs',ks)) (hd:resDynCs cs xs'=some d) (ha:R1 ρ B m2 (b,xs) a) :
  ∃ a' xs2,imp1 m top 0 lv sl ver k a=some (a',[])∧(∀ rest,fillCs cs (d++rest)=some (xs2,rest))∧plain1 a'=true∧∀ (ρ : VMap) (B:Nat) (m:List (Tr E2)),R1 ρ B m (b,xs2) a':=by
 cases b with
 |true=>
  obtain⟨aSz,rfl,ha⟩:=ha
  obtain⟨as',xs2,g1,g2,g4,g3⟩:=resCs_ok hm (k:=k) (lv:=lv) (sl:=sl) (ver:=ver) hh h hd ha
  exact⟨.agg as',xs2,by simp only[imp1,g1,Option.map_some],g2,g4,fun ρ B m=>⟨as',rfl,g3 _ _ _⟩⟩
 | false =>
  obtain⟨c,rfl,ha⟩:=ha
  obtain⟨as',xs2,g1,g2,g0,g3⟩:=resCs_ok hm (k:=k) (lv:=lv) (sl:=sl) (ver:=ver) (aSz:=[a]) hh h hd ⟨ha,trivial⟩
  simp[impCells] at g1
  have hc:=RC.cell ha
  split at g1
  ·rename_i y u ys us h1 h2
   cases h2
   injection g1 with g1;injection g1 with g4 g5
   subst g4
   simp at g5
   subst g5
   have hx:=g3 ρ B m2
   match xs2,hx with
   |[x2],_=>
    refine⟨y,[x2],?_,g2,(by cases y<;>first|rfl|cases g0),fun ρ B m=>⟨x2,rfl,(g3 ρ B m).1⟩⟩
    cases a<;>first|exact h1|cases hc.2.1
  grind
theorem resTup_ok {ρ : VMap} {B:Nat} {m2:List (Tr E2)} {m:List (Tr Ent)} (hm:MR ρ B m2 m) {top lv sl ver:Nat} : ∀ {res:List (Bool×List CSh)} {vs:List (Bool×List Cell)} {aSz:List AV} {ds:List Dyn} {k:Nat},(∀ v∈vs,∀ x∈v.2,hiC top x=true)→resDyn m2 res vs=some ds→All2 (R1 ρ B m2) vs aSz→
  ∃ as' ws,impTup m top 0 lv sl ver k aSz=some (as',[])∧(∀ rest,fillR res (ds++rest)=some (ws,rest))∧ws.length=aSz.length∧as'.all plain1=true∧∀ (ρ : VMap) (B:Nat) (m:List (Tr E2)),All2 (R1 ρ B m) ws as'
 |[],[],aSz,ds,k,_,h,ha=>by
  cases h
  match aSz,ha with
  |[],_=>exact⟨[],[],rfl,fun _=>rfl,rfl,rfl,fun _ _ _=>trivial⟩
 | (a, l) :: ps, (b, cs) :: vs, aSz, ds, k, hh, h, ha => by
  simp[resDyn] at h
  split at h
  ·rename_i cs' ks ds2 hab hf hr
   obtain⟨d,hd,rfl⟩:=opt_map h
   have hab:a=b:=by grind
   subst hab
   match aSz,ha with
   |x :: aSz,ha=>
    obtain⟨a',xs2,g1,g2,g8,g3⟩:=res1_ok hm (k:=k) (lv:=lv) (sl:=sl) (ver:=ver) (hh _ List.mem_cons_self) hf hd ha.1
    obtain⟨as',ws,g4,g5,g6,g9,g7⟩:=resTup_ok hm (lv:=lv) (sl:=sl) (ver:=ver) (k:=k+64) (fun v hv=>hh v (List.mem_cons_of_mem _ hv)) hr ha.2
    exact⟨a' :: as',(a,xs2) :: ws,by simp only[impTup,g1,g4,List.append_nil],fun rest=>by simp only[fillR,List.append_assoc,g2,g5],by simp[g6],by rw[List.all_cons,g8,g9];rfl,fun ρ B m=>⟨g3 _ _ _,g7 _ _ _⟩⟩
  grind
 |[],_ :: _,_,_,_,_,h,_=>by simp[resDyn] at h
 |_ :: _,[],_,_,_,_,h,_=>by simp[resDyn] at h
theorem resR_ok {ρ : VMap} {B:Nat} {m2:List (Tr E2)} {m:List (Tr Ent)} (hm:MR ρ B m2 m) {top lv sl ver:Nat} {res:List (Bool×List CSh)} {vs:List (Bool×List Cell)} {aSz:List AV} {ds:List Dyn} (hh:∀ v∈vs,∀ x∈v.2,hiC top x=true) (h:resDyn m2 res vs=some ds) (ha:All2 (R1 ρ B m2) vs aSz) {ws:List (Bool×List Cell)} {w:V2} (hw:fillR res ds=some (ws,[])) (ht:tup2 ws=some w) :
  ∃ a',impR m top 0 lv sl ver (tupOf aSz)=some (a',[])∧plainR a'=true∧∀ (ρ : VMap) (B:Nat) (m:List (Tr E2)),RV ρ B m w a':=by
 obtain⟨as',ws',g1,g2,g3,g0,g4⟩:=resTup_ok hm (lv:=lv) (sl:=sl) (ver:=ver) (k:=1) hh h ha
 have g2':=g2 []
 rw[List.append_nil,hw] at g2'
 cases g2'
 match aSz,ha,g1,g3 with
 | [], _, g1, g3 =>
  match ws,g3 with
  |[],_=>
   cases ht
   exact⟨.tup [],rfl,rfl,fun _ _ _=>⟨[],rfl,trivial⟩⟩
 | [a], ha, g1, g3 =>
  match ws,g3 with
  | [(b, cs)], _ =>
   simp[impTup] at g1
   split at g1
   ·rename_i y u ys us h1 h2
    cases h2
    injection g1 with g1;injection g1 with g5 g6
    subst g5
    simp at g6
    subst g6
    simp at g0
    refine⟨y,?_,(by cases y<;>first|exact g0|cases g0),fun ρ B m=>?_⟩
    ·match vs, ha with
     |[(b',cs')],ha=>
      have hn:=R1.notTup ha.1
      cases a<;>first|exact h1|cases hn
    ·have hx := (g4 ρ B m).1
     cases b with
     |true=>
      obtain⟨bs,rfl,g7⟩:=hx
      cases ht
      exact⟨bs,rfl,g7⟩
     |false=>
      obtain⟨c,rfl,g7⟩:=hx
      cases ht
      exact g7
   grind
 | a :: b :: aSz, ha, g1, g3 =>
  match ws,g3 with
  |x :: y :: ws,_=>
   cases ht
   exact⟨.tup as',by simp only[tupOf,impR,g1,Option.map_some],g0,fun ρ B m=>⟨as',rfl,g4 _ _ _⟩⟩
theorem resCr_ok {ρ : VMap} {B:Nat} {m2:List (Tr E2)} {m:List (Tr Ent)} (hm:MR ρ B m2 m) {k lv sl ver p row rk:Nat} (h0:rk≠0) (hr1:row % 65536=rk) (hr2:row / 65536≠0) (h65:row % 65536≠65535) {c:CSh} {x x':Cell} {ks:List (Nat×Nat)} {a:AV} {d:List Dyn}
  (hk:rkCell m2 rk k x=true) (h:frz1 m2 x=some (x',ks)) (hd:resDynC c x'=some d) (hx:RC ρ B m2 x a) :
  ∃ x2,(∀ rest,c.fill (d++rest)=some (x2,rest))∧∀ x3 us,pickC rk lv sl ver k x2=some (x3,us)→(∀ u∈us,row / 65536=u.t.size)→
   ∃ a',impCell m 0 row k lv sl p a=some (a',us.map fun u=>encL u.t u.l)∧∀ (ρ : VMap) (B:Nat) (m:List (Tr E2)),RowFit ρ B m lv sl ver p us→RC ρ B m x3 a':=by
 have hrow:Nat.beq row 0=false:=beq_false.2 (by intro e;subst e;simp at hr2)
 have hsz:(!Nat.beq (row / 65536) 0)=true:=by rw[beq_false.2 hr2];rfl
 have fin:∀ {y:D},cellD x'=some y→∃ x2,(∀ rest,c.fill (d++rest)=some (x2,rest))∧∀ (ρ : VMap) (B:Nat) (m:List (Tr E2)),RC ρ B m x2 (.d y):=by
  intro y hy
  unfold resDynC at hd
  split at hd
  ·split at hd
   ·cases hd; cases hy
    exact⟨_,fun _=>rfl,fun _ _ _=>rfl⟩
   ·cases hd
  ·cases hd; cases hy
   exact⟨_,fun _=>rfl,fun _ _ _=>rfl⟩
  ·cases hd; cases hy
   exact⟨_,fun _=>rfl,fun _ _ _=>rfl⟩
  ·cases hd; cases hy
   exact⟨_,fun _=>rfl,fun _ _ _=>.inl rfl⟩
  ·cases hd; cases hy
   exact⟨_,fun _=>rfl,fun _ _ _=>.inl rfl⟩
  ·cases hd
 have off:k≠rk→(∃ y,cellD x'=some y∧impCell m 0 row k lv sl p a=some (.d y,[]))→∃ x2,(∀ rest,c.fill (d++rest)=some (x2,rest))∧∀ x3 us,pickC rk lv sl ver k x2=some (x3,us)→(∀ u∈us,row / 65536=u.t.size)→
   ∃ a',impCell m 0 row k lv sl p a=some (a',us.map fun u=>encL u.t u.l)∧∀ (ρ : VMap) (B:Nat) (m:List (Tr E2)),RowFit ρ B m lv sl ver p us→RC ρ B m x3 a':=by
  rintro hne ⟨y,h1,h2⟩
  obtain⟨x2,h3,h4⟩:=fin h1
  refine⟨x2,h3,fun x3 us hp _=>?_⟩
  simp[pickC,beq_false.2 hne,Option.some.injEq,Prod.mk.injEq] at hp
  obtain⟨rfl,rfl⟩:=hp
  exact⟨_,h2,fun _ _ _ _=>h4 _ _ _⟩
 have nk:(!Nat.beq k rk)=true→k≠rk:=by
  intro h e
  rw[e,beq_true.2 rfl] at h
  cases h
 have keep0:keepOwn 0 row=false:=by
  unfold keepOwn
  cases Nat.beq row 0<;>rfl
 have own:k≠rk→∀ {els:List (List D)} {o:Own},o≠.bor→impCell m 0 row k lv sl p (.own els o)=some (.d (.sl els),[]):=by
  intro hne els o ho
  cases o with
  |bor=>exact absurd rfl ho
  |tip=>simp[impCell,keep0]
  |full=>
   simp[impCell,hr1,beq_false.2 hne,Bool.and_false,keep0,beq_false.2 (show rk≠65535 by rw[←hr1];exact h65),Bool.or_self]
 unfold frz1 at h
 split at h
 ·cases h;cases hx;exact off (nk hk) ⟨_,rfl,rfl⟩
 ·cases h;cases hx;exact off (nk hk) ⟨_,rfl,rfl⟩
 ·cases h;cases hx;exact off (nk hk) ⟨_,rfl,rfl⟩
 ·cases h;cases hx;exact off (nk hk) ⟨_,rfl,rfl⟩
 ·rename_i f
  cases h
  cases f with
  |false=>
   rcases (els_nil (m:=m) hx).2 with rfl|⟨o,ho,rfl⟩
   ·exact off (nk hk) ⟨_,rfl,rfl⟩
   ·exact off (nk hk) ⟨_,rfl,own (nk hk) ho⟩
  | true =>
   subst hx
   by_cases hne:k=rk
   ·subst hne
    have hc:∃ t,c=.sl t .d∧d=[⟨.sl t,[]⟩]:=by
     cases c with
     |sl t o=>cases o<;>first|(injection hd with hd;exact⟨t,rfl,hd.symm⟩)|cases hd
     |_=>cases hd
    obtain⟨t,rfl,rfl⟩:=hc
    ·refine ⟨.sl t [] .d, fun _ => rfl, fun x3 us hp hu => ?_⟩
     simp[pickC,beq_true.2 rfl,Option.some.injEq,Prod.mk.injEq] at hp
     obtain⟨rfl,rfl⟩:=hp
     have hu:=hu _ (List.mem_singleton.2 rfl)
     refine⟨.ref lv sl p 0 0 (row / 65536),?_,fun ρ B m hf=>⟨hf.1,p,0,hf.2.1,by rw[hu],fun r hr=>?_⟩⟩
     ·simp [impCell, hr1, hsz, beq_true.2 rfl, Bool.and_true]
      rfl
     ·have := hf.2.2 _ (List.mem_singleton.2 rfl) r hr
      simpa using this.symm
   ·exact off hne ⟨_,rfl,own hne (fun h=>by cases h)⟩
 ·cases h
 ·rename_i t l o hne
  cases h
  rcases (els_sl (m:=m) hx).2.2 (fun e=>hne e) with rfl|⟨o',ho,rfl⟩
  ·exact off (nk hk) ⟨_,rfl,rfl⟩
  ·exact off (nk hk) ⟨_,rfl,own (nk hk) ho⟩
 ·rename_i lv' sl' ver' t
  split at h
  ·rename_i r hr
   cases h
   have he:=els_ref hm hx hr
   obtain⟨_,u,n,hu,rfl,hn⟩:=hx
   simp only[rkCell,hr,Bool.and_eq_true] at hk
   obtain⟨hk1,hk2⟩:=hk
   have hk1:=beq_true.1 hk1
   have hk2:=beq_true.1 hk2
   subst hk1
   obtain⟨e,g1,g2⟩:=hm.ents _ _ _ (rowOf_some hr)
   obtain⟨_,u',g3,rfl⟩:=g2
   rw[hu] at g3;cases g3
   have hat:Eng.rowAt m lv' sl' u=some (encL r.t r.l):=by
    unfold Eng.rowAt
    rw[g1]
    simp[beq_true.2 rfl]
   have hc:∃ t0,c=.sl t0 .d∧d=[⟨.sl r.t,r.l⟩]:=by
    cases c with
    |sl t o=>cases o<;>first|(injection hd with hd;exact⟨t,rfl,hd.symm⟩)|cases hd
    |_=>cases hd
   obtain⟨t0,rfl,rfl⟩:=hc
   ·refine ⟨.sl r.t r.l .d, fun _ => rfl, fun x3 us hp hu => ?_⟩
    simp[pickC,beq_true.2 rfl,Option.some.injEq,Prod.mk.injEq] at hp
    obtain⟨rfl,rfl⟩:=hp
    refine⟨.ref lv sl p 0 n t.size,?_,fun ρ B m hf=>⟨hf.1,p,n,hf.2.1,by rw[hk2],fun r' hr'=>?_⟩⟩
    ·simp [impCell, he, hrow, hr1, beq_true.2 rfl, hat]
     rfl
    ·rw [hf.2.2 _ (List.mem_singleton.2 rfl) r' hr']
     exact hn r hr
  ·cases h
 ·cases hk
 ·cases h
theorem resCsr_ok {ρ : VMap} {B:Nat} {m2:List (Tr E2)} {m:List (Tr Ent)} (hm:MR ρ B m2 m) {lv sl ver p row rk:Nat} (h0:rk≠0) (hr1:row % 65536=rk) (hr2:row / 65536≠0) (h65:row % 65536≠65535) :
  ∀ {cs:List CSh} {xs xs':List Cell} {ks:List (Nat×Nat)} {aSz:List AV} {d:List Dyn} {k:Nat},rkCs m2 rk k xs=true→frz m2 xs=some (xs',ks)→resDynCs cs xs'=some d→All2 (RC ρ B m2) xs aSz→
  ∃ xs2,(∀ rest,fillCs cs (d++rest)=some (xs2,rest))∧∀ xs3 us,pickCs rk lv sl ver k xs2=some (xs3,us)→(∀ u∈us,row / 65536=u.t.size)→
   ∃ as',impCells m 0 row lv sl p k aSz=some (as',us.map fun u=>encL u.t u.l)∧∀ (ρ : VMap) (B:Nat) (m:List (Tr E2)),RowFit ρ B m lv sl ver p us→All2 (RC ρ B m) xs3 as'
 | cs, [], xs', ks, aSz, d, k, _, h, hd, ha => by
  cases h
  match aSz,ha with
  | [], _ =>
   match cs,hd with
   |[],hd=>
    cases hd
    refine⟨[],fun _=>rfl,fun xs3 us hp _=>?_⟩
    cases hp
    exact⟨[],rfl,fun _ _ _ _=>trivial⟩
   |_ :: _,hd=>simp[resDynCs] at hd
 | cs, x :: xs, xs', ks, aSz, d, k, hk, h, hd, ha => by
  simp[rkCs,Bool.and_eq_true] at hk
  simp[frz] at h
  split at h
  ·rename_i y k1 ys k2 h1 h2
   cases h
   match aSz,ha with
   | a :: aSz, ha =>
    match cs,hd with
    |[],hd=>simp[resDynCs] at hd
    | c :: cs, hd =>
     simp[resDynCs] at hd
     split at hd
     ·rename_i d1 d2 h5 h6
      cases hd
      obtain⟨x2,g2,g3⟩:=resCr_ok hm (k:=k) (lv:=lv) (sl:=sl) (ver:=ver) (p:=p) h0 hr1 hr2 h65 hk.1 h1 h5 ha.1
      obtain⟨xs2,g5,g6⟩:=resCsr_ok hm (lv:=lv) (sl:=sl) (ver:=ver) (p:=p) h0 hr1 hr2 h65 (k:=k+1) hk.2 h2 h6 ha.2
      refine⟨x2 :: xs2,fun rest=>by simp only[fillCs,List.append_assoc,g2,g5],fun xs3 us hp hu=>?_⟩
      simp[pickCs] at hp
      split at hp
      ·rename_i z u1 zs u2 p1 p2
       cases hp
       obtain⟨a',q1,q2⟩:=g3 _ _ p1 (fun u h=>hu u (List.mem_append_left _ h))
       obtain⟨as',q3,q4⟩:=g6 _ _ p2 (fun u h=>hu u (List.mem_append_right _ h))
       exact⟨a' :: as',by simp only[impCells,q1,q3,List.map_append],fun ρ B m hf=>⟨q2 _ _ _ ⟨hf.1,hf.2.1,fun u h=>hf.2.2 u (List.mem_append_left _ h)⟩,q4 _ _ _ ⟨hf.1,hf.2.1,fun u h=>hf.2.2 u (List.mem_append_right _ h)⟩⟩⟩
      grind
     grind
  grind
theorem imp1_cell {m:List (Tr Ent)} {row lv sl p k:Nat} {a:AV} (h:isCell0 a=true) (h2:Eng.notTup a=true):imp1 m 0 row lv sl p k a=impCell m 0 row k lv sl p a:=by
 cases a<;>first|rfl|cases h
theorem resTupr_ok {ρ : VMap} {B : Nat} {m2 : List (Tr E2)} {m : List (Tr Ent)} (hm : MR ρ B m2 m) {lv sl ver p row rk : Nat} (h0 : rk ≠ 0) (hr1 : row % 65536 = rk) (hr2 : row / 65536 ≠ 0) (h65 : row % 65536 ≠ 65535) :
  ∀ {res:List (Bool×List CSh)} {vs:List (Bool×List Cell)} {aSz:List AV} {ds:List Dyn} {k:Nat},rkAll m2 rk k vs=true→resDyn m2 res vs=some ds→All2 (R1 ρ B m2) vs aSz→
  ∃ ws,(∀ rest,fillR res (ds++rest)=some (ws,rest))∧ws.length=aSz.length∧∀ ws' us,pickR rk lv sl ver k ws=some (ws',us)→(∀ u∈us,row / 65536=u.t.size)→
   ∃ as',impTup m 0 row lv sl p k aSz=some (as',us.map fun u=>encL u.t u.l)∧ws'.length=aSz.length∧∀ (ρ : VMap) (B:Nat) (m:List (Tr E2)),RowFit ρ B m lv sl ver p us→All2 (R1 ρ B m) ws' as'
 | [], [], aSz, ds, k, _, h, ha => by
  cases h
  match aSz,ha with
  |[],_=>
   refine⟨[],fun _=>rfl,rfl,fun ws' us hp _=>?_⟩
   cases hp
   exact⟨[],rfl,rfl,fun _ _ _ _=>trivial⟩
 | (a, l) :: ps, (b, cs) :: vs, aSz, ds, k, hk, h, ha => by
  simp[rkAll,Bool.and_eq_true] at hk
  simp[resDyn] at h
  split at h
  ·rename_i cs' ks ds2 hab hf hr
   obtain⟨d,hd,rfl⟩:=opt_map h
   have hab:a=b:=by grind
   subst hab
   match aSz,ha with
   | x :: aSz, ha =>
    obtain⟨ws,g5,g6,g7⟩:=resTupr_ok hm (lv:=lv) (sl:=sl) (ver:=ver) (p:=p) h0 hr1 hr2 h65 (k:=k+64) hk.2 hr ha.2
    have one : ∃ xs2, (∀ rest, fillCs l (d ++ rest) = some (xs2, rest)) ∧ ∀ xs3 us, pickCs rk lv sl ver k xs2 = some (xs3, us) → (∀ u ∈ us, row / 65536 = u.t.size) →
      ∃ a',imp1 m 0 row lv sl p k x=some (a',us.map fun u=>encL u.t u.l)∧∀ (ρ : VMap) (B:Nat) (m:List (Tr E2)),RowFit ρ B m lv sl ver p us→R1 ρ B m (a,xs3) a':=by
     cases a with
     |true=>
      obtain⟨as2,rfl,ha2⟩:=ha.1
      obtain⟨xs2,q1,q2⟩:=resCsr_ok hm (k:=k) (lv:=lv) (sl:=sl) (ver:=ver) (p:=p) h0 hr1 hr2 h65 hk.1 hf hd ha2
      refine⟨xs2,q1,fun xs3 us hp hu=>?_⟩
      obtain⟨as',q3,q4⟩:=q2 xs3 us hp hu
      exact⟨.agg as',by simp only[imp1,q3,Option.map_some],fun ρ B m hf=>⟨as',rfl,q4 _ _ _ hf⟩⟩
     | false =>
      obtain⟨c,rfl,ha2⟩:=ha.1
      obtain⟨xs2,q1,q2⟩:=resCsr_ok hm (k:=k) (lv:=lv) (sl:=sl) (ver:=ver) (p:=p) h0 hr1 hr2 h65 (aSz:=[x]) hk.1 hf hd ⟨ha2,trivial⟩
      refine⟨xs2,q1,fun xs3 us hp hu=>?_⟩
      obtain⟨as',q3,q4⟩:=q2 xs3 us hp hu
      have hc:=RC.cell ha2
      simp[impCells] at q3
      split at q3
      ·rename_i y u ys us' h1 h2
       cases h2
       simp at q3
       obtain⟨rfl,rfl⟩:=q3
       have hlen : ∃ x3, xs3 = [x3] := by
        have hq:=q1 []
        have h1:∀ {l:List CSh} {d:List Dyn} {xs:List Cell},fillCs l d=some (xs,[])→xs.length=l.length:=by
         intro l
         induction l with
         |nil=>intro d xs h;cases h;rfl
         |cons c l ih=>
          intro d xs h
          simp[fillCs] at h<;>grind
        have h2:∀ {k:Nat} {xs xs3:List Cell} {us:List SL},pickCs rk lv sl ver k xs=some (xs3,us)→xs3.length=xs.length:=by
         intro k xs
         induction xs generalizing k with
         |nil=>intro xs3 us h;simp[pickCs,Option.some.injEq,Prod.mk.injEq] at h<;>grind
         |cons c l ih=>
          intro xs3 us h
          simp[pickCs] at h<;>grind
        have h3:l.length=1:=by
         have hq2:∀ {cs:List CSh} {xs:List Cell} {d:List Dyn},resDynCs cs xs=some d→cs.length=xs.length:=by
          intro cs
          induction cs with
          |nil=>intro xs d h;cases xs with|nil=>rfl|cons _ _=>simp[resDynCs] at h
          | cons c cs ih =>
           intro xs d h
           cases xs with
           |nil=>simp[resDynCs] at h
           |cons x xs=>
            simp[resDynCs] at h<;>grind
         simp[frz] at hf<;>grind
        have:=h2 hp
        rw[h1 hq,h3] at this
        match xs3,this with
        |[x3],_=>grind
       obtain⟨x3,rfl⟩:=hlen
       exact⟨y,by rw[imp1_cell hc.2.1 hc.2.2];exact h1,fun ρ B m hf=>⟨x3,rfl,(q4 _ _ _ hf).1⟩⟩
      grind
    obtain⟨xs2,q1,q2⟩:=one
    refine⟨(a,xs2) :: ws,fun rest=>by simp only[fillR,List.append_assoc,q1,g5],by simp[g6],fun ws' us hp hu=>?_⟩
    simp[pickR] at hp
    split at hp
    ·rename_i z u1 zs u2 p1 p2
     cases hp
     obtain⟨a',q3,q4⟩:=q2 _ _ p1 (fun u h=>hu u (List.mem_append_left _ h))
     obtain⟨as',q5,q6,q7⟩:=g7 _ _ p2 (fun u h=>hu u (List.mem_append_right _ h))
     exact⟨a' :: as',by simp only[impTup,q3,q5,List.map_append],by simp[q6],fun ρ B m hf=>⟨q4 _ _ _ ⟨hf.1,hf.2.1,fun u h=>hf.2.2 u (List.mem_append_left _ h)⟩,q7 _ _ _ ⟨hf.1,hf.2.1,fun u h=>hf.2.2 u (List.mem_append_right _ h)⟩⟩⟩
    grind
  grind
 |[],_ :: _,_,_,_,_,h,_=>by simp[resDyn] at h
 |_ :: _,[],_,_,_,_,h,_=>by simp[resDyn] at h
theorem resRr_ok {ρ : VMap} {B:Nat} {m2:List (Tr E2)} {m:List (Tr Ent)} (hm:MR ρ B m2 m) {lv sl ver p row rk:Nat} (h0:rk≠0) (hr1:row % 65536=rk) (hr2:row / 65536≠0) (h65:row % 65536≠65535) {res:List (Bool×List CSh)} {vs ws ws':List (Bool×List Cell)} {aSz:List AV} {ds:List Dyn} {us:List SL} {w:V2}
  (hk:rkAll m2 rk 1 vs=true) (h:resDyn m2 res vs=some ds) (ha:All2 (R1 ρ B m2) vs aSz) (hw:fillR res ds=some (ws,[])) (hp:pickR rk lv sl ver 1 ws=some (ws',us)) (hu:∀ u∈us,row / 65536=u.t.size) (ht:tup2 ws'=some w) :
  ∃ a',impR m 0 row lv sl p (tupOf aSz)=some (a',us.map fun u=>encL u.t u.l)∧∀ (ρ : VMap) (B:Nat) (m:List (Tr E2)),RowFit ρ B m lv sl ver p us→RV ρ B m w a':=by
 obtain⟨ws1,g2,g3,g4⟩:=resTupr_ok hm (lv:=lv) (sl:=sl) (ver:=ver) (p:=p) h0 hr1 hr2 h65 (k:=1) hk h ha
 have g2':=g2 []
 rw[List.append_nil,hw] at g2'
 cases g2'
 obtain⟨as',g1,g5,g6⟩:=g4 _ _ hp hu
 match aSz,ha,g1,g5 with
 | [], _, g1, g5 =>
  match ws',g5 with
  |[],_=>
   cases ht
   simp only[impTup,Option.some.injEq,Prod.mk.injEq] at g1
   obtain⟨rfl,g7⟩:=g1
   exact⟨.tup [],by simp only[tupOf,impR,impTup,Option.map_some];rw[←g7],fun _ _ _ _=>⟨[],rfl,trivial⟩⟩
 | [a], ha, g1, g5 =>
  match ws',g5 with
  | [(b, cs)], _ =>
   simp[impTup] at g1
   split at g1
   ·rename_i y u ys us' h1 h2
    cases h2
    simp at g1
    obtain⟨rfl,rfl⟩:=g1
    refine⟨y,?_,fun ρ B m hf=>?_⟩
    ·match vs, ha with
     |[(b',cs')],ha=>
      have hn:=R1.notTup ha.1
      cases a<;>first|exact h1|cases hn
    ·have hx := (g6 ρ B m hf).1
     cases b with
     |true=>
      obtain⟨bs,rfl,g7⟩:=hx
      cases ht
      exact⟨bs,rfl,g7⟩
     |false=>
      obtain⟨c,rfl,g7⟩:=hx
      cases ht
      exact g7
   grind
 | a :: b :: aSz, ha, g1, g5 =>
  match ws',g5 with
  |x :: y :: ws',_=>
   cases ht
   exact⟨.tup as',by simp only[tupOf,impR,g1,Option.map_some],fun ρ B m hf=>⟨as',rfl,g6 _ _ _ hf⟩⟩
theorem runF_of {f:Nat} {fn:AFn} {aSz:List AV} {as1:List AV} {mem:List (Tr Ent)} {nv n0:Nat} {ax:AX} {t:St} (hf:Fs f=some fn) (hnp:Nat.beq aSz.length fn.np=true) (hax:∀ id,ax≠.exit id) (q1:resAll t fn.res=some as1)
  (hev:∀ k n,n0≤k→n0≤n→exec (runG Fs k) (shF Fs) n fn.body { slots:=argSlots 0 aSz .lf,mem,tips:=.lf,nv } = some (ax,t)):∀ n,n0+1≤n→runG Fs n f aSz mem .lf nv=some (tupOf as1,t.mem,t.tips,t.nv):=by
 intro n hn
 obtain⟨n,rfl⟩:∃ k,n=k+1:=⟨n-1,by omega⟩
 simp[runG,hf,hnp]
 have:=hev n n (by omega) (by omega)
 unfold shF at this
 cases ax with
 |normal=>grind
 |ret=>grind
 |exit id=>grind
theorem fn_ok (hE:EnvOK Fs E) (N f:Nat) (args:List PSh) (ta:List Ty) (res:List (Bool×List CSh)) (tr:List Ty) (rk:Nat):CalOK Fs f ⟨args,ta,res,tr,rk,fnRun E N f args ta res tr rk⟩:=by
 intro x y h
 obtain⟨fn,hf,h⟩:=optK_some h
 rw[hE.fns] at hf
 split at h
 ·rename_i vs hvs
  split at h
  ·rename_i hnp
   refine⟨vs,hvs,fun aSz has _=>?_⟩
   let ρ : VMap:=fun v=>some v
   have start:SR' ρ [] { slots:=argSlots2 0 vs .lf,outer:=[],mem:=[.lf],tips:=.lf,nv:=0 } { slots:=argSlots 0 aSz .lf,mem:=[.lf],tips:=.lf,nv:=0 }:=by
    refine⟨argSlots_rel (has.mono fun _ _=>RV.move (fun _ _ _ _ h=>absurd h (by omega)) (Nat.le_refl _) fun _ h=>absurd h (by omega)),trivial,⟨rfl,fun lv sl e he=>?_⟩,fun v hv=>?_,⟨fun v u hv=>?_,fun v _=>?_,fun v v' u h h'=>?_⟩,Nat.le_refl _⟩
    ·have:=mget_replicate 1 lv sl<;>grind
    ·simp at hv
    ·grind
    ·grind
    grind
   obtain⟨ax,t2,ρ',t,⟨n0,hev⟩,g2,g3,g4,g5⟩:=walk_ok hE N _ _ _ _ _ _ _ h _ _ _ start
   have hax:∀ id,ax≠.exit id:=by grind
   have g5:(ressK t2 fn.res fun vs=>match rkOK t2.mem rk vs && !Nat.beq rk 65535 with
     |true=>optK (resDyn t2.mem res vs) fun ds=>pack tr ds
     |false=>none)=some y:=by
    grind
   obtain⟨vs1,as1,q1,q2,g5⟩:=ressK_ok g2.mem g2.slots g5
   split at g5
   case h_2=>cases g5
   rename_i hrk
   simp at hrk
   obtain⟨hrk,h65⟩:=hrk
   have h65:rk≠65535:=by intro e;simp_all
   obtain⟨ds,q3,q4⟩:=optK_some g5
   refine⟨n0+1,tupOf as1,t.mem,t.tips,t.nv,fun n hn=>?_,fun ws hws=>⟨fun _ w hw lv sl nvi=>?_,fun row lv sl ver p ws' us w h0 _ hr1 hr2 hp hu hw=>?_⟩⟩
   ·exact runF_of hf (by rw[←has.length];exact hnp) hax q1 hev n hn
   ·rw [unpack_pack q4] at hws
    obtain⟨a',p1,_,p2⟩:=resR_ok (top:=0) g2.mem (fun _ _ _ _=>hi0 _) q3 q2 hws hw
    exact⟨a',p1,p2⟩
   ·rw [unpack_pack q4] at hws
    have hrk:rkAll t2.mem rk 1 vs1=true:=by
     unfold rkOK at hrk
     rw[beq_false.2 h0] at hrk<;>omega
    exact resRr_ok g2.mem h0 hr1 hr2 (by rw[hr1];exact h65) hrk q3 q2 hws hp hu hw
  grind
 grind
end
end Go.Sym
