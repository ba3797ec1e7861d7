/- A part of the proof: EngSH, EngT, EngU. -/
import Derived.Test.YtjejefeomeddhaaGreatEngS
import Derived.Test.YtjejefeomeddhaaGreatEngMap
set_option linter.unusedVariables false
set_option linter.unusedSimpArgs false
variable [Go.Eng.Rho]
set_option linter.unusedSectionVars false
namespace Go.Eng
open Go Go.RowKit
theorem memGet_upds (f:Nat×Nat→Option Ent):∀ (kp:List (Nat×Nat)) (m:List (Tr Ent)) (lv sl:Nat),memGet (applyUpd m (kp.map fun k=>(k.1,k.2,f k))) lv sl=if (lv,sl)∈kp∧lv<m.length then f (lv,sl) else memGet m lv sl
 |[],m,lv,sl=>by simp[applyUpd]
 |(a,b) :: r,m,lv,sl=>by
  simp only[List.map_cons,applyUpd]
  rw[memGet_upds f r,memGet_set]<;>grind[memSet,applyUpd,memGet]
theorem memGet_hide (m:List (Tr Ent)) (kp:List (Nat×Nat)) (lv sl:Nat):memGet (hide m kp) lv sl=if (lv,sl)∈kp then none else memGet m lv sl:=by
 unfold hide
 rw[memGet_upds (fun _=>none)]<;>grind[applyUpd,memGet]
theorem applyUpd_len:∀ (u:List (Nat×Nat×Option Ent)) (m:List (Tr Ent)),(applyUpd m u).length=m.length
 |[],_=>rfl
 |(lv,sl,e) :: r,m=>(applyUpd_len r _).trans (by simp[memSet])
theorem hide_length (m:List (Tr Ent)) (kp:List (Nat×Nat)):(hide m kp).length=m.length:=applyUpd_len _ _
theorem fit_length (old m:List (Tr Ent)):(fit old m).length=old.length:=by
 grind[fit]
theorem memGet_fit (old m:List (Tr Ent)) (lv sl:Nat):memGet (fit old m) lv sl=if lv<old.length then memGet m lv sl else none:=by
 unfold fit memGet
 grind[Tr.get?]
theorem memGet_back (old m:List (Tr Ent)) (kp:List (Nat×Nat)) (lv sl:Nat):memGet (back old m kp) lv sl=if kp=[] then memGet m lv sl else if (lv,sl)∈kp then memGet old lv sl else if lv<old.length then memGet m lv sl else none:=by
 cases kp with
 |nil=>simp[back]
 |cons k r=>
  rw[if_neg (by simp)]
  unfold back
  rw[memGet_upds (fun k=>memGet old k.1 k.2),fit_length,memGet_fit]<;>grind[fit,applyUpd,memGet]
theorem back_length {old m:List (Tr Ent)} {kp:List (Nat×Nat)} (h:kp≠[]):(back old m kp).length=old.length:=by
 cases kp with
 |nil=>grind
 |cons k r=>unfold back;rw[applyUpd_len,fit_length]
theorem back_some {old m:List (Tr Ent)} {kp kr:List (Nat×Nat)} (hkr:∀ k∈kr,k ∉ kp→memGet m k.1 k.2=memGet old k.1 k.2) {lv sl:Nat} {e:Ent} (h:memGet (back old m (kp++kr)) lv sl=some e):((lv,sl)∈kp∧memGet old lv sl=some e)∨((lv,sl) ∉ kp∧memGet m lv sl=some e):=by
 rw[memGet_back] at h
 split at h
 ·simp_all
 grind
theorem sV_eq {a b:Value} (h:sV a b=true):a=b:=by
 unfold sV at h
 split at h
 ·grind
 ·grind
 ·rename_i a b
  have:=of_decide_eq_true h
  have:a=b:=by
   cases a with
   |mk a=>simp_all
  rw[this]
 ·rfl
 grind
theorem sL_eq {α : Type} {f : α→α→Bool} (hf:∀ a b,f a b=true→a=b):∀ {l m:List α},sL f l m=true→l=m
 |[],[],_=>rfl
 |a :: l,b :: m,h=>by
  simp[sL,Bool.and_eq_true] at h
  rw[hf a b h.1,sL_eq hf h.2]
 |[],_ :: _,h=>by cases h
 |_ :: _,[],h=>by cases h
theorem sD_eq:∀ (k:Nat) (a b:D),sD k a b=true→a=b
 |0,_,_,h=>by cases h
 | k + 1, a, b, h => by
  unfold sD at h
  split at h
  ·rw[sV_eq h]
  ·rw[sL_eq (fun _ _ h=>sL_eq (fun a b h=>sD_eq k a b h) h) h]
  ·rfl
  ·rw [Bool.and_eq_true] at h
   rw[of_decide_eq_true h.1,exE_eq _ _ h.2]
  grind
theorem sA_eq (a b:AV) (h:sA a b=true):a=b:=by
 have n:∀ {a b:Nat},Nat.beq a b=true→a=b:=Nat.eq_of_beq_eq_true
 unfold sA at h
 split at h
 ·rw[sD_eq _ _ _ h]
 ·rw[sL_eq (fun _ _ h=>sL_eq (fun a b h=>sD_eq 9 a b h) h) h]
 ·simp only [Bool.and_eq_true] at h
  obtain⟨h1,h2,h3,h4,h5,h6⟩:=h
  rw[n h1,n h2,n h3,n h4,n h5,n h6]
 ·simp only [Bool.and_eq_true] at h
  obtain⟨h1,h2,h3,h4,h5,h6⟩:=h
  rw[n h1,n h2,n h3,n h4,n h5,n h6]
 ·simp only [Bool.and_eq_true] at h
  obtain⟨h1,h2,h3,h4,h5⟩:=h
  rw[n h1,n h2,n h3,n h4,n h5]
 ·cases h
theorem sE_eq {a b:Option Ent} (h:sE a b=true):a=b:=by
 unfold sE at h
 split at h
 ·rw [Bool.and_eq_true] at h
  rw[Nat.eq_of_beq_eq_true h.1,sL_eq sA_eq h.2]
 ·rfl
 grind
theorem okT_get:∀ {t:Tr Ent} {n:Nat} {e:Ent},okT t=true→t.get? n=some e→okE e=true
 |.lf,_,_,_,h=>by cases h
 | .nd v l r, n, e, ho, h => by
  simp[okT,Bool.and_eq_true] at ho
  unfold Tr.get? at h
  split at h
  ·grind
  ·split at h
   ·exact okT_get ho.2.1 h
   ·exact okT_get ho.2.2 h
theorem okM_get {m:List (Tr Ent)} {lv sl:Nat} {e:Ent} (ho:m.all okT=true) (h:memGet m lv sl=some e):okE e=true:=by
 unfold memGet at h
 cases hm:m[lv]? with
 |none=>grind
 |some t=>
  rw[hm] at h
  exact okT_get (List.all_eq_true.1 ho t (List.mem_of_getElem? hm)) h
section
variable {X:Cx} {O:Nat→Prop}
def Cx.olds (X:Cx) (O:Nat→Prop):Cx:={ w:=X.w,F:=X.F,ρ:=X.ρ,old:=O }
theorem VC0.more (h:∀ b,X.old b→O b) {x:AV} {v:Value} (hv:VC0 X x v):VC0 (X.olds O) x v:=by
 cases x with
 | own els o =>
  cases o with
  |bor=>
   obtain⟨a,b,o,sz,cap,h1,h2,h3,h4⟩:=hv
   exact⟨a,b,o,sz,cap,h1,h2,h3,h4.region fun b _ hb=>h b hb⟩
  |full=>exact hv
  |tip ver tz=>exact hv
 |dptr e off=>
  obtain⟨b,o,hp,hc⟩:=hv
  exact⟨b,o,hp,fun j x hj=>⟨(hc j x hj).1.imp id (h b),(hc j x hj).2⟩⟩
 |d x=>exact hv
 |ref=>exact hv
 |ptr=>exact hv
 |bref=>exact hv
 |mp=>exact hv
 |agg=>exact hv.elim
 |tup=>exact hv.elim
 |clo=>exact hv.elim
theorem VC.more (h:∀ b,X.old b→O b) {x:AV} {v:Value} (hv:VC X x v):VC (X.olds O) x v:=by
 cases x with
 |clo f c=>obtain⟨vs,h1,h2⟩:=hv;exact⟨vs,h1,h2.mono fun _ _=>VC0.more h⟩
 |_=>simp only[VC] at hv ⊢;exact VC0.more h hv
theorem V1.more (h:∀ b,X.old b→O b) {x:AV} {v:Value} (hv:V1 X x v):V1 (X.olds O) x v:=by
 cases x with
 |agg cs=>obtain⟨vs,h1,h2⟩:=hv;exact⟨vs,h1,h2.mono fun _ _=>VC.more h⟩
 |_=>simp only[V1] at hv ⊢;exact VC.more h hv
theorem VR.more (h:∀ b,X.old b→O b) {x:AV} {v:Value} (hv:VR X x v):VR (X.olds O) x v:=by
 cases x with
 |tup cs=>obtain⟨vs,h1,h2⟩:=hv;exact⟨vs,h1,h2.mono fun _ _=>V1.more h⟩
 |_=>simp only[VR] at hv ⊢;exact V1.more h hv
theorem okC_old {x:AV} {v:Value} (ho:okC x=true) (hv:VC X x v):VC (X.olds O) x v:=by
 cases x with
 |own els o=>
  cases o with
  |bor=>cases ho
  |full=>exact hv
  |tip ver tz=>exact hv
 |dptr e off=>cases ho
 |clo f c=>
  obtain⟨vs,h1,h2⟩:=hv
  grind[VC0,All2,okC,Cx.olds,VC]
 |d x=>exact hv
 |ref=>exact hv
 |ptr=>exact hv
 |bref=>exact hv
 |mp=>exact hv
 |agg=>exact hv.elim
 |tup=>exact hv.elim
theorem okCs_old:∀ {xs:List AV} {vs:List Value},xs.all okC=true→All2 (VC X) xs vs→All2 (VC (X.olds O)) xs vs
 |[],[],_,_=>trivial
 |x :: xs,v :: vs,ho,hv=>by
  rw[List.all_cons,Bool.and_eq_true] at ho
  exact⟨okC_old ho.1 hv.1,okCs_old ho.2 hv.2⟩
 |[],_ :: _,_,hv=>hv.elim
 |_ :: _,[],_,hv=>hv.elim
theorem ok1_old {x:AV} {v:Value} (ho:ok1 x=true) (hv:V1 X x v):V1 (X.olds O) x v:=by
 cases x with
 |agg cs=>obtain⟨vs,h1,h2⟩:=hv;exact⟨vs,h1,okCs_old ho h2⟩
 |_=>simp only[V1] at hv ⊢;exact okC_old ho hv
theorem ok1s_old:∀ {xs:List AV} {vs:List Value},xs.all ok1=true→All2 (V1 X) xs vs→All2 (V1 (X.olds O)) xs vs
 |[],[],_,_=>trivial
 |x :: xs,v :: vs,ho,hv=>by
  rw[List.all_cons,Bool.and_eq_true] at ho
  exact⟨ok1_old ho.1 hv.1,ok1s_old ho.2 hv.2⟩
 |[],_ :: _,_,hv=>hv.elim
 |_ :: _,[],_,hv=>hv.elim
theorem okR_old {x:AV} {v:Value} (ho:okR x=true) (hv:VR X x v):VR (X.olds O) x v:=by
 cases x with
 |tup cs=>obtain⟨vs,h1,h2⟩:=hv;exact⟨vs,h1,ok1s_old ho h2⟩
 |_=>simp only[VR] at hv ⊢;exact ok1_old ho hv
end
section
variable {P:Program} {X:Cx} {s:St} {a:Act} {o:Oper} {dst:Option Nat} {nvi:Nat}
def Hid (X:Cx) (m:List (Tr Ent)) (kp:List (Nat×Nat)) (b:Nat):Prop:=∃ lv sl e L,(lv,sl)∈kp∧memGet m lv sl=some e∧e.fz=false∧X.ρ e.ver=some L∧0<L.cap∧L.b=b
theorem doHide_ok {nt:NT} {call:Go.Eng.Call} (hcall:CallOK P call) (hs:Sim X nt s a) (hfr:X.ρ nvi=none) (hnv:nvi<s.nv) (hdom:∀ v,s.nv≤v→X.ρ v=none) {row:Nat} {kp kr:List (Nat×Nat)} {lv sl f:Nat} {args:List AV} {vargs:Array Value} {r:Res}
  (hargs:All2 (VR X) args vargs.toList) (hr:doHide call row kp kr s lv sl nvi f args=some r)
  (hrun:(∃ fn,P.funcs[f]?=some fn∧fn.body.isSome=true∧(fn.name == "runtime.NumGoroutine")=false)→(execOp a.eval o).run P X.w=.ok (.enter f vargs) X.w):After P X s a o dst nvi r:=by
 have hmem:=hs.mem
 unfold doHide at hr
 split at hr
 ·cases hr
 rename_i hnt
 split at hr
 ·cases hr
 rename_i r' cm ts n' hc
 split at hr
 ·cases hr
 rename_i val us hi
 split at hr
 ·cases hr
 rename_i u hu
 split at hr
 case h_2=>cases hr
 rename_i hok
 cases hr
 rw[Bool.and_eq_true,Bool.and_eq_true] at hok
 have hkr:∀ k∈kr,k ∉ kp→memGet (applyUpd (cm.take s.mem.length) u) k.1 k.2=memGet s.mem k.1 k.2:=fun k hk hn=>by
  have:=sE_eq (List.all_eq_true.1 hok.2.2 k hk)
  rw[this,memGet_hide,if_neg hn]
 have hok:okR val=true∧(applyUpd (cm.take s.mem.length) u).all okT=true:=⟨hok.1,hok.2.1⟩
 let O:Nat→Prop:=fun b=>X.old b∨Hid X s.mem kp b
 have hO:∀ b,X.old b→O b:=fun b hb=>.inl hb
 let X':=X.olds O
 let s':St:={ s with mem:=hide s.mem kp }
 have hlen:s'.mem.length=s.mem.length:=hide_length _ _
 have hget:∀ {lv sl:Nat} {e:Ent},memGet (hide s.mem kp) lv sl=some e→(lv,sl) ∉ kp∧memGet s.mem lv sl=some e:=by
  intro lv sl e h
  rw[memGet_hide] at h<;>grind
 have unhid:∀ {k:Nat×Nat×Nat} {v:Nat} {L:Loc},Holds s.mem s.tips k v→(∀ lv sl,(lv,sl)∈kp→k≠keyE lv sl)→X.ρ v=some L→0<L.cap→¬O L.b:=by
  rintro k v L hk hne hL hc (h|⟨lv0,sl0,e0,L0,h1,h2,h3,h4,h5,h6⟩)
  ·obtain⟨M,hM,h2⟩:=hmem.holds_ρ hk<;>grind
  ·exact hmem.apart k (keyE lv0 sl0) v e0.ver L L0 hk (.inl ⟨lv0,sl0,e0,rfl,h2,rfl,h3⟩) (hne _ _ h1) hL h4 hc h5 h6.symm
 have blk:∀ {b n:Nat},¬O b→Block X b n→Block X' b n:=fun ho hb=>⟨ho,hb.2⟩
 have hmem':MemOK X' (hide s.mem kp) s.tips:=by
  refine⟨fun lv sl e he=>?_,fun v hv=>?_,fun k k' v v' L L' h1 h2 h3 h4 h5=>?_,hmem.inF,?_,?_,hmem.lows.gk⟩
  ·obtain ⟨hk, he⟩ := hget he
   obtain⟨L,hL,hE⟩:=hmem.ents lv sl e he
   refine⟨L,hL,?_⟩
   have hold:e.fz=false→0<L.cap→¬O L.b:=fun hz hc=>unhid (.inl ⟨lv,sl,e,rfl,he,rfl,hz⟩) (fun lv0 sl0 h0 hq=>by
    obtain⟨rfl,rfl⟩:=keyE_inj hq
    exact hk h0) hL hc
   cases e with
   |row v els=>exact⟨hE.1,hE.2.1,fun hc=>⟨blk (hold rfl hc) (hE.2.2.1 hc).1,(hE.2.2.1 hc).2⟩,hE.2.2.2⟩
   | box v cells => exact ⟨hE.1, blk (hold rfl (by have := hE.1; omega)) hE.2.1, hE.2.2.1, fun j x hj => by
     obtain⟨u,h1,h2⟩:=hE.2.2.2 j x hj
     exact⟨u,h1,h2.more hO⟩⟩
   |fro v els=>exact hE
   |mp v ks=>exact⟨hE.1,hold rfl (by have:=hE.1;omega),hE.2.2⟩
  ·obtain ⟨L, hL, hT⟩ := hmem.tips v hv
   exact⟨L,hL,fun hc=>⟨blk (unhid (.inr ⟨rfl,hv⟩) (fun _ _ _ hq=>keyE_ne_keyT hq.symm) hL hc) (hT hc).1,(hT hc).2⟩⟩
  ·have up : ∀ {k : Nat × Nat × Nat} {v : Nat}, Holds (hide s.mem kp) s.tips k v → Holds s.mem s.tips k v := by
    rintro k v (⟨lv,sl,e,hk,he,hv⟩|h)
    ·exact .inl ⟨lv,sl,e,hk,(hget he).2,hv⟩
    ·exact .inr h
   exact hmem.apart k k' v v' L L' (up h1) (up h2) h3 h4 h5
  ·rintro b (h | ⟨lv0, sl0, e0, L0, h1, h2, h3, h4, h5, rfl⟩)
   ·exact hmem.low b h
   ·obtain ⟨M, hM, hq⟩ := hmem.holds_ρ (k := keyE lv0 sl0) (v := e0.ver) (.inl ⟨lv0, sl0, e0, rfl, h2, rfl, h3⟩)
    rw[h4] at hM;injection hM with hM;subst hM
    exact (hq h5).1
  ·exact fun b hb=>.inl (hmem.lows.gb b hb)
 have hargs':All2 (VR X') args vargs.toList:=hargs.mono fun _ _ h=>h.more hO
 have core:=call_shared0 (X:=X') (s:=s') (dst:=dst) hcall hmem' hfr hnv hdom hargs' hnt hc (by rw[hlen];exact hi) hu hrun
 intro K Q hK
 refine core K Q fun Y' v' hx' hv' hm' hd'=>?_
 let Y:=Y'.olds X.old
 have hx:Ext X Y:=⟨rfl,hx'.below.mono hO,hx'.reg,hx'.keep,hx'.loc,fun b o hb=>(hx'.new b o hb).imp id fun h q=>h (hO b q)⟩
 rw[hlen] at hm'
 have old':∀ b,¬Y'.old b→¬X.old b∧¬O b:=fun b hb=>by
  rw[hx'.base] at hb
  exact⟨fun q=>hb (hO b q),hb⟩
 have blk':∀ {b n:Nat},Block Y' b n→Block Y b n:=fun hb=>⟨(old' _ hb.1).1,hb.2⟩
 have hidE:∀ {lv sl:Nat} {e:Ent},(lv,sl)∈kp→memGet s.mem lv sl=some e→∃ L,X.ρ e.ver=some L∧Y.ρ e.ver=some L∧EntOK Y e L:=by
  intro lv sl e hk he
  obtain⟨L,hL,hE⟩:=hmem.ents lv sl e he
  refine⟨L,hL,hx'.loc _ _ hL,?_⟩
  have hid:e.fz=false→0<L.cap→O L.b:=fun hz hc=>.inr ⟨lv,sl,e,L,hk,he,hz,hL,hc,rfl⟩
  have heap:e.fz=false→0<L.cap→Y'.w.heap[L.b]?=X.w.heap[L.b]?:=fun hz hc=>hx'.below.block _ (hid hz hc)
  have cel:∀ {b:Nat} (o:Nat),Y'.w.heap[b]?=X.w.heap[b]?→Y'.w.cell? ⟨b,o,none⟩=X.w.cell? ⟨b,o,none⟩:=fun o hb=>by simp[World.cell?,hb]
  have noF:e.fz=false→0<L.cap→(∀ o,¬X.F L.b o)→∀ o,¬Y'.F L.b o:=fun hz hc hn o hF=>by
   rcases hx'.new _ _ hF with h|h
   ·exact hn o h
   ·exact h (hid hz hc)
  have blkh:e.fz=false→0<L.cap→∀ {n:Nat},Block X L.b n→Block Y L.b n:=fun hz hc n hb=>by
   obtain⟨h1,c,ce,h2,h3⟩:=hb
   exact⟨h1,c,ce,by show Y'.w.heap[L.b]?=_;rw[heap hz hc];exact h2,h3⟩
  cases e with
  |fro v els=>exact⟨hE.1,hE.2.ext hx⟩
  | row v els =>
   refine⟨hE.1,hE.2.1,fun hc=>⟨blkh rfl hc (hE.2.2.1 hc).1,noF rfl hc (hE.2.2.1 hc).2⟩,fun i e j x h1 h2=>?_⟩
   have hc:0<L.cap:=by
    have:=(List.getElem?_eq_some_iff.1 h1).1
    have:=hE.1
    omega
   obtain⟨u,hu,hd⟩:=hE.2.2.2 i e j x h1 h2
   exact⟨u,(cel _ (heap rfl hc)).trans hu,hd.ext hx⟩
  |box v cells=>
   have hc:0<L.cap:=by have:=hE.1;omega
   refine⟨hE.1,blkh rfl hc hE.2.1,noF rfl hc hE.2.2.1,fun j x hj=>?_⟩
   obtain⟨u,hu,hd⟩:=hE.2.2.2 j x hj
   exact⟨u,(cel _ (heap rfl hc)).trans hu,hd.ext hx⟩
  |mp v ks=>
   have hc:0<L.cap:=by have:=hE.1;omega
   obtain⟨h1,h2,h3,es,clock,h4,h5⟩:=hE
   exact⟨h1,h2,noF rfl hc h3,es,clock,(heap rfl hc).trans h4,h5⟩
 have rest:∀ {k:Nat×Nat×Nat} {v:Nat} {L:Loc},Holds (applyUpd (cm.take s.mem.length) u) ts k v→Y.ρ v=some L→0<L.cap→¬O L.b:=by
  intro k v L hk hL hc
  obtain⟨M,hM,h2⟩:=hm'.holds_ρ hk
  have:Y.ρ v=some M:=hM<;>grind
 refine hK Y v' hx (okR_old hok.1 hv') ?_ hd'
 refine⟨fun lv sl e he=>?_,fun v hv=>?_,fun k k' v v' L L' h1 h2 hne h3 h4 h5 h6=>?_,hm'.inF,fun b hb=>Nat.lt_of_lt_of_le (hmem.low b hb) hx.below.size,hmem.lows.gb,hm'.lows.gk⟩
 ·rcases back_some hkr he with ⟨hk, he⟩ | ⟨hk, he⟩
  ·grind
  ·obtain ⟨L, hL, hE⟩ := hm'.ents lv sl e he
   refine⟨L,hL,?_⟩
   have hoe:=okM_get hok.2 he
   cases e with
   |fro v els=>exact hE
   |row v els=>exact⟨hE.1,hE.2.1,fun hc=>⟨blk' (hE.2.2.1 hc).1,(hE.2.2.1 hc).2⟩,hE.2.2.2⟩
   | box v cells => exact ⟨hE.1, blk' hE.2.1, hE.2.2.1, fun j x hj => by
     obtain⟨u,g1,g2⟩:=hE.2.2.2 j x hj
     exact⟨u,g1,okC_old (List.all_eq_true.1 hoe x (List.mem_of_getElem? hj)) g2⟩⟩
   |mp v ks=>exact⟨hE.1,(old' _ hE.2.1).1,hE.2.2⟩
 ·obtain ⟨L, hL, hT⟩ := hm'.tips v hv
  exact⟨L,hL,fun hc=>⟨blk' (hT hc).1,(hT hc).2⟩⟩
 ·have cls : ∀ {k : Nat × Nat × Nat} {v : Nat}, Holds (back s.mem (applyUpd (cm.take s.mem.length) u) (kp ++ kr)) ts k v → (∃ lv sl e, (lv, sl) ∈ kp ∧ k = keyE lv sl ∧ memGet s.mem lv sl = some e ∧ e.ver = v ∧ e.fz = false) ∨ Holds (applyUpd (cm.take s.mem.length) u) ts k v := by
   rintro k v (⟨lv,sl,e,hk,he,hv⟩|h)
   ·rcases back_some hkr he with ⟨hk', he⟩ | ⟨hk', he⟩
    ·exact .inl ⟨lv,sl,e,hk',hk,he,hv⟩
    ·exact .inr (.inl ⟨lv,sl,e,hk,he,hv⟩)
   ·exact .inr (.inr h)
  have hidO:∀ {lv sl:Nat} {e:Ent} {M:Loc},(lv,sl)∈kp→memGet s.mem lv sl=some e→e.fz=false→Y.ρ e.ver=some M→0<M.cap→X.ρ e.ver=some M∧O M.b:=by
   intro lv sl e M hk he hz hM hc
   obtain⟨L,g1,g2,_⟩:=hidE hk he
   rw[hM] at g2;injection g2 with g2;subst g2
   exact⟨g1,.inr ⟨lv,sl,e,M,hk,he,hz,g1,hc,rfl⟩⟩
  rcases cls h1 with⟨lv,sl,e,q1,q2,q3,rfl,q5⟩|h1
  ·obtain ⟨x1, x2⟩ := hidO q1 q3 q5 h3 h5
   rcases cls h2 with⟨lv',sl',e',p1,p2,p3,rfl,p5⟩|h2
   ·obtain ⟨y1, _⟩ := hidO p1 p3 p5 h4 h6
    exact hmem.apart k k' _ _ L L' (.inl ⟨lv,sl,e,q2,q3,rfl,q5⟩) (.inl ⟨lv',sl',e',p2,p3,rfl,p5⟩) hne x1 y1 h5 h6
   grind
  ·rcases cls h2 with ⟨lv', sl', e', p1, p2, p3, rfl, p5⟩ | h2
   ·obtain ⟨_, y2⟩ := hidO p1 p3 p5 h4 h6
    intro hb
    exact rest h1 h3 h5 (hb ▸ y2)
   ·exact hm'.apart k k' v v' L L' h1 h2 hne h3 h4 h5 h6
end
end Go.Eng
set_option linter.unusedSectionVars false
namespace Go.Eng
open Go Go.RowKit
section
variable {P:Program} {X:Cx} {nt:NT} {s:St} {a:Act} {o:Oper} {dst:Option Nat} {nvi:Nat}
theorem elemP_run {t:TypeId} {sz by_:Nat} (h:elemP P t=some (sz,by_)):∃ e i z,P.underlying t=some (.slice e)∧P.info? e=some i∧i.zero=some z∧z.cells.size=i.size∧0<i.size∧i.size=sz∧i.bytes=by_:=by
 unfold elemP at h
 split at h
 ·split at h
  ·rename_i i z hi hz
   split at h
   ·obtain⟨i',zv,hi',hiz,rfl⟩:=zeroP_run hz<;>grind
   grind
  grind
 grind
theorem callFn_run {f:Nat} {args:Array Operand} {ts:Array TypeId} (ho:o.op=.call { callee:=.value (.func f),args,argTypes:=ts }) (hf:∃ fn,P.funcs[f]?=some fn∧fn.body.isSome=true∧(fn.name == "runtime.NumGoroutine")=false) :
  (execOp a.eval o).run P X.w=.ok (.enter f (args.map a.eval)) X.w:=by
 obtain⟨fn,hf,hb,hn⟩:=hf
 have:=callFunc_enter (P:=P) (args:=args.map a.eval) (w:=X.w) hf hb hn
 have he:a.eval (.func f)=.func (.func f) #[] #[]:=rfl
 simp[execOp,ho,resolve,he,Deferred.ofValue,invoke]<;>omega
theorem callV_run {f:Nat} {t:Nat} {args:Array Operand} {ts:Array TypeId} {cap:Array Value} (ho:o.op=.call { callee:=.value (.tmp t),args,argTypes:=ts }) (hv:a.eval (.tmp t)=.func (.func f) #[] cap) (hf:∃ fn,P.funcs[f]?=some fn∧fn.body.isSome=true∧(fn.name == "runtime.NumGoroutine")=false) :
  (execOp a.eval o).run P X.w=.ok (.enter f (args.map a.eval++cap)) X.w:=by
 obtain⟨fn,hf,hb,hn⟩:=hf
 have:=callFunc_enter (P:=P) (args:=args.map a.eval++cap) (w:=X.w) hf hb hn
 simp[execOp,ho,resolve,hv,Deferred.ofValue,invoke]<;>omega
theorem append_after (hs:Sim X nt s a) (hfr:X.ρ nvi=none) {x y:Operand} {x' y':Opd} {t u:TypeId} {sz by_:Nat} {row:Bool} {lv sl:Nat} {E:Eff} (ho:o.op=.call { callee:=.builtin .append,args:=#[x,y],argTypes:=#[t,u] }) (hu:notInt P u) (he:elemP P t=some (sz,by_))
  (hx:opd x=some x') (hy:opd y=some y') (hr:appendA s row lv sl nvi sz by_ (x'.ev s.slots) (y'.ev s.slots)=some E):After P X s a o dst nvi (.eff E):=by
 obtain⟨e,i,z,ht,hi,hz,hzs,h0,rfl,rfl⟩:=elemP_run he
 obtain⟨Y,v,h1,h2,h3,h4,h5⟩:=append_core (P:=P) (ty:=o.type) (n:=s.nv) hs.mem hfr ht hu hi hz hzs h0 (opd_ok hs hx) (opd_ok hs hy) hr
 exact .value (append_call (w:=Y.w) ho h1) h2 h3 h4 h5
theorem cut_after (hs:Sim X nt s a) (hfr:X.ρ nvi=none) {t e:TypeId} {sz l h k:Nat} {x:Operand} {x':Opd} {lo hi mx:Option Operand} {lo' hi' mx':Option Opd} {E:Eff} (ho:o.op=.slice t x lo hi mx) (ht:P.underlying t=some (.slice e)) (hsz:sizeP P e=some sz)
  (hx:opd x=some x') (hlo:opdO lo=some lo') (hhi:opdO hi=some hi') (hmx:opdO mx=some mx') (bl:boundA lo' s.slots 0=some l) (bh:boundA hi' s.slots 0=some h) (bk:boundA mx' s.slots 0=some k)
  (c4:mx'.isNone=true) (hr:cutA s nvi sz (x'.ev s.slots) l (hi'.map fun _=>h)=some E):After P X s a o dst nvi (.eff E):=by
 have hv:=opd_ok hs hx
 have eh:∀ n,(hi'.map fun _=>h).getD n=if hi'.isSome then h else n:=fun n=>by cases hi'<;>rfl
 have em:mx'.isSome=false:=by simp_all
 unfold cutA at hr
 split at hr
 ·rename_i lv sl ver off len sz' he
  split at hr
  ·rename_i els hrow
   split at hr
   ·rename_i hc
    obtain⟨rfl,c1,c2,c3⟩:=hc
    cases hr
    rw[he] at hv
    obtain⟨L,ad,cap,hL,hLs,hxe,hle,h4⟩:=hv
    obtain⟨Y,hw,g1,g2,g3,g4⟩:=cut_ref (n:=s.nv) hs.mem hfr (h':=(hi'.map fun _=>h).getD len) ⟨L,ad,cap,hL,hLs,rfl,hle,h4⟩ hrow c1 c2 c3
    have run:=slice_run hs (P:=P) ho ht hsz hxe hlo hhi hmx bl bh bk (by rw[←eh];exact c1) (by rw[←eh,em];simp only[Bool.false_eq_true,if_false];omega) (by rw[em];simp) (by rw[em];exact fun h=>by cases h)
    rw[←eh,em] at run
    refine .value (Y:=Y) (by rw[hw];exact run) g1 g2 ?_ g4
    exact g3
   grind
  grind
 grind
theorem appendZ_after (hs:Sim X nt s a) (hfr:X.ρ nvi=none) {x y:Operand} {x' y':Opd} {t u e':TypeId} {sz by_ k:Nat} {kd:IntKind} {zl:List Value} {z:List D} {row:Bool} {lv sl:Nat} {E:Eff} (ho:o.op=.call { callee:=.builtin .append,args:=#[x,y],argTypes:=#[t,u] }) (hu:P.underlying u=some (.int kd)) (ht':P.underlying t=some (.slice e')) (he:elemP P t=some (sz,by_))
  (hzp:zeroP P e'=some zl) (hzd:constDs zl=some z) (hzl:z.length=sz) (hx:opd x=some x') (hy:opd y=some y') (hk:natOfA (y'.ev s.slots)=some k) (h63:k≤maxLenA) (hby:k*by_≤roomA) (hr:appendA s row lv sl nvi sz by_ (x'.ev s.slots) (.d (.sl (List.replicate k z)))=some E):After P X s a o dst nvi (.eff E):=by
 obtain⟨e,i,zv,ht,hi,hz,hzs,h0,rfl,rfl⟩:=elemP_run he
 simp_all
 obtain⟨i',zv',hi',hiz,rfl⟩:=zeroP_run hzp
 rw[hi] at hi';cases hi'
 rw[hz] at hiz;cases hiz
 obtain⟨kk,hke⟩:=natOfA_ok hk (opd_ok hs hy)
 have hZ:All2 (DR X.w X.F) z zv.cells.toList:=constDs_ok hzd
 have hrep:=replicate_flat hZ hzl h0 k (k*i.size) (Nat.le_refl _)
 have hcl:(madeCells zv.cells (k*i.size)).toList.take (k*i.size)=(Builtin.zeroCells zv.cells k).toList:=by
  rw[List.take_of_length_le (by simp[madeCells])]
  simp[madeCells,Builtin.zeroCells,hzs]
 rw[hcl] at hrep
 obtain⟨Y,v,h1,h2,h3,h4,h5⟩:=append_coreS (P:=P) (u:=u) (ty:=o.type) (yv:=a.eval y) (n:=s.nv) hs.mem hfr ht hi hz hzs h0 (opd_ok hs hx) (fun news hn hnl=>by
  injection hn with hn;subst hn
  refine⟨_,hrep,?_⟩
  rw[List.length_replicate]
  exact .zero kd kk zv hu hz hzs hke h63 hby rfl) hr
 exact .value (append_call (w:=Y.w) ho h1) h2 h3 h4 h5
theorem clone_after (hs:Sim X nt s a) (hfr:X.ρ nvi=none) {f T:Nat} {x:Operand} {x':Opd} {ts:Array TypeId} {sz by_:Nat} {row:Bool} {lv sl:Nat} {E:Eff} {els:List (List D)} (hc:IsClone P f T) (ho:o.op=.call { callee:=.value (.func f),args:=#[x],argTypes:=ts }) (he:elemP P T=some (sz,by_))
  (hx:opd x=some x') (hel:elsOf s.mem (x'.ev s.slots)=some els) (hr:appendA s row lv sl nvi sz by_ (.own [] .full) (x'.ev s.slots)=some E):After P X s a o dst nvi (.eff E):=by
 obtain⟨e,i,z,ht,hi,hz,hzs,h0,rfl,rfl⟩:=elemP_run he
 have hv:=opd_ok hs hx
 obtain⟨ad,cap,_,_,_,hsl,_⟩:=elsOf_ok hs.mem hel hv
 have hcl:=clone_calls (P:=P) (n:=s.nv) hc hs.mem hfr ht hi hz hzs h0 hv ⟨ad,_,cap,hsl⟩ hr
 obtain⟨fn,hf,hb,_,_,hn⟩:=hc.fn
 intro K Q hK
 unfold Oper.wp
 have hrun:(execOp a.eval o).run P X.w=.ok (.enter f #[a.eval x]) X.w:=by
  have:=callFn_run (P:=P) (X:=X) (a:=a) ho ⟨fn,hf,by rw[hb];rfl,hn⟩<;>grind
 rw[hrun]
 refine Calls.mono hcl ?_
 rintro en w' ⟨Y,v,rfl,rfl,h2,h3,h4,h5⟩
 exact hK Y v h2 h3 h4 h5
theorem appendB_after (hs:Sim X nt s a) (hfr:X.ρ nvi=none) {x y:Operand} {x' y':Opd} {t u:TypeId} {sz by_:Nat} {lv sl:Nat} {E:Eff} (ho:o.op=.call { callee:=.builtin .append,args:=#[x,y],argTypes:=#[t,u] }) (hu:notInt P u) (he:elemP P t=some (sz,by_))
  (hx:opd x=some x') (hy:opd y=some y') (hr:appendB s lv sl nvi sz by_ (x'.ev s.slots) (y'.ev s.slots)=some E):After P X s a o dst nvi (.eff E):=by
 obtain⟨e,i,z,ht,hi,hz,hzs,h0,rfl,rfl⟩:=elemP_run he
 obtain⟨Y,v,h1,h2,h3,h4,h5⟩:=appendB_core (P:=P) (ty:=o.type) (n:=s.nv) hs.mem hfr ht hu hi hz hzs h0 (opd_ok hs hx) (opd_ok hs hy) hr
 exact .value (append_call (w:=Y.w) ho h1) h2 h3 h4 h5
theorem cloneB_after (hs:Sim X nt s a) (hfr:X.ρ nvi=none) {f T:Nat} {x:Operand} {x':Opd} {ts:Array TypeId} {sz by_:Nat} {lv sl:Nat} {E:Eff} (hc:IsClone P f T) (ho:o.op=.call { callee:=.value (.func f),args:=#[x],argTypes:=ts }) (he:elemP P T=some (sz,by_))
  (hx:opd x=some x') (hr:appendB s lv sl nvi sz by_ (.own [] .full) (x'.ev s.slots)=some E):After P X s a o dst nvi (.eff E):=by
 obtain⟨e,i,z,ht,hi,hz,hzs,h0,rfl,rfl⟩:=elemP_run he
 have hv:=opd_ok hs hx
 obtain⟨new,hnew,hlen⟩:=appendB_len hr
 have hcl:=cloneB_calls (P:=P) (n:=s.nv) hc hs.mem hfr ht hi hz hzs h0 hv (cellsL_some hs.mem hnew hv hlen) hr
 obtain⟨fn,hf,hb,_,_,hn⟩:=hc.fn
 intro K Q hK
 unfold Oper.wp
 have hrun:(execOp a.eval o).run P X.w=.ok (.enter f #[a.eval x]) X.w:=by
  have:=callFn_run (P:=P) (X:=X) (a:=a) ho ⟨fn,hf,by rw[hb];rfl,hn⟩
  simpa using this
 rw[hrun,Oper.upon_enter]
 refine Calls.mono hcl ?_
 rintro en w' ⟨Y,v,rfl,rfl,h2,h3,h4,h5⟩
 exact hK Y v h2 h3 h4 h5
theorem VC0.VR {X:Cx} {x:AV} {v:Value} (h:VC0 X x v):Go.Eng.VR X x v:=by
 cases x<;>first|exact h|exact h.elim
theorem callP_ok {call : Go.Eng.Call} {sh : Nat → Bool} {lib : Nat → Option TypeId} (hcall : CallOK P call) (hlib : ∀ f T, lib f = some T → IsLib P f T) (hs : Sim X nt s a) (hfr : X.ρ nvi = none) (hnv : nvi < s.nv) (hdom : ∀ v, s.nv ≤ v → X.ρ v = none) {c : Go.Call} {aop : AOp} {row d : Nat} {r : Res}
  (ho:o.op=.call c) (hp:callP P lib c=some aop) (hr:aop.run call sh s row d nvi=some r):After P X s a o dst nvi r:=by
 obtain⟨callee,args,ts⟩:=c
 obtain⟨args⟩:=args
 obtain⟨ts⟩:=ts
 unfold callP at hp
 cases callee with
 | value f =>
  cases f with
  | func f =>
   simp at hp
   split at hp
   ·rename_i T x hT
    split at hp
    ·rename_i hq
     have hq:=Nat.eq_of_beq_eq_true hq
     obtain⟨x',hx',rfl⟩:=opt_map hp
     obtain⟨E,hE,rfl⟩:=opt_map hr
     have hc:=(hlib f T hT).sort hq
     have hrun:(execOp a.eval o).run P X.w=.ok (.enter f #[a.eval x]) X.w:=by
      have:=callFn_run (P:=P) (X:=X) (a:=a) ho hc.fn
      simpa using this
     exact sort_after (_ts:=ts.toArray) hs hc hrun hx' hE
    ·rename_i hq
     split at hp
     ·rename_i hq2
      have hq2:=Nat.eq_of_beq_eq_true hq2
      obtain⟨x',hx',rfl⟩:=opt_map hp
      obtain⟨E,hE,rfl⟩:=opt_map hr
      have hc:=(hlib f T hT).compact hq2
      have hrun:(execOp a.eval o).run P X.w=.ok (.enter f #[a.eval x]) X.w:=by
       have:=callFn_run (P:=P) (X:=X) (a:=a) ho hc.fn
       simpa using this
      exact compact_after (_ts:=ts.toArray) hs hfr hc hrun hx' hE
     ·rename_i hq2
      split at hp
      ·rename_i sz by_ x' he hx'
       cases hp
       simp[AOp.run] at hr
       split at hr
       ·obtain ⟨E, hE, rfl⟩ := opt_map hr
        exact cloneB_after hs hfr ((hlib f T hT).clone (by rintro rfl;cases hq) (by rintro rfl;cases hq2)) ho he hx' hE
       split at hr
       ·rename_i els hel
        obtain⟨E,hE,rfl⟩:=opt_map hr
        exact clone_after hs hfr ((hlib f T hT).clone (by rintro rfl;cases hq) (by rintro rfl;cases hq2)) ho he hx' hel hE
       ·cases hr
      ·cases hp
   ·cases hp
   ·split at hp
    ·obtain ⟨aSz, has, rfl⟩ := opt_map hp
     simp[AOp.run] at hr
     have hargs:=opds_ok hs has
     split at hr
     ·exact doHide_ok hcall hs hfr hnv hdom (vargs:=(Array.mk _).map a.eval) (by rw[Array.toList_map];exact hargs) hr fun hf=>callFn_run ho hf
     split at hr
     ·exact doCall_ok hcall hs hfr hnv hdom (vargs:=(Array.mk _).map a.eval) (by rw[Array.toList_map];exact hargs) hr fun hf=>callFn_run ho hf
     ·exact doFlat_ok hcall hs (vargs:=(Array.mk _).map a.eval) (by rw[Array.toList_map];exact hargs) hr fun hf=>callFn_run ho hf
    ·obtain ⟨aSz, has, rfl⟩ := opt_map hp
     simp[AOp.run] at hr
     have hargs:=opds_ok hs has
     split at hr
     ·exact doHide_ok hcall hs hfr hnv hdom (vargs:=(Array.mk _).map a.eval) (by rw[Array.toList_map];exact hargs) hr fun hf=>callFn_run ho hf
     split at hr
     ·exact doFlat_ok hcall hs (vargs:=(Array.mk _).map a.eval) (by rw[Array.toList_map];exact hargs) hr fun hf=>callFn_run ho hf
     ·split at hr
      ·exact doKeep_ok hcall hs hdom (vargs:=(Array.mk _).map a.eval) (by rw[Array.toList_map];exact hargs) hr fun hf=>callFn_run ho hf
      split at hr
      ·exact doGive_ok hcall hs hfr (vargs:=(Array.mk _).map a.eval) (by rw[Array.toList_map];exact hargs) hr fun hf=>callFn_run ho hf
      split at hr
      ·exact doLend_ok hcall hs hfr (vargs:=(Array.mk _).map a.eval) (by rw[Array.toList_map];exact hargs) hr fun hf=>callFn_run ho hf
      ·exact doCall_ok hcall hs hfr hnv hdom (vargs:=(Array.mk _).map a.eval) (by rw[Array.toList_map];exact hargs) hr fun hf=>callFn_run ho hf
  | tmp t =>
   obtain⟨aSz,has,rfl⟩:=opt_map hp
   simp[AOp.run] at hr
   split at hr
   ·rename_i f cap hq
    have hargs:=opds_ok hs has
    have hv:=opd_ok hs (x:=.tmp t) (y:=.t t) rfl
    rw[hq] at hv
    obtain⟨vs,hv,hcap⟩:=hv
    refine doCall_ok hcall hs hfr hnv hdom (vargs:=(Array.mk args).map a.eval++vs) (by
     rw[Array.toList_append,Array.toList_map]
     exact hargs.append (hcap.mono fun _ _=>VC0.VR)) hr fun hf=>callV_run ho hv hf
   ·cases hr
  |const v=>cases hp
  |global g=>cases hp
 |invoke r m=>cases hp
 | builtin b =>
  simp at hp
  split at hp
  ·
   split at hp
   ·rename_i e hu
    obtain⟨x',hx',rfl⟩:=opt_map hp
    simp[AOp.run] at hr
    split at hr
    ·rename_i els hq
     rw[pure_eq hr]
     exact .quiet hs (len_ok hs ho hu hx' (.inl ⟨els,.inl hq,rfl⟩))
    ·rename_i els ow hq
     rw[pure_eq hr]
     exact .quiet hs (len_ok hs ho hu hx' (.inl ⟨els,.inr ⟨_,hq⟩,rfl⟩))
    ·rename_i lv sl ver off n sz hq
     rw[pure_eq hr]
     exact .quiet hs (len_ok hs ho hu hx' (.inr (.inl ⟨_,_,_,_,_,hq⟩)))
    ·rename_i lv sl ver off n sz hq
     rw[pure_eq hr]
     exact .quiet hs (len_ok hs ho hu hx' (.inr (.inr ⟨_,_,_,_,_,hq⟩)))
    ·cases hr
   ·rename_i hu
    obtain⟨x',hx',rfl⟩:=opt_map hp
    simp[AOp.run] at hr
    split at hr
    ·rename_i b hq
     rw[pure_eq hr]
     exact .quiet hs (lenS_ok hs ho hu hx' hq)
    ·cases hr
   ·rename_i n e hu
    cases hp
    rw[pure_eq hr]
    exact .quiet hs (lenC_ok ho (.inl ⟨e,hu⟩))
   ·rename_i e hu
    split at hp
    ·rename_i n e' hu'
     cases hp
     rw[pure_eq hr]
     exact .quiet hs (lenC_ok ho (.inr ⟨e,e',hu,hu'⟩))
    ·cases hp
   ·cases hp
  ·
   split at hp
   ·rename_i e kd ht hu
    split at hp
    ·rename_i sz by_ z x' y' he hz hx' hy'
     split at hp
     ·rename_i hzl
      cases hp
      obtain⟨zl,hzp,hzd⟩:=opt_bind hz
      obtain⟨k,hk,hr⟩:=opt_bind hr
      split at hr
      ·rename_i hc
       obtain⟨E,hE,rfl⟩:=opt_map hr
       exact appendZ_after hs hfr ho hu ht he hzp hzd hzl hx' hy' hk hc.2.1 hc.2.2 hE
      ·cases hr
     ·cases hp
    ·cases hp
   ·cases hp
   ·rename_i hu
    split at hp
    ·rename_i sz by_ x' y' he hx' hy'
     injection hp with hp;subst hp
     simp only[AOp.run] at hr
     split at hr
     ·obtain ⟨E, hE, rfl⟩ := opt_map hr
      exact appendB_after hs hfr ho (.inl ⟨_,hu⟩) he hx' hy' hE
     ·obtain ⟨E, hE, rfl⟩ := opt_map hr
      exact append_after hs hfr ho (.inl ⟨_,hu⟩) he hx' hy' hE
    ·cases hp
   ·rename_i hu
    split at hp
    ·rename_i sz by_ x' y' he hx' hy'
     injection hp with hp;subst hp
     simp only[AOp.run] at hr
     split at hr
     ·obtain ⟨E, hE, rfl⟩ := opt_map hr
      exact appendB_after hs hfr ho (.inr hu) he hx' hy' hE
     ·obtain ⟨E, hE, rfl⟩ := opt_map hr
      exact append_after hs hfr ho (.inr hu) he hx' hy' hE
    ·cases hp
   ·cases hp
  ·
   split at hp
   ·rename_i e hu
    split at hp
    ·rename_i i x' y' hi hx' hy'
     split at hp
     ·rename_i h0
      injection hp with hp;subst hp
      simp only[AOp.run] at hr
      split at hr
      ·rename_i lv sl ver off n sz' news hq hn
       split at hr
       ·rename_i cs hb
        split at hr
        ·rename_i hc
         obtain⟨rfl,hc2,hc3⟩:=hc
         injection hr with hr;subst hr
         exact copyBox_ok hs ho hu hi h0 hx' hy' hq hn hb hc2 (all_len hc3)
        ·cases hr
       ·cases hr
      ·rename_i lv sl ver off ln sz' news hq hn
       split at hr
       ·rename_i els hb
        split at hr
        ·rename_i hc
         obtain⟨rfl,hc2,hc3⟩:=hc
         injection hr with hr;subst hr
         exact copyRow_ok hs ho hu hi h0 hx' hy' hq hn hb hc2 (all_len hc3)
        ·cases hr
       ·cases hr
      ·cases hr
     ·cases hp
    ·cases hp
   ·cases hp
  ·
   split at hp
   ·rename_i e hu
    split at hp
    ·rename_i sz z x' hsz hz hx'
     split at hp
     ·rename_i hc0
      cases hp
      obtain⟨zl,hzl,hzd⟩:=opt_bind hz
      simp[AOp.run] at hr
      split at hr
      ·rename_i lv sl ver off ln sz' hq
       split at hr
       ·rename_i els hb
        split at hr
        ·rename_i hc
         obtain⟨rfl,hc2,hc3⟩:=hc
         cases hr
         exact clear_ok hs ho hu hzl hzd hc3 hc0.2 hx' hq hb hc2
        ·cases hr
       ·cases hr
      ·cases hr
     ·cases hp
    ·cases hp
   ·cases hp
  ·
   split at hp
   ·rename_i e hu
    obtain⟨x',hx',rfl⟩:=opt_map hp
    simp[AOp.run] at hr
    split at hr
    ·rename_i els hq
     rw[pure_eq hr]
     exact .quiet hs (capF_ok hs ho hu hx' hq)
    ·cases hr
   ·cases hp
  ·
   split at hp
   ·rename_i x' y' hx' hy'
    cases hp
    simp[AOp.run] at hr
    split at hr
    ·rename_i k p k' q hq1 hq2
     split at hr
     ·subst_vars
      rw[pure_eq hr]
      exact .quiet hs (min_ok hs ho hx' hy' hq1 hq2)
     ·cases hr
    ·cases hr
   ·cases hp
  ·
   split at hp
   ·rename_i x' y' hx' hy'
    cases hp
    simp[AOp.run] at hr
    split at hr
    ·rename_i k p k' q hq1 hq2
     split at hr
     ·subst_vars
      rw[pure_eq hr]
      exact .quiet hs (max_ok hs ho hx' hy' hq1 hq2)
     ·cases hr
    ·cases hr
   ·cases hp
  ·cases hp
end
end Go.Eng
set_option linter.unusedSectionVars false
namespace Go.Eng
open Go Go.RowKit
section
variable {P:Program} {X:Cx} {nt:NT} {s:St} {a:Act} {o:Oper} {dst:Option Nat} {nvi:Nat}
theorem built_struct {t:TypeId} {fs:Array Field} {zl:List Value} {pl:List (Nat×Nat)} {it:TypeInfo} {z:Value} (hi:P.info? t=some it) (hz:it.zero=some z) (_h:zl=z.cells.toList) (ht:P.underlying t=some (.struct fs)) (hp:placesP P fs=some pl) (parts:List (Nat×Value)) :
  P.built t parts=Instr.fill (pl.toArray[·]?) z.cells parts:=by
 unfold placesP at hp
 simp[Program.built,hi,ht,hz,hp]
theorem opP_ok {call : Go.Eng.Call} {sh : Nat → Bool} {lib : Nat → Option TypeId} (hcall : CallOK P call) (hlib : ∀ f T, lib f = some T → IsLib P f T) (hs : Sim X nt s a) (hfr : X.ρ nvi = none) (hnv : nvi < s.nv) (hdom : ∀ v, s.nv ≤ v → X.ρ v = none) {aop : AOp} {row d : Nat} {r : Res}
  (hp:opP P lib o.op=some aop) (hr:aop.run call sh s row d nvi=some r):After P X s a o dst nvi r:=by
 cases ho:o.op with
 |move x=>
  rw[ho] at hp
  obtain⟨x',hx,rfl⟩:=opt_map hp
  exact movs_after hs hfr (by simp[execOp,ho]) hx hr
 |assign x=>
  rw[ho] at hp
  obtain⟨x',hx,rfl⟩:=opt_map hp
  exact movs_after hs hfr (by simp[execOp,ho]) hx hr
 | pick c x y =>
  rw[ho] at hp
  simp[opP] at hp
  split at hp
  ·rename_i c' x' y' hc hx hy
   cases hp
   obtain⟨b,hb,hr⟩:=opt_bind hr
   rw[pure_eq hr]
   exact .quiet hs (pick_ok hs ho hc hx hy hb)
  ·cases hp
 |alloc t=>
  rw[ho] at hp
  obtain⟨z,hz,hp⟩:=opt_bind hp
  obtain⟨cs,hcs,rfl⟩:=opt_map hp
  cases hr
  exact alloc_ok hs hfr ho hz hcs
 | box t x =>
  rw[ho] at hp
  obtain⟨x',hx,rfl⟩:=opt_map hp
  simp only[AOp.run] at hr
  split at hr
  ·obtain ⟨cs, hcs, rfl⟩ := opt_map hr
   exact box_ok hs hfr ho hx hcs
  ·split at hr
   ·obtain ⟨cs, hcs, hr⟩ := opt_bind hr
    obtain⟨ds,hds,hr⟩:=opt_bind hr
    rw[pure_eq hr]
    exact boxD_ok hs hfr ho hx hcs hds
   ·obtain ⟨cs, hcs, rfl⟩ := opt_map hr
    exact box_ok hs hfr ho hx hcs
 | build t ps =>
  rw[ho] at hp
  simp only[opP] at hp
  split at hp
  ·rename_i z fs hz ht
   split at hp
   ·rename_i z' pl hzc hpl
    obtain⟨l,hl,rfl⟩:=opt_map hp
    obtain⟨cs,hcs,hr⟩:=opt_bind hr
    rw[pure_eq hr]
    obtain⟨it,zv,hi,hiz,rfl⟩:=zeroP_run hz
    exact .quiet hs (build_ok hs _ ho hzc (built_struct hi hiz rfl ht hpl) hl hcs hi)
   ·cases hp
  ·rename_i z n e hz ht
   split at hp
   ·rename_i z' sz hzc hsz
    obtain⟨l,hl,rfl⟩:=opt_map hp
    obtain⟨cs,hcs,hr⟩:=opt_bind hr
    rw[pure_eq hr]
    obtain⟨it,zv,hi,hiz,rfl⟩:=zeroP_run hz
    obtain⟨ie,hie,hsz'⟩:=sizeP_run hsz
    refine .quiet hs (build_ok hs (fun i=>some (i*sz,sz)) ho hzc (fun parts=>?_) hl hcs hi)
    simp[Program.built,hi,ht,hiz,hie,hsz']
   ·cases hp
  ·cases hp
 | buildSlice t n ps =>
  rw[ho] at hp
  simp[opP] at hp
  split at hp
  ·rename_i e ht
   split at hp
   ·rename_i sz z l hsz hz hl
    split at hp
    ·rename_i hc
     cases hp
     obtain⟨zl,hzl,hzd⟩:=opt_bind hz
     simp only[AOp.run] at hr
     split at hr
     ·split at hr
      ·cases hr
      ·rename_i hn
       obtain⟨cs,hf,rfl⟩:=opt_map hr
       exact buildBox_ok (P:=P) (dst:=dst) (d:=d) hs hfr ho ht hsz hzl hzd hl hc.1 hc.2.1 hc.2.2 (beq_false.1 hn) hf
     split at hr
     ·cases hr
     ·rename_i els ks hf
      have:=fun rd d lq=>buildSlice_ok (lq:=lq) (P:=P) (dst:=dst) (rd:=rd) (d:=d) hs hfr ho ht hsz hzl hzd hl hc.1 hc.2.1 hc.2.2 hf
      split at hr
      ·injection hr with hr; subst hr
       exact (this _ d 0).1
      ·split at hr
       ·cases hr
       ·rename_i hnk
        injection hr with hr;subst hr
        exact (this _ d _).2 hnk
    ·cases hp
   ·cases hp
  ·cases hp
 |insert t m k v=>rw[ho] at hp;cases hp
 | load t x =>
  rw[ho] at hp
  simp[opP] at hp
  split at hp
  ·rename_i sz agg x' hsz hag hx
   split at hp
   ·rename_i h1
    cases hp
    obtain⟨cs,hcs,hr⟩:=opt_bind hr
    obtain⟨v,hv,rfl⟩:=opt_map hr
    exact .quiet hs (load_ok hs ho hsz hag h1 hx hcs hv)
   ·cases hp
  ·cases hp
 | store t x v =>
  rw[ho] at hp
  simp[opP] at hp
  split at hp
  ·rename_i sz x' v' hsz hx hv
   cases hp
   obtain⟨e,he,rfl⟩:=opt_map hr
   exact store_ok hs ho hsz hx hv he
  ·cases hp
 |ready g=>rw[ho] at hp;cases hp
 |waits g=>rw[ho] at hp;cases hp
 | nilCheck x =>
  rw[ho] at hp
  obtain⟨x',hx,rfl⟩:=opt_map hp
  simp[AOp.run] at hr
  split at hr
  ·rename_i lv sl ver i off hq
   rw[pure_eq hr]
   exact .quiet hs (nilCheck_ok hs ho hx hq (.inl ⟨_,_,_,_,_,rfl⟩))
  ·rename_i e off hq
   rw[pure_eq hr]
   exact .quiet hs (nilCheck_ok hs ho hx hq (.inr (.inl ⟨_,_,rfl⟩)))
  ·rename_i f cs hq
   rw[pure_eq hr]
   exact .quiet hs (nilCheck_ok hs ho hx hq (.inr (.inr ⟨_,_,rfl⟩)))
  ·cases hr
 | binOp op t x y u =>
  rw[ho] at hp
  simp[opP] at hp
  split at hp
  ·rename_i x' y' hx hy
   have plain:∀ {aop:AOp},aop=.bin op x' y'→aop.run call sh s row d nvi=some r→After P X s a o dst nvi r:=by
    rintro aop rfl hr
    obtain⟨v,hv,hr⟩:=opt_bind hr
    rw[pure_eq hr]
    exact .quiet hs (binV_ok hs ho hx hy hv)
   have cmp : ∀ (neg : Bool), op = (if neg then .neq else .eql) → cmpOp P op neg t x' y' = some aop → After P X s a o dst nvi r := by
    intro neg hop hc
    have ho':o.op=.binOp (if neg then .neq else .eql) t x y u:=by rw[ho,hop]
    unfold cmpOp at hc
    split at hc
    ·rename_i hu
     cases hc
     simp[AOp.run] at hr
     split at hr
     ·rename_i p q hp hq
      rw[pure_eq hr]
      exact .quiet hs (eqb_ok hs ho' hu hx hy hp hq)
     ·cases hr
    ·simp_all
    ·simp_all
    ·cases hc
     simp[AOp.run] at hr
    ·rename_i ms hu
     split at hc
     ·cases hc
      simp[AOp.run] at hr
      split at hr
      ·rename_i hq
       rw[pure_eq hr]
       exact .quiet hs ((isErr_ok hs ho' hu hx hy).1 hq)
      ·rename_i hq
       rw[pure_eq hr]
       exact .quiet hs ((isErr_ok hs ho' hu hx hy).2 hq)
      ·cases hr
     ·cases hc
    ·rename_i fs hu
     split at hc
     ·cases hc
     ·rename_i hg
      split at hc
      ·rename_i l sz hl hsz
       cases hc
       simp[AOp.run] at hr
       split at hr
       ·rename_i xs ys hxs hys
        split at hr
        ·cases hr
        ·rename_i hlen
         obtain⟨h3,h4⟩:=not_or.1 hlen
         obtain⟨b,hb,hr⟩:=opt_bind hr
         rw[pure_eq hr]
         exact .quiet hs (eqAop_ok hs ho' hu (by simpa using hg) hl hsz hx hy hxs hys (Classical.byContradiction h3) (Classical.byContradiction h4) hb)
       ·cases hr
      ·cases hc
    ·cases hc
   split at hp
   ·exact cmp false rfl hp
   ·exact cmp true rfl hp
   ·simp_all
  ·cases hp
 |unOp op t x=>
  rw[ho] at hp
  obtain⟨x',hx,rfl⟩:=opt_map hp
  obtain⟨v,hv,hr⟩:=opt_bind hr
  rw[pure_eq hr]
  exact .quiet hs (un_ok hs ho hx hv)
 | convert src ds x =>
  rw[ho] at hp
  simp[opP] at hp
  split at hp
  ·rename_i dsc k hsrc hds
   obtain⟨x',hx,rfl⟩:=opt_map hp
   obtain⟨n,hn,hr⟩:=opt_bind hr
   rw[pure_eq hr]
   exact .quiet hs (convV_ok hs ho hds (by rw[hsrc];rfl) hx hn)
  ·rename_i e hsrc hds
   split at hp
   ·rename_i he8
    obtain⟨x',hx,rfl⟩:=opt_map hp
    obtain⟨els,hel,hr⟩:=opt_bind hr
    obtain⟨l,hl,hr⟩:=opt_map hr
    subst hr
    exact .quiet hs (b2s_ok hs ho hsrc he8 hds hx hel hl)
   ·cases hp
  ·rename_i e hsrc hds
   split at hp
   ·rename_i he8
    obtain⟨x',hx,rfl⟩:=opt_map hp
    simp[AOp.run] at hr
    split at hr
    ·rename_i b hb
     rw[pure_eq hr]
     exact s2b_ok hs hfr ho hsrc hds he8 hx hb
    ·cases hr
   ·cases hp
  ·cases hp
 |sliceToArrayPointer t x=>rw[ho] at hp;cases hp
 |makeInterface t x=>
  rw[ho] at hp
  cases hp
  simp[AOp.run] at hr
 | makeFunc fn first cap =>
  rw[ho] at hp
  simp only[opP] at hp
  split at hp
  ·split at hp
   ·rename_i h0
    obtain⟨cap',hcap,rfl⟩:=opt_map hp
    simp at h0
    subst h0
    simp only[AOp.run] at hr
    split at hr
    ·rename_i hall
     rw[pure_eq hr]
     exact .quiet hs (makeFunc_ok hs ho hcap hall)
    ·cases hr
   ·cases hp
  ·cases hp
 | makeMap t x =>
  cases x with
  |some _=>rw[ho] at hp;cases hp
  | none =>
   rw[ho] at hp
   simp[opP] at hp
   split at hp
   ·split at hp
    ·cases hp
     cases hr
     exact mkSet_ok hs hfr ho
    ·cases hp
   ·cases hp
 |makeChan t x=>rw[ho] at hp;cases hp
 | makeSlice t l c =>
  rw[ho] at hp
  simp[opP] at hp
  split at hp
  ·rename_i e ht
   split at hp
   ·rename_i i z l' c' hi hz hl hc
    split at hp
    ·rename_i h0
     cases hp
     obtain⟨zl,hzl,hzd⟩:=opt_bind hz
     simp[AOp.run] at hr
     split at hr
     ·rename_i ln cn hln hcn
      split at hr
      ·rename_i hcond
       cases hr
       exact makeSlice_ok hs hfr ho ht hi hzl hzd hcond.2.2.2 h0 hl hc hln hcn hcond.1 hcond.2.1 hcond.2.2.1
      ·cases hr
     ·cases hr
    ·cases hp
   ·cases hp
  ·cases hp
 | slice t x lo hi mx =>
  rw[ho] at hp
  simp[opP] at hp
  split at hp
  ·rename_i e ht
   split at hp
   ·rename_i sz x' lo' hi' mx' hsz hx hlo hhi hmx
    split at hp
    ·cases hp
    ·rename_i h0
     cases hp
     have c4:mx'.isSome=true→hi'.isSome=true:=by
      intro h;cases hi' with
      |some _=>rfl
      |none=>exact absurd (.inr ⟨h,rfl⟩) h0
     simp[AOp.run] at hr
     split at hr
     ·rename_i l h k bl bh bk
      split at hr
      ·rename_i hq
       rw[Bool.and_eq_true,Bool.and_eq_true] at hq
       obtain⟨E,hE,hr⟩:=opt_map hr
       subst hr
       exact cut_after hs hfr ho ht hsz hx hlo hhi hmx bl bh bk hq.2.1 hE
      ·obtain ⟨v, hv, hr⟩ := opt_bind hr
       rw[pure_eq hr]
       exact .quiet hs (slice_ok hs ho ht hsz hx hlo hhi hmx bl bh bk c4 hv)
     ·cases hr
   ·cases hp
  ·rename_i n e ht
   split at hp
   ·rename_i sz x' hsz hx
    split at hp
    ·cases hp
    ·rename_i h0
     cases hp
     simp[AOp.run] at hr
     split at hr
     ·rename_i lv sl ver i off hq
      split at hr
      ·rename_i hi0
       have hi0:=beq_true.1 hi0
       subst hi0
       rw[pure_eq hr]
       exact .quiet hs (sliceB_ok hs ho ht hsz h0 hx hq)
      ·cases hr
     ·cases hr
   ·rename_i k sz x' hsz hx
    split at hp
    ·rename_i h0
     cases hp
     simp[AOp.run] at hr
     split at hr
     ·rename_i lv sl ver i off hq
      split at hr
      ·rename_i hi0
       rw[Bool.and_eq_true] at hi0
       have hi1:=beq_true.1 hi0.1
       subst hi1
       rw[pure_eq hr]
       exact .quiet hs (sliceL_ok hs ho ht hsz h0 (by simpa[Nat.blt_eq] using hi0.2) hx hq)
      ·cases hr
     ·cases hr
    ·cases hp
   ·cases hp
  ·rename_i ht
   split at hp
   ·rename_i x' lo' hi' hx hlo hhi
    cases hp
    simp[AOp.run] at hr
    split at hr
    ·rename_i b hq
     split at hr
     ·rename_i l h bl bh
      split at hr
      ·rename_i hc
       rw[pure_eq hr]
       exact .quiet hs (sliceS_ok hs ho ht hx hlo hhi hq bl bh hc.1 hc.2)
      ·cases hr
     ·cases hr
    ·cases hr
   ·cases hp
  ·cases hp
 | fieldAddr t x f =>
  rw[ho] at hp
  simp[opP] at hp
  split at hp
  ·rename_i fs ht
   split at hp
   ·rename_i fl hfl
    split at hp
    ·rename_i sz x' hsz hx
     split at hp
     ·cases hp
     ·rename_i h0
      cases hp
      simp[AOp.run] at hr
      split at hr
      ·rename_i lv sl ver i off hq
       rw[pure_eq hr]
       exact .quiet hs (fieldAddr_ok hs ho ht hfl hsz h0 hx (.inl ⟨_,_,_,_,_,hq,rfl⟩))
      ·rename_i e off hq
       rw[pure_eq hr]
       exact .quiet hs (fieldAddr_ok hs ho ht hfl hsz h0 hx (.inr ⟨_,_,hq,rfl⟩))
      ·cases hr
    ·cases hp
   ·cases hp
  ·cases hp
 | field t x f =>
  rw[ho] at hp
  simp[opP] at hp
  split at hp
  ·rename_i fs ht
   split at hp
   ·rename_i fl hfl
    split at hp
    ·rename_i sz agg x' hsz hag hx
     split at hp
     ·rename_i h1
      cases hp
      simp[AOp.run] at hr
      split at hr
      ·rename_i cs hq
       split at hr
       ·rename_i hle
        obtain⟨v,hv,hr⟩:=opt_bind hr
        rw[pure_eq hr]
        exact .quiet hs (field_ok hs ho ht hfl hsz hag h1 hx hq hle hv)
       ·cases hr
      ·cases hr
     ·cases hp
    ·cases hp
   ·cases hp
  ·cases hp
 | indexAddr t x i =>
  rw[ho] at hp
  simp[opP] at hp
  split at hp
  ·rename_i e ht
   split at hp
   ·rename_i sz x' i' hsz hx hi
    split at hp
    ·cases hp
    ·cases hp
     obtain⟨n,hn,hr'⟩:=opt_bind hr
     clear hr;have hr:=hr';split at hr
     ·rename_i els hq
      split at hr
      ·rename_i el hel
       split at hr
       ·rename_i hlen
        rw[pure_eq hr]
        exact .quiet hs (indexAddr_ok hs ho ht hsz hx hi hn (.inl ⟨els,el,.inl hq,hel,hlen,rfl⟩))
       ·cases hr
      ·cases hr
     ·rename_i els ow hq
      split at hr
      ·rename_i el hel
       split at hr
       ·rename_i hlen
        rw[pure_eq hr]
        exact .quiet hs (indexAddr_ok hs ho ht hsz hx hi hn (.inl ⟨els,el,.inr ⟨_,hq⟩,hel,hlen,rfl⟩))
       ·cases hr
      ·cases hr
     ·rename_i lv sl ver off ln sz' hq
      split at hr
      ·rename_i hc
       obtain⟨hc1,rfl⟩:=hc
       rw[pure_eq hr]
       exact .quiet hs (indexAddr_ok hs ho ht hsz hx hi hn (.inr (.inl ⟨_,_,_,_,_,hq,hc1,rfl⟩)))
      ·cases hr
     ·rename_i lv sl ver off ln sz' hq
      split at hr
      ·rename_i hc
       obtain⟨hc1,rfl⟩:=hc
       rw[pure_eq hr]
       exact .quiet hs (indexAddr_ok hs ho ht hsz hx hi hn (.inr (.inr ⟨_,_,_,_,_,hq,hc1,rfl⟩)))
      ·cases hr
     ·cases hr
   ·cases hp
  ·rename_i n e ht
   split at hp
   ·rename_i sz x' i' hsz hx hi
    cases hp
    obtain⟨k,hk,hr⟩:=opt_bind hr
    split at hr
    ·rename_i hkn
     split at hr
     ·rename_i lv sl ver j off hq
      rw[pure_eq hr]
      exact .quiet hs (indexArr_ok hs ho ht hsz hx hi hk hkn (.inl ⟨_,_,_,_,_,hq,rfl⟩))
     ·rename_i e off hq
      rw[pure_eq hr]
      exact .quiet hs (indexArr_ok hs ho ht hsz hx hi hk hkn (.inr ⟨_,_,hq,rfl⟩))
     ·cases hr
    ·cases hr
   ·cases hp
  ·cases hp
 | index t x i =>
  rw[ho] at hp
  simp[opP] at hp
  split at hp
  ·rename_i n e ht
   split at hp
   ·rename_i sz agg x' i' hsz hag hx hi
    split at hp
    ·rename_i h1
     cases hp
     obtain⟨k,hk,hr⟩:=opt_bind hr
     split at hr
     ·rename_i cs hq
      split at hr
      ·rename_i hc
       obtain⟨v,hv,hr⟩:=opt_bind hr
       rw[pure_eq hr]
       exact .quiet hs (indexA_ok hs ho ht hsz hag h1 hx hi hq hk hc.1 hc.2 hv)
      ·cases hr
     ·cases hr
    ·cases hp
   ·cases hp
  ·rename_i ht
   split at hp
   ·rename_i x' i' hx hi
    cases hp
    obtain⟨k,hk,hr⟩:=opt_bind hr
    split at hr
    ·rename_i b hq
     split at hr
     ·rename_i c hc
      rw[pure_eq hr]
      exact .quiet hs (indexS_ok hs ho ht hx hi hq hk hc)
     ·cases hr
    ·cases hr
   ·cases hp
  ·cases hp
 | lookup t x k b =>
  cases b with
  |true=>rw[ho] at hp;cases hp
  | false =>
   rw[ho] at hp
   simp[opP] at hp
   split at hp
   ·rename_i kt et ht
    split at hp
    ·rename_i m' x' hk hz hm hx
     cases hp
     simp[AOp.run] at hr
     split at hr
     ·rename_i lv sl ver b h1 h2
      obtain⟨ks,h3,hr⟩:=opt_map hr
      subst hr
      exact .quiet hs (hasK_ok hs ho ht hk hz hm hx h1 h2 h3)
     ·cases hr
    ·cases hp
   ·cases hp
 | mapUpdate t m k v =>
  rw[ho] at hp
  simp[opP] at hp
  split at hp
  ·rename_i kt et ht
   split at hp
   ·rename_i m' x' hk hm hx
    cases hp
    simp[AOp.run] at hr
    split at hr
    ·rename_i lv sl ver b h1 h2
     obtain⟨ks,h3,hr⟩:=opt_map hr
     subst hr
     exact addK_ok hs ho ht hk hm hx h1 h2 h3
    ·cases hr
   ·cases hp
  ·cases hp
 |mapEntry t m k=>rw[ho] at hp;cases hp
 |entryStore t m k v=>rw[ho] at hp;cases hp
 |range t x=>rw[ho] at hp;cases hp
 |next x b=>rw[ho] at hp;cases hp
 |entry x=>rw[ho] at hp;cases hp
 |typeAssert x t u b=>rw[ho] at hp;cases hp
 | extract x i =>
  rw[ho] at hp
  obtain⟨x',hx,rfl⟩:=opt_map hp
  simp[AOp.run] at hr
  split at hr
  ·rename_i vs hq
   obtain⟨v,hv,hr⟩:=opt_bind hr
   rw[pure_eq hr]
   exact .quiet hs (extract_ok hs ho hx hq hv)
  ·cases hr
 |call c=>
  rw[ho] at hp
  exact callP_ok hcall hlib hs hfr hnv hdom ho hp hr
 |go c=>rw[ho] at hp;cases hp
 |defer c=>rw[ho] at hp;cases hp
 |panic x=>
  rw[ho] at hp
  cases hp
  simp[AOp.run] at hr
 |send c x=>rw[ho] at hp;cases hp
 |recv t c b=>rw[ho] at hp;cases hp
 |select cs b=>rw[ho] at hp;cases hp
end
end Go.Eng
