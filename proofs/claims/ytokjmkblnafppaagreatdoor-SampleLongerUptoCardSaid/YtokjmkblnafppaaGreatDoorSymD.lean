/- The machine over typed data: operations without an effect on the memory. -/
import Derived.Test.YtokjmkblnafppaaGreatDoorSymC
import Derived.Laws.Strings
set_option linter.unusedVariables false
set_option linter.unusedSimpArgs false
namespace Go.Sym
open Go Go.bI
def KR (ρ : bG) (k2 k:Nat×Nat×Nat):Prop:=(k2=k∧k.1=0)∨∃ v u,k2=jF v∧k=jF u∧ρ v=some u
def aU (ρ : bG) (l2 l:List (Nat×Nat×Nat)):Prop:=∀ k∈l,∃ k2∈l2,KR ρ k2 k
structure mj (ρ : bG) (B B':Nat) (s2:S2) (s:St) (E:DK) (e:eX):Prop where
 val:RV ρ B' (eN s2.mem E.cK) E.val e.val
 mem:MR ρ B' (eN s2.mem E.cK) (bB s.mem e.cK)
 aE:TR ρ B' (dL s2.aE E.cx) (dL s.aE e.cx)
 Z4:eg B s2.mem (eN s2.mem E.cK)
 rd:aU ρ E.rd e.rd
 wr:aU ρ E.wr e.wr
def dx {α : Type} (ρ : bG) (B B':Nat) (s2:S2) (s:St) (op:bM) (row dst p:Nat) (K:gi→Option α) (r : α):Prop:=
 ∃ E e,(∀ call sh,op.run call sh s row dst p=some (.bS e))∧mj ρ B B' s2 s E e∧K (.bS E)=some r
section
variable {α : Type} {ρ : bG} {B B':Nat} {s2:S2} {s:St} {op:bM} {row dst p nx:Nat} {K:gi→Option α} {r : α}
theorem MR.mono {m2:List (Tr E2)} {m:List (Tr bH)} (h:MR ρ B m2 m) (hB:B≤B'):MR ρ B' m2 m:=
 ⟨h.len, fun lv sl e2 he => by
  obtain⟨e,h1,h2⟩:=h.ec lv sl e2 he
  exact⟨e,h1,RE.mono hB (fun _ _=>rfl) (fun _ _=>RC.move (eg.refl _ _) hB fun _ _=>rfl) h2⟩⟩
theorem TR.up {t2 t:Tr Unit} (h:TR ρ B t2 t) (hB:B≤B'):TR ρ B' t2 t:=fun v hv=>⟨by have:=(h v hv).1;omega,(h v hv).2⟩
theorem RV.up {m:List (Tr E2)} {v:V2} {a:AV} (h:RV ρ B m v a) (hB:B≤B'):RV ρ B' m v a:=h.move (eg.refl _ _) hB fun _ _=>rfl
theorem RC.up {m:List (Tr E2)} {v:Cell} {a:AV} (h:RC ρ B m v a) (hB:B≤B'):RC ρ B' m v a:=h.move (eg.refl _ _) hB fun _ _=>rfl
theorem aU.nil {l2:List (Nat×Nat×Nat)} : aU ρ l2 []:=fun _ h=>by cases h
theorem aU.append {a b c d:List (Nat×Nat×Nat)} (h:aU ρ a b) (k:aU ρ c d):aU ρ (a++c) (b++d):=by
 intro x hx
 rcases List.mem_append.1 hx with hx|hx
 ·obtain⟨y,h1,h2⟩:=h x hx;exact⟨y,List.mem_append_left _ h1,h2⟩
 ·obtain⟨y,h1,h2⟩:=k x hx;exact⟨y,List.mem_append_right _ h1,h2⟩
theorem aU.iw {a b:List (Nat×Nat×Nat)} (lv sl:Nat) (h:aU ρ a b):aU ρ (cg lv sl :: a) (cg lv sl :: b):=by
 intro x hx
 rcases List.mem_cons.1 hx with rfl|hx
 ·exact⟨_,List.mem_cons_self,.inl ⟨rfl,rfl⟩⟩
 ·obtain⟨y,h1,h2⟩:=h x hx;exact⟨y,List.mem_cons_of_mem _ h1,h2⟩
theorem aU.gS (ks:List (Nat×Nat)):aU ρ (gS ks) (gS ks):=by
 intro x hx
 refine⟨x,hx,.inl ⟨rfl,?_⟩⟩
 unfold bI.gS at hx
 obtain⟨k,_,rfl⟩:=List.mem_map.1 hx
 rfl
theorem rA {m:List (Tr E2)} {c:Cell} {a:AV} (h:RC ρ B m c a):aU ρ (qm c) (cW a):=by
 cases c with
 |nil f=>cases f with
  |true=>cases h;exact aU.nil
  |false=>rcases h with rfl|⟨o,_,rfl⟩<;>exact aU.nil
 |sl t l o=>rcases (gj (m:=[]) h).2.1 with rfl|⟨o',rfl⟩<;>exact aU.nil
 |ref lv sl af t=>obtain⟨_,u,n,_,rfl,_⟩:=h;exact aU.iw _ _ aU.nil
 |jg lv sl af t off len=>obtain⟨_,u,_,rfl,_⟩:=h;exact aU.iw _ _ aU.nil
 |ptr lv sl af i off=>obtain⟨_,u,_,rfl⟩:=h;exact aU.iw _ _ aU.nil
 |eH lv sl af off n sz=>obtain⟨_,u,_,rfl⟩:=h;exact aU.iw _ _ aU.nil
 |mp lv sl af=>obtain⟨_,u,_,rfl⟩:=h;exact aU.iw _ _ aU.nil
 |_=>cases h;exact aU.nil
theorem uG {m:List (Tr E2)} : ∀ {cs:List Cell} {aK:List AV},az (RC ρ B m) cs aK→aU ρ (cs.flatMap qm) (aK.flatMap cW)
 |[],[],_=>aU.nil
 |c :: cs,a :: aK,h=>by
  simp only[List.flatMap_cons]
  exact (rA h.1).append (uG h.2)
 |[],_ :: _,h=>h.elim
 |_ :: _,[],h=>h.elim
theorem FM {a:AV} (h:cellsOf a=some [a]) (h0:lK a=true):dF a=cW a:=by
 cases a<;>first|rfl|cases h0
theorem Kd {m:List (Tr E2)} {v:V2} {a:AV} (h:RV ρ B m v a):aU ρ (DL v) (dF a):=by
 cases v with
 |c c=>
  rw[FM (RC.cell h).1 (RC.cell h).2.1]
  exact rA h
 |agg cs=>obtain⟨aK,rfl,h2⟩:=h;exact uG h2
 |fV f cs=>obtain⟨aK,rfl,h2⟩:=h;exact aU.nil
 |gZ vs=>obtain⟨aK,rfl,h2⟩:=h;exact aU.nil
theorem mj.vD (hs:MR ρ B s2.mem s.mem) (ht:TR ρ B s2.aE s.aE) (hB:B≤B') {v:V2} {a:AV} {NR rd:List (Nat×Nat×Nat)} (hv:RV ρ B s2.mem v a) (hr:aU ρ NR rd) :
  mj ρ B B' s2 s { val:=v,cK:=[],cx:=[],rd:=NR } { val:=a,cK:=[],cx:=[],rd:=rd }:=
 ⟨hv.up hB,hs.mono hB,ht.up hB,eg.refl _ _,hr,aU.nil⟩
variable (hm:MR ρ B s2.mem s.mem) (ht:TR ρ B s2.aE s.aE) (bV:tw ρ B s2.mem s2.slots s.slots) (hB:B≤B')
include hm ht hB
theorem dx.pure {v:V2} {a:AV} (hrun:∀ call sh,op.run call sh s row dst p=eX.pure a) (hv:RV ρ B s2.mem v a) (hK:K (jP v)=some r):dx ρ B B' s2 s op row dst p K r:=
 ⟨_,_,hrun,.vD hm ht hB hv aU.nil,hK⟩
include bV
omit hm ht hB bV in
theorem oK {m:List (Tr E2)} {b:Bool} {a:AV} (h:RV ρ B m (.c (.bool b)) a):iG a=some b:=by cases h;rfl
omit hm ht hB bV in
theorem qq {m:List (Tr E2)} {k:IntKind} {n:Int} {a:AV} (h:RV ρ B m (.c (.int k n)) a):a=.d (.sc (.int k n)):=h
omit hm ht hB bV in
theorem iy {m:List (Tr E2)} {k:IntKind} {n:Int} {a:AV} (h:RV ρ B m (.c (.int k n)) a) (h0:0≤n):fN a=some n.toNat:=by
 cases h;simp[fN,pR,h0]
theorem LG {c a b:bR} {E:aA} {wk:Wk} {ctx:Nat} (h:bP E wk ctx s2 row dst nx (.pick c a b) K=some r):dx ρ B B' s2 s (.pick c a b) row dst p K r:=by
 simp only[bP] at h
 obtain⟨t,hc,h⟩:=oI h
 have hb:=oK (bg bV hc)
 have hrun:∀ call sh,bM.run call sh s row dst p (.pick c a b)=eX.pure (if t then a.ev s.slots else b.ev s.slots):=fun _ _=>by simp[bM.run,hb]
 split at h
 ·rename_i x y hx hy
  refine .pure hm ht hB hrun (v:=.c (.bool (cond t x y))) ?_ h
  cases t with
  |true=>exact bg bV hx
  |false=>exact bg bV hy
 ·rename_i x y _ hx hy
  cases t with
  |true=>exact .pure hm ht hB hrun (bg bV hx) h
  |false=>exact .pure hm ht hB hrun (bg bV hy) h
 ·rename_i x hx _
  obtain⟨rfl,h⟩:=bU h
  exact .pure hm ht hB hrun (bg bV hx) h
 ·rename_i y _ hy
  obtain⟨ht',h⟩:=bU h
  cases t with
  |true=>cases ht'
  |false=>exact .pure hm ht hB hrun (bg bV hy) h
 ·cases h
omit hm ht hB bV in
theorem vE {m:List (Tr E2)} {cs new:List Cell} {aK as':List AV} (h:az (RC ρ B m) cs aK) (h':az (RC ρ B m) new as') (off:Nat):az (RC ρ B m) (bI.splice cs off new) (bI.splice aK off as'):=by
 unfold bI.splice
 rw[h'.length]
 first|exact ((h.take off).append h').append (h.drop _)|exact (h.take off).append (h'.append (h.drop _))
omit hm ht hB in
theorem Ac:∀ {ps:List (Nat×Nat×bR)} {cs cs':List Cell} {aK:List AV},zS s2 cs ps=some cs'→az (RC ρ B s2.mem) cs aK→∃ as',mN s.slots aK ps=some as'∧az (RC ρ B s2.mem) cs' as'
 |[],cs,cs',aK,h,ha=>by
  simp only[zS,Option.some.injEq] at h
  subst h
  exact⟨aK,rfl,ha⟩
 | (off, sz, x) :: ps, cs, cs', aK, h, ha => by
  simp only[zS] at h
  split at h
  ·rename_i new hn
   obtain⟨v,hv,hc⟩:=aT hn
   split at h
   ·rename_i hb
    rw[Bool.and_eq_true] at hb
    have h1:=Nat.eq_of_beq_eq_true hb.1
    have h2:=Nat.le_of_ble_eq_true hb.2
    obtain⟨Iu,g1,g2⟩:=uF hc (bg bV hv)
    obtain⟨as',g3,g4⟩:=Ac h (vE ha g2 off)
    refine⟨as',?_,g4⟩
    simp only[mN,g1]
    rw[if_pos ⟨by rw[←g2.length];exact h1,by rw[←ha.length];exact h2⟩]
    exact g3
   ·cases h
  ·cases h
theorem Iv {z:List AV} {ps:List (Nat×Nat×bR)} (h:(bW ((xg z).bind fun cs=>zS s2 cs ps) fun cs=>K (jP (.agg cs)))=some r):dx ρ B B' s2 s (.build z ps) row dst p K r:=by
 obtain⟨cs,hc,h⟩:=au h
 obtain⟨cs0,h0,h1⟩:=aT hc
 obtain⟨as',g1,g2⟩:=Ac bV h1 (uE h0)
 exact .pure hm ht hB (fun _ _=>by simp[bM.run,g1]) (v:=.agg cs) ⟨as',rfl,g2⟩ h
theorem BD {x:bR} {E:aA} {wk:Wk} {ctx:Nat} (h:bP E wk ctx s2 row dst nx (.nilCheck x) K=some r):dx ρ B B' s2 s (.nilCheck x) row dst p K r:=by
 simp only[bP] at h
 obtain⟨v,hv,h⟩:=au h
 have hr:=bg bV hv
 split at h
 ·have hr' := hr
  obtain⟨_,u,_,he⟩:=hr
  rw[he] at hr'
  exact .pure hm ht hB (fun _ _=>by simp only[bM.run,he]) hr' h
 ·have hr' := hr
  have he:x.ev s.slots=_:=hr
  rw[he] at hr'
  exact .pure hm ht hB (fun _ _=>by simp only[bM.run,he]) hr' h
 ·have hr' := hr
  obtain⟨aK,he,_⟩:=hr
  rw[he] at hr'
  exact .pure hm ht hB (fun _ _=>by simp[bM.run,he]) hr' h
 ·cases h
omit hm ht hB bV in
theorem RJ {k k':IntKind} {a b:Int} {NS:BinOp} {K:Cell→Option α} (h:Vm NS k a k' b K=some r):∃ v c,Dc NS k a k' b=some v∧K c=some r∧∀ (m:List (Tr E2)),RC ρ B m c (.d (.sc v)):=by
 unfold Vm at h
 split at h
 ·obtain ⟨h1, h⟩ := bU h
  refine⟨_,_,?_,h,fun _=>rfl⟩
  have:¬b<0:=by simpa using h1
  simp[Dc,this]
 ·obtain ⟨h1, h⟩ := bU h
  refine⟨_,_,?_,h,fun _=>rfl⟩
  have:¬b<0:=by simpa using h1
  simp[Dc,this]
 ·split at h
  ·cases h
  ·rename_i e _
   subst e
   split at h
   case h_4|h_5=>
    obtain⟨h1,h⟩:=bU h
    refine⟨_,_,?_,h,fun _=>rfl⟩
    have:¬b=0:=by simpa using h1
    simp[Dc,this]
   all_goals first
    |(refine⟨_,_,?_,h,fun _=>rfl⟩;simp[Dc,BR];done)
    |cases h
omit hm ht hB bV in
theorem YT (s:List UInt8):(⟨s.toArray⟩:ByteArray).toList=s:=by
 rw[ByteArray.toList_eq]
end
end Go.Sym
