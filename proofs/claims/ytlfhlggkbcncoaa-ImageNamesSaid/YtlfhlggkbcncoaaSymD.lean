/- The machine over typed data: operations without an effect on the memory. -/
import Derived.Test.YtlfhlggkbcncoaaSymC
import Derived.Laws.Strings
namespace Go.Sym
open Go Go.Eng
def KR (ρ : VMap) (k2 k:Nat×Nat×Nat):Prop:=(k2=k∧k.1=0)∨∃ v u,k2=keyT v∧k=keyT u∧ρ v=some u
def KeysR (ρ : VMap) (l2 l:List (Nat×Nat×Nat)):Prop:=∀ k∈l,∃ k2∈l2,KR ρ k2 k
structure EffOK (ρ : VMap) (B B':Nat) (s2:S2) (s:St) (E:Eff2) (e:Eff):Prop where
 val:RV ρ B' (updM s2.mem E.upd) E.val e.val
 mem:MR ρ B' (updM s2.mem E.upd) (applyUpd s.mem e.upd)
 tips:TR ρ B' (applyTip s2.tips E.tip) (applyTip s.tips e.tip)
 stab:Stab B s2.mem (updM s2.mem E.upd)
 rd:KeysR ρ E.rd e.rd
 wr:KeysR ρ E.wr e.wr
def Does {α : Type} (ρ : VMap) (B B':Nat) (s2:S2) (s:St) (op:AOp) (row dst p:Nat) (K:Res2→Option α) (r : α):Prop:=
 ∃ E e,(∀ call sh,op.run call sh s row dst p=some (.eff e))∧EffOK ρ B B' s2 s E e∧K (.eff E)=some r
section
variable {α : Type} {ρ : VMap} {B B':Nat} {s2:S2} {s:St} {op:AOp} {row dst p nx:Nat} {K:Res2→Option α} {r : α}
theorem MR.mono {m2:List (Tr E2)} {m:List (Tr Ent)} (h:MR ρ B m2 m) (hB:B≤B'):MR ρ B' m2 m:=
 ⟨h.len, fun lv sl e2 he => by
  obtain⟨e,h1,h2⟩:=h.ents lv sl e2 he
  exact⟨e,h1,RE.mono hB (fun _ _=>rfl) (fun _ _=>RC.move (Stab.refl _ _) hB fun _ _=>rfl) h2⟩⟩
theorem TR.up {t2 t:Tr Unit} (h:TR ρ B t2 t) (hB:B≤B'):TR ρ B' t2 t:=fun v hv=>⟨by have:=(h v hv).1;omega,(h v hv).2⟩
theorem RV.up {m:List (Tr E2)} {v:V2} {a:AV} (h:RV ρ B m v a) (hB:B≤B'):RV ρ B' m v a:=h.move (Stab.refl _ _) hB fun _ _=>rfl
theorem RC.up {m:List (Tr E2)} {v:Cell} {a:AV} (h:RC ρ B m v a) (hB:B≤B'):RC ρ B' m v a:=h.move (Stab.refl _ _) hB fun _ _=>rfl
theorem KeysR.nil {l2:List (Nat×Nat×Nat)} : KeysR ρ l2 []:=fun _ h=>by cases h
theorem KeysR.append {a b c d:List (Nat×Nat×Nat)} (h:KeysR ρ a b) (k:KeysR ρ c d):KeysR ρ (a++c) (b++d):=by
 intro x hx
 rcases List.mem_append.1 hx with hx|hx
 ·obtain⟨y,h1,h2⟩:=h x hx;exact⟨y,List.mem_append_left _ h1,h2⟩
 ·obtain⟨y,h1,h2⟩:=k x hx;exact⟨y,List.mem_append_right _ h1,h2⟩
theorem KeysR.consE {a b:List (Nat×Nat×Nat)} (lv sl:Nat) (h:KeysR ρ a b):KeysR ρ (keyE lv sl :: a) (keyE lv sl :: b):=by
 intro x hx
 rcases List.mem_cons.1 hx with rfl|hx
 ·exact⟨_,List.mem_cons_self,.inl ⟨rfl,rfl⟩⟩
 ·obtain⟨y,h1,h2⟩:=h x hx;exact⟨y,List.mem_cons_of_mem _ h1,h2⟩
theorem KeysR.keysE (ks:List (Nat×Nat)):KeysR ρ (keysE ks) (keysE ks):=by
 intro x hx
 refine⟨x,hx,.inl ⟨rfl,?_⟩⟩
 unfold Eng.keysE at hx
 obtain⟨k,_,rfl⟩:=List.mem_map.1 hx
 rfl
theorem keyC_ok {m:List (Tr E2)} {c:Cell} {a:AV} (h:RC ρ B m c a):KeysR ρ (keyC c) (keysOf a):=by
 cases c with
 |nil f=>cases f with
  |true=>cases h;exact KeysR.nil
  |false=>rcases h with rfl|⟨o,_,rfl⟩<;>exact KeysR.nil
 |sl t l o=>rcases (els_sl (m:=[]) h).2.1 with rfl|⟨o',rfl⟩<;>exact KeysR.nil
 |ref lv sl ver t=>obtain⟨_,u,n,_,rfl,_⟩:=h;exact KeysR.consE _ _ KeysR.nil
 |refp lv sl ver t off len=>obtain⟨_,u,_,rfl,_⟩:=h;exact KeysR.consE _ _ KeysR.nil
 |ptr lv sl ver i off=>obtain⟨_,u,_,rfl⟩:=h;exact KeysR.consE _ _ KeysR.nil
 |bref lv sl ver off n sz=>obtain⟨_,u,_,rfl⟩:=h;exact KeysR.consE _ _ KeysR.nil
 |mp lv sl ver=>obtain⟨_,u,_,rfl⟩:=h;exact KeysR.consE _ _ KeysR.nil
 |_=>cases h;exact KeysR.nil
theorem keyCs_ok {m:List (Tr E2)} : ∀ {cs:List Cell} {as:List AV},All2 (RC ρ B m) cs as→KeysR ρ (cs.flatMap keyC) (as.flatMap keysOf)
 |[],[],_=>KeysR.nil
 |c :: cs,a :: as,h=>by
  simp only[List.flatMap_cons]
  exact (keyC_ok h.1).append (keyCs_ok h.2)
 |[],_ :: _,h=>h.elim
 |_ :: _,[],h=>h.elim
theorem keysIn_cell {a:AV} (h:cellsOf a=some [a]) (h0:isCell0 a=true):keysIn a=keysOf a:=by
 cases a<;>first|rfl|cases h0
theorem keyV_ok {m:List (Tr E2)} {v:V2} {a:AV} (h:RV ρ B m v a):KeysR ρ (keyV v) (keysIn a):=by
 cases v with
 |c c=>
  rw[keysIn_cell (RC.cell h).1 (RC.cell h).2.1]
  exact keyC_ok h
 |agg cs=>obtain⟨as,rfl,h2⟩:=h;exact keyCs_ok h2
 |clo f cs=>obtain⟨as,rfl,h2⟩:=h;exact KeysR.nil
 |tup vs=>obtain⟨as,rfl,h2⟩:=h;exact KeysR.nil
theorem EffOK.of_val (hs:MR ρ B s2.mem s.mem) (ht:TR ρ B s2.tips s.tips) (hB:B≤B') {v:V2} {a:AV} {rd2 rd:List (Nat×Nat×Nat)} (hv:RV ρ B s2.mem v a) (hr:KeysR ρ rd2 rd) :
  EffOK ρ B B' s2 s { val:=v,upd:=[],tip:=[],rd:=rd2 } { val:=a,upd:=[],tip:=[],rd:=rd }:=
 ⟨hv.up hB,hs.mono hB,ht.up hB,Stab.refl _ _,hr,KeysR.nil⟩
variable (hm:MR ρ B s2.mem s.mem) (ht:TR ρ B s2.tips s.tips) (hsl:SlR ρ B s2.mem s2.slots s.slots) (hB:B≤B')
include hm ht hB
theorem Does.pure {v:V2} {a:AV} (hrun:∀ call sh,op.run call sh s row dst p=Eff.pure a) (hv:RV ρ B s2.mem v a) (hK:K (pureE v)=some r):Does ρ B B' s2 s op row dst p K r:=
 ⟨_,_,hrun,.of_val hm ht hB hv KeysR.nil,hK⟩
include hsl
omit hm ht hB hsl in
theorem boolOf_ok' {m:List (Tr E2)} {b:Bool} {a:AV} (h:RV ρ B m (.c (.bool b)) a):boolOfA a=some b:=by cases h;rfl
omit hm ht hB hsl in
theorem intOf_ok {m:List (Tr E2)} {k:IntKind} {n:Int} {a:AV} (h:RV ρ B m (.c (.int k n)) a):a=.d (.sc (.int k n)):=h
omit hm ht hB hsl in
theorem natOf_ok {m:List (Tr E2)} {k:IntKind} {n:Int} {a:AV} (h:RV ρ B m (.c (.int k n)) a) (h0:0≤n):natOfA a=some n.toNat:=by
 cases h;simp[natOfA,intOfA,h0]
theorem does_pick {c a b:Opd} {E:SEnv} {wk:Wk} {ctx:Nat} (h:run2 E wk ctx s2 row dst nx (.pick c a b) K=some r):Does ρ B B' s2 s (.pick c a b) row dst p K r:=by
 simp only[run2] at h
 obtain⟨t,hc,h⟩:=boolK_some h
 have hb:=boolOf_ok' (ev2_ok hsl hc)
 have hrun:∀ call sh,AOp.run call sh s row dst p (.pick c a b)=Eff.pure (if t then a.ev s.slots else b.ev s.slots):=fun _ _=>by simp[AOp.run,hb]
 split at h
 ·rename_i x y hx hy
  refine .pure hm ht hB hrun (v:=.c (.bool (cond t x y))) ?_ h
  cases t with
  |true=>exact ev2_ok hsl hx
  |false=>exact ev2_ok hsl hy
 ·rename_i x y _ hx hy
  cases t with
  |true=>exact .pure hm ht hB hrun (ev2_ok hsl hx) h
  |false=>exact .pure hm ht hB hrun (ev2_ok hsl hy) h
 ·rename_i x hx _
  obtain⟨rfl,h⟩:=chk_some h
  exact .pure hm ht hB hrun (ev2_ok hsl hx) h
 ·rename_i y _ hy
  obtain⟨ht',h⟩:=chk_some h
  cases t with
  |true=>cases ht'
  |false=>exact .pure hm ht hB hrun (ev2_ok hsl hy) h
 ·cases h
omit hm ht hB hsl in
theorem splice_ok {m:List (Tr E2)} {cs new:List Cell} {as as':List AV} (h:All2 (RC ρ B m) cs as) (h':All2 (RC ρ B m) new as') (off:Nat):All2 (RC ρ B m) (Eng.splice cs off new) (Eng.splice as off as'):=by
 unfold Eng.splice
 rw[h'.length]
 first|exact ((h.take off).append h').append (h.drop _)|exact (h.take off).append (h'.append (h.drop _))
omit hm ht hB in
theorem fill2_ok:∀ {ps:List (Nat×Nat×Opd)} {cs cs':List Cell} {as:List AV},fill2 s2 cs ps=some cs'→All2 (RC ρ B s2.mem) cs as→∃ as',fillA s.slots as ps=some as'∧All2 (RC ρ B s2.mem) cs' as'
 |[],cs,cs',as,h,ha=>by
  simp only[fill2,Option.some.injEq] at h
  subst h
  exact⟨as,rfl,ha⟩
 | (off, sz, x) :: ps, cs, cs', as, h, ha => by
  simp only[fill2] at h
  split at h
  ·rename_i new hn
   obtain⟨v,hv,hc⟩:=opt_bind hn
   split at h
   ·rename_i hb
    rw[Bool.and_eq_true] at hb
    have h1:=Nat.eq_of_beq_eq_true hb.1
    have h2:=Nat.le_of_ble_eq_true hb.2
    obtain⟨as1,g1,g2⟩:=cells_ok hc (ev2_ok hsl hv)
    obtain⟨as',g3,g4⟩:=fill2_ok h (splice_ok ha g2 off)
    refine⟨as',?_,g4⟩
    simp only[fillA,g1]
    rw[if_pos ⟨by rw[←g2.length];exact h1,by rw[←ha.length];exact h2⟩]
    exact g3
   ·cases h
  ·cases h
theorem does_build {z:List AV} {ps:List (Nat×Nat×Opd)} (h:(optK ((cstCs z).bind fun cs=>fill2 s2 cs ps) fun cs=>K (pureE (.agg cs)))=some r):Does ρ B B' s2 s (.build z ps) row dst p K r:=by
 obtain⟨cs,hc,h⟩:=optK_some h
 obtain⟨cs0,h0,h1⟩:=opt_bind hc
 obtain⟨as',g1,g2⟩:=fill2_ok hsl h1 (cstCs_ok h0)
 exact .pure hm ht hB (fun _ _=>by simp[AOp.run,g1]) (v:=.agg cs) ⟨as',rfl,g2⟩ h
theorem does_nilCheck {x:Opd} {E:SEnv} {wk:Wk} {ctx:Nat} (h:run2 E wk ctx s2 row dst nx (.nilCheck x) K=some r):Does ρ B B' s2 s (.nilCheck x) row dst p K r:=by
 simp only[run2] at h
 obtain⟨v,hv,h⟩:=optK_some h
 have hr:=ev2_ok hsl hv
 split at h
 ·have hr' := hr
  obtain⟨_,u,_,he⟩:=hr
  rw[he] at hr'
  exact .pure hm ht hB (fun _ _=>by simp only[AOp.run,he]) hr' h
 ·have hr' := hr
  have he:x.ev s.slots=_:=hr
  rw[he] at hr'
  exact .pure hm ht hB (fun _ _=>by simp only[AOp.run,he]) hr' h
 ·have hr' := hr
  obtain⟨as,he,_⟩:=hr
  rw[he] at hr'
  exact .pure hm ht hB (fun _ _=>by simp[AOp.run,he]) hr' h
 ·cases h
omit hm ht hB hsl in
theorem binN_ok {k k':IntKind} {a b:Int} {bop:BinOp} {K:Cell→Option α} (h:binN bop k a k' b K=some r):∃ v c,binI bop k a k' b=some v∧K c=some r∧∀ (m:List (Tr E2)),RC ρ B m c (.d (.sc v)):=by
 unfold binN at h
 split at h
 ·obtain ⟨h1, h⟩ := chk_some h
  refine⟨_,_,?_,h,fun _=>rfl⟩
  have:¬b<0:=by simpa using h1
  simp[binI,this]
 ·obtain ⟨h1, h⟩ := chk_some h
  refine⟨_,_,?_,h,fun _=>rfl⟩
  have:¬b<0:=by simpa using h1
  simp[binI,this]
 ·split at h
  ·cases h
  ·rename_i e _
   subst e
   split at h
   case h_4|h_5=>
    obtain⟨h1,h⟩:=chk_some h
    refine⟨_,_,?_,h,fun _=>rfl⟩
    have:¬b=0:=by simpa using h1
    simp[binI,this]
   all_goals first
    |(refine⟨_,_,?_,h,fun _=>rfl⟩;simp[binI,bitsI];done)
    |cases h
omit hm ht hB hsl in
theorem ba_toList (s:List UInt8):(⟨s.toArray⟩:ByteArray).toList=s:=by
 rw[ByteArray.toList_eq]
end
end Go.Sym
