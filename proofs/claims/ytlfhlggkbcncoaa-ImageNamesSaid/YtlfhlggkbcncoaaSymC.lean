/- The machine over typed data: operands, memory, cells that are frozen. -/
import Derived.Test.YtlfhlggkbcncoaaSymB
namespace Go.Sym
open Go Go.Eng
section
variable {ρ : VMap} {B:Nat} {m2:List (Tr E2)} {m:List (Tr Ent)}
theorem optK_some {α β : Type} {o:Option β} {k : β→Option α} {r : α} (h:optK o k=some r):∃ x,o=some x∧k x=some r:=by
 cases o with
 |none=>cases h
 |some x=>exact⟨x,rfl,h⟩
theorem chk_some {α : Type} {b:Bool} {k:Option α} {r : α} (h:chk b k=some r):b=true∧k=some r:=by
 cases b with
 |false=>cases h
 |true=>exact⟨rfl,h⟩
theorem bind_some {α β : Type} {o:Option β} {k : β→Option α} {r : α} (h:Option.bind o k=some r):∃ x,o=some x∧k x=some r:=by
 cases o with
 |none=>cases h
 |some x=>exact⟨x,rfl,h⟩
theorem cellK_some {α : Type} {v:Option V2} {k:Cell→Option α} {r : α} (h:cellK v k=some r):∃ x,v=some (.c x)∧k x=some r:=by
 unfold cellK at h
 split at h
 ·exact⟨_,rfl,h⟩
 ·cases h
theorem intK_some {α : Type} {v:Option V2} {k:Int→Option α} {r : α} (h:intK v k=some r):∃ kd n,v=some (.c (.int kd n))∧k n=some r:=by
 unfold intK at h
 split at h
 ·exact⟨_,_,rfl,h⟩
 ·cases h
theorem natK_some {α : Type} {v:Option V2} {k:Nat→Option α} {r : α} (h:natK v k=some r):∃ kd n,v=some (.c (.int kd n))∧0≤n∧k n.toNat=some r:=by
 obtain⟨kd,n,h1,h2⟩:=intK_some h
 obtain⟨h3,h4⟩:=chk_some h2
 exact⟨kd,n,h1,of_decide_eq_true h3,h4⟩
theorem boolK_some {α : Type} {v:Option V2} {k:Bool→Option α} {r : α} (h:boolK v k=some r):∃ b,v=some (.c (.bool b))∧k b=some r:=by
 unfold boolK at h
 split at h
 ·exact⟨_,rfl,h⟩
 ·cases h
theorem cstV_ok (v:Value):RC ρ B m2 (cstV v) (.d (.sc v)):=by
 cases v<;>first|rfl|exact rfl
theorem cstC_ok {x:AV} {c:Cell} (h:cstC x=some c):RC ρ B m2 c x:=by
 unfold cstC at h
 split at h
 ·injection h with h;subst h;exact cstV_ok _
 ·injection h with h;subst h;rfl
 ·cases h
theorem cstCs_ok:∀ {l:List AV} {cs:List Cell},cstCs l=some cs→All2 (RC ρ B m2) cs l
 |[],cs,h=>by simp only[cstCs,Option.some.injEq] at h;subst h;trivial
 | x :: r, cs, h => by
  simp only[cstCs] at h
  split at h
  ·rename_i y ys h1 h2
   injection h with h;subst h
   exact⟨cstC_ok h1,cstCs_ok h2⟩
  ·cases h
theorem cst2_ok {x:AV} {v:V2} (h:cst2 x=some v):RV ρ B m2 v x:=by
 unfold cst2 at h
 split at h
 ·obtain ⟨cs, h1, rfl⟩ := opt_map h
  exact⟨_,rfl,cstCs_ok h1⟩
 ·injection h with h; subst h
  exact⟨[],rfl,trivial⟩
 ·injection h with h; subst h
  exact⟨[],rfl,trivial⟩
 ·obtain ⟨c, h1, rfl⟩ := opt_map h
  exact cstC_ok h1
theorem cstD_rc {x:D} {c:Cell} (h:cstD x=some c):RC ρ B m2 c (.d x):=by
 unfold cstD at h
 split at h
 ·injection h with h;subst h;exact cstV_ok _
 ·injection h with h;subst h;exact .inl rfl
 ·cases h
theorem cstDs_rc:∀ {l:List D} {cs:List Cell},cstDs l=some cs→All2 (RC ρ B m2) cs (l.map .d)
 |[],cs,h=>by simp only[cstDs,Option.some.injEq] at h;subst h;trivial
 | x :: r, cs, h => by
  simp only[cstDs] at h
  split at h
  ·rename_i y ys h1 h2
   injection h with h;subst h
   exact⟨cstD_rc h1,cstDs_rc h2⟩
  ·cases h
theorem cstDs_ok:∀ {l:List D} {cs:List Cell},cstDs l=some cs→cellDs cs=some l
 |[],cs,h=>by simp only[cstDs,Option.some.injEq] at h;subst h;rfl
 | x :: r, cs, h => by
  simp only[cstDs] at h
  split at h
  ·rename_i y ys h1 h2
   injection h with h;subst h
   have:cellD y=some x:=by
    unfold cstD at h1
    split at h1
    ·rename_i v
     injection h1 with h1;subst h1
     cases v<;>rfl
    ·injection h1 with h1;subst h1;rfl
    ·cases h1
   simp only[cellDs,this,cstDs_ok h2]
  ·cases h
theorem ev2_ok {s2:S2} {sl:Tr AV} (hs:SlR ρ B m2 s2.slots sl) {x:Opd} {v:V2} (h:ev2 s2 x=some v):RV ρ B m2 v (x.ev sl):=by
 cases x with
 |t n=>exact hs n v h
 |c a=>exact cst2_ok h
theorem evs2_ok {s2:S2} {sl:Tr AV} (hs:SlR ρ B m2 s2.slots sl):∀ {l:List Opd} {vs:List V2},evs2 s2 l=some vs→All2 (RV ρ B m2) vs (evs sl l)
 |[],vs,h=>by simp only[evs2,Option.some.injEq] at h;subst h;trivial
 | x :: r, vs, h => by
  simp only[evs2] at h
  split at h
  ·rename_i y ys h1 h2
   injection h with h;subst h
   exact⟨ev2_ok hs h1,evs2_ok hs h2⟩
  ·cases h
theorem RC.cell {c:Cell} {a:AV} (h:RC ρ B m2 c a):cellsOf a=some [a]∧isCell0 a=true∧notTup a=true:=by
 cases c with
 |nil f=>cases f with
  |true=>cases h;exact⟨rfl,rfl,rfl⟩
  |false=>rcases h with rfl|⟨o,_,rfl⟩<;>exact⟨rfl,rfl,rfl⟩
 |sl t l o=>
  cases o with
  |app v=>rcases h with⟨_,⟨_,rfl⟩|⟨u,_,rfl⟩⟩<;>exact⟨rfl,rfl,rfl⟩
  |d=>rcases h with rfl|⟨o,_,rfl⟩<;>exact⟨rfl,rfl,rfl⟩
  |full=>cases h;exact⟨rfl,rfl,rfl⟩
  |bor=>rcases h with rfl|⟨o,rfl⟩<;>exact⟨rfl,rfl,rfl⟩
 |ref lv sl ver t=>obtain⟨_,u,n,_,rfl,_⟩:=h;exact⟨rfl,rfl,rfl⟩
 |refp lv sl ver t off len=>obtain⟨_,u,_,rfl,_⟩:=h;exact⟨rfl,rfl,rfl⟩
 |ptr lv sl ver i off=>obtain⟨_,u,_,rfl⟩:=h;exact⟨rfl,rfl,rfl⟩
 |bref lv sl ver off n sz=>obtain⟨_,u,_,rfl⟩:=h;exact⟨rfl,rfl,rfl⟩
 |mp lv sl ver=>obtain⟨_,u,_,rfl⟩:=h;exact⟨rfl,rfl,rfl⟩
 |_=>cases h;exact⟨rfl,rfl,rfl⟩
theorem cells_ok {v:V2} {a:AV} {cs:List Cell} (h:V2.cells? v=some cs) (hv:RV ρ B m2 v a):∃ as,cellsOf a=some as∧All2 (RC ρ B m2) cs as:=by
 cases v with
 |c x=>simp only[V2.cells?,Option.some.injEq] at h;subst h;exact⟨[a],(RC.cell hv).1,hv,trivial⟩
 |agg l=>simp only[V2.cells?,Option.some.injEq] at h;subst h;obtain⟨as,rfl,h2⟩:=hv;exact⟨as,rfl,h2⟩
 |_=>cases h
theorem wrap2_ok {agg:Bool} {cs:List Cell} {as:List AV} {v:V2} (h:wrap2 agg cs=some v) (hc:All2 (RC ρ B m2) cs as):∃ a,wrapAgg agg as=some a∧RV ρ B m2 v a:=by
 cases agg with
 |true=>simp only[wrap2,Option.some.injEq] at h;subst h;exact⟨_,rfl,as,rfl,hc⟩
 | false =>
  simp only[wrap2] at h
  split at h
  ·injection h with h; subst h
   match as,hc with
   |[a],hc=>exact⟨a,rfl,hc.1⟩
  ·cases h
theorem mget_mset (m:List (Tr E2)) (lv sl lv' sl':Nat) (e:Option E2) :
  mget (mset m lv sl e) lv' sl'=if lv=lv'∧sl=sl'∧lv<m.length then e else mget m lv' sl':=by
 unfold mget mset
 rw[List.getElem?_modify]
 by_cases h:lv=lv'
 ·subst h
  simp only[if_true]
  cases hm:m[lv]? with
  | none =>
   have:¬lv<m.length:=by
    intro hl
    rw[List.getElem?_eq_getElem hl] at hm
    cases hm
   simp[this]
  | some t =>
   have:lv<m.length:=by
    rcases Nat.lt_or_ge lv m.length with hl|hl
    ·exact hl
    ·rw[List.getElem?_eq_none hl] at hm;cases hm
   simp[Tr.get_set,this]
 ·simp[h]
theorem mset_length (m:List (Tr E2)) (lv sl:Nat) (e:Option E2):(mset m lv sl e).length=m.length:=by simp[mset]
theorem memSet_length (m:List (Tr Ent)) (lv sl:Nat) (e:Option Ent):(memSet m lv sl e).length=m.length:=by simp[memSet]
theorem updM_length:∀ (l:List (Nat×Nat×Option E2)) (m:List (Tr E2)),(updM m l).length=m.length
 |[],_=>rfl
 |(lv,sl,e) :: r,m=>by rw[updM,updM_length r,mset_length]
theorem applyUpd_length:∀ (l:List (Nat×Nat×Option Ent)) (m:List (Tr Ent)),(applyUpd m l).length=m.length
 |[],_=>rfl
 |(lv,sl,e) :: r,m=>by rw[applyUpd,applyUpd_length r,memSet_length]
def OE (ρ : VMap) (B:Nat) (m:List (Tr E2)) (x:Option E2) (y:Option Ent):Prop:=∀ e2,x=some e2→∃ e,y=some e∧RE ρ B m e2 e
def UpdR (ρ : VMap) (B:Nat) (m:List (Tr E2)) (x:Nat×Nat×Option E2) (y:Nat×Nat×Option Ent):Prop:=x.1=y.1∧x.2.1=y.2.1∧OE ρ B m x.2.2 y.2.2
theorem upd_rel {B':Nat} {mf:List (Tr E2)} : ∀ {us2:List (Nat×Nat×Option E2)} {us:List (Nat×Nat×Option Ent)} {m2:List (Tr E2)} {m:List (Tr Ent)},
  All2 (UpdR ρ B' mf) us2 us→m2.length=m.length→(∀ lv sl,OE ρ B' mf (mget m2 lv sl) (memGet m lv sl))→∀ lv sl,OE ρ B' mf (mget (updM m2 us2) lv sl) (memGet (applyUpd m us) lv sl)
 |[],[],_,_,_,_,h=>h
 |(lv2,sl2,e2) :: r2,(lv,sl,e) :: r,m2,m,hu,hl,h=>by
  obtain⟨⟨h1,h2,h3⟩,hr⟩:=hu
  simp only at h1 h2 h3
  subst h1 h2
  refine upd_rel (m2:=mset m2 lv2 sl2 e2) (m:=memSet m lv2 sl2 e) hr (by rw[mset_length,memSet_length,hl]) fun lv' sl'=>?_
  rw[mget_mset,memGet_set,hl]
  split
  ·exact h3
  ·exact h lv' sl'
 |[],_ :: _,_,_,hu,_,_=>hu.elim
 |_ :: _,[],_,_,hu,_,_=>hu.elim
theorem MR.upd {B':Nat} {us2:List (Nat×Nat×Option E2)} {us:List (Nat×Nat×Option Ent)} (h:MR ρ B m2 m) (hB:B≤B') (hst:Stab B m2 (updM m2 us2)) (hu:All2 (UpdR ρ B' (updM m2 us2)) us2 us):MR ρ B' (updM m2 us2) (applyUpd m us):=by
 refine⟨by rw[updM_length,applyUpd_length,h.len],fun lv sl e2 he=>upd_rel hu h.len (fun lv sl e2 he=>?_) lv sl e2 he⟩
 obtain⟨e,h1,h2⟩:=h.ents lv sl e2 he
 exact⟨e,h1,RE.mono hB (fun _ _=>rfl) (fun _ _=>RC.move hst hB fun _ _=>rfl) h2⟩
theorem rowOf_some {lv sl ver:Nat} {r:SL} (h:rowOf m2 lv sl ver=some r):mget m2 lv sl=some (.row ver r.t r.l):=by
 unfold rowOf at h
 split at h
 ·rename_i v t l he
  split at h
  ·rename_i hv
   injection h with h;subst h
   rw[he,Nat.eq_of_beq_eq_true hv]
  ·cases h
 ·cases h
theorem rowOf_iff {lv sl ver:Nat} {r:SL} : rowOf m2 lv sl ver=some r↔mget m2 lv sl=some (.row ver r.t r.l):=by
 refine⟨rowOf_some,fun h=>?_⟩
 unfold rowOf
 rw[h]
 simp
theorem beq_self (n:Nat):Nat.beq n n=true:=by simp
theorem rowOf_ok (hm:MR ρ B m2 m) {lv sl ver u:Nat} {r:SL} (h:rowOf m2 lv sl ver=some r) (hu : ρ ver=some u):memGet m lv sl=some (.row u (encL r.t r.l))∧Eng.rowAt m lv sl u=some (encL r.t r.l):=by
 obtain⟨e,h1,_,u',h2,rfl⟩:=hm.ents _ _ _ (rowOf_some h)
 rw[hu] at h2
 injection h2 with h2;subst h2
 refine⟨h1,?_⟩
 unfold Eng.rowAt
 rw[h1]
 simp only[beq_self]
theorem rowOf_rd (hm:MR ρ B m2 m) {lv sl ver u:Nat} {r:SL} (h:rowOf m2 lv sl ver=some r) (hu : ρ ver=some u):Eng.rowRd m lv sl u=some (encL r.t r.l):=by
 have h1:=(rowOf_ok hm h hu).1
 unfold Eng.rowRd
 rw[h1]
 simp only[beq_self]
theorem encL_length (t:Ty) (l:List t.den):(encL t l).length=l.length:=by simp[encL]
theorem encL_all (t:Ty) (l:List t.den):(encL t l).all (fun e=>e.length==t.size)=true:=by
 simp[encL,List.all_eq_true,encs_length]
theorem encL_get (t:Ty) (l:List t.den) (i:Nat):(encL t l)[i]?=(l[i]?).map (encs t):=by simp[encL]
theorem encL_append (t:Ty) (l l':List t.den):encL t (l++l')=encL t l++encL t l':=by simp[encL]
theorem els_ref (hm:MR ρ B m2 m) {lv sl ver:Nat} {t:Ty} {r:SL} {a:AV} (h:RC ρ B m2 (.ref lv sl ver t) a) (hr:rowOf m2 lv sl ver=some r):elsOf m a=some (encL r.t r.l):=by
 obtain⟨_,u,n,hu,rfl,hn⟩:=h
 have:=rowOf_rd hm hr hu
 simp only[elsOf,this,Option.bind_some]
 rw[hn r hr]
 simp[encL_length,List.take_of_length_le]
theorem els_refp (hm:MR ρ B m2 m) {lv sl ver off len:Nat} {t:Ty} {r:SL} {a:AV} (h:RC ρ B m2 (.refp lv sl ver t off len) a) (hr:rowOf m2 lv sl ver=some r) (hl:off+len≤r.l.length):elsOf m a=some (encL r.t ((r.l.drop off).take len)):=by
 obtain⟨_,u,hu,rfl,_⟩:=h
 have:=rowOf_rd hm hr hu
 simp only[elsOf,this,Option.bind_some]
 simp[hl,encL,List.map_take,List.map_drop]
theorem els_sl {t:Ty} {l:List t.den} {o:Ow} {a:AV} (h:RC ρ B m2 (.sl t l o) a):elsOf m a=some (encL t l)∧(a=.d (.sl (encL t l))∨∃ o',a=.own (encL t l) o')∧(o≠.bor→a=.d (.sl (encL t l))∨∃ o',o'≠.bor∧a=.own (encL t l) o'):=by
 cases o with
 |app v=>rcases h with⟨_,⟨_,rfl⟩|⟨u,_,rfl⟩⟩<;>exact⟨rfl,.inr ⟨_,rfl⟩,fun _=>.inr ⟨_,by simp,rfl⟩⟩
 |d=>
  rcases h with rfl|⟨o,ho,rfl⟩
  ·exact⟨rfl,.inl rfl,fun _=>.inl rfl⟩
  ·exact⟨rfl,.inr ⟨_,rfl⟩,fun _=>.inr ⟨_,ho,rfl⟩⟩
 |full=>cases h;exact⟨rfl,.inr ⟨_,rfl⟩,fun _=>.inr ⟨_,by simp,rfl⟩⟩
 |bor=>
  rcases h with rfl|⟨o,rfl⟩
  ·exact⟨rfl,.inl rfl,fun h=>(h rfl).elim⟩
  ·exact⟨rfl,.inr ⟨_,rfl⟩,fun h=>(h rfl).elim⟩
theorem els_nil {f:Bool} {a:AV} (h:RC ρ B m2 (.nil f) a):elsOf m a=some []∧(a=.d (.sl [])∨∃ o',o'≠.bor∧a=.own [] o'):=by
 cases f with
 |true=>cases h;exact⟨rfl,.inr ⟨_,by simp,rfl⟩⟩
 |false=>
  rcases h with rfl|⟨o,ho,rfl⟩
  ·exact⟨rfl,.inl rfl⟩
  ·exact⟨rfl,.inr ⟨_,ho,rfl⟩⟩
theorem toD_own {els:List (List D)} {o:Own} (h:o≠.bor):toD m (.own els o)=some (.sl els,[]):=by
 cases o with
 |bor=>exact (h rfl).elim
 |_=>rfl
theorem frz1_ok (hm:MR ρ B m2 m) {c c':Cell} {a:AV} {ks:List (Nat×Nat)} (h:frz1 m2 c=some (c',ks)) (hc:RC ρ B m2 c a):∃ d,toD m a=some (d,ks)∧cellD c'=some d:=by
 unfold frz1 at h
 split at h
 ·injection h with h;injection h with h1 h2;subst h1 h2;cases hc;exact⟨_,rfl,rfl⟩
 ·injection h with h;injection h with h1 h2;subst h1 h2;cases hc;exact⟨_,rfl,rfl⟩
 ·injection h with h;injection h with h1 h2;subst h1 h2;cases hc;exact⟨_,rfl,rfl⟩
 ·injection h with h;injection h with h1 h2;subst h1 h2;cases hc;exact⟨_,rfl,rfl⟩
 ·injection h with h; injection h with h1 h2; subst h1 h2
  rcases (els_nil (m:=m) hc).2 with rfl|⟨o,ho,rfl⟩
  ·exact⟨_,rfl,rfl⟩
  ·exact⟨_,toD_own ho,rfl⟩
 ·cases h
 ·rename_i t l o hne
  injection h with h;injection h with h1 h2;subst h1 h2
  rcases (els_sl (m:=m) hc).2.2 (fun e=>hne e) with rfl|⟨o',ho,rfl⟩
  ·exact⟨_,rfl,rfl⟩
  ·exact⟨_,toD_own ho,rfl⟩
 ·rename_i lv sl ver t
  split at h
  ·rename_i r hr
   injection h with h;injection h with h1 h2;subst h1 h2
   have he:=els_ref hm hc hr
   obtain⟨_,u,n,hu,rfl,hn⟩:=hc
   refine⟨.sl (encL r.t r.l),?_,rfl⟩
   simp only[toD,he,Option.map_some]
  ·cases h
 ·rename_i lv sl ver t off len
  split at h
  ·rename_i r hr
   injection h with h;injection h with h1 h2;subst h1 h2
   have he:=els_refp hm hc hr (hc.2.choose_spec.2.2 r hr)
   obtain⟨_,u,hu,rfl,hn⟩:=hc
   refine⟨.sl (encL r.t ((r.l.drop off).take len)),?_,rfl⟩
   simp only[toD,he,Option.map_some]
  ·cases h
 ·cases h
theorem frz_ok (hm:MR ρ B m2 m):∀ {cs cs':List Cell} {as:List AV} {ks:List (Nat×Nat)},frz m2 cs=some (cs',ks)→All2 (RC ρ B m2) cs as→∃ ds,toDs m as=some (ds,ks)∧cellDs cs'=some ds
 |[],cs',as,ks,h,ha=>by
  match as,ha with
  |[],_=>simp only[frz,Option.some.injEq,Prod.mk.injEq] at h;obtain⟨rfl,rfl⟩:=h;exact⟨[],rfl,rfl⟩
 | c :: r, cs', as, ks, h, ha => by
  match as,ha with
  | a :: as, ⟨ha, hr⟩ =>
   simp only[frz] at h
   split at h
   ·rename_i y k ys k' h1 h2
    injection h with h;injection h with h3 h4;subst h3 h4
    obtain⟨d,g1,g2⟩:=frz1_ok hm h1 ha
    obtain⟨ds,g3,g4⟩:=frz_ok hm h2 hr
    exact⟨d :: ds,by simp only[toDs,g1,g3],by simp only[cellDs,g2,g4]⟩
   ·cases h
theorem newsK_ok {α : Type} (hm:MR ρ B m2 m) {x:Cell} {a:AV} {e:Option Ty} {K:SL→Option α} {r : α} (h:newsK m2 x e K=some r) (hx:RC ρ B m2 x a):∃ n,newsOf m a=some (encL n.t n.l)∧K n=some r:=by
 have key:∀ {a:AV} {els:List (List D)},elsOf m a=some els→(∀ b,a≠.d (.sc (.string b)))→newsOf m a=some els:=by
  intro a els he hne
  unfold newsOf
  split
  ·rename_i b;exact absurd rfl (hne b)
  ·exact he
 unfold newsK at h
 split at h
 ·rename_i t l o
  refine⟨⟨t,l⟩,key (els_sl hx).1 fun b hb=>?_,h⟩
  have:=(els_sl (m:=m) hx).1
  rw[hb] at this;cases this
 ·rename_i f
  obtain⟨t,rfl,h⟩:=optK_some h
  refine⟨⟨t,[]⟩,key (els_nil hx).1 fun b hb=>?_,h⟩
  have:=(els_nil (m:=m) hx).1
  rw[hb] at this;cases this
 ·rename_i lv sl ver t
  obtain⟨r',hr,h⟩:=optK_some h
  refine⟨r',key (els_ref hm hx hr) fun b hb=>?_,h⟩
  have:=els_ref hm hx hr
  rw[hb] at this;cases this
 ·rename_i lv sl ver t off len
  obtain⟨r',hr,h⟩:=optK_some h
  obtain⟨hl,h⟩:=chk_some h
  have hl:=of_decide_eq_true hl
  refine⟨⟨r'.t,(r'.l.drop off).take len⟩,key (els_refp hm hx hr hl) fun b hb=>?_,h⟩
  have:=els_refp hm hx hr hl
  rw[hb] at this;cases this
 ·rename_i s
  cases hx
  exact⟨⟨.int .u8,bytesL s⟩,by simp[newsOf,encL,bytesL,encs,List.map_map,Function.comp_def],h⟩
 ·cases h
end
end Go.Sym
