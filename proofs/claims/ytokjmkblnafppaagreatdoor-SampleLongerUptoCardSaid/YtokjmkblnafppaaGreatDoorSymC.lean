/- The machine over typed data: operands, memory, cells that are frozen. -/
import Derived.Test.YtokjmkblnafppaaGreatDoorSymB
set_option linter.unusedVariables false
set_option linter.unusedSimpArgs false
namespace Go.Sym
open Go Go.bI
section
variable {ρ : bG} {B:Nat} {m2:List (Tr E2)} {m:List (Tr bH)}
theorem au {α β : Type} {o:Option β} {k : β→Option α} {r : α} (h:bW o k=some r):∃ x,o=some x∧k x=some r:=by
 cases o with
 |none=>cases h
 |some x=>exact⟨x,rfl,h⟩
theorem bU {α : Type} {b:Bool} {k:Option α} {r : α} (h:aZ b k=some r):b=true∧k=some r:=by
 cases b with
 |false=>cases h
 |true=>exact⟨rfl,h⟩
theorem bind_some {α β : Type} {o:Option β} {k : β→Option α} {r : α} (h:Option.bind o k=some r):∃ x,o=some x∧k x=some r:=by
 cases o with
 |none=>cases h
 |some x=>exact⟨x,rfl,h⟩
theorem cj {α : Type} {v:Option V2} {k:Cell→Option α} {r : α} (h:ir v k=some r):∃ x,v=some (.c x)∧k x=some r:=by
 unfold ir at h
 split at h
 ·exact⟨_,rfl,h⟩
 ·cases h
theorem rz {α : Type} {v:Option V2} {k:Int→Option α} {r : α} (h:LA v k=some r):∃ kd n,v=some (.c (.int kd n))∧k n=some r:=by
 unfold LA at h
 split at h
 ·exact⟨_,_,rfl,h⟩
 ·cases h
theorem kf {α : Type} {v:Option V2} {k:Nat→Option α} {r : α} (h:FD v k=some r):∃ kd n,v=some (.c (.int kd n))∧0≤n∧k n.toNat=some r:=by
 obtain⟨kd,n,h1,h2⟩:=rz h
 obtain⟨h3,h4⟩:=bU h2
 exact⟨kd,n,h1,of_decide_eq_true h3,h4⟩
theorem oI {α : Type} {v:Option V2} {k:Bool→Option α} {r : α} (h:uw v k=some r):∃ b,v=some (.c (.bool b))∧k b=some r:=by
 unfold uw at h
 split at h
 ·exact⟨_,rfl,h⟩
 ·cases h
theorem J9 (v:Value):RC ρ B m2 (Vk v) (.d (.sc v)):=by
 cases v<;>first|rfl|exact rfl
theorem Ka {x:AV} {c:Cell} (h:Rx x=some c):RC ρ B m2 c x:=by
 unfold Rx at h
 split at h
 ·injection h with h;subst h;exact J9 _
 ·injection h with h;subst h;rfl
 ·cases h
theorem uE:∀ {l:List AV} {cs:List Cell},xg l=some cs→az (RC ρ B m2) cs l
 |[],cs,h=>by simp only[xg,Option.some.injEq] at h;subst h;trivial
 | x :: r, cs, h => by
  simp only[xg] at h
  split at h
  ·rename_i y ys h1 h2
   injection h with h;subst h
   exact⟨Ka h1,uE h2⟩
  ·cases h
theorem RF {x:AV} {v:V2} (h:Vl x=some v):RV ρ B m2 v x:=by
 unfold Vl at h
 split at h
 ·obtain ⟨cs, h1, rfl⟩ := aM h
  exact⟨_,rfl,uE h1⟩
 ·injection h with h; subst h
  exact⟨[],rfl,trivial⟩
 ·injection h with h; subst h
  exact⟨[],rfl,trivial⟩
 ·obtain ⟨c, h1, rfl⟩ := aM h
  exact Ka h1
theorem RG {x:D} {c:Cell} (h:Ry x=some c):RC ρ B m2 c (.d x):=by
 unfold Ry at h
 split at h
 ·injection h with h;subst h;exact J9 _
 ·injection h with h;subst h;exact .inl rfl
 ·cases h
theorem FK:∀ {l:List D} {cs:List Cell},nF l=some cs→az (RC ρ B m2) cs (l.map .d)
 |[],cs,h=>by simp only[nF,Option.some.injEq] at h;subst h;trivial
 | x :: r, cs, h => by
  simp only[nF] at h
  split at h
  ·rename_i y ys h1 h2
   injection h with h;subst h
   exact⟨RG h1,FK h2⟩
  ·cases h
theorem nQ:∀ {l:List D} {cs:List Cell},nF l=some cs→bO cs=some l
 |[],cs,h=>by simp only[nF,Option.some.injEq] at h;subst h;rfl
 | x :: r, cs, h => by
  simp only[nF] at h
  split at h
  ·rename_i y ys h1 h2
   injection h with h;subst h
   have:qo y=some x:=by
    unfold Ry at h1
    split at h1
    ·rename_i v
     injection h1 with h1;subst h1
     cases v<;>rfl
    ·injection h1 with h1;subst h1;rfl
    ·cases h1
   simp only[bO,this,nQ h2]
  ·cases h
theorem bg {s2:S2} {sl:Tr AV} (hs:tw ρ B m2 s2.slots sl) {x:bR} {v:V2} (h:iF s2 x=some v):RV ρ B m2 v (x.ev sl):=by
 cases x with
 |t n=>exact hs n v h
 |c a=>exact RF h
theorem oJ {s2:S2} {sl:Tr AV} (hs:tw ρ B m2 s2.slots sl):∀ {l:List bR} {vs:List V2},DM s2 l=some vs→az (RV ρ B m2) vs (Hw sl l)
 |[],vs,h=>by simp only[DM,Option.some.injEq] at h;subst h;trivial
 | x :: r, vs, h => by
  simp only[DM] at h
  split at h
  ·rename_i y ys h1 h2
   injection h with h;subst h
   exact⟨bg hs h1,oJ hs h2⟩
  ·cases h
theorem RC.cell {c:Cell} {a:AV} (h:RC ρ B m2 c a):cellsOf a=some [a]∧lK a=true∧fO a=true:=by
 cases c with
 |nil f=>cases f with
  |true=>cases h;exact⟨rfl,rfl,rfl⟩
  |false=>rcases h with rfl|⟨o,_,rfl⟩<;>exact⟨rfl,rfl,rfl⟩
 |sl t l o=>
  cases o with
  |app v=>rcases h with⟨_,⟨_,rfl⟩|⟨u,_,rfl⟩⟩<;>exact⟨rfl,rfl,rfl⟩
  |d=>rcases h with rfl|⟨o,_,rfl⟩<;>exact⟨rfl,rfl,rfl⟩
  |full=>cases h;exact⟨rfl,rfl,rfl⟩
  |aJ=>rcases h with rfl|⟨o,rfl⟩<;>exact⟨rfl,rfl,rfl⟩
 |ref lv sl af t=>obtain⟨_,u,n,_,rfl,_⟩:=h;exact⟨rfl,rfl,rfl⟩
 |jg lv sl af t off len=>obtain⟨_,u,_,rfl,_⟩:=h;exact⟨rfl,rfl,rfl⟩
 |ptr lv sl af i off=>obtain⟨_,u,_,rfl⟩:=h;exact⟨rfl,rfl,rfl⟩
 |eH lv sl af off n sz=>obtain⟨_,u,_,rfl⟩:=h;exact⟨rfl,rfl,rfl⟩
 |mp lv sl af=>obtain⟨_,u,_,rfl⟩:=h;exact⟨rfl,rfl,rfl⟩
 |_=>cases h;exact⟨rfl,rfl,rfl⟩
theorem uF {v:V2} {a:AV} {cs:List Cell} (h:V2.cells? v=some cs) (hv:RV ρ B m2 v a):∃ aK,cellsOf a=some aK∧az (RC ρ B m2) cs aK:=by
 cases v with
 |c x=>simp only[V2.cells?,Option.some.injEq] at h;subst h;exact⟨[a],(RC.cell hv).1,hv,trivial⟩
 |agg l=>simp only[V2.cells?,Option.some.injEq] at h;subst h;obtain⟨aK,rfl,h2⟩:=hv;exact⟨aK,rfl,h2⟩
 |_=>cases h
theorem Aa {agg:Bool} {cs:List Cell} {aK:List AV} {v:V2} (h:jz agg cs=some v) (hc:az (RC ρ B m2) cs aK):∃ a,fq agg aK=some a∧RV ρ B m2 v a:=by
 cases agg with
 |true=>simp only[jz,Option.some.injEq] at h;subst h;exact⟨_,rfl,aK,rfl,hc⟩
 | false =>
  simp only[jz] at h
  split at h
  ·injection h with h; subst h
   match aK,hc with
   |[a],hc=>exact⟨a,rfl,hc.1⟩
  ·cases h
theorem jA (m:List (Tr E2)) (lv sl cl cX:Nat) (e:Option E2) :
  iY (BC m lv sl e) cl cX=if lv=cl∧sl=cX∧lv<m.length then e else iY m cl cX:=by
 unfold iY BC
 rw[List.getElem?_modify]
 by_cases h:lv=cl
 ·subst h
  simp only[if_true]
  cases hm:m[lv]? with
  | none =>
   have:¬lv<m.length:=by
    intro hl
    rw[List.getElem?_eq_getElem hl] at hm
    cases hm
   simp[this]
  | some t =>
   have:lv<m.length:=by
    rcases Nat.lt_or_ge lv m.length with hl|hl
    ·exact hl
    ·rw[List.getElem?_eq_none hl] at hm;cases hm
   simp[Tr.cr,this]
 ·simp[h]
theorem qp (m:List (Tr E2)) (lv sl:Nat) (e:Option E2):(BC m lv sl e).length=m.length:=by simp[BC]
theorem gL (m:List (Tr bH)) (lv sl:Nat) (e:Option bH):(bN m lv sl e).length=m.length:=by simp[bN]
theorem xm:∀ (l:List (Nat×Nat×Option E2)) (m:List (Tr E2)),(eN m l).length=m.length
 |[],_=>rfl
 |(lv,sl,e) :: r,m=>by rw[eN,xm r,qp]
theorem cS:∀ (l:List (Nat×Nat×Option bH)) (m:List (Tr bH)),(bB m l).length=m.length
 |[],_=>rfl
 |(lv,sl,e) :: r,m=>by rw[bB,cS r,gL]
def OE (ρ : bG) (B:Nat) (m:List (Tr E2)) (x:Option E2) (y:Option bH):Prop:=∀ e2,x=some e2→∃ e,y=some e∧RE ρ B m e2 e
def LF (ρ : bG) (B:Nat) (m:List (Tr E2)) (x:Nat×Nat×Option E2) (y:Nat×Nat×Option bH):Prop:=x.1=y.1∧x.2.1=y.2.1∧OE ρ B m x.2.2 y.2.2
theorem Kb {B':Nat} {mf:List (Tr E2)} : ∀ {Ey:List (Nat×Nat×Option E2)} {us:List (Nat×Nat×Option bH)} {m2:List (Tr E2)} {m:List (Tr bH)},
  az (LF ρ B' mf) Ey us→m2.length=m.length→(∀ lv sl,OE ρ B' mf (iY m2 lv sl) (aN m lv sl))→∀ lv sl,OE ρ B' mf (iY (eN m2 Ey) lv sl) (aN (bB m us) lv sl)
 |[],[],_,_,_,_,h=>h
 |(YO,YP,e2) :: r2,(lv,sl,e) :: r,m2,m,hu,hl,h=>by
  obtain⟨⟨h1,h2,h3⟩,hr⟩:=hu
  simp only at h1 h2 h3
  subst h1 h2
  refine Kb (m2:=BC m2 YO YP e2) (m:=bN m YO YP e) hr (by rw[qp,gL,hl]) fun cl cX=>?_
  rw[jA,bX,hl]
  split
  ·exact h3
  ·exact h cl cX
 |[],_ :: _,_,_,hu,_,_=>hu.elim
 |_ :: _,[],_,_,hu,_,_=>hu.elim
theorem MR.cK {B':Nat} {Ey:List (Nat×Nat×Option E2)} {us:List (Nat×Nat×Option bH)} (h:MR ρ B m2 m) (hB:B≤B') (hst:eg B m2 (eN m2 Ey)) (hu:az (LF ρ B' (eN m2 Ey)) Ey us):MR ρ B' (eN m2 Ey) (bB m us):=by
 refine⟨by rw[xm,cS,h.len],fun lv sl e2 he=>Kb hu h.len (fun lv sl e2 he=>?_) lv sl e2 he⟩
 obtain⟨e,h1,h2⟩:=h.ec lv sl e2 he
 exact⟨e,h1,RE.mono hB (fun _ _=>rfl) (fun _ _=>RC.move hst hB fun _ _=>rfl) h2⟩
theorem cy {lv sl af:Nat} {r:SL} (h:rowOf m2 lv sl af=some r):iY m2 lv sl=some (.row af r.t r.l):=by
 unfold rowOf at h
 split at h
 ·rename_i v t l he
  split at h
  ·rename_i hv
   injection h with h;subst h
   rw[he,Nat.eq_of_beq_eq_true hv]
  ·cases h
 ·cases h
theorem fm {lv sl af:Nat} {r:SL} : rowOf m2 lv sl af=some r↔iY m2 lv sl=some (.row af r.t r.l):=by
 refine⟨cy,fun h=>?_⟩
 unfold rowOf
 rw[h]
 simp
theorem kU (n:Nat):Nat.beq n n=true:=by simp
theorem iu (hm:MR ρ B m2 m) {lv sl af u:Nat} {r:SL} (h:rowOf m2 lv sl af=some r) (hu : ρ af=some u):aN m lv sl=some (.row u (bx r.t r.l))∧bI.rowAt m lv sl u=some (bx r.t r.l):=by
 obtain⟨e,h1,_,u',h2,rfl⟩:=hm.ec _ _ _ (cy h)
 rw[hu] at h2
 injection h2 with h2;subst h2
 refine⟨h1,?_⟩
 unfold bI.rowAt
 rw[h1]
 simp only[kU]
theorem FL (hm:MR ρ B m2 m) {lv sl af u:Nat} {r:SL} (h:rowOf m2 lv sl af=some r) (hu : ρ af=some u):bI.nj m lv sl u=some (bx r.t r.l):=by
 have h1:=(iu hm h hu).1
 unfold bI.nj
 rw[h1]
 simp only[kU]
theorem bn (t:Ty) (l:List t.den):(bx t l).length=l.length:=by simp[bx]
theorem fT (t:Ty) (l:List t.den):(bx t l).all (fun e=>e.length==t.size)=true:=by
 simp[bx,List.all_eq_true,dQ]
theorem Ab (t:Ty) (l:List t.den) (i:Nat):(bx t l)[i]?=(l[i]?).map (ef t):=by simp[bx]
theorem kV (t:Ty) (l l':List t.den):bx t (l++l')=bx t l++bx t l':=by simp[bx]
theorem jS (hm:MR ρ B m2 m) {lv sl af:Nat} {t:Ty} {r:SL} {a:AV} (h:RC ρ B m2 (.ref lv sl af t) a) (hr:rowOf m2 lv sl af=some r):dK m a=some (bx r.t r.l):=by
 obtain⟨_,u,n,hu,rfl,hn⟩:=h
 have:=FL hm hr hu
 simp only[dK,this,Option.bind_some]
 rw[hn r hr]
 simp[bn,List.take_of_length_le]
theorem jh (hm:MR ρ B m2 m) {lv sl af off len:Nat} {t:Ty} {r:SL} {a:AV} (h:RC ρ B m2 (.jg lv sl af t off len) a) (hr:rowOf m2 lv sl af=some r) (hl:off+len≤r.l.length):dK m a=some (bx r.t ((r.l.drop off).take len)):=by
 obtain⟨_,u,hu,rfl,_⟩:=h
 have:=FL hm hr hu
 simp only[dK,this,Option.bind_some]
 simp[hl,bx,List.map_take,List.map_drop]
theorem gj {t:Ty} {l:List t.den} {o:Ow} {a:AV} (h:RC ρ B m2 (.sl t l o) a):dK m a=some (bx t l)∧(a=.d (.sl (bx t l))∨∃ o',a=.own (bx t l) o')∧(o≠.aJ→a=.d (.sl (bx t l))∨∃ o',o'≠.aJ∧a=.own (bx t l) o'):=by
 cases o with
 |app v=>rcases h with⟨_,⟨_,rfl⟩|⟨u,_,rfl⟩⟩<;>exact⟨rfl,.inr ⟨_,rfl⟩,fun _=>.inr ⟨_,by simp,rfl⟩⟩
 |d=>
  rcases h with rfl|⟨o,ho,rfl⟩
  ·exact⟨rfl,.inl rfl,fun _=>.inl rfl⟩
  ·exact⟨rfl,.inr ⟨_,rfl⟩,fun _=>.inr ⟨_,ho,rfl⟩⟩
 |full=>cases h;exact⟨rfl,.inr ⟨_,rfl⟩,fun _=>.inr ⟨_,by simp,rfl⟩⟩
 |aJ=>
  rcases h with rfl|⟨o,rfl⟩
  ·exact⟨rfl,.inl rfl,fun h=>(h rfl).elim⟩
  ·exact⟨rfl,.inr ⟨_,rfl⟩,fun h=>(h rfl).elim⟩
theorem fM {f:Bool} {a:AV} (h:RC ρ B m2 (.nil f) a):dK m a=some []∧(a=.d (.sl [])∨∃ o',o'≠.aJ∧a=.own [] o'):=by
 cases f with
 |true=>cases h;exact⟨rfl,.inr ⟨_,by simp,rfl⟩⟩
 |false=>
  rcases h with rfl|⟨o,ho,rfl⟩
  ·exact⟨rfl,.inl rfl⟩
  ·exact⟨rfl,.inr ⟨_,ho,rfl⟩⟩
theorem Kc {els:List (List D)} {o:MZ} (h:o≠.aJ):xM m (.own els o)=some (.sl els,[]):=by
 cases o with
 |aJ=>exact (h rfl).elim
 |_=>rfl
theorem RH (hm:MR ρ B m2 m) {c c':Cell} {a:AV} {ks:List (Nat×Nat)} (h:Io m2 c=some (c',ks)) (hc:RC ρ B m2 c a):∃ d,xM m a=some (d,ks)∧qo c'=some d:=by
 unfold Io at h
 split at h
 ·injection h with h;injection h with h1 h2;subst h1 h2;cases hc;exact⟨_,rfl,rfl⟩
 ·injection h with h;injection h with h1 h2;subst h1 h2;cases hc;exact⟨_,rfl,rfl⟩
 ·injection h with h;injection h with h1 h2;subst h1 h2;cases hc;exact⟨_,rfl,rfl⟩
 ·injection h with h;injection h with h1 h2;subst h1 h2;cases hc;exact⟨_,rfl,rfl⟩
 ·injection h with h; injection h with h1 h2; subst h1 h2
  rcases (fM (m:=m) hc).2 with rfl|⟨o,ho,rfl⟩
  ·exact⟨_,rfl,rfl⟩
  ·exact⟨_,Kc ho,rfl⟩
 ·cases h
 ·rename_i t l o hne
  injection h with h;injection h with h1 h2;subst h1 h2
  rcases (gj (m:=m) hc).2.2 (fun e=>hne e) with rfl|⟨o',ho,rfl⟩
  ·exact⟨_,rfl,rfl⟩
  ·exact⟨_,Kc ho,rfl⟩
 ·rename_i lv sl af t
  split at h
  ·rename_i r hr
   injection h with h;injection h with h1 h2;subst h1 h2
   have he:=jS hm hc hr
   obtain⟨_,u,n,hu,rfl,hn⟩:=hc
   refine⟨.sl (bx r.t r.l),?_,rfl⟩
   simp only[xM,he,Option.map_some]
  ·cases h
 ·rename_i lv sl af t off len
  split at h
  ·rename_i r hr
   injection h with h;injection h with h1 h2;subst h1 h2
   have he:=jh hm hc hr (hc.2.choose_spec.2.2 r hr)
   obtain⟨_,u,hu,rfl,hn⟩:=hc
   refine⟨.sl (bx r.t ((r.l.drop off).take len)),?_,rfl⟩
   simp only[xM,he,Option.map_some]
  ·cases h
 ·cases h
theorem It (hm:MR ρ B m2 m):∀ {cs cs':List Cell} {aK:List AV} {ks:List (Nat×Nat)},j5 m2 cs=some (cs',ks)→az (RC ρ B m2) cs aK→∃ ds,yU m aK=some (ds,ks)∧bO cs'=some ds
 |[],cs',aK,ks,h,ha=>by
  match aK,ha with
  |[],_=>simp only[j5,Option.some.injEq,Prod.mk.injEq] at h;obtain⟨rfl,rfl⟩:=h;exact⟨[],rfl,rfl⟩
 | c :: r, cs', aK, ks, h, ha => by
  match aK,ha with
  | a :: aK, ⟨ha, hr⟩ =>
   simp only[j5] at h
   split at h
   ·rename_i y k ys k' h1 h2
    injection h with h;injection h with h3 h4;subst h3 h4
    obtain⟨d,g1,g2⟩:=RH hm h1 ha
    obtain⟨ds,g3,g4⟩:=It hm h2 hr
    exact⟨d :: ds,by simp only[yU,g1,g3],by simp only[bO,g2,g4]⟩
   ·cases h
theorem jT {α : Type} (hm:MR ρ B m2 m) {x:Cell} {a:AV} {e:Option Ty} {K:SL→Option α} {r : α} (h:nG m2 x e K=some r) (hx:RC ρ B m2 x a):∃ n,gQ m a=some (bx n.t n.l)∧K n=some r:=by
 have key:∀ {a:AV} {els:List (List D)},dK m a=some els→(∀ b,a≠.d (.sc (.string b)))→gQ m a=some els:=by
  intro a els he hne
  unfold gQ
  split
  ·rename_i b;exact absurd rfl (hne b)
  ·exact he
 unfold nG at h
 split at h
 ·rename_i t l o
  refine⟨⟨t,l⟩,key (gj hx).1 fun b hb=>?_,h⟩
  have:=(gj (m:=m) hx).1
  rw[hb] at this;cases this
 ·rename_i f
  obtain⟨t,rfl,h⟩:=au h
  refine⟨⟨t,[]⟩,key (fM hx).1 fun b hb=>?_,h⟩
  have:=(fM (m:=m) hx).1
  rw[hb] at this;cases this
 ·rename_i lv sl af t
  obtain⟨r',hr,h⟩:=au h
  refine⟨r',key (jS hm hx hr) fun b hb=>?_,h⟩
  have:=jS hm hx hr
  rw[hb] at this;cases this
 ·rename_i lv sl af t off len
  obtain⟨r',hr,h⟩:=au h
  obtain⟨hl,h⟩:=bU h
  have hl:=of_decide_eq_true hl
  refine⟨⟨r'.t,(r'.l.drop off).take len⟩,key (jh hm hx hr hl) fun b hb=>?_,h⟩
  have:=jh hm hx hr hl
  rw[hb] at this;cases this
 ·rename_i s
  cases hx
  exact⟨⟨.int .u8,cu s⟩,by simp[gQ,bx,cu,ef,List.map_map,Function.comp_def],h⟩
 ·cases h
end
end Go.Sym
