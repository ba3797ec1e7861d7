/- A part of the proof: SymC, SymD. -/
import Derived.Test.YthphehfgekjooaaGreatDoorSymB
import Derived.Laws.Strings
set_option linter.unusedVariables false
set_option linter.unusedSimpArgs false
namespace Go.Sym
open Go Go.bq
section
variable {ρ : aR} {B:Nat} {m2:List (Tr E2)} {m:List (Tr aZ)}
theorem ak {α β : Type} {o:Option β} {k : β→Option α} {r : α} (h:bE o k=some r):∃ x,o=some x∧k x=some r:=by
 cases o with
 |none=>cases h
 |some x=>exact⟨x,rfl,h⟩
theorem bK {α : Type} {b:Bool} {k:Option α} {r : α} (h:aM b k=some r):b=true∧k=some r:=by
 grind[aM]
theorem bind_some {α β : Type} {o:Option β} {k : β→Option α} {r : α} (h:Option.bind o k=some r):∃ x,o=some x∧k x=some r:=by
 cases o with
 |none=>cases h
 |some x=>grind
theorem bN {α : Type} {v:Option V2} {k:Cell→Option α} {r : α} (h:gT v k=some r):∃ x,v=some (.c x)∧k x=some r:=by
 unfold gT at h<;>grind
theorem sC {α : Type} {v:Option V2} {k:Int→Option α} {r : α} (h:NM v k=some r):∃ kd n,v=some (.c (.int kd n))∧k n=some r:=by
 unfold NM at h<;>grind
theorem kA {α : Type} {v:Option V2} {k:Nat→Option α} {r : α} (h:EU v k=some r):∃ kd n,v=some (.c (.int kd n))∧0≤n∧k n.toNat=some r:=by
 obtain⟨kd,n,h1,h2⟩:=sC h
 grind[aM,EU]
theorem pQ {α : Type} {v:Option V2} {k:Bool→Option α} {r : α} (h:uY v k=some r):∃ b,v=some (.c (.bool b))∧k b=some r:=by
 unfold uY at h<;>grind
theorem Ms (v:Value):RC ρ B m2 (Zr v) (.d (.sc v)):=by
 cases v<;>first|rfl|exact rfl
theorem Mt {x:AV} {c:Cell} (h:Ut x=some c):RC ρ B m2 c x:=by
 unfold Ut at h
 split at h
 ·cases h;exact Ms _
 ·cases h;rfl
 grind
theorem u6:∀ {l:List AV} {cs:List Cell},Ak l=some cs→aq (RC ρ B m2) cs l
 |[],cs,h=>by cases h;trivial
 | x :: r, cs, h => by
  simp[Ak] at h
  split at h
  ·rename_i y ys h1 h2
   cases h
   exact⟨Mt h1,u6 h2⟩
  grind
theorem UD {x:AV} {v:V2} (h:Zs x=some v):RV ρ B m2 v x:=by
 unfold Zs at h
 split at h
 ·obtain ⟨cs, h1, rfl⟩ := aG h
  exact⟨_,rfl,u6 h1⟩
 ·cases h
  exact⟨[],rfl,trivial⟩
 ·cases h
  exact⟨[],rfl,trivial⟩
 ·obtain ⟨c, h1, rfl⟩ := aG h
  exact Mt h1
theorem UE {x:D} {c:Cell} (h:Uu x=some c):RC ρ B m2 c (.d x):=by
 unfold Uu at h
 split at h
 ·cases h;exact Ms _
 ·cases h;exact .inl rfl
 grind
theorem HD:∀ {l:List D} {cs:List Cell},qZ l=some cs→aq (RC ρ B m2) cs (l.map .d)
 |[],cs,h=>by cases h;trivial
 | x :: r, cs, h => by
  simp[qZ] at h
  split at h
  ·rename_i y ys h1 h2
   cases h
   exact⟨UE h1,HD h2⟩
  grind
theorem oC:∀ {l:List D} {cs:List Cell},qZ l=some cs→bH cs=some l
 |[],cs,h=>by cases h;rfl
 | x :: r, cs, h => by
  simp[qZ] at h
  split at h
  ·rename_i y ys h1 h2
   cases h
   have:l9 y=some x:=by
    unfold Uu at h1
    split at h1
    ·rename_i v
     cases h1
     cases v<;>rfl
    ·cases h1;rfl
    grind
   simp[bH,this,oC h2]
  grind
theorem aO {s2:S2} {sl:Tr AV} (hs:tM ρ B m2 s2.slots sl) {x:bA} {v:V2} (h:ir s2 x=some v):RV ρ B m2 v (x.ev sl):=by
 cases x with
 |t n=>exact hs n v h
 |c a=>exact UD h
theorem pR {s2:S2} {sl:Tr AV} (hs:tM ρ B m2 s2.slots sl):∀ {l:List bA} {vs:List V2},Hp s2 l=some vs→aq (RV ρ B m2) vs (GB sl l)
 |[],vs,h=>by cases h;trivial
 | x :: r, vs, h => by
  simp[Hp] at h
  split at h
  ·rename_i y ys h1 h2
   cases h
   exact⟨aO hs h1,pR hs h2⟩
  grind
theorem RC.cell {c:Cell} {a:AV} (h:RC ρ B m2 c a):cellsOf a=some [a]∧mo a=true∧eY a=true:=by
 cases c with
 |nil f=>cases f with
  |true=>cases h;exact⟨rfl,rfl,rfl⟩
  |false=>rcases h with rfl|⟨o,_,rfl⟩<;>exact⟨rfl,rfl,rfl⟩
 |sl t l o=>
  cases o with
  |app v=>rcases h with⟨_,⟨_,rfl⟩|⟨u,_,rfl⟩⟩<;>exact⟨rfl,rfl,rfl⟩
  |d=>rcases h with rfl|⟨o,_,rfl⟩<;>exact⟨rfl,rfl,rfl⟩
  |full=>cases h;exact⟨rfl,rfl,rfl⟩
  |bB=>rcases h with rfl|⟨o,rfl⟩<;>exact⟨rfl,rfl,rfl⟩
 |ref lv sl aa t=>obtain⟨_,u,n,_,rfl,_⟩:=h;exact⟨rfl,rfl,rfl⟩
 |iT lv sl aa t off len=>obtain⟨_,u,_,rfl,_⟩:=h;exact⟨rfl,rfl,rfl⟩
 |ptr lv sl aa i off=>obtain⟨_,u,_,rfl⟩:=h;exact⟨rfl,rfl,rfl⟩
 |eA lv sl aa off n sz=>obtain⟨_,u,_,rfl⟩:=h;exact⟨rfl,rfl,rfl⟩
 |mp lv sl aa=>obtain⟨_,u,_,rfl⟩:=h;exact⟨rfl,rfl,rfl⟩
 |_=>cases h;exact⟨rfl,rfl,rfl⟩
theorem u7 {v:V2} {a:AV} {cs:List Cell} (h:V2.cells? v=some cs) (hv:RV ρ B m2 v a):∃ aD,cellsOf a=some aD∧aq (RC ρ B m2) cs aD:=by
 cases v with
 |c x=>cases h;exact⟨[a],(RC.cell hv).1,hv,trivial⟩
 |agg l=>cases h;obtain⟨aD,rfl,h2⟩:=hv;exact⟨aD,rfl,h2⟩
 |_=>cases h
theorem AD {agg:Bool} {cs:List Cell} {aD:List AV} {v:V2} (h:Am agg cs=some v) (hc:aq (RC ρ B m2) cs aD):∃ a,fO agg aD=some a∧RV ρ B m2 v a:=by
 cases agg with
 |true=>cases h;exact⟨_,rfl,aD,rfl,hc⟩
 | false =>
  simp[Am] at h
  split at h
  ·cases h
   match aD,hc with
   |[a],hc=>exact⟨a,rfl,hc.1⟩
  grind
theorem js (m:List (Tr E2)) (lv sl bV cS:Nat) (e:Option E2) :
  gL (Al m lv sl e) bV cS=if lv=bV∧sl=cS∧lv<m.length then e else gL m bV cS:=by
 unfold gL Al
 rw[List.getElem?_modify]
 by_cases h:lv=bV
 ·subst h
  cases hm:m[lv]? with
  |none=>
   grind
  | some t =>
   have:lv<m.length:=by
    grind
   simp[Tr.bQ,this]
 grind
theorem ry (m:List (Tr E2)) (lv sl:Nat) (e:Option E2):(Al m lv sl e).length=m.length:=by simp[Al]
theorem kX (m:List (Tr aZ)) (lv sl:Nat) (e:Option aZ):(bF m lv sl e).length=m.length:=by simp[bF]
theorem xT:∀ (l:List (Nat×Nat×Option E2)) (m:List (Tr E2)),(eE m l).length=m.length
 |[],_=>rfl
 |(lv,sl,e) :: r,m=>by rw[eE,xT r,ry]
theorem cA:∀ (l:List (Nat×Nat×Option aZ)) (m:List (Tr aZ)),(aX m l).length=m.length
 |[],_=>rfl
 |(lv,sl,e) :: r,m=>by rw[aX,cA r,kX]
def OE (ρ : aR) (B:Nat) (m:List (Tr E2)) (x:Option E2) (y:Option aZ):Prop:=∀ e2,x=some e2→∃ e,y=some e∧RE ρ B m e2 e
def NS (ρ : aR) (B:Nat) (m:List (Tr E2)) (x:Nat×Nat×Option E2) (y:Nat×Nat×Option aZ):Prop:=x.1=y.1∧x.2.1=y.2.1∧OE ρ B m x.2.2 y.2.2
theorem Mu {B':Nat} {mf:List (Tr E2)} : ∀ {Gn:List (Nat×Nat×Option E2)} {us:List (Nat×Nat×Option aZ)} {m2:List (Tr E2)} {m:List (Tr aZ)},
  aq (NS ρ B' mf) Gn us→m2.length=m.length→(∀ lv sl,OE ρ B' mf (gL m2 lv sl) (aC m lv sl))→∀ lv sl,OE ρ B' mf (gL (eE m2 Gn) lv sl) (aC (aX m us) lv sl)
 |[],[],_,_,_,_,h=>h
 |(lv2,sl2,e2) :: r2,(lv,sl,e) :: r,m2,m,hu,hl,h=>by
  obtain⟨⟨h1,h2,h3⟩,hr⟩:=hu
  subst h1 h2
  refine Mu (m2:=Al m2 lv2 sl2 e2) (m:=bF m lv2 sl2 e) hr (by rw[ry,kX,hl]) fun bV cS=>?_
  rw[js,bM,hl]<;>grind
 |[],_ :: _,_,_,hu,_,_=>hu.elim
 |_ :: _,[],_,_,hu,_,_=>hu.elim
theorem MR.cv {B':Nat} {Gn:List (Nat×Nat×Option E2)} {us:List (Nat×Nat×Option aZ)} (h:MR ρ B m2 m) (hB:B≤B') (hst:dR B m2 (eE m2 Gn)) (hu:aq (NS ρ B' (eE m2 Gn)) Gn us):MR ρ B' (eE m2 Gn) (aX m us):=by
 refine⟨by rw[xT,cA,h.len],fun lv sl e2 he=>Mu hu h.len (fun lv sl e2 he=>?_) lv sl e2 he⟩
 obtain⟨e,h1,h2⟩:=h.dW lv sl e2 he
 exact⟨e,h1,RE.mono hB (fun _ _=>rfl) (fun _ _=>RC.move hst hB fun _ _=>rfl) h2⟩
theorem bS {lv sl aa:Nat} {r:SL} (h:rowOf m2 lv sl aa=some r):gL m2 lv sl=some (.row aa r.t r.l):=by
 unfold rowOf at h
 split at h
 ·split at h
  ·cases h<;>simp_all
  grind
 grind
theorem fH {lv sl aa:Nat} {r:SL} : rowOf m2 lv sl aa=some r↔gL m2 lv sl=some (.row aa r.t r.l):=by
 refine⟨bS,fun h=>?_⟩<;>simp_all[gL,rowOf]
theorem rz (n:Nat):Nat.beq n n=true:=by simp
theorem gV (hm:MR ρ B m2 m) {lv sl aa u:Nat} {r:SL} (h:rowOf m2 lv sl aa=some r) (hu : ρ aa=some u):aC m lv sl=some (.row u (aS r.t r.l))∧bq.rowAt m lv sl u=some (aS r.t r.l):=by
 obtain⟨e,h1,_,u',h2,rfl⟩:=hm.dW _ _ _ (bS h)
 unfold bq.rowAt<;>simp_all
theorem HE (hm:MR ρ B m2 m) {lv sl aa u:Nat} {r:SL} (h:rowOf m2 lv sl aa=some r) (hu : ρ aa=some u):bq.qj m lv sl u=some (aS r.t r.l):=by
 have h1:=(gV hm h hu).1<;>simp_all[rowOf,aR,aS,qj]
theorem aQ (t:Ty) (l:List t.den):(aS t l).length=l.length:=by simp[aS]
theorem fI (t:Ty) (l:List t.den):(aS t l).all (fun e=>e.length==t.size)=true:=by
 simp[aS,List.all_eq_true,dM]
theorem AE (t:Ty) (l:List t.den) (i:Nat):(aS t l)[i]?=(l[i]?).map (dX t):=by simp[aS]
theorem lH (t:Ty) (l l':List t.den):aS t (l++l')=aS t l++aS t l':=by simp[aS]
theorem kZ (hm:MR ρ B m2 m) {lv sl aa:Nat} {t:Ty} {r:SL} {a:AV} (h:RC ρ B m2 (.ref lv sl aa t) a) (hr:rowOf m2 lv sl aa=some r):cH m a=some (aS r.t r.l):=by
 obtain⟨_,u,n,hu,rfl,hn⟩:=h
 have:=HE hm hr hu
 simp[cH,this,Option.bind_some]
 rw[hn r hr]
 simp[aQ,List.take_of_length_le]
theorem iU (hm:MR ρ B m2 m) {lv sl aa off len:Nat} {t:Ty} {r:SL} {a:AV} (h:RC ρ B m2 (.iT lv sl aa t off len) a) (hr:rowOf m2 lv sl aa=some r) (hl:off+len≤r.l.length):cH m a=some (aS r.t ((r.l.drop off).take len)):=by
 obtain⟨_,u,hu,rfl,_⟩:=h
 have:=HE hm hr hu<;>simp_all[rowOf,aR,Ty.den,aS,Ty.size,cH]
theorem fQ {t:Ty} {l:List t.den} {o:Ow} {a:AV} (h:RC ρ B m2 (.sl t l o) a):cH m a=some (aS t l)∧(a=.d (.sl (aS t l))∨∃ o',a=.own (aS t l) o')∧(o≠.bB→a=.d (.sl (aS t l))∨∃ o',o'≠.bB∧a=.own (aS t l) o'):=by
 cases o with
 |app v=>rcases h with⟨_,⟨_,rfl⟩|⟨u,_,rfl⟩⟩<;>exact⟨rfl,.inr ⟨_,rfl⟩,fun _=>.inr ⟨_,by simp,rfl⟩⟩
 |d=>
  rcases h with rfl|⟨o,ho,rfl⟩<;>simp_all[RC,Ty.den,aR,aS,cH]
 |full=>simp_all[RC,Ty.den,aR,aS,cH]
 |bB=>
  rcases h with rfl|⟨o,rfl⟩<;>simp_all[RC,Ty.den,aR,aS,cH]
theorem fE {f:Bool} {a:AV} (h:RC ρ B m2 (.nil f) a):cH m a=some []∧(a=.d (.sl [])∨∃ o',o'≠.bB∧a=.own [] o'):=by
 cases f with
 |true=>simp_all[RC,aR,cH]
 |false=>
  rcases h with rfl|⟨o,ho,rfl⟩<;>simp_all[RC,aR,cH]
theorem Mv {els:List (List D)} {o:PK} (h:o≠.bB):yB m (.own els o)=some (.sl els,[]):=by
 cases o with
 |bB=>grind
 |_=>rfl
theorem UF (hm:MR ρ B m2 m) {c c':Cell} {a:AV} {ks:List (Nat×Nat)} (h:Kc m2 c=some (c',ks)) (hc:RC ρ B m2 c a):∃ d,yB m a=some (d,ks)∧l9 c'=some d:=by
 unfold Kc at h
 split at h
 ·cases h<;>simp_all[RC,aR,l9,yB]
 ·cases h<;>simp_all[RC,aR,l9,yB]
 ·cases h<;>simp_all[RC,aR,l9,yB]
 ·cases h<;>simp_all[RC,aR,l9,yB]
 ·cases h
  rcases (fE (m:=m) hc).2 with rfl|⟨o,ho,rfl⟩
  ·exact⟨_,rfl,rfl⟩
  ·exact⟨_,Mv ho,rfl⟩
 ·cases h
 ·rename_i t l o hne
  cases h
  rcases (fQ (m:=m) hc).2.2 (fun e=>hne e) with rfl|⟨o',ho,rfl⟩
  ·exact⟨_,rfl,rfl⟩
  ·exact⟨_,Mv ho,rfl⟩
 ·split at h
  ·rename_i r hr
   cases h
   have he:=kZ hm hc hr
   obtain⟨_,u,n,hu,rfl,hn⟩:=hc
   refine⟨.sl (aS r.t r.l),?_,rfl⟩
   simp[yB,he,Option.map_some]
  grind
 ·rename_i lv sl aa t off len
  split at h
  ·rename_i r hr
   cases h
   have he:=iU hm hc hr (hc.2.choose_spec.2.2 r hr)
   obtain⟨_,u,hu,rfl,hn⟩:=hc
   refine⟨.sl (aS r.t ((r.l.drop off).take len)),?_,rfl⟩
   simp[yB,he,Option.map_some]
  grind
 grind
theorem Kj (hm:MR ρ B m2 m):∀ {cs cs':List Cell} {aD:List AV} {ks:List (Nat×Nat)},lz m2 cs=some (cs',ks)→aq (RC ρ B m2) cs aD→∃ ds,Cg m aD=some (ds,ks)∧bH cs'=some ds
 |[],cs',aD,ks,h,ha=>by
  match aD,ha with
  |[],_=>cases h;exact⟨[],rfl,rfl⟩
 | c :: r, cs', aD, ks, h, ha => by
  match aD,ha with
  | a :: aD, ⟨ha, hr⟩ =>
   simp[lz] at h
   split at h
   ·rename_i y k ys k' h1 h2
    cases h
    obtain⟨d,g1,g2⟩:=UF hm h1 ha
    obtain⟨ds,g3,g4⟩:=Kj hm h2 hr
    exact⟨d :: ds,by simp only[Cg,g1,g3],by simp only[bH,g2,g4]⟩
   grind
theorem jL {α : Type} (hm:MR ρ B m2 m) {x:Cell} {a:AV} {e:Option Ty} {K:SL→Option α} {r : α} (h:nH m2 x e K=some r) (hx:RC ρ B m2 x a):∃ n,fq m a=some (aS n.t n.l)∧K n=some r:=by
 have key:∀ {a:AV} {els:List (List D)},cH m a=some els→(∀ b,a≠.d (.sc (.string b)))→fq m a=some els:=by
  simp_all[RC,nH,aR,fq,cH]
 unfold nH at h
 split at h
 ·rename_i t l o
  refine⟨⟨t,l⟩,key (fQ hx).1 fun b hb=>?_,h⟩
  have:=(fQ (m:=m) hx).1
  rw[hb] at this;cases this
 ·obtain ⟨t, rfl, h⟩ := ak h
  refine⟨⟨t,[]⟩,key (fE hx).1 fun b hb=>?_,h⟩
  have:=(fE (m:=m) hx).1
  rw[hb] at this;cases this
 ·obtain ⟨r', hr, h⟩ := ak h
  refine⟨r',key (kZ hm hx hr) fun b hb=>?_,h⟩
  simp_all[rowOf,bE,RC,fq,cH,aR]
 ·rename_i lv sl aa t off len
  obtain⟨r',hr,h⟩:=ak h
  obtain⟨hl,h⟩:=bK h
  have hl:=of_decide_eq_true hl
  refine⟨⟨r'.t,(r'.l.drop off).take len⟩,key (iU hm hx hr hl) fun b hb=>?_,h⟩
  have:=iU hm hx hr hl
  rw[hb] at this;cases this
 ·rename_i s
  cases hx
  exact⟨⟨.int .u8,bx s⟩,by simp[fq,aS,bx,dX,List.map_map,Function.comp_def],h⟩
 grind
end
end Go.Sym
namespace Go.Sym
open Go Go.bq
def KR (ρ : aR) (k2 k:Nat×Nat×Nat):Prop:=(k2=k∧k.1=0)∨∃ v u,k2=jw v∧k=jw u∧ρ v=some u
def aK (ρ : aR) (l2 l:List (Nat×Nat×Nat)):Prop:=∀ k∈l,∃ k2∈l2,KR ρ k2 k
structure mU (ρ : aR) (B B':Nat) (s2:S2) (s:St) (E:Ho) (e:eU):Prop where
 val:RV ρ B' (eE s2.mem E.cv) E.val e.val
 mem:MR ρ B' (eE s2.mem E.cv) (aX s.mem e.cv)
 aB:TR ρ B' (dh s2.aB E.bR) (dh s.aB e.bR)
 adk:dR B s2.mem (eE s2.mem E.cv)
 rd:aK ρ E.rd e.rd
 wr:aK ρ E.wr e.wr
def cV {α : Type} (ρ : aR) (B B':Nat) (s2:S2) (s:St) (op:bL) (row dst p:Nat) (K:fP→Option α) (r : α):Prop:=
 ∃ E e,(∀ call sh,op.run call sh s row dst p=some (.bC e))∧mU ρ B B' s2 s E e∧K (.bC E)=some r
section
variable {α : Type} {ρ : aR} {B B':Nat} {s2:S2} {s:St} {op:bL} {row dst p nx:Nat} {K:fP→Option α} {r : α}
theorem MR.mono {m2:List (Tr E2)} {m:List (Tr aZ)} (h:MR ρ B m2 m) (hB:B≤B'):MR ρ B' m2 m:=
 ⟨h.len, fun lv sl e2 he => by
  obtain⟨e,h1,h2⟩:=h.dW lv sl e2 he
  exact⟨e,h1,RE.mono hB (fun _ _=>rfl) (fun _ _=>RC.move (dR.refl _ _) hB fun _ _=>rfl) h2⟩⟩
theorem TR.up {t2 t:Tr Unit} (h:TR ρ B t2 t) (hB:B≤B'):TR ρ B' t2 t:=fun v hv=>⟨by have:=(h v hv).1;omega,(h v hv).2⟩
theorem RV.up {m:List (Tr E2)} {v:V2} {a:AV} (h:RV ρ B m v a) (hB:B≤B'):RV ρ B' m v a:=h.move (dR.refl _ _) hB fun _ _=>rfl
theorem RC.up {m:List (Tr E2)} {v:Cell} {a:AV} (h:RC ρ B m v a) (hB:B≤B'):RC ρ B' m v a:=h.move (dR.refl _ _) hB fun _ _=>rfl
theorem aK.nil {l2:List (Nat×Nat×Nat)} : aK ρ l2 []:=fun _ h=>by cases h
theorem aK.append {a b c d:List (Nat×Nat×Nat)} (h:aK ρ a b) (k:aK ρ c d):aK ρ (a++c) (b++d):=by
 intro x hx
 rcases List.mem_append.1 hx with hx|hx
 ·obtain⟨y,h1,h2⟩:=h x hx;exact⟨y,List.mem_append_left _ h1,h2⟩
 ·obtain⟨y,h1,h2⟩:=k x hx;exact⟨y,List.mem_append_right _ h1,h2⟩
theorem aK.gW {a b:List (Nat×Nat×Nat)} (lv sl:Nat) (h:aK ρ a b):aK ρ (bw lv sl :: a) (bw lv sl :: b):=by
 intro x hx
 rcases List.mem_cons.1 hx with rfl|hx
 ·simp_all[aK,aR,KR,bw]
 ·obtain⟨y,h1,h2⟩:=h x hx<;>grind
theorem aK.gO (ks:List (Nat×Nat)):aK ρ (gO ks) (gO ks):=by
 intro x hx
 refine⟨x,hx,.inl ⟨rfl,?_⟩⟩
 obtain⟨k,_,rfl⟩:=List.mem_map.1 hx
 rfl
theorem sD {m:List (Tr E2)} {c:Cell} {a:AV} (h:RC ρ B m c a):aK ρ (ri c) (cF a):=by
 cases c with
 |nil f=>cases f with
  |true=>cases h;exact aK.nil
  |false=>rcases h with rfl|⟨o,_,rfl⟩<;>exact aK.nil
 |sl t l o=>rcases (fQ (m:=[]) h).2.1 with rfl|⟨o',rfl⟩<;>exact aK.nil
 |ref lv sl aa t=>obtain⟨_,u,n,_,rfl,_⟩:=h;exact aK.gW _ _ aK.nil
 |iT lv sl aa t off len=>obtain⟨_,u,_,rfl,_⟩:=h;exact aK.gW _ _ aK.nil
 |ptr lv sl aa i off=>obtain⟨_,u,_,rfl⟩:=h;exact aK.gW _ _ aK.nil
 |eA lv sl aa off n sz=>obtain⟨_,u,_,rfl⟩:=h;exact aK.gW _ _ aK.nil
 |mp lv sl aa=>obtain⟨_,u,_,rfl⟩:=h;exact aK.gW _ _ aK.nil
 |_=>cases h;exact aK.nil
theorem u9 {m:List (Tr E2)} : ∀ {cs:List Cell} {aD:List AV},aq (RC ρ B m) cs aD→aK ρ (cs.flatMap ri) (aD.flatMap cF)
 |[],[],_=>aK.nil
 |c :: cs,a :: aD,h=>by
  exact (sD h.1).append (u9 h.2)
 |[],_ :: _,h=>h.elim
 |_ :: _,[],h=>h.elim
theorem HF {a:AV} (h:cellsOf a=some [a]) (h0:mo a=true):dA a=cF a:=by
 cases a<;>first|rfl|cases h0
theorem Mw {m:List (Tr E2)} {v:V2} {a:AV} (h:RV ρ B m v a):aK ρ (ET v) (dA a):=by
 cases v with
 |c c=>
  rw[HF (RC.cell h).1 (RC.cell h).2.1]
  exact sD h
 |agg cs=>obtain⟨aD,rfl,h2⟩:=h;exact u9 h2
 |fB f cs=>obtain⟨aD,rfl,h2⟩:=h;exact aK.nil
 |gN vs=>obtain⟨aD,rfl,h2⟩:=h;exact aK.nil
theorem mU.wE (hs:MR ρ B s2.mem s.mem) (ht:TR ρ B s2.aB s.aB) (hB:B≤B') {v:V2} {a:AV} {QH rd:List (Nat×Nat×Nat)} (hv:RV ρ B s2.mem v a) (hr:aK ρ QH rd) :
  mU ρ B B' s2 s { val:=v,cv:=[],bR:=[],rd:=QH } { val:=a,cv:=[],bR:=[],rd:=rd }:=
 ⟨hv.up hB,hs.mono hB,ht.up hB,dR.refl _ _,hr,aK.nil⟩
variable (hm:MR ρ B s2.mem s.mem) (ht:TR ρ B s2.aB s.aB) (bI:tM ρ B s2.mem s2.slots s.slots) (hB:B≤B')
include hm ht hB
theorem cV.pure {v:V2} {a:AV} (hrun:∀ call sh,op.run call sh s row dst p=eU.pure a) (hv:RV ρ B s2.mem v a) (hK:K (jJ v)=some r):cV ρ B B' s2 s op row dst p K r:=
 ⟨_,_,hrun,.wE hm ht hB hv aK.nil,hK⟩
include bI
omit hm ht hB bI in
theorem pT {m:List (Tr E2)} {b:Bool} {a:AV} (h:RV ρ B m (.c (.bool b)) a):iu a=some b:=by cases h;rfl
omit hm ht hB bI in
theorem rA {m:List (Tr E2)} {k:IntKind} {n:Int} {a:AV} (h:RV ρ B m (.c (.int k n)) a):a=.d (.sc (.int k n)):=h
omit hm ht hB bI in
theorem gX {m:List (Tr E2)} {k:IntKind} {n:Int} {a:AV} (h:RV ρ B m (.c (.int k n)) a) (h0:0≤n):fo a=some n.toNat:=by
 cases h;simp[fo,qC,h0]
theorem NT {c a b:bA} {E:au} {wk:Wk} {ctx:Nat} (h:ck E wk ctx s2 row dst nx (.pick c a b) K=some r):cV ρ B B' s2 s (.pick c a b) row dst p K r:=by
 obtain⟨t,hc,h⟩:=pQ h
 have hb:=pT (aO bI hc)
 have hrun:∀ call sh,bL.run call sh s row dst p (.pick c a b)=eU.pure (if t then a.ev s.slots else b.ev s.slots):=fun _ _=>by simp[bL.run,hb]
 split at h
 ·rename_i x y hx hy
  refine .pure hm ht hB hrun (v:=.c (.bool (cond t x y))) ?_ h
  cases t with
  |true=>exact aO bI hx
  |false=>exact aO bI hy
 ·rename_i x y _ hx hy
  cases t with
  |true=>exact .pure hm ht hB hrun (aO bI hx) h
  |false=>exact .pure hm ht hB hrun (aO bI hy) h
 ·rename_i x hx _
  obtain⟨rfl,h⟩:=bK h
  exact .pure hm ht hB hrun (aO bI hx) h
 ·rename_i y _ hy
  obtain⟨ht',h⟩:=bK h
  cases t with
  |true=>cases ht'
  |false=>exact .pure hm ht hB hrun (aO bI hy) h
 grind
omit hm ht hB bI in
theorem wG {m:List (Tr E2)} {cs new:List Cell} {aD as':List AV} (h:aq (RC ρ B m) cs aD) (h':aq (RC ρ B m) new as') (off:Nat):aq (RC ρ B m) (bq.splice cs off new) (bq.splice aD off as'):=by
 unfold bq.splice
 rw[h'.length]
 first|exact ((h.take off).append h').append (h.drop _)|exact (h.take off).append (h'.append (h.drop _))
omit hm ht hB in
theorem AF:∀ {ps:List (Nat×Nat×bA)} {cs cs':List Cell} {aD:List AV},Dc s2 cs ps=some cs'→aq (RC ρ B s2.mem) cs aD→∃ as',n8 s.slots aD ps=some as'∧aq (RC ρ B s2.mem) cs' as'
 |[],cs,cs',aD,h,ha=>by
  cases h
  exact⟨aD,rfl,ha⟩
 | (off, sz, x) :: ps, cs, cs', aD, h, ha => by
  simp[Dc] at h
  split at h
  ·rename_i new hn
   obtain⟨v,hv,hc⟩:=aJ hn
   split at h
   ·rename_i hb
    rw[Bool.and_eq_true] at hb
    have h1:=Nat.eq_of_beq_eq_true hb.1
    have h2:=Nat.le_of_ble_eq_true hb.2
    obtain⟨Kk,g1,g2⟩:=u7 hc (aO bI hv)
    obtain⟨as',g3,g4⟩:=AF h (wG ha g2 off)
    refine⟨as',?_,g4⟩
    simp only[n8,g1]
    rw[if_pos ⟨by rw[←g2.length];exact h1,by rw[←ha.length];exact h2⟩]<;>omega
   grind
  grind
theorem Kl {z:List AV} {ps:List (Nat×Nat×bA)} (h:(bE ((Ak z).bind fun cs=>Dc s2 cs ps) fun cs=>K (jJ (.agg cs)))=some r):cV ρ B B' s2 s (.build z ps) row dst p K r:=by
 obtain⟨cs,hc,h⟩:=ak h
 obtain⟨cs0,h0,h1⟩:=aJ hc
 obtain⟨as',g1,g2⟩:=AF bI h1 (u6 h0)
 exact .pure hm ht hB (fun _ _=>by simp[bL.run,g1]) (v:=.agg cs) ⟨as',rfl,g2⟩ h
theorem Co {x:bA} {E:au} {wk:Wk} {ctx:Nat} (h:ck E wk ctx s2 row dst nx (.nilCheck x) K=some r):cV ρ B B' s2 s (.nilCheck x) row dst p K r:=by
 obtain⟨v,hv,h⟩:=ak h
 have hr:=aO bI hv
 split at h
 ·have hr' := hr
  obtain⟨_,u,_,he⟩:=hr
  exact .pure hm ht hB (fun _ _=>by simp only[bL.run,he]) hr' h
 ·have hr' := hr
  have he:x.ev s.slots=_:=hr
  exact .pure hm ht hB (fun _ _=>by simp only[bL.run,he]) hr' h
 ·have hr' := hr
  obtain⟨aD,he,_⟩:=hr
  exact .pure hm ht hB (fun _ _=>by simp[bL.run,he]) hr' h
 grind
omit hm ht hB bI in
theorem UG {k k':IntKind} {a b:Int} {QI:BinOp} {K:Cell→Option α} (h:Zt QI k a k' b K=some r):∃ v c,Ej QI k a k' b=some v∧K c=some r∧∀ (m:List (Tr E2)),RC ρ B m c (.d (.sc v)):=by
 unfold Zt at h
 split at h
 ·obtain ⟨h1, h⟩ := bK h
  refine⟨_,_,?_,h,fun _=>rfl⟩<;>simp_all[aM,aR,RC,Ej]
 ·obtain ⟨h1, h⟩ := bK h
  refine⟨_,_,?_,h,fun _=>rfl⟩<;>simp_all[aM,aR,RC,Ej]
 ·split at h
  ·cases h
  ·subst_vars
   split at h
   case h_4|h_5=>
    obtain⟨h1,h⟩:=bK h
    refine⟨_,_,?_,h,fun _=>rfl⟩
    have:¬b=0:=by simpa using h1
    simp[Ej,this]
   all_goals first
    |(refine⟨_,_,?_,h,fun _=>rfl⟩;simp[Ej,CC];done)
    |cases h
omit hm ht hB bI in
theorem ace (s:List UInt8):(⟨s.toArray⟩:ByteArray).toList=s:=by
 simp_all
end
end Go.Sym
