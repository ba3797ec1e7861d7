/- The machine over typed data: arguments and results of calls. -/
import Derived.Test.YtokjmkblnafppaaGreatDoorSymH
set_option linter.unusedVariables false
set_option linter.unusedSimpArgs false
namespace Go.Sym
open Go Go.bI
theorem xu {a b:Ty} {x:a.den} {y:b.den} (h:sN a b x=some y):(⟨b,y⟩:ff)=⟨a,x⟩:=by
 obtain⟨e,he⟩:=LD h
 subst e
 simp only at he
 rw[he]
theorem cO:∀ {ts:List Ty} {ds:List ff} {x:(tv ts).den},pack ts ds=some x→unpack ts x=ds
 |[],[],_,_=>rfl
 |[a],[d],x,h=>by
  have:=xu h
  simp only[unpack]
  rw[this]
 | a :: b :: r, d :: ds, x, h => by
  simp only[pack] at h
  split at h
  ·rename_i y z h1 h2
   injection h with h;subst h
   simp only[unpack]
   rw[xu h1,cO h2]
  ·cases h
 |[],_ :: _,_,h=>by simp[pack] at h
 |[_],[],_,h=>by simp[pack] at h
 |[_],_ :: _ :: _,_,h=>by simp[pack] at h
 |_ :: _ :: _,[],_,h=>by simp[pack] at h
theorem CC {a b:AX} (h:RB a b=true):a=b:=by
 unfold RB at h
 split at h
 ·rfl
 ·rw[Nat.eq_of_beq_eq_true h]
 ·rfl
 ·cases h
theorem yt {ρ : bG} {so:List (Tr AV)} {s2:S2} {s:St} {ax:AX} (hs:xq ρ so s2 s):∀ {os:ck} {y:(nK os).den},lD os ax s2=some y→
  ∃ s2' ρ',xq ρ' so s2' s∧Fr ρ s2.nv s.nv ρ' s2'.nv∧∀ {α : Type} (K:AX→S2→Option α),nL os y K=K ax s2'
 |[],_,h=>by simp[lD] at h
 | [x], y, h => by
  simp only[lD] at h
  split at h
  ·rename_i he
   obtain⟨ds,h1,h2⟩:=au h
   obtain⟨s2',ρ',g1,g2,g3⟩:=yq h1 hs
   refine⟨s2',ρ',g2,g3,fun K=>?_⟩
   simp only[nL,cO h2,g1,bW,CC he]
  ·cases h
 | x :: z :: r, y, h => by
  simp only[lD] at h
  split at h
  ·rename_i he
   obtain⟨y',h1,h2⟩:=au h
   injection h2 with h2;subst h2
   obtain⟨ds,h3,h4⟩:=aT h1
   obtain⟨s2',ρ',g1,g2,g3⟩:=yq h3 hs
   refine⟨s2',ρ',g2,g3,fun K=>?_⟩
   simp only[nL,cO h4,g1,bW,CC he]
  ·obtain ⟨y', h1, h2⟩ := au h
   injection h2 with h2;subst h2
   obtain⟨s2',ρ',g2,g3,g4⟩:=yt hs h1
   exact⟨s2',ρ',g2,g3,fun K=>by simp only[nL,g4]⟩
theorem RC.still {ρ ρ':bG} {B B':Nat} {m m':List (Tr E2)} {c:Cell} {a:AV} (hc:c.still=true) (h:RC ρ B m c a):RC ρ' B' m' c a:=by
 cases c with
 |nil f=>cases f<;>exact h
 |sl t l o=>cases o with
  |app v=>cases hc
  |_=>exact h
 |ref=>cases hc
 |jg=>cases hc
 |ptr=>cases hc
 |eH=>cases hc
 |mp=>cases hc
 |_=>exact h
theorem RCs.still {ρ ρ':bG} {B B':Nat} {m m':List (Tr E2)} : ∀ {cs:List Cell} {aK:List AV},cs.all Cell.still=true→az (RC ρ B m) cs aK→az (RC ρ' B' m') cs aK
 |[],[],_,_=>trivial
 |c :: cs,a :: aK,hc,h=>by
  rw[List.all_cons,Bool.and_eq_true] at hc
  exact⟨h.1.still hc.1,RCs.still hc.2 h.2⟩
 |[],_ :: _,_,h=>h.elim
 |_ :: _,[],_,h=>h.elim
theorem RV.still {ρ ρ':bG} {B B':Nat} {m m':List (Tr E2)} {v:V2} {a:AV} (hv:v.still=true) (h:RV ρ B m v a):RV ρ' B' m' v a:=by
 cases v with
 |c c=>exact RC.still hv h
 |agg cs=>obtain⟨aK,h1,h2⟩:=h;exact⟨aK,h1,RCs.still hv h2⟩
 |fV f cs=>obtain⟨aK,h1,h2⟩:=h;exact⟨aK,h1,RCs.still hv h2⟩
 | gZ vs =>
  obtain⟨aK,h1,h2⟩:=h
  refine⟨aK,h1,?_⟩
  clear h1
  replace hv:vs.all (fun v=>v.2.all Cell.still)=true:=hv
  induction vs generalizing aK with
  |nil=>cases aK<;>exact h2
  | cons v vs ih =>
   cases aK with
   |nil=>exact h2.elim
   | cons a aK =>
    rw[List.all_cons,Bool.and_eq_true] at hv
    refine⟨?_,ih aK h2.2 hv.2⟩
    obtain⟨b,cs⟩:=v
    cases b with
    |true=>obtain⟨bs,h3,h4⟩:=h2.1;exact⟨bs,h3,RCs.still hv.1 h4⟩
    |false=>
     obtain⟨c,h3,h4⟩:=h2.1
     refine⟨c,h3,h4.still ?_⟩
     subst h3
     simpa using hv.1
theorem Tr.D0 {α : Type} (v:Option α) (l r:Tr α) (k:Nat):(Tr.nd v l r).get? k=if k=0 then v else if k % 2=1 then l.get? (k / 2) else r.get? (k / 2-1):=by
 simp only[Tr.get?]
 cases h0:Nat.beq k 0 with
 |true=>simp[Nat.eq_of_beq_eq_true h0]
 |false=>
  have:=Nat.ne_of_beq_eq_false h0
  cases h1:Nat.beq (k % 2) 1 with
  |true=>simp[this,Nat.eq_of_beq_eq_true h1]
  |false=>simp[this,Nat.ne_of_beq_eq_false h1]
theorem Tr.RS {α : Type} (t:Tr α) (k:Nat):t.get? k=if k=0 then t.top else if k % 2=1 then t.left.get? (k / 2) else t.right.get? (k / 2-1):=by
 cases t with
 |lf=>simp[Tr.get?,Tr.top,Tr.left,Tr.right]
 |nd v l r=>rw[Tr.D0];rfl
theorem vH:∀ (t:Tr V2) (k:Nat) (v:V2),(loose t).get? k=some v→t.get? k=some v
 |.lf,_,_,h=>by simp[loose] at h
 | .nd x l r, k, v, h => by
  simp only[loose] at h
  rw[Tr.D0] at h ⊢
  by_cases h0:k=0
  ·rw [if_pos h0] at h ⊢
   split at h
   ·cases h
   ·split at h
    ·cases h
    ·exact h
  ·rw [if_neg h0] at h ⊢
   by_cases h1:k % 2=1
   ·rw [if_pos h1] at h ⊢
    exact vH l _ v h
   ·rw [if_neg h1] at h ⊢
    exact vH r _ v h
theorem nT:∀ (a b:Tr V2) (k:Nat) (v:V2),(merge a b).get? k=some v→(a.get? k=some v∧v.still=true)∨b.get? k=some v
 |.lf,_,_,_,h=>by simp[merge] at h
 | .nd x l r, b, k, v, h => by
  simp only[merge] at h
  rw[Tr.D0] at h
  rw[Tr.D0,Tr.RS b]
  by_cases h0:k=0
  ·rw [if_pos h0] at h ⊢
   rw[if_pos h0]
   split at h
   ·cases h
   ·split at h
    ·injection h with h;subst h;exact .inl ⟨rfl,by assumption⟩
    ·exact .inr h
  ·rw [if_neg h0] at h ⊢
   rw[if_neg h0]
   by_cases h1:k % 2=1
   ·rw [if_pos h1] at h ⊢
    rw[if_pos h1]
    exact nT l _ _ v h
   ·rw [if_neg h1] at h ⊢
    rw[if_neg h1]
    exact nT r _ _ v h
def ρ0:bG:=fun _=>none
theorem N4 {m:List (Tr bH)} {els:List (List D)} {o:MZ} (h:o≠.aJ):dM m (.own els o)=some (.d (.sl els),[]):=by
 cases o with
 |aJ=>exact absurd rfl h
 |_=>rfl
theorem N5 {m:List (Tr bH)} {els:List (List D)} {o:MZ} (h:o≠.aJ):cv m (.own els o)=some (.d (.sl els)):=by
 cases o with
 |aJ=>exact absurd rfl h
 |_=>rfl
def Ez (agg:Bool) (m:List (Tr bH)) (a a':AV) (k:List (Nat×Nat)):Prop:=(agg=true∧dM m a=some (a',k))∨(agg=false∧cv m a=some a'∧k=[])
theorem Ez.data {agg:Bool} {m:List (Tr bH)} {a:AV} {y:D} (e:a=.d y):Ez agg m a (.d y) []:=by
 subst e
 cases agg
 ·exact .inr ⟨rfl,rfl,rfl⟩
 ·exact .inl ⟨rfl,rfl⟩
theorem Ez.VA {agg:Bool} {m:List (Tr bH)} {a:AV} {els:List (List D)} {o:MZ} (ho:o≠.aJ) (e:a=.own els o):Ez agg m a (.d (.sl els)) []:=by
 subst e
 cases agg
 ·exact .inr ⟨rfl,N5 ho,rfl⟩
 ·exact .inl ⟨rfl,N4 ho⟩
theorem Ez.aeA {agg:Bool} {m:List (Tr bH)} {a:AV} {els:List (List D)} (e:a=.own els .aJ):Ez agg m a (.own els .aJ) []:=by
 subst e
 cases agg
 ·exact .inr ⟨rfl,rfl,rfl⟩
 ·exact .inl ⟨rfl,rfl⟩
section
variable {ρ : bG} {B:Nat} {m2:List (Tr E2)} {m:List (Tr bH)} (hm:MR ρ B m2 m)
include hm
theorem IE {agg:Bool} {c:cG} {x:Cell} {a:AV} {d:List ff} {k:List (Nat×Nat)} {b:List Bool} (h:c.arg m2 agg x=some (d,k,b)) (hx:RC ρ B m2 x a) (hb:∀ t∈b,t=true) :
  ∃ a' x',Ez agg m a a' k∧(∀ rest,c.fill (d++rest)=some (x',rest))∧RC ρ0 0 [] x' a':=by
 unfold cG.arg at h
 split at h<;>(try dsimp only at h)
 ·split at h
  ·simp only [Option.some.injEq, Prod.mk.injEq] at h; obtain ⟨rfl, rfl, rfl⟩ := h
   exact⟨_,_,Ez.data hx,fun _=>rfl,rfl⟩
  ·cases h
 ·simp only [Option.some.injEq, Prod.mk.injEq] at h; obtain ⟨rfl, rfl, rfl⟩ := h
  exact⟨_,_,Ez.data hx,fun _=>rfl,rfl⟩
 ·simp only [Option.some.injEq, Prod.mk.injEq] at h; obtain ⟨rfl, rfl, rfl⟩ := h
  exact⟨_,_,Ez.data hx,fun _=>rfl,rfl⟩
 ·rename_i t o f
  have key:∃ a',Ez agg m a a' []∧a'=.d (.sl (bx t [])):=by
   rcases (fM (m:=m) hx).2 with e|⟨o',ho,e⟩
   ·exact⟨_,Ez.data e,rfl⟩
   ·exact⟨_,Ez.VA ho e,rfl⟩
  obtain⟨a',g1,g2⟩:=key
  split at h
  ·simp only [Option.some.injEq, Prod.mk.injEq] at h; obtain ⟨rfl, rfl, rfl⟩ := h
   exact⟨_,_,g1,fun _=>rfl,.inl g2⟩
  ·simp only [Option.some.injEq, Prod.mk.injEq] at h; obtain ⟨rfl, rfl, rfl⟩ := h
   exact⟨_,_,g1,fun _=>rfl,.inl g2⟩
  ·cases h
 ·rename_i t0 o t l o'
  split at h
  ·simp only [Option.some.injEq, Prod.mk.injEq] at h; obtain ⟨rfl, rfl, rfl⟩ := h
   rcases (gj (m:=m) hx).2.1 with e|⟨o2,e⟩
   ·exact⟨_,_,Ez.data e,fun _=>rfl,.inl rfl⟩
   ·by_cases ho : o2 = .aJ
    ·subst ho;exact⟨_,_,Ez.aeA e,fun _=>rfl,.inr ⟨_,rfl⟩⟩
    ·exact⟨_,_,Ez.VA ho e,fun _=>rfl,.inl rfl⟩
  ·cases h
  ·rename_i hne
   simp only[Option.some.injEq,Prod.mk.injEq] at h;obtain⟨rfl,rfl,rfl⟩:=h
   rcases (gj (m:=m) hx).2.2 (fun e=>hne e) with e|⟨o2,ho,e⟩
   ·exact⟨_,_,Ez.data e,fun _=>rfl,.inl rfl⟩
   ·exact⟨_,_,Ez.VA ho e,fun _=>rfl,.inl rfl⟩
  ·cases h
 ·rename_i t0 o lv sq af t
  cases hr:rowOf m2 lv sq af with
  |none=>simp[hr] at h
  |some r=>
  simp only[hr] at h
  have he:=jS hm hx hr
  obtain⟨_,u,n,hu,rfl,hn⟩:=hx
  have hg:dM m (.ref lv sq u 0 n t.size)=some (.d (.sl (bx r.t r.l)),[(lv,sq)]):=by simp only[dM,xM,he,Option.map_some]
  have hl:cv m (.ref lv sq u 0 n t.size)=some (.own (bx r.t r.l) .aJ):=by simp only[cv,he,Option.map_some]
  cases o with
  |aJ=>cases agg with
   |false=>simp only[Option.some.injEq,Prod.mk.injEq] at h;obtain⟨rfl,rfl,rfl⟩:=h;exact⟨_,_,.inr ⟨rfl,hl,rfl⟩,fun _=>rfl,.inr ⟨_,rfl⟩⟩
   |true=>simp only[Option.some.injEq,Prod.mk.injEq] at h;obtain⟨rfl,rfl,rfl⟩:=h;exact⟨_,_,.inl ⟨rfl,hg⟩,fun _=>rfl,.inl rfl⟩
  |d=>cases agg with
   |false=>simp at h
   |true=>simp only[Option.some.injEq,Prod.mk.injEq] at h;obtain⟨rfl,rfl,rfl⟩:=h;exact⟨_,_,.inl ⟨rfl,hg⟩,fun _=>rfl,.inl rfl⟩
  |full=>cases agg<;>simp at h
  |app v=>cases agg<;>simp at h
 ·rename_i t0 o lv sq af t off len
  cases hr:rowOf m2 lv sq af with
  |none=>simp[hr] at h
  |some r=>
  simp only[hr] at h
  cases o with
  | aJ => cases agg with
   |false=>
    simp only[Option.some.injEq,Prod.mk.injEq] at h;obtain⟨rfl,rfl,rfl⟩:=h
    have he:=jh hm hx hr (of_decide_eq_true (hb _ List.mem_cons_self))
    obtain⟨_,u,hu,rfl,_⟩:=hx
    refine⟨.own (bx r.t ((r.l.drop off).take len)) .aJ,_,.inr ⟨rfl,?_,rfl⟩,fun _=>rfl,.inr ⟨_,rfl⟩⟩
    simp only[cv,he,Option.map_some]
   |true=>simp at h
  |d=>cases agg<;>simp at h
  |full=>cases agg<;>simp at h
  |app v=>cases agg<;>simp at h
 ·cases h
theorem Al:∀ {cs:List cG} {xs:List Cell} {aK:List AV} {d:List ff} {k:List (Nat×Nat)} {b:List Bool},xj m2 cs xs=some (d,k,b)→az (RC ρ B m2) xs aK→(∀ t∈b,t=true)→
  ∃ as' xs',dG m aK=some (as',k)∧(∀ rest,cH cs (d++rest)=some (xs',rest))∧az (RC ρ0 0 []) xs' as'
 |[],[],aK,d,k,b,h,ha,_=>by
  simp only[xj,Option.some.injEq,Prod.mk.injEq] at h
  obtain⟨rfl,rfl,rfl⟩:=h
  match aK,ha with
  |[],_=>exact⟨[],[],rfl,fun _=>rfl,trivial⟩
 | c :: cs, x :: xs, aK, d, k, b, h, ha, hb => by
  simp only[xj] at h
  split at h
  ·rename_i d1 k1 b1 d2 k2 b2 h1 h2
   simp only[Option.some.injEq,Prod.mk.injEq] at h;obtain⟨rfl,rfl,rfl⟩:=h
   match aK,ha with
   |a :: aK,ha=>
    obtain⟨a',x',g1,g2,g3⟩:=IE hm h1 ha.1 (fun t ht=>hb t (List.mem_append_left _ ht))
    have g1:dM m a=some (a',k1):=by rcases g1 with⟨_,g⟩|⟨g,_⟩;exact g;cases g
    obtain⟨as',xs',g4,g5,g6⟩:=Al h2 ha.2 (fun t ht=>hb t (List.mem_append_right _ ht))
    exact⟨a' :: as',x' :: xs',by simp only[dG,g1,g4],fun rest=>by simp only[cH,List.append_assoc,g2,g5],g3,g6⟩
  ·cases h
 |[],_ :: _,_,_,_,_,h,_,_=>by simp[xj] at h
 |_ :: _,[],_,_,_,_,h,_,_=>by simp[xj] at h
omit hm in
theorem LW {a:AV} (h0:cellsOf a=some [a]) (h1:lK a=true):sr m a=(cv m a).map fun y=>(y,[]):=by
 cases a<;>first|rfl|cases h1
omit hm in
theorem LX {a:AV} (h1:lK a=true):tD m a=dM m a:=by
 cases a<;>first|rfl|cases h1
theorem FY:∀ {ps:List dJ} {vs:List V2} {aK:List AV} {d:List ff} {k:List (Nat×Nat)} {b:List Bool},z1 m2 ps vs=some (d,k,b)→az (RV ρ B m2) vs aK→(∀ t∈b,t=true)→
  ∃ as' vs',nu m aK=some (as',k)∧(∀ rest,dm ps (d++rest)=some (vs',rest))∧az (RV ρ0 0 []) vs' as'
 |[],[],aK,d,k,b,h,ha,_=>by
  simp only[z1,Option.some.injEq,Prod.mk.injEq] at h
  obtain⟨rfl,rfl,rfl⟩:=h
  match aK,ha with
  |[],_=>exact⟨[],[],rfl,fun _=>rfl,trivial⟩
 | p :: ps, v :: vs, aK, d, k, b, h, ha, hb => by
  simp only[z1] at h
  split at h
  ·rename_i d1 k1 b1 d2 k2 b2 h1 h2
   simp only[Option.some.injEq,Prod.mk.injEq] at h;obtain⟨rfl,rfl,rfl⟩:=h
   match aK,ha with
   | a :: aK, ha =>
    obtain⟨as',vs',g4,g5,g6⟩:=FY h2 ha.2 (fun t ht=>hb t (List.mem_append_right _ ht))
    have sD:∀ t∈b1,t=true:=fun t ht=>hb t (List.mem_append_left _ ht)
    have one:∃ a' v',tD m a=some (a',k1)∧(∀ rest,dm (p :: ps) (d1++rest)=(match dm ps rest with
      |some (xs,r'')=>some (v' :: xs,r'')
      |none=>none))∧RV ρ0 0 [] v' a':=by
     unfold dJ.Z1 at h1
     split at h1
     ·obtain ⟨a', x', q0, q2, q3⟩ := IE hm h1 ha.1 sD
      have q1:dM m a=some (a',k1):=by rcases q0 with⟨_,g⟩|⟨g,_⟩;exact g;cases g
      have hc:=RC.cell ha.1
      exact⟨a',.c x',by rw[LX hc.2.1,q1],fun rest=>by simp only[dm,ux.fill,q2];rfl,q3⟩
     ·obtain ⟨bs, e, hc⟩ := ha.1
      subst e
      obtain⟨Iu,VB,q1,q2,q3⟩:=Al hm h1 hc sD
      exact⟨.agg Iu,.agg VB,by simp only[tD,q1,Option.map_some],fun rest=>by simp only[dm,ux.fill,q2];rfl,Iu,rfl,q3⟩
     ·cases h1
    obtain⟨a',v',g1,g2,g3⟩:=one
    exact⟨a' :: as',v' :: vs',by simp only[nu,g1,g4],fun rest=>by rw[List.append_assoc,g2,g5],g3,g6⟩
  ·cases h
 |[],_ :: _,_,_,_,_,h,_,_=>by simp[z1] at h
 |_ :: _,[],_,_,_,_,h,_,_=>by simp[z1] at h
theorem FZ:∀ {ps:List dJ} {vs:List V2} {aK:List AV} {d:List ff} {k:List (Nat×Nat)} {b:List Bool},zV m2 ps vs=some (d,k,b)→az (RV ρ B m2) vs aK→(∀ t∈b,t=true)→
  ∃ as' vs',lZ m aK=some (as',k)∧(∀ rest,dm ps (d++rest)=some (vs',rest))∧az (RV ρ0 0 []) vs' as'
 |[],[],aK,d,k,b,h,ha,_=>by
  simp only[zV,Option.some.injEq,Prod.mk.injEq] at h
  obtain⟨rfl,rfl,rfl⟩:=h
  match aK,ha with
  |[],_=>exact⟨[],[],rfl,fun _=>rfl,trivial⟩
 | p :: ps, v :: vs, aK, d, k, b, h, ha, hb => by
  simp only[zV] at h
  split at h
  ·rename_i d1 k1 b1 d2 k2 b2 h1 h2
   simp only[Option.some.injEq,Prod.mk.injEq] at h;obtain⟨rfl,rfl,rfl⟩:=h
   match aK,ha with
   | a :: aK, ha =>
    obtain⟨as',vs',g4,g5,g6⟩:=FZ h2 ha.2 (fun t ht=>hb t (List.mem_append_right _ ht))
    have sD:∀ t∈b1,t=true:=fun t ht=>hb t (List.mem_append_left _ ht)
    have one:∃ a' v',sr m a=some (a',k1)∧(∀ rest,dm (p :: ps) (d1++rest)=(match dm ps rest with
      |some (xs,r'')=>some (v' :: xs,r'')
      |none=>none))∧RV ρ0 0 [] v' a':=by
     unfold dJ.arg at h1
     split at h1
     ·obtain ⟨a', x', q0, q2, q3⟩ := IE hm h1 ha.1 sD
      have q1:cv m a=some a'∧k1=[]:=by rcases q0 with⟨g,_⟩|⟨_,g⟩;cases g;exact g
      obtain⟨q1,rfl⟩:=q1
      have hc:=RC.cell ha.1
      exact⟨a',.c x',by rw[LW hc.1 hc.2.1,q1];rfl,fun rest=>by simp only[dm,ux.fill,q2];rfl,q3⟩
     ·obtain ⟨bs, e, hc⟩ := ha.1
      subst e
      obtain⟨Iu,VB,q1,q2,q3⟩:=Al hm h1 hc sD
      exact⟨.agg Iu,.agg VB,by simp only[sr,q1,Option.map_some],fun rest=>by simp only[dm,ux.fill,q2];rfl,Iu,rfl,q3⟩
     ·split at h1
      ·rename_i f f' hf
       have e:=Nat.eq_of_beq_eq_true hf
       subst e
       simp only[Option.some.injEq,Prod.mk.injEq] at h1;obtain⟨rfl,rfl,rfl⟩:=h1
       obtain⟨bs,e,hc⟩:=ha.1
       subst e
       match bs,hc with
       |[],_=>exact⟨.fV _ [],.fV _ [],rfl,fun rest=>by simp only[dm,List.nil_append];rfl,[],rfl,trivial⟩
      ·cases h1
     ·cases h1
    obtain⟨a',v',g1,g2,g3⟩:=one
    exact⟨a' :: as',v' :: vs',by simp only[lZ,g1,g4],fun rest=>by rw[List.append_assoc,g2,g5],g3,g6⟩
  ·cases h
 |[],_ :: _,_,_,_,_,h,_,_=>by simp[zV] at h
 |_ :: _,[],_,_,_,_,h,_,_=>by simp[zV] at h
end
theorem uJ {sz:Nat} : ∀ (n:Nat) {l:List Cell} {ds:List D},bO l=some ds→az (fun c d=>bO c=some d) (bI.chunk sz n l) (bI.chunk sz n ds)
 |0,_,_,_=>trivial
 |n+1,_,_,h=>⟨qt sz h,uJ n (qu sz h)⟩
theorem uK {c:cG} {x':Cell} {d:List ff} {y:D} (hd:jR c x'=some d) (hy:qo x'=some y):∃ x2,(∀ rest,c.fill (d++rest)=some (x2,rest))∧∀ (ρ : bG) (B:Nat) (m:List (Tr E2)),RC ρ B m x2 (.d y):=by
 unfold jR at hd
 split at hd
 ·split at hd
  ·injection hd with hd; subst hd; injection hy with hy; subst hy
   exact⟨_,fun _=>rfl,fun _ _ _=>rfl⟩
  ·cases hd
 ·injection hd with hd; subst hd; injection hy with hy; subst hy
  exact⟨_,fun _=>rfl,fun _ _ _=>rfl⟩
 ·injection hd with hd; subst hd; injection hy with hy; subst hy
  exact⟨_,fun _=>rfl,fun _ _ _=>rfl⟩
 ·injection hd with hd; subst hd; injection hy with hy; subst hy
  exact⟨_,fun _=>rfl,fun _ _ _=>.inl rfl⟩
 ·injection hd with hd; subst hd; injection hy with hy; subst hy
  exact⟨_,fun _=>rfl,fun _ _ _=>.inl rfl⟩
 ·cases hd
theorem xw {els:List (List D)} {o:MZ} (h:o≠.aJ):jH (.own els o)=some (.d (.sl els)):=by
 cases o with
 |aJ=>exact absurd rfl h
 |_=>rfl
theorem VD {ρ : bG} {B:Nat} {m:List (Tr E2)} {x x':Cell} {a:AV} (h:ZZ x=some x') (hx:RC ρ B m x a):∃ y,jH a=some (.d y)∧qo x'=some y:=by
 unfold ZZ at h
 split at h
 ·injection h with h;subst h;cases hx;exact⟨_,rfl,rfl⟩
 ·injection h with h;subst h;cases hx;exact⟨_,rfl,rfl⟩
 ·injection h with h;subst h;cases hx;exact⟨_,rfl,rfl⟩
 ·injection h with h; subst h
  rcases (fM (m:=[]) hx).2 with rfl|⟨o,ho,rfl⟩
  ·exact⟨_,rfl,rfl⟩
  ·exact⟨_,xw ho,rfl⟩
 ·cases h
 ·rename_i t l o hne
  injection h with h;subst h
  rcases (gj (m:=[]) hx).2.2 (fun e=>hne e) with rfl|⟨o',ho,rfl⟩
  ·exact⟨_,rfl,rfl⟩
  ·exact⟨_,xw ho,rfl⟩
 ·cases h
theorem N6 {ρ : bG} {B:Nat} {m:List (Tr E2)} {c:cG} {x:Cell} {a:AV} {d:List ff} (h:(ZZ x).bind (jR c)=some d) (hx:RC ρ B m x a) :
  ∃ y x2,jH a=some (.d y)∧(∀ rest,c.fill (d++rest)=some (x2,rest))∧∀ (ρ : bG) (B:Nat) (m:List (Tr E2)),RC ρ B m x2 (.d y):=by
 obtain⟨x',h1,h2⟩:=aT h
 obtain⟨y,h3,h4⟩:=VD h1 hx
 obtain⟨x2,h5,h6⟩:=uK h2 h4
 exact⟨y,x2,h3,h5,h6⟩
theorem D1 {ρ : bG} {B:Nat} {m:List (Tr E2)} : ∀ {cs:List cG} {xs:List Cell} {aK:List AV} {ds:List ff},FF cs xs=some ds→az (RC ρ B m) xs aK→
  ∃ as' pK,hD aK=some as'∧(∀ rest,cH cs (ds++rest)=some (pK,rest))∧∀ (ρ : bG) (B:Nat) (m:List (Tr E2)),az (RC ρ B m) pK as'
 |[],[],[],ds,h,_=>by
  simp only[FF,Option.some.injEq] at h;subst h
  exact⟨[],[],rfl,fun _=>rfl,fun _ _ _=>trivial⟩
 | c :: cs, x :: xs, a :: aK, ds, h, ha => by
  simp only[FF] at h
  split at h
  ·rename_i d1 d2 h1 h2
   injection h with h;subst h
   obtain⟨y,x2,g1,g2,g3⟩:=N6 h1 ha.1
   obtain⟨as',pK,g4,g5,g6⟩:=D1 h2 ha.2
   exact⟨.d y :: as',x2 :: pK,by simp only[hD,g1,g4],fun rest=>by simp only[cH,List.append_assoc,g2,g5],fun ρ B m=>⟨g3 _ _ _,g6 _ _ _⟩⟩
  ·cases h
 |[],_ :: _,_,_,h,_=>by simp[FF] at h
 |_ :: _,[],_,_,h,_=>by simp[FF] at h
 |_,[],_ :: _,_,_,ha=>ha.elim
 |_,_ :: _,[],_,_,ha=>ha.elim
theorem RT {ρ : bG} {B:Nat} {m:List (Tr E2)} : ∀ {ps:List dJ} {vs:List V2} {aK:List AV} {ds:List ff},LC ps vs=some ds→az (RV ρ B m) vs aK→
  ∃ as' Z9,mL aK=some as'∧(∀ rest,dm ps (ds++rest)=some (Z9,rest))∧∀ (ρ : bG) (B:Nat) (m:List (Tr E2)),az (RV ρ B m) Z9 as':=by
 intro ps
 induction ps with
 | nil =>
  intro vs aK ds h ha
  match vs,aK,h,ha with
  |[],[],h,_=>
   simp only[LC,Option.some.injEq] at h;subst h
   exact⟨[],[],rfl,fun _=>rfl,fun _ _ _=>trivial⟩
 | cons p ps ih =>
  intro vs aK ds h ha
  unfold LC at h
  split at h
  ·cases ‹_ :: _=[]›
  ·rename_i e
   injection e with e1 e2
   subst e1 e2
   match aK,ha with
   |a :: aK,ha=>
   split at h
   ·rename_i d1 d2 h1 h2
    injection h with h;subst h
    obtain⟨y,x2,g1,g2,g3⟩:=N6 h1 ha.1
    obtain⟨as',pK,g4,g5,g6⟩:=ih h2 ha.2
    have g1:yW a=some (.d y):=by cases a<;>first|exact g1|cases g1
    exact⟨.d y :: as',.c x2 :: pK,by simp only[mL,g1,g4],fun rest=>by simp only[dm,ux.fill,List.append_assoc,g2,g5],fun ρ B m=>⟨g3 _ _ _,g6 _ _ _⟩⟩
   ·cases h
  ·rename_i e
   injection e with e1 e2
   subst e1 e2
   match aK,ha with
   |a :: aK,ha=>
   split at h
   ·rename_i d1 d2 h1 h2
    injection h with h;subst h
    obtain⟨⟨bs,rfl,hb⟩,YW⟩:=ha
    obtain⟨bs',x2,g1,g2,g3⟩:=D1 h1 hb
    obtain⟨as',pK,g4,g5,g6⟩:=ih h2 YW
    exact⟨.agg bs' :: as',.agg x2 :: pK,by simp only[mL,yW,g1,g4,Option.map_some],fun rest=>by simp only[dm,ux.fill,List.append_assoc,g2,g5],fun ρ B m=>⟨⟨_,rfl,g3 _ _ _⟩,g6 _ _ _⟩⟩
   ·cases h
  ·cases h
section
variable {ρ : bG} {B:Nat} {m2:List (Tr E2)} {m:List (Tr bH)} (hm:MR ρ B m2 m)
include hm
theorem RU {x x':Cell} {a:AV} (h:Vq m2 x=some x') (hx:RC ρ B m2 x a):∃ y,fP m a=some y∧qo x'=some y:=by
 unfold Vq at h
 split at h
 ·injection h with h;subst h;cases hx;exact⟨_,rfl,rfl⟩
 ·injection h with h;subst h;cases hx;exact⟨_,rfl,rfl⟩
 ·injection h with h;subst h;cases hx;exact⟨_,rfl,rfl⟩
 ·injection h with h;subst h;cases hx;exact⟨_,rfl,rfl⟩
 ·injection h with h; subst h
  rcases (fM (m:=m) hx).2 with rfl|⟨o,ho,rfl⟩<;>exact⟨_,rfl,rfl⟩
 ·injection h with h; subst h
  rcases (gj (m:=m) hx).2.1 with rfl|⟨o,rfl⟩<;>exact⟨_,rfl,rfl⟩
 ·split at h
  ·rename_i r hr
   injection h with h;subst h
   have he:=jS hm hx hr
   obtain⟨_,u,n,hu,rfl,hn⟩:=hx
   exact⟨_,by simp only[fP,he,Option.map_some],rfl⟩
  ·cases h
 ·split at h
  ·rename_i r hr
   injection h with h;subst h
   have he:=jh hm hx hr (hx.2.choose_spec.2.2 r hr)
   obtain⟨_,u,hu,rfl,_⟩:=hx
   exact⟨_,by simp only[fP,he,Option.map_some],rfl⟩
  ·cases h
 ·cases h
theorem Kh:∀ {xs xs':List Cell} {aK:List AV},NL m2 xs=some xs'→az (RC ρ B m2) xs aK→∃ ds,gh m aK=some ds∧bO xs'=some ds
 |[],xs',[],h,_=>by simp only[NL,Option.some.injEq] at h;subst h;exact⟨[],rfl,rfl⟩
 | x :: xs, xs', a :: aK, h, ha => by
  simp only[NL] at h
  split at h
  ·rename_i y ys h1 h2
   injection h with h;subst h
   obtain⟨d,g1,g2⟩:=RU hm h1 ha.1
   obtain⟨ds,g3,g4⟩:=Kh h2 ha.2
   exact⟨d :: ds,by simp only[gh,g1,g3],by simp only[bO,g2,g4]⟩
  ·cases h
 |[],_,_ :: _,_,ha=>ha.elim
 |_ :: _,_,[],_,ha=>ha.elim
omit hm in
theorem LY {a:AV} {y:D} (h:fP m a=some y):jI m a=some (.d y):=by
 cases a<;>first|(simp only[jI,h];rfl)|cases h
omit hm in
theorem LZ {a:AV} {y:D} (h:fP m a=some y):pJ m a=dF a:=by
 cases a<;>first|rfl|cases h
theorem F0 {agg:Bool} {c:cG} {x:Cell} {a:AV} {d:List ff} {b:List Bool} (h:c.jI m2 agg x=some (d,b)) (hx:RC ρ B m2 x a) (hb:∀ t∈b,t=true) :
  ∃ y x',(agg=true→fP m a=some y)∧(agg=false→jI m a=some (.d y)∧aU ρ (xk m2 (.c x)) (pJ m a))∧(∀ rest,c.fill (d++rest)=some (x',rest))∧RC ρ0 0 [] x' (.d y):=by
 have one:∀ {y:D} {x':Cell},xk m2 (.c x)=DL (.c x)→fP m a=some y→(∀ rest,c.fill (d++rest)=some (x',rest))→RC ρ0 0 [] x' (.d y)→∃ y x',(agg=true→fP m a=some y)∧(agg=false→jI m a=some (.d y)∧aU ρ (xk m2 (.c x)) (pJ m a))∧(∀ rest,c.fill (d++rest)=some (x',rest))∧RC ρ0 0 [] x' (.d y):=
  fun hk h1 h2 h3=>⟨_,_,fun _=>h1,fun _=>⟨LY h1,by rw[hk,LZ h1];exact Kd (v:=.c x) hx⟩,h2,h3⟩
 unfold cG.jI at h
 split at h<;>(try dsimp only at h)
 ·split at h
  ·simp only [Option.some.injEq, Prod.mk.injEq] at h; obtain ⟨rfl, rfl⟩ := h
   cases hx
   exact one rfl rfl (fun _=>rfl) rfl
  ·cases h
 ·simp only [Option.some.injEq, Prod.mk.injEq] at h; obtain ⟨rfl, rfl⟩ := h
  cases hx
  exact one rfl rfl (fun _=>rfl) rfl
 ·simp only [Option.some.injEq, Prod.mk.injEq] at h; obtain ⟨rfl, rfl⟩ := h
  cases hx
  exact one rfl rfl (fun _=>rfl) rfl
 ·rename_i t o f
  have key:fP m a=some (.sl (bx t [])):=by
   rcases (fM (m:=m) hx).2 with rfl|⟨o',ho,rfl⟩<;>rfl
  split at h
  ·simp only [Option.some.injEq, Prod.mk.injEq] at h; obtain ⟨rfl, rfl⟩ := h
   exact one rfl key (fun _=>rfl) (.inl rfl)
  ·simp only [Option.some.injEq, Prod.mk.injEq] at h; obtain ⟨rfl, rfl⟩ := h
   exact one rfl key (fun _=>rfl) (.inl rfl)
  ·cases h
 ·rename_i t0 o t l o'
  have key:fP m a=some (.sl (bx t l)):=by
   rcases (gj (m:=m) hx).2.1 with rfl|⟨o',rfl⟩<;>rfl
  split at h
  ·simp only [Option.some.injEq, Prod.mk.injEq] at h; obtain ⟨rfl, rfl⟩ := h
   exact one rfl key (fun _=>rfl) (.inl rfl)
  ·simp only [Option.some.injEq, Prod.mk.injEq] at h; obtain ⟨rfl, rfl⟩ := h
   exact one rfl key (fun _=>rfl) (.inl rfl)
  ·cases h
 ·rename_i t0 o lv sq af t
  cases hr:rowOf m2 lv sq af with
  |none=>simp[hr] at h
  |some r=>
  simp only[hr] at h
  have he:=jS hm hx hr
  obtain⟨_,u,n,hu,rfl,hn⟩:=hx
  have key:fP m (.ref lv sq u 0 n t.size)=some (.sl (bx r.t r.l)):=by simp only[fP,he,Option.map_some]
  cases o with
  |d=>simp only[Option.some.injEq,Prod.mk.injEq] at h;obtain⟨rfl,rfl⟩:=h;exact one rfl key (fun _=>rfl) (.inl rfl)
  |aJ=>simp only[Option.some.injEq,Prod.mk.injEq] at h;obtain⟨rfl,rfl⟩:=h;exact one rfl key (fun _=>rfl) (.inl rfl)
  |full=>simp at h
  |app v=>simp at h
 ·rename_i t0 o lv sq af t off len
  cases hr:rowOf m2 lv sq af with
  |none=>simp[hr] at h
  |some r=>
  simp only[hr] at h
  have fin:b=[decide (off+len≤r.l.length)]→fP m a=some (.sl (bx r.t ((r.l.drop off).take len))):=by
   intro hb'
   have hle:=of_decide_eq_true (hb (decide (off+len≤r.l.length)) (by rw[hb'];exact List.mem_singleton.2 rfl))
   have he:=jh hm hx hr hle
   obtain⟨_,u,hu,rfl,_⟩:=hx
   simp only[fP,he,Option.map_some]
  cases o with
  |d=>simp only[Option.some.injEq,Prod.mk.injEq] at h;obtain⟨rfl,rfl⟩:=h;exact one rfl (fin rfl) (fun _=>rfl) (.inl rfl)
  |aJ=>simp only[Option.some.injEq,Prod.mk.injEq] at h;obtain⟨rfl,rfl⟩:=h;exact one rfl (fin rfl) (fun _=>rfl) (.inl rfl)
  |full=>simp at h
  |app v=>simp at h
 ·rename_i t o lv sq af off n sz
  split at h
  ·rename_i v cs hg
   split at h
   ·rename_i l hc hp
    rw[Bool.and_eq_true] at hc
    have hv:=Nat.eq_of_beq_eq_true hc.1
    subst hv
    have hle:=Nat.le_of_ble_eq_true hc.2
    obtain⟨dcs,hd,hp⟩:=aT hp
    obtain⟨_,u,hu,rfl⟩:=hx
    obtain⟨e,g1,g2⟩:=hm.ec _ _ _ hg
    obtain⟨_,u',aK,g3,rfl,g4⟩:=g2
    rw[hu] at g3;injection g3 with g3;subst g3
    obtain⟨ds,q1,q2⟩:=Kh hm hd ((g4.drop off).take (n*sz))
    have hl:=vG hp (uJ n q2)
    have L0:fX m lv sq u=some aK:=by
     unfold fX
     rw[g1]
     simp only[beq_true.2 rfl]
    have key:jI m (.eH lv sq u off n sz)=some (.d (.sl (bx t l))):=by
     simp only[jI,L0]
     rw[if_pos (by rw[←g4.length];exact hle),q1]
     simp only[Option.map_some,hl]
    have hkeys:aU ρ (xk m2 (.c (.eH lv sq v off n sz))) (pJ m (.eH lv sq u off n sz)):=by
     simp only[xk,hg,pJ,L0]
     exact aU.iw lv sq (uG g4)
    split at h
    ·simp only [Option.some.injEq, Prod.mk.injEq] at h; obtain ⟨rfl, rfl⟩ := h
     exact⟨_,_,fun h=>(by cases h),fun _=>⟨key,hkeys⟩,fun _=>rfl,.inl rfl⟩
    ·simp only [Option.some.injEq, Prod.mk.injEq] at h; obtain ⟨rfl, rfl⟩ := h
     exact⟨_,_,fun h=>(by cases h),fun _=>⟨key,hkeys⟩,fun _=>rfl,.inl rfl⟩
    ·cases h
   ·cases h
  ·cases h
 ·cases h
theorem CD:∀ {cs:List cG} {xs:List Cell} {aK:List AV} {d:List ff} {b:List Bool},sP m2 cs xs=some (d,b)→az (RC ρ B m2) xs aK→(∀ t∈b,t=true)→
  ∃ ys xs',gh m aK=some ys∧(∀ rest,cH cs (d++rest)=some (xs',rest))∧az (RC ρ0 0 []) xs' (ys.map .d)
 |[],[],aK,d,b,h,ha,_=>by
  simp only[sP,Option.some.injEq,Prod.mk.injEq] at h
  obtain⟨rfl,rfl⟩:=h
  match aK,ha with
  |[],_=>exact⟨[],[],rfl,fun _=>rfl,trivial⟩
 | c :: cs, x :: xs, aK, d, b, h, ha, hb => by
  simp only[sP] at h
  split at h
  ·rename_i d1 b1 d2 b2 h1 h2
   simp only[Option.some.injEq,Prod.mk.injEq] at h;obtain⟨rfl,rfl⟩:=h
   match aK,ha with
   |a :: aK,ha=>
    obtain⟨y,x',g1,_,g2,g3⟩:=F0 hm h1 ha.1 (fun t ht=>hb t (List.mem_append_left _ ht))
    obtain⟨ys,xs',g4,g5,g6⟩:=CD h2 ha.2 (fun t ht=>hb t (List.mem_append_right _ ht))
    exact⟨y :: ys,x' :: xs',by simp only[gh,g1 rfl,g4],fun rest=>by simp only[cH,List.append_assoc,g2,g5],g3,g6⟩
  ·cases h
 |[],_ :: _,_,_,_,h,_,_=>by simp[sP] at h
 |_ :: _,[],_,_,_,h,_,_=>by simp[sP] at h
theorem CE:∀ {ps:List dJ} {vs:List V2} {aK:List AV} {d:List ff} {b:List Bool},sQ m2 ps vs=some (d,b)→az (RV ρ B m2) vs aK→(∀ t∈b,t=true)→
  ∃ as' vs',rR m aK=some as'∧aU ρ (vs.flatMap (xk m2)) (aK.flatMap (pJ m))∧(∀ rest,dm ps (d++rest)=some (vs',rest))∧az (RV ρ0 0 []) vs' as'
 |[],[],aK,d,b,h,ha,_=>by
  simp only[sQ,Option.some.injEq,Prod.mk.injEq] at h
  obtain⟨rfl,rfl⟩:=h
  match aK,ha with
  |[],_=>exact⟨[],[],rfl,aU.nil,fun _=>rfl,trivial⟩
 | p :: ps, v :: vs, aK, d, b, h, ha, hb => by
  simp only[sQ] at h
  split at h
  ·rename_i d1 b1 d2 b2 h1 h2
   simp only[Option.some.injEq,Prod.mk.injEq] at h;obtain⟨rfl,rfl⟩:=h
   match aK,ha with
   | a :: aK, ha =>
    obtain⟨as',vs',g4,g7,g5,g6⟩:=CE h2 ha.2 (fun t ht=>hb t (List.mem_append_right _ ht))
    have sD:∀ t∈b1,t=true:=fun t ht=>hb t (List.mem_append_left _ ht)
    have one:∃ a' v',jI m a=some a'∧aU ρ (xk m2 v) (pJ m a)∧(∀ rest,dm (p :: ps) (d1++rest)=(match dm ps rest with
      |some (xs,r'')=>some (v' :: xs,r'')
      |none=>none))∧RV ρ0 0 [] v' a':=by
     unfold dJ.jI at h1
     split at h1
     ·obtain ⟨y, x', _, q1, q2, q3⟩ := F0 hm h1 ha.1 sD
      exact⟨_,.c x',(q1 rfl).1,(q1 rfl).2,fun rest=>by simp only[dm,ux.fill,q2];rfl,q3⟩
     ·obtain ⟨bs, e, hc⟩ := ha.1
      subst e
      obtain⟨ys,VB,q1,q2,q3⟩:=CD hm h1 hc sD
      exact⟨.agg (ys.map .d),.agg VB,by simp only[jI,q1,Option.map_some],uG hc,fun rest=>by simp only[dm,ux.fill,q2];rfl,_,rfl,q3⟩
     ·split at h1
      ·rename_i f f' hf
       have e:=Nat.eq_of_beq_eq_true hf
       subst e
       simp only[Option.some.injEq,Prod.mk.injEq] at h1;obtain⟨rfl,rfl⟩:=h1
       obtain⟨bs,e,hc⟩:=ha.1
       subst e
       match bs,hc with
       |[],_=>exact⟨.fV _ [],.fV _ [],rfl,aU.nil,fun rest=>by simp only[dm,List.nil_append];rfl,[],rfl,trivial⟩
      ·cases h1
     ·cases h1
    obtain⟨a',v',g1,g8,g2,g3⟩:=one
    exact⟨a' :: as',v' :: vs',by simp only[rR,g1,g4],(by simp only[List.flatMap_cons];exact g8.append g7),fun rest=>by rw[List.append_assoc,g2,g5],g3,g6⟩
  ·cases h
 |[],_ :: _,_,_,_,h,_,_=>by simp[sQ] at h
 |_ :: _,[],_,_,_,h,_,_=>by simp[sQ] at h
end
theorem qy {α : Type} {l:List Bool} {k:Option α} {r : α} (h:zW l k=some r):(∀ t∈l,t=true)∧k=some r:=by
 induction l with
 |nil=>exact⟨fun t ht=>(by cases ht),h⟩
 |cons b l ih=>
  obtain⟨h1,h2⟩:=bU h
  obtain⟨h3,h4⟩:=ih h2
  refine⟨fun t ht=>?_,h4⟩
  rcases List.mem_cons.1 ht with rfl|ht
  ·exact h1
  ·exact h3 t ht
section
variable {α : Type} {ρ : bG} {B:Nat} {s2:S2} {s:St} {r : α} (hm:MR ρ B s2.mem s.mem) (bV:tw ρ B s2.mem s2.slots s.slots)
include hm bV
theorem RW {ar:yT} {K:Bool→List Cell→Option α} (h:Vs s2 ar K=some r):∃ a cs v,De s ar=some v∧R1 ρ B s2.mem (a,cs) v∧K a cs=some r:=by
 unfold Vs at h
 split at h
 ·split at h
  ·rename_i x hx
   have hv:=bV _ _ hx
   refine⟨false,[x],_,?_,⟨x,rfl,hv⟩,h⟩
   simp only[De,(RC.cell hv).2.2]
  ·rename_i cs hx
   obtain⟨aK,e,hv⟩:=bV _ _ hx
   refine⟨true,cs,.agg aK,?_,⟨aK,rfl,hv⟩,h⟩
   simp only[De,e,fO]
  ·cases h
 ·rename_i n sz agg
  obtain⟨p,hp,h⟩:=cj h
  obtain⟨cs,aK,h1,h2,h3⟩:=FU hm h (bV _ _ hp)
  split at h3
  ·refine ⟨true, cs, .agg aK, ?_, ⟨aK, rfl, h2⟩, h3⟩
   simp only[De,h1,Option.bind_some,fq]
  ·rename_i x _
   match aK,h2 with
   |[a],h2=>
    refine⟨false,[x],a,?_,⟨x,rfl,h2.1⟩,h3⟩
    simp only[De,h1,Option.bind_some,fq]
  ·cases h3
theorem uL:∀ {l:List yT} {K:List (Bool×List Cell)→Option α},uA s2 l K=some r→∃ vs aK,j6 s l=some aK∧az (R1 ρ B s2.mem) vs aK∧K vs=some r
 |[],K,h=>⟨[],[],rfl,trivial,h⟩
 |x :: l,K,h=>by
  simp only[uA] at h
  obtain⟨a,cs,v,h1,h2,h⟩:=RW hm bV h
  obtain⟨vs,aK,h3,h4,h⟩:=uL h
  exact⟨(a,cs) :: vs,v :: aK,by simp only[j6,h1,h3],⟨h2,h4⟩,h⟩
end
theorem uM {cm:List (Tr bH)} {top k lv sl af:Nat} {els:List (List D)} {o:MZ} (h:o≠.aJ):bu cm top 0 k lv sl af (.own els o)=some (.d (.sl els),[]):=by
 cases o with
 |aJ=>exact absurd rfl h
 |_=>rfl
section
variable {ρ : bG} {B:Nat} {m2:List (Tr E2)} {m:List (Tr bH)} (hm:MR ρ B m2 m)
include hm
theorem Ki {top k lv sl af:Nat} {x y:Cell} {a:AV} (h:NM m2 top x=some y) (hx:RC ρ B m2 x a):∃ a',bu m top 0 k lv sl af a=some (a',[])∧RC ρ B (m2.take top) y a':=by
 unfold NM at h
 split at h
 ·injection h with h;subst h;cases hx;exact⟨_,rfl,rfl⟩
 ·injection h with h;subst h;cases hx;exact⟨_,rfl,rfl⟩
 ·injection h with h;subst h;cases hx;exact⟨_,rfl,rfl⟩
 ·injection h with h;subst h;cases hx;exact⟨_,rfl,rfl⟩
 ·injection h with h; subst h
  rcases (fM (m:=m) hx).2 with e|⟨o',ho,e⟩
  ·subst e;exact⟨_,rfl,.inl rfl⟩
  ·subst e;exact⟨_,uM ho,.inl rfl⟩
 ·cases h
 ·rename_i t l o hne
  injection h with h;subst h
  rcases (gj (m:=m) hx).2.2 (fun e=>hne e) with e|⟨o2,ho,e⟩
  ·subst e;exact⟨_,rfl,.inl rfl⟩
  ·subst e;exact⟨_,uM ho,.inl rfl⟩
 ·rename_i cl cX eZ t
  split at h
  ·rename_i hb
   injection h with h;subst h
   obtain⟨hv,u,n,hu,rfl,hn⟩:=hx
   refine⟨_,by simp only[bu,hb],hv,u,n,hu,rfl,fun r hr=>hn r ?_⟩
   have h1:=cy hr
   refine fm.2 ?_
   unfold iY at h1 ⊢
   rw[List.getElem?_take] at h1
   split at h1
   ·exact h1
   ·cases h1
  ·rename_i hb
   split at h
   ·rename_i r hr
    injection h with h;subst h
    have he:=jS hm hx hr
    obtain⟨hv,u,n,hu,rfl,hn⟩:=hx
    refine⟨.d (.sl (bx r.t r.l)),?_,.inl rfl⟩
    simp only[bu,hb,he]
   ·cases h
 ·rename_i cl cX eZ t off len
  split at h
  ·rename_i hb
   injection h with h;subst h
   obtain⟨hv,u,hu,rfl,hn⟩:=hx
   refine⟨_,by simp only[bu,hb],hv,u,hu,rfl,fun r hr=>hn r ?_⟩
   have h1:=cy hr
   refine fm.2 ?_
   unfold iY at h1 ⊢
   rw[List.getElem?_take] at h1
   split at h1
   ·exact h1
   ·cases h1
  ·rename_i hb
   split at h
   ·rename_i r hr
    injection h with h;subst h
    have he:=jh hm hx hr (hx.2.choose_spec.2.2 r hr)
    obtain⟨hv,u,hu,rfl,hn⟩:=hx
    refine⟨.d (.sl (bx r.t ((r.l.drop off).take len))),?_,.inl rfl⟩
    simp only[bu,hb,he]
   ·cases h
 ·cases h
theorem F1 {top lv sl af:Nat} : ∀ {k:Nat} {xs ys:List Cell} {aK:List AV},zY m2 top xs=some ys→az (RC ρ B m2) xs aK→∃ as',cA m top 0 lv sl af k aK=some (as',[])∧az (RC ρ B (m2.take top)) ys as'
 |k,[],ys,aK,h,ha=>by
  simp only[zY,Option.some.injEq] at h;subst h
  match aK,ha with
  |[],_=>exact⟨[],rfl,trivial⟩
 | k, x :: xs, ys, aK, h, ha => by
  simp only[zY] at h
  split at h
  ·rename_i y ys' h1 h2
   injection h with h;subst h
   match aK,ha with
   |a :: aK,ha=>
    obtain⟨a',g1,g2⟩:=Ki hm (k:=k) (lv:=lv) (sl:=sl) (af:=af) h1 ha.1
    obtain⟨as',g3,g4⟩:=F1 (lv:=lv) (sl:=sl) (af:=af) (k:=k+1) h2 ha.2
    exact⟨a' :: as',by simp only[cA,g1,g3,List.append_nil],g2,g4⟩
  ·cases h
theorem Kj {top lv sl af k:Nat} {b:Bool} {xs ys:List Cell} {a:AV} (h:zY m2 top xs=some ys) (ha:R1 ρ B m2 (b,xs) a):∃ a',jG m top 0 lv sl af k a=some (a',[])∧R1 ρ B (m2.take top) (b,ys) a':=by
 cases b with
 |true=>
  obtain⟨aK,rfl,ha⟩:=ha
  obtain⟨as',g1,g2⟩:=F1 hm (k:=k) (lv:=lv) (sl:=sl) (af:=af) h ha
  exact⟨.agg as',by simp only[jG,g1,Option.map_some],as',rfl,g2⟩
 | false =>
  obtain⟨c,rfl,ha⟩:=ha
  simp only[zY] at h
  split at h
  ·rename_i y ys' h1 h2
   injection h2 with h2;subst h2
   injection h with h;subst h
   obtain⟨a',g1,g2⟩:=Ki hm (k:=k) (lv:=lv) (sl:=sl) (af:=af) h1 ha
   refine⟨a',?_,y,rfl,g2⟩
   have hc:=RC.cell ha
   cases a<;>first|exact g1|cases hc.2.1
  ·cases h
theorem CF {top lv sl af:Nat} : ∀ {k:Nat} {vs ws:List (Bool×List Cell)} {aK:List AV},rW m2 top vs=some ws→az (R1 ρ B m2) vs aK→∃ as',fc m top 0 lv sl af k aK=some (as',[])∧az (R1 ρ B (m2.take top)) ws as'
 |k,[],ws,aK,h,ha=>by
  simp only[rW,Option.some.injEq] at h;subst h
  match aK,ha with
  |[],_=>exact⟨[],rfl,trivial⟩
 | k, (b, x) :: xs, ws, aK, h, ha => by
  simp only[rW] at h
  split at h
  ·rename_i y ys' h1 h2
   injection h with h;subst h
   match aK,ha with
   |a :: aK,ha=>
    obtain⟨a',g1,g2⟩:=Kj hm (k:=k) (lv:=lv) (sl:=sl) (af:=af) h1 ha.1
    obtain⟨as',g3,g4⟩:=CF (lv:=lv) (sl:=sl) (af:=af) (k:=k+64) h2 ha.2
    exact⟨a' :: as',by simp only[fc,g1,g3,List.append_nil],g2,g4⟩
  ·cases h
omit hm in
theorem R1.fO {b:Bool} {cs:List Cell} {a:AV} (h:R1 ρ B m2 (b,cs) a):bI.fO a=true:=by
 cases b with
 |true=>obtain⟨aK,rfl,_⟩:=h;rfl
 |false=>obtain⟨c,_,h⟩:=h;exact (RC.cell h).2.2
theorem RX {top lv sl af:Nat} {vs ws:List (Bool×List Cell)} {w:V2} {aK:List AV} (h:rW m2 top vs=some ws) (ht:gX ws=some w) (ha:az (R1 ρ B m2) vs aK):∃ a',fI m top 0 lv sl af (gU aK)=some (a',[])∧RV ρ B (m2.take top) w a':=by
 match vs,aK,ha with
 |[],[],ha=>
  simp only[rW,Option.some.injEq] at h;subst h
  simp only[gX,Option.some.injEq] at ht;subst ht
  exact⟨.gZ [],rfl,[],rfl,trivial⟩
 | [(b, x)], [a], ha =>
  simp only[rW] at h
  split at h
  ·rename_i y ys' h1 h2
   injection h2 with h2;subst h2
   injection h with h;subst h
   obtain⟨a',g1,g2⟩:=Kj hm (k:=1) (lv:=lv) (sl:=sl) (af:=af) h1 ha.1
   refine⟨a',?_,?_⟩
   ·have hn := R1.fO ha.1
    simp only[gU]
    cases a<;>first|exact g1|cases hn
   ·simp only [gX] at ht
    cases b with
    |true=>
     obtain⟨as',rfl,g3⟩:=g2
     simp only[jz,Option.some.injEq] at ht;subst ht
     exact⟨as',rfl,g3⟩
    |false=>
     obtain⟨c,rfl,g3⟩:=g2
     simp only[jz,Option.some.injEq] at ht;subst ht
     exact g3
  ·cases h
 | v :: v' :: vs, a :: a' :: aK, ha =>
  obtain⟨as',g1,g2⟩:=CF hm (k:=1) (lv:=lv) (sl:=sl) (af:=af) h ha
  refine⟨.gZ as',?_,?_⟩
  ·simp only[gU,fI,g1,Option.map_some]
  ·have : ∃ x y zs, ws = x :: y :: zs := by
    obtain⟨b,x⟩:=v
    obtain⟨b',x'⟩:=v'
    simp only[rW] at h
    split at h
    ·rename_i y ys h1 h2
     injection h with h;subst h
     split at h2
     ·injection h2 with h2; subst h2
      exact⟨_,_,_,rfl⟩
     ·cases h2
    ·cases h
   obtain⟨x,y,zs,rfl⟩:=this
   simp only[gX,Option.some.injEq] at ht;subst ht
   exact⟨as',rfl,g2⟩
end
end Go.Sym
