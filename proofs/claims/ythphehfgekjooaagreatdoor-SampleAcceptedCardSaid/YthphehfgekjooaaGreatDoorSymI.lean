/- The machine over typed data: arguments and results of calls. -/
import Derived.Test.YthphehfgekjooaaGreatDoorSymH
set_option linter.unusedVariables false
set_option linter.unusedSimpArgs false
namespace Go.Sym
open Go Go.bq
theorem xY {a b:Ty} {x:a.den} {y:b.den} (h:tI a b x=some y):(⟨b,y⟩:eS)=⟨a,x⟩:=by
 obtain⟨e,he⟩:=NR h<;>grind
theorem cw:∀ {ts:List Ty} {ds:List eS} {x:(qn ts).den},pack ts ds=some x→unpack ts x=ds
 |[],[],_,_=>rfl
 |[a],[d],x,h=>by
  have:=xY h
  simp[unpack]<;>omega
 | a :: b :: r, d :: ds, x, h => by
  simp[pack] at h
  split at h
  ·rename_i y z h1 h2
   cases h
   simp only[unpack]
   rw[xY h1,cw h2]
  grind
 |[],_ :: _,_,h=>by simp[pack] at h
 |[_],[],_,h=>by simp[pack] at h
 |[_],_ :: _ :: _,_,h=>by simp[pack] at h
 |_ :: _ :: _,[],_,h=>by simp[pack] at h
theorem Dv {a b:AX} (h:Uy a b=true):a=b:=by
 unfold Uy at h
 split at h<;>simp_all
theorem zd {ρ : aR} {so:List (Tr AV)} {s2:S2} {s:St} {ax:AX} (hs:xX ρ so s2 s):∀ {os:bG} {y:(nJ os).den},l8 os ax s2=some y→
  ∃ s2' ρ',xX ρ' so s2' s∧Fr ρ s2.nv s.nv ρ' s2'.nv∧∀ {α : Type} (K:AX→S2→Option α),ot os y K=K ax s2'
 |[],_,h=>by simp[l8] at h
 | [x], y, h => by
  simp[l8] at h
  split at h
  ·rename_i he
   obtain⟨ds,h1,h2⟩:=ak h
   obtain⟨s2',ρ',g1,g2,g3⟩:=zb h1 hs
   refine⟨s2',ρ',g2,g3,fun K=>?_⟩
   simp[ot,cw h2,g1,bE,Dv he]
  grind
 | x :: z :: r, y, h => by
  simp[l8] at h
  split at h
  ·rename_i he
   obtain⟨y',h1,h2⟩:=ak h
   cases h2
   obtain⟨ds,h3,h4⟩:=aJ h1
   obtain⟨s2',ρ',g1,g2,g3⟩:=zb h3 hs
   refine⟨s2',ρ',g2,g3,fun K=>?_⟩
   simp[ot,cw h4,g1,bE,Dv he]
  ·obtain ⟨y', h1, h2⟩ := ak h
   cases h2
   obtain⟨s2',ρ',g2,g3,g4⟩:=zd hs h1
   exact⟨s2',ρ',g2,g3,fun K=>by simp only[ot,g4]⟩
theorem RC.still {ρ ρ':aR} {B B':Nat} {m m':List (Tr E2)} {c:Cell} {a:AV} (hc:c.still=true) (h:RC ρ B m c a):RC ρ' B' m' c a:=by
 cases c with
 |nil f=>cases f<;>exact h
 |sl t l o=>cases o with
  |app v=>cases hc
  |_=>exact h
 |ref=>cases hc
 |iT=>cases hc
 |ptr=>cases hc
 |eA=>cases hc
 |mp=>cases hc
 |_=>exact h
theorem RCs.still {ρ ρ':aR} {B B':Nat} {m m':List (Tr E2)} : ∀ {cs:List Cell} {aD:List AV},cs.all Cell.still=true→aq (RC ρ B m) cs aD→aq (RC ρ' B' m') cs aD
 |[],[],_,_=>trivial
 |c :: cs,a :: aD,hc,h=>by
  rw[List.all_cons,Bool.and_eq_true] at hc
  exact⟨h.1.still hc.1,RCs.still hc.2 h.2⟩
 |[],_ :: _,_,h=>h.elim
 |_ :: _,[],_,h=>h.elim
theorem RV.still {ρ ρ':aR} {B B':Nat} {m m':List (Tr E2)} {v:V2} {a:AV} (hv:v.still=true) (h:RV ρ B m v a):RV ρ' B' m' v a:=by
 cases v with
 |c c=>exact RC.still hv h
 |agg cs=>obtain⟨aD,h1,h2⟩:=h;exact⟨aD,h1,RCs.still hv h2⟩
 |fB f cs=>obtain⟨aD,h1,h2⟩:=h;exact⟨aD,h1,RCs.still hv h2⟩
 | gN vs =>
  obtain⟨aD,h1,h2⟩:=h
  refine⟨aD,h1,?_⟩
  clear h1
  replace hv:vs.all (fun v=>v.2.all Cell.still)=true:=hv
  induction vs generalizing aD with
  |nil=>cases aD<;>exact h2
  | cons v vs ih =>
   cases aD with
   |nil=>exact h2.elim
   | cons a aD =>
    rw[List.all_cons,Bool.and_eq_true] at hv
    refine⟨?_,ih aD h2.2 hv.2⟩
    obtain⟨b,cs⟩:=v
    cases b with
    |true=>obtain⟨bs,h3,h4⟩:=h2.1;exact⟨bs,h3,RCs.still hv.1 h4⟩
    |false=>
     obtain⟨c,h3,h4⟩:=h2.1
     refine⟨c,h3,h4.still ?_⟩
     subst h3
     simpa using hv.1
theorem Tr.Fa {α : Type} (v:Option α) (l r:Tr α) (k:Nat):(Tr.nd v l r).get? k=if k=0 then v else if k % 2=1 then l.get? (k / 2) else r.get? (k / 2-1):=by
 simp[Tr.get?]
 cases h0:Nat.beq k 0 with
 |true=>simp_all
 |false=>
  have:=Nat.ne_of_beq_eq_false h0
  cases h1:Nat.beq (k % 2) 1 with
  |true=>simp_all
  |false=>simp[this,Nat.ne_of_beq_eq_false h1]
theorem Tr.UO {α : Type} (t:Tr α) (k:Nat):t.get? k=if k=0 then t.top else if k % 2=1 then t.left.get? (k / 2) else t.right.get? (k / 2-1):=by
 cases t with
 |lf=>simp[Tr.get?,Tr.top,Tr.left,Tr.right]
 |nd v l r=>rw[Tr.Fa];rfl
theorem wJ:∀ (t:Tr V2) (k:Nat) (v:V2),(loose t).get? k=some v→t.get? k=some v
 |.lf,_,_,h=>by simp[loose] at h
 | .nd x l r, k, v, h => by
  simp[loose] at h
  rw[Tr.Fa] at h ⊢
  by_cases h0:k=0
  ·grind
  ·rw [if_neg h0] at h ⊢
   by_cases h1:k % 2=1
   ·rw [if_pos h1] at h ⊢
    exact wJ l _ v h
   ·rw [if_neg h1] at h ⊢
    exact wJ r _ v h
theorem oF:∀ (a b:Tr V2) (k:Nat) (v:V2),(merge a b).get? k=some v→(a.get? k=some v∧v.still=true)∨b.get? k=some v
 |.lf,_,_,_,h=>by simp[merge] at h
 | .nd x l r, b, k, v, h => by
  simp[merge] at h
  rw[Tr.Fa] at h
  rw[Tr.Fa,Tr.UO b]
  by_cases h0:k=0
  ·grind
  ·rw [if_neg h0] at h ⊢
   rw[if_neg h0]
   by_cases h1:k % 2=1
   ·rw [if_pos h1] at h ⊢
    rw[if_pos h1]
    exact oF l _ _ v h
   ·rw [if_neg h1] at h ⊢
    rw[if_neg h1]
    exact oF r _ _ v h
def ρ0:aR:=fun _=>none
theorem Q1 {m:List (Tr aZ)} {els:List (List D)} {o:PK} (h:o≠.bB):dJ m (.own els o)=some (.d (.sl els),[]):=by
 cases o with
 |bB=>grind
 |_=>rfl
theorem Q2 {m:List (Tr aZ)} {els:List (List D)} {o:PK} (h:o≠.bB):cy m (.own els o)=some (.d (.sl els)):=by
 grind[cy]
def Gp (agg:Bool) (m:List (Tr aZ)) (a a':AV) (k:List (Nat×Nat)):Prop:=(agg=true∧dJ m a=some (a',k))∨(agg=false∧cy m a=some a'∧k=[])
theorem Gp.data {agg:Bool} {m:List (Tr aZ)} {a:AV} {y:D} (e:a=.d y):Gp agg m a (.d y) []:=by
 subst e
 cases agg
 ·exact .inr ⟨rfl,rfl,rfl⟩
 ·exact .inl ⟨rfl,rfl⟩
theorem Gp.ZJ {agg:Bool} {m:List (Tr aZ)} {a:AV} {els:List (List D)} {o:PK} (ho:o≠.bB) (e:a=.own els o):Gp agg m a (.d (.sl els)) []:=by
 subst e
 cases agg
 ·exact .inr ⟨rfl,Q2 ho,rfl⟩
 ·exact .inl ⟨rfl,Q1 ho⟩
theorem Gp.ahw {agg:Bool} {m:List (Tr aZ)} {a:AV} {els:List (List D)} (e:a=.own els .bB):Gp agg m a (.own els .bB) []:=by
 subst e
 cases agg
 ·exact .inr ⟨rfl,rfl,rfl⟩
 ·exact .inl ⟨rfl,rfl⟩
section
variable {ρ : aR} {B:Nat} {m2:List (Tr E2)} {m:List (Tr aZ)} (hm:MR ρ B m2 m)
include hm
theorem Kv {agg:Bool} {c:fC} {x:Cell} {a:AV} {d:List eS} {k:List (Nat×Nat)} {b:List Bool} (h:c.arg m2 agg x=some (d,k,b)) (hx:RC ρ B m2 x a) (hb:∀ t∈b,t=true) :
  ∃ a' x',Gp agg m a a' k∧(∀ rest,c.fill (d++rest)=some (x',rest))∧RC ρ0 0 [] x' a':=by
 unfold fC.arg at h
 split at h<;>(try dsimp only at h)
 ·split at h
  ·cases h
   exact⟨_,_,Gp.data hx,fun _=>rfl,rfl⟩
  grind
 ·cases h
  exact⟨_,_,Gp.data hx,fun _=>rfl,rfl⟩
 ·cases h
  exact⟨_,_,Gp.data hx,fun _=>rfl,rfl⟩
 ·rename_i t o f
  have key:∃ a',Gp agg m a a' []∧a'=.d (.sl (aS t [])):=by
   rcases (fE (m:=m) hx).2 with e|⟨o',ho,e⟩
   ·exact⟨_,Gp.data e,rfl⟩
   ·exact⟨_,Gp.ZJ ho e,rfl⟩
  obtain⟨a',g1,g2⟩:=key
  split at h
  ·cases h
   exact⟨_,_,g1,fun _=>rfl,.inl g2⟩
  ·cases h
   exact⟨_,_,g1,fun _=>rfl,.inl g2⟩
  grind
 ·split at h
  ·cases h
   rcases (fQ (m:=m) hx).2.1 with e|⟨o2,e⟩
   ·exact⟨_,_,Gp.data e,fun _=>rfl,.inl rfl⟩
   ·by_cases ho : o2 = .bB
    ·subst ho;exact⟨_,_,Gp.ahw e,fun _=>rfl,.inr ⟨_,rfl⟩⟩
    ·exact⟨_,_,Gp.ZJ ho e,fun _=>rfl,.inl rfl⟩
  ·cases h
  ·rename_i hne
   cases h
   rcases (fQ (m:=m) hx).2.2 (fun e=>hne e) with e|⟨o2,ho,e⟩
   ·exact⟨_,_,Gp.data e,fun _=>rfl,.inl rfl⟩
   ·exact⟨_,_,Gp.ZJ ho e,fun _=>rfl,.inl rfl⟩
  ·cases h
 ·rename_i t0 o lv sq aa t
  cases hr:rowOf m2 lv sq aa with
  |none=>grind
  |some r=>
  simp[hr] at h
  have he:=kZ hm hx hr
  obtain⟨_,u,n,hu,rfl,hn⟩:=hx
  have hg:dJ m (.ref lv sq u 0 n t.size)=some (.d (.sl (aS r.t r.l)),[(lv,sq)]):=by simp[dJ,yB,he,Option.map_some]
  have hl:cy m (.ref lv sq u 0 n t.size)=some (.own (aS r.t r.l) .bB):=by simp[cy,he,Option.map_some]
  cases o with
  |bB=>cases agg with
   |false=>cases h;exact⟨_,_,.inr ⟨rfl,hl,rfl⟩,fun _=>rfl,.inr ⟨_,rfl⟩⟩
   |true=>cases h;exact⟨_,_,.inl ⟨rfl,hg⟩,fun _=>rfl,.inl rfl⟩
  |d=>cases agg with
   |false=>simp at h
   |true=>cases h;exact⟨_,_,.inl ⟨rfl,hg⟩,fun _=>rfl,.inl rfl⟩
  |full=>grind
  |app v=>grind
 ·rename_i t0 o lv sq aa t off len
  cases hr:rowOf m2 lv sq aa with
  |none=>grind
  |some r=>
  simp[hr] at h
  cases o with
  | bB => cases agg with
   |false=>
    cases h
    have he:=iU hm hx hr (of_decide_eq_true (hb _ List.mem_cons_self))
    obtain⟨_,u,hu,rfl,_⟩:=hx
    refine⟨.own (aS r.t ((r.l.drop off).take len)) .bB,_,.inr ⟨rfl,?_,rfl⟩,fun _=>rfl,.inr ⟨_,rfl⟩⟩
    simp[cy,he,Option.map_some]
   |true=>simp at h
  |d=>grind
  |full=>grind
  |app v=>grind
 grind
theorem AP:∀ {cs:List fC} {xs:List Cell} {aD:List AV} {d:List eS} {k:List (Nat×Nat)} {b:List Bool},As m2 cs xs=some (d,k,b)→aq (RC ρ B m2) xs aD→(∀ t∈b,t=true)→
  ∃ as' xs',eB m aD=some (as',k)∧(∀ rest,cj cs (d++rest)=some (xs',rest))∧aq (RC ρ0 0 []) xs' as'
 |[],[],aD,d,k,b,h,ha,_=>by
  cases h
  match aD,ha with
  |[],_=>exact⟨[],[],rfl,fun _=>rfl,trivial⟩
 | c :: cs, x :: xs, aD, d, k, b, h, ha, hb => by
  simp[As] at h
  split at h
  ·rename_i d1 k1 b1 d2 k2 b2 h1 h2
   cases h
   match aD,ha with
   |a :: aD,ha=>
    obtain⟨a',x',g1,g2,g3⟩:=Kv hm h1 ha.1 (fun t ht=>hb t (List.mem_append_left _ ht))
    have g1:dJ m a=some (a',k1):=by rcases g1 with⟨_,g⟩|⟨g,_⟩<;>grind
    obtain⟨as',xs',g4,g5,g6⟩:=AP h2 ha.2 (fun t ht=>hb t (List.mem_append_right _ ht))
    exact⟨a' :: as',x' :: xs',by simp only[eB,g1,g4],fun rest=>by simp only[cj,List.append_assoc,g2,g5],g3,g6⟩
  grind
 |[],_ :: _,_,_,_,_,h,_,_=>by simp[As] at h
 |_ :: _,[],_,_,_,_,h,_,_=>by simp[As] at h
omit hm in
theorem Oa {a:AV} (h0:cellsOf a=some [a]) (h1:mo a=true):vU m a=(cy m a).map fun y=>(y,[]):=by
 cases a<;>first|rfl|cases h1
omit hm in
theorem Ob {a:AV} (h1:mo a=true):vW m a=dJ m a:=by
 cases a<;>first|rfl|cases h1
theorem HQ:∀ {ps:List qy} {vs:List V2} {aD:List AV} {d:List eS} {k:List (Nat×Nat)} {b:List Bool},Di m2 ps vs=some (d,k,b)→aq (RV ρ B m2) vs aD→(∀ t∈b,t=true)→
  ∃ as' vs',qk m aD=some (as',k)∧(∀ rest,cE ps (d++rest)=some (vs',rest))∧aq (RV ρ0 0 []) vs' as'
 |[],[],aD,d,k,b,h,ha,_=>by
  cases h
  match aD,ha with
  |[],_=>simp_all[aR,ρ0,RV,aq,cE,qk]
 | p :: ps, v :: vs, aD, d, k, b, h, ha, hb => by
  simp[Di] at h
  split at h
  ·rename_i d1 k1 b1 d2 k2 b2 h1 h2
   cases h
   match aD,ha with
   | a :: aD, ha =>
    obtain⟨as',vs',g4,g5,g6⟩:=HQ h2 ha.2 (fun t ht=>hb t (List.mem_append_right _ ht))
    have qJ:∀ t∈b1,t=true:=fun t ht=>hb t (List.mem_append_left _ ht)
    have one:∃ a' v',vW m a=some (a',k1)∧(∀ rest,cE (p :: ps) (d1++rest)=(match cE ps rest with
      |some (xs,r'')=>some (v' :: xs,r'')
      |none=>none))∧RV ρ0 0 [] v' a':=by
     unfold qy.adh at h1
     split at h1
     ·obtain ⟨a', x', q0, q2, q3⟩ := Kv hm h1 ha.1 qJ
      have q1:dJ m a=some (a',k1):=by rcases q0 with⟨_,g⟩|⟨g,_⟩<;>grind
      have hc:=RC.cell ha.1
      exact⟨a',.c x',by rw[Ob hc.2.1,q1],fun rest=>by simp only[cE,sA.fill,q2];rfl,q3⟩
     ·obtain ⟨bs, e, hc⟩ := ha.1
      subst e
      obtain⟨Kk,ZK,q1,q2,q3⟩:=AP hm h1 hc qJ
      exact⟨.agg Kk,.agg ZK,by simp only[vW,q1,Option.map_some],fun rest=>by simp only[cE,sA.fill,q2];rfl,Kk,rfl,q3⟩
     grind
    obtain⟨a',v',g1,g2,g3⟩:=one
    exact⟨a' :: as',v' :: vs',by simp only[qk,g1,g4],fun rest=>by rw[List.append_assoc,g2,g5],g3,g6⟩
  grind
 |[],_ :: _,_,_,_,_,h,_,_=>by simp[Di] at h
 |_ :: _,[],_,_,_,_,h,_,_=>by simp[Di] at h
theorem HR:∀ {ps:List qy} {vs:List V2} {aD:List AV} {d:List eS} {k:List (Nat×Nat)} {b:List Bool},Dd m2 ps vs=some (d,k,b)→aq (RV ρ B m2) vs aD→(∀ t∈b,t=true)→
  ∃ as' vs',n7 m aD=some (as',k)∧(∀ rest,cE ps (d++rest)=some (vs',rest))∧aq (RV ρ0 0 []) vs' as'
 |[],[],aD,d,k,b,h,ha,_=>by
  cases h
  match aD,ha with
  |[],_=>simp_all[aR,ρ0,RV,aq,cE,n7]
 | p :: ps, v :: vs, aD, d, k, b, h, ha, hb => by
  simp[Dd] at h
  split at h
  ·rename_i d1 k1 b1 d2 k2 b2 h1 h2
   cases h
   match aD,ha with
   | a :: aD, ha =>
    obtain⟨as',vs',g4,g5,g6⟩:=HR h2 ha.2 (fun t ht=>hb t (List.mem_append_right _ ht))
    have qJ:∀ t∈b1,t=true:=fun t ht=>hb t (List.mem_append_left _ ht)
    have one:∃ a' v',vU m a=some (a',k1)∧(∀ rest,cE (p :: ps) (d1++rest)=(match cE ps rest with
      |some (xs,r'')=>some (v' :: xs,r'')
      |none=>none))∧RV ρ0 0 [] v' a':=by
     unfold qy.arg at h1
     split at h1
     ·obtain ⟨a', x', q0, q2, q3⟩ := Kv hm h1 ha.1 qJ
      have q1:cy m a=some a'∧k1=[]:=by rcases q0 with⟨g,_⟩|⟨_,g⟩<;>grind
      obtain⟨q1,rfl⟩:=q1
      have hc:=RC.cell ha.1
      exact⟨a',.c x',by rw[Oa hc.1 hc.2.1,q1];rfl,fun rest=>by simp only[cE,sA.fill,q2];rfl,q3⟩
     ·obtain ⟨bs, e, hc⟩ := ha.1
      subst e
      obtain⟨Kk,ZK,q1,q2,q3⟩:=AP hm h1 hc qJ
      exact⟨.agg Kk,.agg ZK,by simp only[vU,q1,Option.map_some],fun rest=>by simp only[cE,sA.fill,q2];rfl,Kk,rfl,q3⟩
     ·split at h1
      ·rename_i f f' hf
       have e:=Nat.eq_of_beq_eq_true hf
       subst e
       cases h1
       obtain⟨bs,e,hc⟩:=ha.1
       subst e
       match bs,hc with
       |[],_=>exact⟨.fB _ [],.fB _ [],rfl,fun rest=>by simp only[cE,List.nil_append];rfl,[],rfl,trivial⟩
      grind
     grind
    obtain⟨a',v',g1,g2,g3⟩:=one
    exact⟨a' :: as',v' :: vs',by simp only[n7,g1,g4],fun rest=>by rw[List.append_assoc,g2,g5],g3,g6⟩
  grind
 |[],_ :: _,_,_,_,_,h,_,_=>by simp[Dd] at h
 |_ :: _,[],_,_,_,_,h,_,_=>by simp[Dd] at h
end
theorem vf {sz:Nat} : ∀ (n:Nat) {l:List Cell} {ds:List D},bH l=some ds→aq (fun c d=>bH c=some d) (bq.chunk sz n l) (bq.chunk sz n ds)
 |0,_,_,_=>trivial
 |n+1,_,_,h=>⟨rB sz h,vf n (rC sz h)⟩
theorem vg {c:fC} {x':Cell} {d:List eS} {y:D} (hd:mC c x'=some d) (hy:l9 x'=some y):∃ x2,(∀ rest,c.fill (d++rest)=some (x2,rest))∧∀ (ρ : aR) (B:Nat) (m:List (Tr E2)),RC ρ B m x2 (.d y):=by
 unfold mC at hd
 split at hd
 ·split at hd
  ·cases hd; cases hy
   exact⟨_,fun _=>rfl,fun _ _ _=>rfl⟩
  ·cases hd
 ·cases hd; cases hy
  exact⟨_,fun _=>rfl,fun _ _ _=>rfl⟩
 ·cases hd; cases hy
  exact⟨_,fun _=>rfl,fun _ _ _=>rfl⟩
 ·cases hd; cases hy
  exact⟨_,fun _=>rfl,fun _ _ _=>.inl rfl⟩
 ·cases hd; cases hy
  exact⟨_,fun _=>rfl,fun _ _ _=>.inl rfl⟩
 ·cases hd
theorem xZ {els:List (List D)} {o:PK} (h:o≠.bB):nB (.own els o)=some (.d (.sl els)):=by
 cases o with
 |bB=>grind
 |_=>rfl
theorem ZL {ρ : aR} {B:Nat} {m:List (Tr E2)} {x x':Cell} {a:AV} (h:dtC x=some x') (hx:RC ρ B m x a):∃ y,nB a=some (.d y)∧l9 x'=some y:=by
 unfold dtC at h
 split at h
 ·cases h;cases hx;exact⟨_,rfl,rfl⟩
 ·cases h;cases hx;exact⟨_,rfl,rfl⟩
 ·cases h;cases hx;exact⟨_,rfl,rfl⟩
 ·cases h
  rcases (fE (m:=[]) hx).2 with rfl|⟨o,ho,rfl⟩
  ·exact⟨_,rfl,rfl⟩
  ·exact⟨_,xZ ho,rfl⟩
 ·cases h
 ·rename_i t l o hne
  cases h
  rcases (fQ (m:=[]) hx).2.2 (fun e=>hne e) with rfl|⟨o',ho,rfl⟩
  ·exact⟨_,rfl,rfl⟩
  ·exact⟨_,xZ ho,rfl⟩
 grind
theorem Q3 {ρ : aR} {B:Nat} {m:List (Tr E2)} {c:fC} {x:Cell} {a:AV} {d:List eS} (h:(dtC x).bind (mC c)=some d) (hx:RC ρ B m x a) :
  ∃ y x2,nB a=some (.d y)∧(∀ rest,c.fill (d++rest)=some (x2,rest))∧∀ (ρ : aR) (B:Nat) (m:List (Tr E2)),RC ρ B m x2 (.d y):=by
 obtain⟨x',h1,h2⟩:=aJ h
 obtain⟨y,h3,h4⟩:=ZL h1 hx
 obtain⟨x2,h5,h6⟩:=vg h2 h4
 exact⟨y,x2,h3,h5,h6⟩
theorem Fb {ρ : aR} {B:Nat} {m:List (Tr E2)} : ∀ {cs:List fC} {xs:List Cell} {aD:List AV} {ds:List eS},Ht cs xs=some ds→aq (RC ρ B m) xs aD→
  ∃ as' qt,iQ aD=some as'∧(∀ rest,cj cs (ds++rest)=some (qt,rest))∧∀ (ρ : aR) (B:Nat) (m:List (Tr E2)),aq (RC ρ B m) qt as'
 |[],[],[],ds,h,_=>by
  simp_all[Ht,RC,aq,aR,cj,iQ]
 | c :: cs, x :: xs, a :: aD, ds, h, ha => by
  simp[Ht] at h
  split at h
  ·rename_i d1 d2 h1 h2
   cases h
   obtain⟨y,x2,g1,g2,g3⟩:=Q3 h1 ha.1
   obtain⟨as',qt,g4,g5,g6⟩:=Fb h2 ha.2
   exact⟨.d y :: as',x2 :: qt,by simp only[iQ,g1,g4],fun rest=>by simp only[cj,List.append_assoc,g2,g5],fun ρ B m=>⟨g3 _ _ _,g6 _ _ _⟩⟩
  grind
 |[],_ :: _,_,_,h,_=>by simp[Ht] at h
 |_ :: _,[],_,_,h,_=>by simp[Ht] at h
 |_,[],_ :: _,_,_,ha=>ha.elim
 |_,_ :: _,[],_,_,ha=>ha.elim
theorem UP {ρ : aR} {B:Nat} {m:List (Tr E2)} : ∀ {ps:List qy} {vs:List V2} {aD:List AV} {ds:List eS},NO ps vs=some ds→aq (RV ρ B m) vs aD→
  ∃ as' vs2,nC aD=some as'∧(∀ rest,cE ps (ds++rest)=some (vs2,rest))∧∀ (ρ : aR) (B:Nat) (m:List (Tr E2)),aq (RV ρ B m) vs2 as':=by
 intro ps
 induction ps with
 | nil =>
  intro vs aD ds h ha
  match vs,aD,h,ha with
  |[],[],h,_=>
   simp_all[NO,RV,aq,aR,cE,nC]
 | cons p ps ih =>
  intro vs aD ds h ha
  unfold NO at h
  split at h
  ·grind
  ·rename_i e
   cases e
   match aD,ha with
   |a :: aD,ha=>
   split at h
   ·rename_i d1 d2 h1 h2
    cases h
    obtain⟨y,x2,g1,g2,g3⟩:=Q3 h1 ha.1
    obtain⟨as',qt,g4,g5,g6⟩:=ih h2 ha.2
    have g1:El a=some (.d y):=by cases a<;>first|exact g1|cases g1
    exact⟨.d y :: as',.c x2 :: qt,by simp only[nC,g1,g4],fun rest=>by simp only[cE,sA.fill,List.append_assoc,g2,g5],fun ρ B m=>⟨g3 _ _ _,g6 _ _ _⟩⟩
   grind
  ·rename_i e
   cases e
   match aD,ha with
   |a :: aD,ha=>
   split at h
   ·rename_i d1 d2 h1 h2
    cases h
    obtain⟨⟨bs,rfl,hb⟩,Q4⟩:=ha
    obtain⟨bs',x2,g1,g2,g3⟩:=Fb h1 hb
    obtain⟨as',qt,g4,g5,g6⟩:=ih h2 Q4
    exact⟨.agg bs' :: as',.agg x2 :: qt,by simp only[nC,El,g1,g4,Option.map_some],fun rest=>by simp only[cE,sA.fill,List.append_assoc,g2,g5],fun ρ B m=>⟨⟨_,rfl,g3 _ _ _⟩,g6 _ _ _⟩⟩
   grind
  grind
section
variable {ρ : aR} {B:Nat} {m2:List (Tr E2)} {m:List (Tr aZ)} (hm:MR ρ B m2 m)
include hm
theorem UQ {x x':Cell} {a:AV} (h:Zx m2 x=some x') (hx:RC ρ B m2 x a):∃ y,gw m a=some y∧l9 x'=some y:=by
 unfold Zx at h
 split at h
 ·cases h;cases hx;exact⟨_,rfl,rfl⟩
 ·cases h;cases hx;exact⟨_,rfl,rfl⟩
 ·cases h;cases hx;exact⟨_,rfl,rfl⟩
 ·cases h;cases hx;exact⟨_,rfl,rfl⟩
 ·cases h
  rcases (fE (m:=m) hx).2 with rfl|⟨o,ho,rfl⟩<;>exact⟨_,rfl,rfl⟩
 ·cases h
  rcases (fQ (m:=m) hx).2.1 with rfl|⟨o,rfl⟩<;>exact⟨_,rfl,rfl⟩
 ·split at h
  ·rename_i r hr
   cases h
   have he:=kZ hm hx hr
   obtain⟨_,u,n,hu,rfl,hn⟩:=hx
   exact⟨_,by simp only[gw,he,Option.map_some],rfl⟩
  grind
 ·split at h
  ·rename_i r hr
   cases h
   have he:=iU hm hx hr (hx.2.choose_spec.2.2 r hr)
   obtain⟨_,u,hu,rfl,_⟩:=hx
   exact⟨_,by simp only[gw,he,Option.map_some],rfl⟩
  grind
 grind
theorem My:∀ {xs xs':List Cell} {aD:List AV},Uw m2 xs=some xs'→aq (RC ρ B m2) xs aD→∃ ds,gP m aD=some ds∧bH xs'=some ds
 |[],xs',[],h,_=>by cases h;exact⟨[],rfl,rfl⟩
 | x :: xs, xs', a :: aD, h, ha => by
  simp[Uw] at h
  split at h
  ·rename_i y ys h1 h2
   cases h
   obtain⟨d,g1,g2⟩:=UQ hm h1 ha.1
   obtain⟨ds,g3,g4⟩:=My h2 ha.2
   exact⟨d :: ds,by simp only[gP,g1,g3],by simp only[bH,g2,g4]⟩
  grind
 |[],_,_ :: _,_,ha=>ha.elim
 |_ :: _,_,[],_,ha=>ha.elim
omit hm in
theorem Oc {a:AV} {y:D} (h:gw m a=some y):j8 m a=some (.d y):=by
 cases a<;>first|(simp only[j8,h];rfl)|cases h
omit hm in
theorem Od {a:AV} {y:D} (h:gw m a=some y):o9 m a=dA a:=by
 cases a<;>first|rfl|cases h
theorem HS {agg:Bool} {c:fC} {x:Cell} {a:AV} {d:List eS} {b:List Bool} (h:c.j8 m2 agg x=some (d,b)) (hx:RC ρ B m2 x a) (hb:∀ t∈b,t=true) :
  ∃ y x',(agg=true→gw m a=some y)∧(agg=false→j8 m a=some (.d y)∧aK ρ (xM m2 (.c x)) (o9 m a))∧(∀ rest,c.fill (d++rest)=some (x',rest))∧RC ρ0 0 [] x' (.d y):=by
 have one:∀ {y:D} {x':Cell},xM m2 (.c x)=ET (.c x)→gw m a=some y→(∀ rest,c.fill (d++rest)=some (x',rest))→RC ρ0 0 [] x' (.d y)→∃ y x',(agg=true→gw m a=some y)∧(agg=false→j8 m a=some (.d y)∧aK ρ (xM m2 (.c x)) (o9 m a))∧(∀ rest,c.fill (d++rest)=some (x',rest))∧RC ρ0 0 [] x' (.d y):=
  fun hk h1 h2 h3=>⟨_,_,fun _=>h1,fun _=>⟨Oc h1,by rw[hk,Od h1];exact Mw (v:=.c x) hx⟩,h2,h3⟩
 unfold fC.j8 at h
 split at h<;>(try dsimp only at h)
 ·split at h
  ·cases h
   cases hx
   exact one rfl rfl (fun _=>rfl) rfl
  grind
 ·cases h
  cases hx
  exact one rfl rfl (fun _=>rfl) rfl
 ·cases h
  cases hx
  exact one rfl rfl (fun _=>rfl) rfl
 ·rename_i t o f
  have key:gw m a=some (.sl (aS t [])):=by
   rcases (fE (m:=m) hx).2 with rfl|⟨o',ho,rfl⟩<;>rfl
  split at h
  ·cases h
   exact one rfl key (fun _=>rfl) (.inl rfl)
  ·cases h
   exact one rfl key (fun _=>rfl) (.inl rfl)
  grind
 ·rename_i t0 o t l o'
  have key:gw m a=some (.sl (aS t l)):=by
   rcases (fQ (m:=m) hx).2.1 with rfl|⟨o',rfl⟩<;>rfl
  split at h
  ·cases h
   exact one rfl key (fun _=>rfl) (.inl rfl)
  ·cases h
   exact one rfl key (fun _=>rfl) (.inl rfl)
  grind
 ·rename_i t0 o lv sq aa t
  cases hr:rowOf m2 lv sq aa with
  |none=>grind
  |some r=>
  simp[hr] at h
  have he:=kZ hm hx hr
  obtain⟨_,u,n,hu,rfl,hn⟩:=hx
  have key:gw m (.ref lv sq u 0 n t.size)=some (.sl (aS r.t r.l)):=by simp[gw,he,Option.map_some]
  cases o with
  |d=>cases h;exact one rfl key (fun _=>rfl) (.inl rfl)
  |bB=>cases h;exact one rfl key (fun _=>rfl) (.inl rfl)
  |full=>simp at h
  |app v=>simp at h
 ·rename_i t0 o lv sq aa t off len
  cases hr:rowOf m2 lv sq aa with
  |none=>grind
  |some r=>
  simp[hr] at h
  have fin:b=[decide (off+len≤r.l.length)]→gw m a=some (.sl (aS r.t ((r.l.drop off).take len))):=by
   intro hb'
   have hle:=of_decide_eq_true (hb (decide (off+len≤r.l.length)) (by rw[hb'];exact List.mem_singleton.2 rfl))
   have he:=iU hm hx hr hle
   obtain⟨_,u,hu,rfl,_⟩:=hx
   simp[gw,he,Option.map_some]
  cases o with
  |d=>cases h;exact one rfl (fin rfl) (fun _=>rfl) (.inl rfl)
  |bB=>cases h;exact one rfl (fin rfl) (fun _=>rfl) (.inl rfl)
  |full=>simp at h
  |app v=>simp at h
 ·rename_i t o lv sq aa off n sz
  split at h
  ·rename_i v cs hg
   split at h
   ·rename_i l hc hp
    rw[Bool.and_eq_true] at hc
    have hv:=Nat.eq_of_beq_eq_true hc.1
    subst hv
    have hle:=Nat.le_of_ble_eq_true hc.2
    obtain⟨dcs,hd,hp⟩:=aJ hp
    obtain⟨_,u,hu,rfl⟩:=hx
    obtain⟨e,g1,g2⟩:=hm.dW _ _ _ hg
    obtain⟨_,u',aD,g3,rfl,g4⟩:=g2
    rw[hu] at g3;obtain⟨ds,q1,q2⟩:=My hm hd ((g4.drop off).take (n*sz))
    have hl:=wI hp (vf n q2)
    have Oe:fK m lv sq u=some aD:=by
     unfold fK<;>simp_all
    have key:j8 m (.eA lv sq u off n sz)=some (.d (.sl (aS t l))):=by
     simp only[j8,Oe]
     rw[if_pos (by rw[←g4.length];exact hle),q1]<;>grind
    have hkeys:aK ρ (xM m2 (.c (.eA lv sq v off n sz))) (o9 m (.eA lv sq u off n sz)):=by
     simp[xM,hg,o9,Oe]
     exact aK.gW lv sq (u9 g4)
    split at h
    ·cases h
     exact⟨_,_,fun h=>(by cases h),fun _=>⟨key,hkeys⟩,fun _=>rfl,.inl rfl⟩
    ·cases h
     exact⟨_,_,fun h=>(by cases h),fun _=>⟨key,hkeys⟩,fun _=>rfl,.inl rfl⟩
    grind
   grind
  grind
 grind
theorem Dw:∀ {cs:List fC} {xs:List Cell} {aD:List AV} {d:List eS} {b:List Bool},wz m2 cs xs=some (d,b)→aq (RC ρ B m2) xs aD→(∀ t∈b,t=true)→
  ∃ ys xs',gP m aD=some ys∧(∀ rest,cj cs (d++rest)=some (xs',rest))∧aq (RC ρ0 0 []) xs' (ys.map .d)
 |[],[],aD,d,b,h,ha,_=>by
  cases h
  match aD,ha with
  |[],_=>simp_all[aR,ρ0,RC,aq,cj,gP]
 | c :: cs, x :: xs, aD, d, b, h, ha, hb => by
  simp[wz] at h
  split at h
  ·rename_i d1 b1 d2 b2 h1 h2
   cases h
   match aD,ha with
   |a :: aD,ha=>
    obtain⟨y,x',g1,_,g2,g3⟩:=HS hm h1 ha.1 (fun t ht=>hb t (List.mem_append_left _ ht))
    obtain⟨ys,xs',g4,g5,g6⟩:=Dw h2 ha.2 (fun t ht=>hb t (List.mem_append_right _ ht))
    exact⟨y :: ys,x' :: xs',by simp only[gP,g1 rfl,g4],fun rest=>by simp only[cj,List.append_assoc,g2,g5],g3,g6⟩
  grind
 |[],_ :: _,_,_,_,h,_,_=>by simp[wz] at h
 |_ :: _,[],_,_,_,h,_,_=>by simp[wz] at h
theorem Dx:∀ {ps:List qy} {vs:List V2} {aD:List AV} {d:List eS} {b:List Bool},wA m2 ps vs=some (d,b)→aq (RV ρ B m2) vs aD→(∀ t∈b,t=true)→
  ∃ as' vs',ur m aD=some as'∧aK ρ (vs.flatMap (xM m2)) (aD.flatMap (o9 m))∧(∀ rest,cE ps (d++rest)=some (vs',rest))∧aq (RV ρ0 0 []) vs' as'
 |[],[],aD,d,b,h,ha,_=>by
  cases h
  match aD,ha with
  |[],_=>exact⟨[],[],rfl,aK.nil,fun _=>rfl,trivial⟩
 | p :: ps, v :: vs, aD, d, b, h, ha, hb => by
  simp[wA] at h
  split at h
  ·rename_i d1 b1 d2 b2 h1 h2
   cases h
   match aD,ha with
   | a :: aD, ha =>
    obtain⟨as',vs',g4,g7,g5,g6⟩:=Dx h2 ha.2 (fun t ht=>hb t (List.mem_append_right _ ht))
    have qJ:∀ t∈b1,t=true:=fun t ht=>hb t (List.mem_append_left _ ht)
    have one:∃ a' v',j8 m a=some a'∧aK ρ (xM m2 v) (o9 m a)∧(∀ rest,cE (p :: ps) (d1++rest)=(match cE ps rest with
      |some (xs,r'')=>some (v' :: xs,r'')
      |none=>none))∧RV ρ0 0 [] v' a':=by
     unfold qy.j8 at h1
     split at h1
     ·obtain ⟨y, x', _, q1, q2, q3⟩ := HS hm h1 ha.1 qJ
      exact⟨_,.c x',(q1 rfl).1,(q1 rfl).2,fun rest=>by simp only[cE,sA.fill,q2];rfl,q3⟩
     ·obtain ⟨bs, e, hc⟩ := ha.1
      subst e
      obtain⟨ys,ZK,q1,q2,q3⟩:=Dw hm h1 hc qJ
      exact⟨.agg (ys.map .d),.agg ZK,by simp only[j8,q1,Option.map_some],u9 hc,fun rest=>by simp only[cE,sA.fill,q2];rfl,_,rfl,q3⟩
     ·split at h1
      ·rename_i f f' hf
       have e:=Nat.eq_of_beq_eq_true hf
       subst e
       cases h1
       obtain⟨bs,e,hc⟩:=ha.1
       subst e
       match bs,hc with
       |[],_=>exact⟨.fB _ [],.fB _ [],rfl,aK.nil,fun rest=>by simp only[cE,List.nil_append];rfl,[],rfl,trivial⟩
      grind
     grind
    obtain⟨a',v',g1,g8,g2,g3⟩:=one
    exact⟨a' :: as',v' :: vs',by simp only[ur,g1,g4],(by simp only[List.flatMap_cons];exact g8.append g7),fun rest=>by rw[List.append_assoc,g2,g5],g3,g6⟩
  grind
 |[],_ :: _,_,_,_,h,_,_=>by simp[wA] at h
 |_ :: _,[],_,_,_,h,_,_=>by simp[wA] at h
end
theorem rG {α : Type} {l:List Bool} {k:Option α} {r : α} (h:wv l k=some r):(∀ t∈l,t=true)∧k=some r:=by
 induction l with
 |nil=>grind[wv]
 |cons b l ih=>
  obtain⟨h1,h2⟩:=bK h<;>grind
section
variable {α : Type} {ρ : aR} {B:Nat} {s2:S2} {s:St} {r : α} (hm:MR ρ B s2.mem s.mem) (bI:tM ρ B s2.mem s2.slots s.slots)
include hm bI
theorem UR {ar:zB} {K:Bool→List Cell→Option α} (h:Zz s2 ar K=some r):∃ a cs v,GF s ar=some v∧R1 ρ B s2.mem (a,cs) v∧K a cs=some r:=by
 unfold Zz at h
 split at h
 ·split at h
  ·rename_i x hx
   have hv:=bI _ _ hx
   refine⟨false,[x],_,?_,⟨x,rfl,hv⟩,h⟩
   simp[GF,(RC.cell hv).2.2]
  ·rename_i cs hx
   obtain⟨aD,e,hv⟩:=bI _ _ hx
   refine⟨true,cs,.agg aD,?_,⟨aD,rfl,hv⟩,h⟩
   simp[GF,e,eY]
  grind
 ·obtain ⟨p, hp, h⟩ := bN h
  obtain⟨cs,aD,h1,h2,h3⟩:=HM hm h (bI _ _ hp)
  split at h3
  ·refine ⟨true, cs, .agg aD, ?_, ⟨aD, rfl, h2⟩, h3⟩
   simp[GF,h1,Option.bind_some,fO]
  ·rename_i x _
   match aD,h2 with
   |[a],h2=>
    refine⟨false,[x],a,?_,⟨x,rfl,h2.1⟩,h3⟩
    simp[GF,h1,Option.bind_some,fO]
  grind
theorem vh:∀ {l:List zB} {K:List (Bool×List Cell)→Option α},xN s2 l K=some r→∃ vs aD,kq s l=some aD∧aq (R1 ρ B s2.mem) vs aD∧K vs=some r
 |[],K,h=>⟨[],[],rfl,trivial,h⟩
 |x :: l,K,h=>by
  obtain⟨a,cs,v,h1,h2,h⟩:=UR hm bI h
  obtain⟨vs,aD,h3,h4,h⟩:=vh h
  exact⟨(a,cs) :: vs,v :: aD,by simp only[kq,h1,h3],⟨h2,h4⟩,h⟩
end
theorem vi {cm:List (Tr aZ)} {top k lv sl aa:Nat} {els:List (List D)} {o:PK} (h:o≠.bB):aW cm top 0 k lv sl aa (.own els o)=some (.d (.sl els),[]):=by
 cases o with
 |bB=>grind
 |_=>rfl
section
variable {ρ : aR} {B:Nat} {m2:List (Tr E2)} {m:List (Tr aZ)} (hm:MR ρ B m2 m)
include hm
theorem Mz {top k lv sl aa:Nat} {x y:Cell} {a:AV} (h:Qx m2 top x=some y) (hx:RC ρ B m2 x a):∃ a',aW m top 0 k lv sl aa a=some (a',[])∧RC ρ B (m2.take top) y a':=by
 unfold Qx at h
 split at h
 ·cases h;cases hx;exact⟨_,rfl,rfl⟩
 ·cases h;cases hx;exact⟨_,rfl,rfl⟩
 ·cases h;cases hx;exact⟨_,rfl,rfl⟩
 ·cases h;cases hx;exact⟨_,rfl,rfl⟩
 ·cases h
  rcases (fE (m:=m) hx).2 with e|⟨o',ho,e⟩
  ·subst e;exact⟨_,rfl,.inl rfl⟩
  ·subst e;exact⟨_,vi ho,.inl rfl⟩
 ·cases h
 ·rename_i t l o hne
  cases h
  rcases (fQ (m:=m) hx).2.2 (fun e=>hne e) with e|⟨o2,ho,e⟩
  ·subst e;exact⟨_,rfl,.inl rfl⟩
  ·subst e;exact⟨_,vi ho,.inl rfl⟩
 ·split at h
  ·rename_i hb
   cases h
   obtain⟨hv,u,n,hu,rfl,hn⟩:=hx
   refine⟨_,by simp only[aW,hb],hv,u,n,hu,rfl,fun r hr=>hn r ?_⟩
   have h1:=bS hr
   refine fH.2 ?_
   unfold gL at h1 ⊢
   rw[List.getElem?_take] at h1
   split at h1
   ·exact h1
   ·cases h1
  ·rename_i hb
   split at h
   ·rename_i r hr
    cases h
    have he:=kZ hm hx hr
    obtain⟨hv,u,n,hu,rfl,hn⟩:=hx
    refine⟨.d (.sl (aS r.t r.l)),?_,.inl rfl⟩
    simp[aW,hb,he]
   ·cases h
 ·rename_i bV cS fN t off len
  split at h
  ·rename_i hb
   cases h
   obtain⟨hv,u,hu,rfl,hn⟩:=hx
   refine⟨_,by simp only[aW,hb],hv,u,hu,rfl,fun r hr=>hn r ?_⟩
   have h1:=bS hr
   refine fH.2 ?_
   unfold gL at h1 ⊢
   rw[List.getElem?_take] at h1
   split at h1
   ·exact h1
   ·cases h1
  ·rename_i hb
   split at h
   ·rename_i r hr
    cases h
    have he:=iU hm hx hr (hx.2.choose_spec.2.2 r hr)
    obtain⟨hv,u,hu,rfl,hn⟩:=hx
    refine⟨.d (.sl (aS r.t ((r.l.drop off).take len))),?_,.inl rfl⟩
    simp[aW,hb,he]
   ·cases h
 ·cases h
theorem HT {top lv sl aa:Nat} : ∀ {k:Nat} {xs ys:List Cell} {aD:List AV},Au m2 top xs=some ys→aq (RC ρ B m2) xs aD→∃ as',bZ m top 0 lv sl aa k aD=some (as',[])∧aq (RC ρ B (m2.take top)) ys as'
 |k,[],ys,aD,h,ha=>by
  cases h
  match aD,ha with
  |[],_=>exact⟨[],rfl,trivial⟩
 | k, x :: xs, ys, aD, h, ha => by
  simp[Au] at h
  split at h
  ·rename_i y ys' h1 h2
   cases h
   match aD,ha with
   |a :: aD,ha=>
    obtain⟨a',g1,g2⟩:=Mz hm (k:=k) (lv:=lv) (sl:=sl) (aa:=aa) h1 ha.1
    obtain⟨as',g3,g4⟩:=HT (lv:=lv) (sl:=sl) (aa:=aa) (k:=k+1) h2 ha.2
    exact⟨a' :: as',by simp only[bZ,g1,g3,List.append_nil],g2,g4⟩
  grind
theorem MA {top lv sl aa k:Nat} {b:Bool} {xs ys:List Cell} {a:AV} (h:Au m2 top xs=some ys) (ha:R1 ρ B m2 (b,xs) a):∃ a',kj m top 0 lv sl aa k a=some (a',[])∧R1 ρ B (m2.take top) (b,ys) a':=by
 cases b with
 |true=>
  obtain⟨aD,rfl,ha⟩:=ha
  obtain⟨as',g1,g2⟩:=HT hm (k:=k) (lv:=lv) (sl:=sl) (aa:=aa) h ha<;>simp_all[RC,aq,Au,aR,R1,kj]
 | false =>
  obtain⟨c,rfl,ha⟩:=ha
  simp[Au] at h
  split at h
  ·rename_i y ys' h1 h2
   simp_all;subst h
   obtain⟨a',g1,g2⟩:=Mz hm (k:=k) (lv:=lv) (sl:=sl) (aa:=aa) h1 ha
   refine⟨a',?_,y,rfl,g2⟩
   have hc:=RC.cell ha
   cases a<;>first|exact g1|cases hc.2.1
  grind
theorem Dy {top lv sl aa:Nat} : ∀ {k:Nat} {vs ws:List (Bool×List Cell)} {aD:List AV},xO m2 top vs=some ws→aq (R1 ρ B m2) vs aD→∃ as',eX m top 0 lv sl aa k aD=some (as',[])∧aq (R1 ρ B (m2.take top)) ws as'
 |k,[],ws,aD,h,ha=>by
  cases h
  match aD,ha with
  |[],_=>exact⟨[],rfl,trivial⟩
 | k, (b, x) :: xs, ws, aD, h, ha => by
  simp[xO] at h
  split at h
  ·rename_i y ys' h1 h2
   cases h
   match aD,ha with
   |a :: aD,ha=>
    obtain⟨a',g1,g2⟩:=MA hm (k:=k) (lv:=lv) (sl:=sl) (aa:=aa) h1 ha.1
    obtain⟨as',g3,g4⟩:=Dy (lv:=lv) (sl:=sl) (aa:=aa) (k:=k+64) h2 ha.2
    exact⟨a' :: as',by simp only[eX,g1,g3,List.append_nil],g2,g4⟩
  grind
omit hm in
theorem R1.eY {b:Bool} {cs:List Cell} {a:AV} (h:R1 ρ B m2 (b,cs) a):bq.eY a=true:=by
 cases b with
 |true=>obtain⟨aD,rfl,_⟩:=h;rfl
 |false=>obtain⟨c,_,h⟩:=h;exact (RC.cell h).2.2
theorem US {top lv sl aa:Nat} {vs ws:List (Bool×List Cell)} {w:V2} {aD:List AV} (h:xO m2 top vs=some ws) (ht:mT ws=some w) (ha:aq (R1 ρ B m2) vs aD):∃ a',fF m top 0 lv sl aa (iH aD)=some (a',[])∧RV ρ B (m2.take top) w a':=by
 match vs,aD,ha with
 |[],[],ha=>
  cases h
  cases ht
  exact⟨.gN [],rfl,[],rfl,trivial⟩
 | [(b, x)], [a], ha =>
  simp[xO] at h
  split at h
  ·rename_i y ys' h1 h2
   simp_all;subst h
   obtain⟨a',g1,g2⟩:=MA hm (k:=1) (lv:=lv) (sl:=sl) (aa:=aa) h1 ha.1
   refine⟨a',?_,?_⟩
   ·have hn := R1.eY ha.1
    cases a<;>first|exact g1|cases hn
   ·cases b with
    |true=>
     obtain⟨as',rfl,g3⟩:=g2
     cases ht
     exact⟨as',rfl,g3⟩
    |false=>
     obtain⟨c,rfl,g3⟩:=g2
     cases ht
     exact g3
  grind
 | v :: v' :: vs, a :: a' :: aD, ha =>
  obtain⟨as',g1,g2⟩:=Dy hm (k:=1) (lv:=lv) (sl:=sl) (aa:=aa) h ha
  refine⟨.gN as',?_,?_⟩
  ·simp[iH,fF,g1,Option.map_some]
  ·have : ∃ x y zs, ws = x :: y :: zs := by
    simp[xO] at h<;>grind
   obtain⟨x,y,zs,rfl⟩:=this
   cases ht
   exact⟨as',rfl,g2⟩
end
end Go.Sym
