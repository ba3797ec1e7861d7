/- The machine over typed data: arguments and results of calls. -/
import Derived.Test.YtlfhlggkbcncoaaSymH
namespace Go.Sym
open Go Go.Eng
theorem castTy_self {a b:Ty} {x:a.den} {y:b.den} (h:castTy a b x=some y):(⟨b,y⟩:Dyn)=⟨a,x⟩:=by
 obtain⟨e,he⟩:=castTy_eq h
 subst e
 simp only at he
 rw[he]
theorem unpack_pack:∀ {ts:List Ty} {ds:List Dyn} {x:(tyL ts).den},pack ts ds=some x→unpack ts x=ds
 |[],[],_,_=>rfl
 |[a],[d],x,h=>by
  have:=castTy_self h
  simp only[unpack]
  rw[this]
 | a :: b :: r, d :: ds, x, h => by
  simp only[pack] at h
  split at h
  ·rename_i y z h1 h2
   injection h with h;subst h
   simp only[unpack]
   rw[castTy_self h1,unpack_pack h2]
  ·cases h
 |[],_ :: _,_,h=>by simp[pack] at h
 |[_],[],_,h=>by simp[pack] at h
 |[_],_ :: _ :: _,_,h=>by simp[pack] at h
 |_ :: _ :: _,[],_,h=>by simp[pack] at h
theorem axEq_true {a b:AX} (h:axEq a b=true):a=b:=by
 unfold axEq at h
 split at h
 ·rfl
 ·rw[Nat.eq_of_beq_eq_true h]
 ·rfl
 ·cases h
theorem outs_ok {ρ : VMap} {so:List (Tr AV)} {s2:S2} {s:St} {ax:AX} (hs:SR' ρ so s2 s):∀ {os:Outs} {y:(outTy os).den},outsG os ax s2=some y→
  ∃ s2' ρ',SR' ρ' so s2' s∧Fr ρ s2.nv s.nv ρ' s2'.nv∧∀ {α : Type} (K:AX→S2→Option α),outsK os y K=K ax s2'
 |[],_,h=>by simp[outsG] at h
 | [x], y, h => by
  simp only[outsG] at h
  split at h
  ·rename_i he
   obtain⟨ds,h1,h2⟩:=optK_some h
   obtain⟨s2',ρ',g1,g2,g3⟩:=tmpl_ok h1 hs
   refine⟨s2',ρ',g2,g3,fun K=>?_⟩
   simp only[outsK,unpack_pack h2,g1,optK,axEq_true he]
  ·cases h
 | x :: z :: r, y, h => by
  simp only[outsG] at h
  split at h
  ·rename_i he
   obtain⟨y',h1,h2⟩:=optK_some h
   injection h2 with h2;subst h2
   obtain⟨ds,h3,h4⟩:=opt_bind h1
   obtain⟨s2',ρ',g1,g2,g3⟩:=tmpl_ok h3 hs
   refine⟨s2',ρ',g2,g3,fun K=>?_⟩
   simp only[outsK,unpack_pack h4,g1,optK,axEq_true he]
  ·obtain ⟨y', h1, h2⟩ := optK_some h
   injection h2 with h2;subst h2
   obtain⟨s2',ρ',g2,g3,g4⟩:=outs_ok hs h1
   exact⟨s2',ρ',g2,g3,fun K=>by simp only[outsK,g4]⟩
theorem RC.still {ρ ρ':VMap} {B B':Nat} {m m':List (Tr E2)} {c:Cell} {a:AV} (hc:c.still=true) (h:RC ρ B m c a):RC ρ' B' m' c a:=by
 cases c with
 |nil f=>cases f<;>exact h
 |sl t l o=>cases o with
  |app v=>cases hc
  |_=>exact h
 |ref=>cases hc
 |refp=>cases hc
 |ptr=>cases hc
 |bref=>cases hc
 |mp=>cases hc
 |_=>exact h
theorem RCs.still {ρ ρ':VMap} {B B':Nat} {m m':List (Tr E2)} : ∀ {cs:List Cell} {as:List AV},cs.all Cell.still=true→All2 (RC ρ B m) cs as→All2 (RC ρ' B' m') cs as
 |[],[],_,_=>trivial
 |c :: cs,a :: as,hc,h=>by
  rw[List.all_cons,Bool.and_eq_true] at hc
  exact⟨h.1.still hc.1,RCs.still hc.2 h.2⟩
 |[],_ :: _,_,h=>h.elim
 |_ :: _,[],_,h=>h.elim
theorem RV.still {ρ ρ':VMap} {B B':Nat} {m m':List (Tr E2)} {v:V2} {a:AV} (hv:v.still=true) (h:RV ρ B m v a):RV ρ' B' m' v a:=by
 cases v with
 |c c=>exact RC.still hv h
 |agg cs=>obtain⟨as,h1,h2⟩:=h;exact⟨as,h1,RCs.still hv h2⟩
 |clo f cs=>obtain⟨as,h1,h2⟩:=h;exact⟨as,h1,RCs.still hv h2⟩
 | tup vs =>
  obtain⟨as,h1,h2⟩:=h
  refine⟨as,h1,?_⟩
  clear h1
  replace hv:vs.all (fun v=>v.2.all Cell.still)=true:=hv
  induction vs generalizing as with
  |nil=>cases as<;>exact h2
  | cons v vs ih =>
   cases as with
   |nil=>exact h2.elim
   | cons a as =>
    rw[List.all_cons,Bool.and_eq_true] at hv
    refine⟨?_,ih as h2.2 hv.2⟩
    obtain⟨b,cs⟩:=v
    cases b with
    |true=>obtain⟨bs,h3,h4⟩:=h2.1;exact⟨bs,h3,RCs.still hv.1 h4⟩
    |false=>
     obtain⟨c,h3,h4⟩:=h2.1
     refine⟨c,h3,h4.still ?_⟩
     subst h3
     simpa using hv.1
theorem Tr.get_nd {α : Type} (v:Option α) (l r:Tr α) (k:Nat):(Tr.nd v l r).get? k=if k=0 then v else if k % 2=1 then l.get? (k / 2) else r.get? (k / 2-1):=by
 simp only[Tr.get?]
 cases h0:Nat.beq k 0 with
 |true=>simp[Nat.eq_of_beq_eq_true h0]
 |false=>
  have:=Nat.ne_of_beq_eq_false h0
  cases h1:Nat.beq (k % 2) 1 with
  |true=>simp[this,Nat.eq_of_beq_eq_true h1]
  |false=>simp[this,Nat.ne_of_beq_eq_false h1]
theorem Tr.get_top {α : Type} (t:Tr α) (k:Nat):t.get? k=if k=0 then t.top else if k % 2=1 then t.left.get? (k / 2) else t.right.get? (k / 2-1):=by
 cases t with
 |lf=>simp[Tr.get?,Tr.top,Tr.left,Tr.right]
 |nd v l r=>rw[Tr.get_nd];rfl
theorem loose_get:∀ (t:Tr V2) (k:Nat) (v:V2),(loose t).get? k=some v→t.get? k=some v
 |.lf,_,_,h=>by simp[loose] at h
 | .nd x l r, k, v, h => by
  simp only[loose] at h
  rw[Tr.get_nd] at h ⊢
  by_cases h0:k=0
  ·rw [if_pos h0] at h ⊢
   split at h
   ·cases h
   ·split at h
    ·cases h
    ·exact h
  ·rw [if_neg h0] at h ⊢
   by_cases h1:k % 2=1
   ·rw [if_pos h1] at h ⊢
    exact loose_get l _ v h
   ·rw [if_neg h1] at h ⊢
    exact loose_get r _ v h
theorem merge_get:∀ (a b:Tr V2) (k:Nat) (v:V2),(merge a b).get? k=some v→(a.get? k=some v∧v.still=true)∨b.get? k=some v
 |.lf,_,_,_,h=>by simp[merge] at h
 | .nd x l r, b, k, v, h => by
  simp only[merge] at h
  rw[Tr.get_nd] at h
  rw[Tr.get_nd,Tr.get_top b]
  by_cases h0:k=0
  ·rw [if_pos h0] at h ⊢
   rw[if_pos h0]
   split at h
   ·cases h
   ·split at h
    ·injection h with h;subst h;exact .inl ⟨rfl,by assumption⟩
    ·exact .inr h
  ·rw [if_neg h0] at h ⊢
   rw[if_neg h0]
   by_cases h1:k % 2=1
   ·rw [if_pos h1] at h ⊢
    rw[if_pos h1]
    exact merge_get l _ _ v h
   ·rw [if_neg h1] at h ⊢
    rw[if_neg h1]
    exact merge_get r _ _ v h
def ρ0:VMap:=fun _=>none
theorem give_own {m:List (Tr Ent)} {els:List (List D)} {o:Own} (h:o≠.bor):giveCell m (.own els o)=some (.d (.sl els),[]):=by
 cases o with
 |bor=>exact absurd rfl h
 |_=>rfl
theorem lend_own {m:List (Tr Ent)} {els:List (List D)} {o:Own} (h:o≠.bor):lendCell m (.own els o)=some (.d (.sl els)):=by
 cases o with
 |bor=>exact absurd rfl h
 |_=>rfl
def Giv (agg:Bool) (m:List (Tr Ent)) (a a':AV) (k:List (Nat×Nat)):Prop:=(agg=true∧giveCell m a=some (a',k))∨(agg=false∧lendCell m a=some a'∧k=[])
theorem Giv.data {agg:Bool} {m:List (Tr Ent)} {a:AV} {y:D} (e:a=.d y):Giv agg m a (.d y) []:=by
 subst e
 cases agg
 ·exact .inr ⟨rfl,rfl,rfl⟩
 ·exact .inl ⟨rfl,rfl⟩
theorem Giv.ownd {agg:Bool} {m:List (Tr Ent)} {a:AV} {els:List (List D)} {o:Own} (ho:o≠.bor) (e:a=.own els o):Giv agg m a (.d (.sl els)) []:=by
 subst e
 cases agg
 ·exact .inr ⟨rfl,lend_own ho,rfl⟩
 ·exact .inl ⟨rfl,give_own ho⟩
theorem Giv.ownb {agg:Bool} {m:List (Tr Ent)} {a:AV} {els:List (List D)} (e:a=.own els .bor):Giv agg m a (.own els .bor) []:=by
 subst e
 cases agg
 ·exact .inr ⟨rfl,rfl,rfl⟩
 ·exact .inl ⟨rfl,rfl⟩
section
variable {ρ : VMap} {B:Nat} {m2:List (Tr E2)} {m:List (Tr Ent)} (hm:MR ρ B m2 m)
include hm
theorem arg_ok {agg:Bool} {c:CSh} {x:Cell} {a:AV} {d:List Dyn} {k:List (Nat×Nat)} {b:List Bool} (h:c.arg m2 agg x=some (d,k,b)) (hx:RC ρ B m2 x a) (hb:∀ t∈b,t=true) :
  ∃ a' x',Giv agg m a a' k∧(∀ rest,c.fill (d++rest)=some (x',rest))∧RC ρ0 0 [] x' a':=by
 unfold CSh.arg at h
 split at h<;>(try dsimp only at h)
 ·split at h
  ·simp only [Option.some.injEq, Prod.mk.injEq] at h; obtain ⟨rfl, rfl, rfl⟩ := h
   exact⟨_,_,Giv.data hx,fun _=>rfl,rfl⟩
  ·cases h
 ·simp only [Option.some.injEq, Prod.mk.injEq] at h; obtain ⟨rfl, rfl, rfl⟩ := h
  exact⟨_,_,Giv.data hx,fun _=>rfl,rfl⟩
 ·simp only [Option.some.injEq, Prod.mk.injEq] at h; obtain ⟨rfl, rfl, rfl⟩ := h
  exact⟨_,_,Giv.data hx,fun _=>rfl,rfl⟩
 ·rename_i t o f
  have key:∃ a',Giv agg m a a' []∧a'=.d (.sl (encL t [])):=by
   rcases (els_nil (m:=m) hx).2 with e|⟨o',ho,e⟩
   ·exact⟨_,Giv.data e,rfl⟩
   ·exact⟨_,Giv.ownd ho e,rfl⟩
  obtain⟨a',g1,g2⟩:=key
  split at h
  ·simp only [Option.some.injEq, Prod.mk.injEq] at h; obtain ⟨rfl, rfl, rfl⟩ := h
   exact⟨_,_,g1,fun _=>rfl,.inl g2⟩
  ·simp only [Option.some.injEq, Prod.mk.injEq] at h; obtain ⟨rfl, rfl, rfl⟩ := h
   exact⟨_,_,g1,fun _=>rfl,.inl g2⟩
  ·cases h
 ·rename_i t0 o t l o'
  split at h
  ·simp only [Option.some.injEq, Prod.mk.injEq] at h; obtain ⟨rfl, rfl, rfl⟩ := h
   rcases (els_sl (m:=m) hx).2.1 with e|⟨o2,e⟩
   ·exact⟨_,_,Giv.data e,fun _=>rfl,.inl rfl⟩
   ·by_cases ho : o2 = .bor
    ·subst ho;exact⟨_,_,Giv.ownb e,fun _=>rfl,.inr ⟨_,rfl⟩⟩
    ·exact⟨_,_,Giv.ownd ho e,fun _=>rfl,.inl rfl⟩
  ·cases h
  ·rename_i hne
   simp only[Option.some.injEq,Prod.mk.injEq] at h;obtain⟨rfl,rfl,rfl⟩:=h
   rcases (els_sl (m:=m) hx).2.2 (fun e=>hne e) with e|⟨o2,ho,e⟩
   ·exact⟨_,_,Giv.data e,fun _=>rfl,.inl rfl⟩
   ·exact⟨_,_,Giv.ownd ho e,fun _=>rfl,.inl rfl⟩
  ·cases h
 ·rename_i t0 o lv sq ver t
  cases hr:rowOf m2 lv sq ver with
  |none=>simp[hr] at h
  |some r=>
  simp only[hr] at h
  have he:=els_ref hm hx hr
  obtain⟨_,u,n,hu,rfl,hn⟩:=hx
  have hg:giveCell m (.ref lv sq u 0 n t.size)=some (.d (.sl (encL r.t r.l)),[(lv,sq)]):=by simp only[giveCell,toD,he,Option.map_some]
  have hl:lendCell m (.ref lv sq u 0 n t.size)=some (.own (encL r.t r.l) .bor):=by simp only[lendCell,he,Option.map_some]
  cases o with
  |bor=>cases agg with
   |false=>simp only[Option.some.injEq,Prod.mk.injEq] at h;obtain⟨rfl,rfl,rfl⟩:=h;exact⟨_,_,.inr ⟨rfl,hl,rfl⟩,fun _=>rfl,.inr ⟨_,rfl⟩⟩
   |true=>simp only[Option.some.injEq,Prod.mk.injEq] at h;obtain⟨rfl,rfl,rfl⟩:=h;exact⟨_,_,.inl ⟨rfl,hg⟩,fun _=>rfl,.inl rfl⟩
  |d=>cases agg with
   |false=>simp at h
   |true=>simp only[Option.some.injEq,Prod.mk.injEq] at h;obtain⟨rfl,rfl,rfl⟩:=h;exact⟨_,_,.inl ⟨rfl,hg⟩,fun _=>rfl,.inl rfl⟩
  |full=>cases agg<;>simp at h
  |app v=>cases agg<;>simp at h
 ·rename_i t0 o lv sq ver t off len
  cases hr:rowOf m2 lv sq ver with
  |none=>simp[hr] at h
  |some r=>
  simp only[hr] at h
  cases o with
  | bor => cases agg with
   |false=>
    simp only[Option.some.injEq,Prod.mk.injEq] at h;obtain⟨rfl,rfl,rfl⟩:=h
    have he:=els_refp hm hx hr (of_decide_eq_true (hb _ List.mem_cons_self))
    obtain⟨_,u,hu,rfl,_⟩:=hx
    refine⟨.own (encL r.t ((r.l.drop off).take len)) .bor,_,.inr ⟨rfl,?_,rfl⟩,fun _=>rfl,.inr ⟨_,rfl⟩⟩
    simp only[lendCell,he,Option.map_some]
   |true=>simp at h
  |d=>cases agg<;>simp at h
  |full=>cases agg<;>simp at h
  |app v=>cases agg<;>simp at h
 ·cases h
theorem argCs_ok:∀ {cs:List CSh} {xs:List Cell} {as:List AV} {d:List Dyn} {k:List (Nat×Nat)} {b:List Bool},argCs m2 cs xs=some (d,k,b)→All2 (RC ρ B m2) xs as→(∀ t∈b,t=true)→
  ∃ as' xs',giveCells m as=some (as',k)∧(∀ rest,fillCs cs (d++rest)=some (xs',rest))∧All2 (RC ρ0 0 []) xs' as'
 |[],[],as,d,k,b,h,ha,_=>by
  simp only[argCs,Option.some.injEq,Prod.mk.injEq] at h
  obtain⟨rfl,rfl,rfl⟩:=h
  match as,ha with
  |[],_=>exact⟨[],[],rfl,fun _=>rfl,trivial⟩
 | c :: cs, x :: xs, as, d, k, b, h, ha, hb => by
  simp only[argCs] at h
  split at h
  ·rename_i d1 k1 b1 d2 k2 b2 h1 h2
   simp only[Option.some.injEq,Prod.mk.injEq] at h;obtain⟨rfl,rfl,rfl⟩:=h
   match as,ha with
   |a :: as,ha=>
    obtain⟨a',x',g1,g2,g3⟩:=arg_ok hm h1 ha.1 (fun t ht=>hb t (List.mem_append_left _ ht))
    have g1:giveCell m a=some (a',k1):=by rcases g1 with⟨_,g⟩|⟨g,_⟩;exact g;cases g
    obtain⟨as',xs',g4,g5,g6⟩:=argCs_ok h2 ha.2 (fun t ht=>hb t (List.mem_append_right _ ht))
    exact⟨a' :: as',x' :: xs',by simp only[giveCells,g1,g4],fun rest=>by simp only[fillCs,List.append_assoc,g2,g5],g3,g6⟩
  ·cases h
 |[],_ :: _,_,_,_,_,h,_,_=>by simp[argCs] at h
 |_ :: _,[],_,_,_,_,h,_,_=>by simp[argCs] at h
omit hm in
theorem lend_cell {a:AV} (h0:cellsOf a=some [a]) (h1:isCell0 a=true):lend m a=(lendCell m a).map fun y=>(y,[]):=by
 cases a<;>first|rfl|cases h1
theorem args2_ok:∀ {ps:List PSh} {vs:List V2} {as:List AV} {d:List Dyn} {k:List (Nat×Nat)} {b:List Bool},argsK m2 ps vs=some (d,k,b)→All2 (RV ρ B m2) vs as→(∀ t∈b,t=true)→
  ∃ as' vs',lends m as=some (as',k)∧(∀ rest,fillP ps (d++rest)=some (vs',rest))∧All2 (RV ρ0 0 []) vs' as'
 |[],[],as,d,k,b,h,ha,_=>by
  simp only[argsK,Option.some.injEq,Prod.mk.injEq] at h
  obtain⟨rfl,rfl,rfl⟩:=h
  match as,ha with
  |[],_=>exact⟨[],[],rfl,fun _=>rfl,trivial⟩
 | p :: ps, v :: vs, as, d, k, b, h, ha, hb => by
  simp only[argsK] at h
  split at h
  ·rename_i d1 k1 b1 d2 k2 b2 h1 h2
   simp only[Option.some.injEq,Prod.mk.injEq] at h;obtain⟨rfl,rfl,rfl⟩:=h
   match as,ha with
   | a :: as, ha =>
    obtain⟨as',vs',g4,g5,g6⟩:=args2_ok h2 ha.2 (fun t ht=>hb t (List.mem_append_right _ ht))
    have hb1:∀ t∈b1,t=true:=fun t ht=>hb t (List.mem_append_left _ ht)
    have one:∃ a' v',lend m a=some (a',k1)∧(∀ rest,fillP (p :: ps) (d1++rest)=(match fillP ps rest with
      |some (xs,r'')=>some (v' :: xs,r'')
      |none=>none))∧RV ρ0 0 [] v' a':=by
     unfold PSh.arg at h1
     split at h1
     ·obtain ⟨a', x', q0, q2, q3⟩ := arg_ok hm h1 ha.1 hb1
      have q1:lendCell m a=some a'∧k1=[]:=by rcases q0 with⟨g,_⟩|⟨_,g⟩;cases g;exact g
      obtain⟨q1,rfl⟩:=q1
      have hc:=RC.cell ha.1
      exact⟨a',.c x',by rw[lend_cell hc.1 hc.2.1,q1];rfl,fun rest=>by simp only[fillP,VSh.fill,q2];rfl,q3⟩
     ·obtain ⟨bs, e, hc⟩ := ha.1
      subst e
      obtain⟨as1,xs1,q1,q2,q3⟩:=argCs_ok hm h1 hc hb1
      exact⟨.agg as1,.agg xs1,by simp only[lend,q1,Option.map_some],fun rest=>by simp only[fillP,VSh.fill,q2];rfl,as1,rfl,q3⟩
     ·split at h1
      ·rename_i f f' hf
       have e:=Nat.eq_of_beq_eq_true hf
       subst e
       simp only[Option.some.injEq,Prod.mk.injEq] at h1;obtain⟨rfl,rfl,rfl⟩:=h1
       obtain⟨bs,e,hc⟩:=ha.1
       subst e
       match bs,hc with
       |[],_=>exact⟨.clo _ [],.clo _ [],rfl,fun rest=>by simp only[fillP,List.nil_append];rfl,[],rfl,trivial⟩
      ·cases h1
     ·cases h1
    obtain⟨a',v',g1,g2,g3⟩:=one
    exact⟨a' :: as',v' :: vs',by simp only[lends,g1,g4],fun rest=>by rw[List.append_assoc,g2,g5],g3,g6⟩
  ·cases h
 |[],_ :: _,_,_,_,_,h,_,_=>by simp[argsK] at h
 |_ :: _,[],_,_,_,_,h,_,_=>by simp[argsK] at h
end
theorem chunk_cellDs {sz:Nat} : ∀ (n:Nat) {l:List Cell} {ds:List D},cellDs l=some ds→All2 (fun c d=>cellDs c=some d) (Eng.chunk sz n l) (Eng.chunk sz n ds)
 |0,_,_,_=>trivial
 |n+1,_,_,h=>⟨cellDs_take sz h,chunk_cellDs n (cellDs_drop sz h)⟩
theorem resDynC_fill {c:CSh} {x':Cell} {d:List Dyn} {y:D} (hd:resDynC c x'=some d) (hy:cellD x'=some y):∃ x2,(∀ rest,c.fill (d++rest)=some (x2,rest))∧∀ (ρ : VMap) (B:Nat) (m:List (Tr E2)),RC ρ B m x2 (.d y):=by
 unfold resDynC at hd
 split at hd
 ·split at hd
  ·injection hd with hd; subst hd; injection hy with hy; subst hy
   exact⟨_,fun _=>rfl,fun _ _ _=>rfl⟩
  ·cases hd
 ·injection hd with hd; subst hd; injection hy with hy; subst hy
  exact⟨_,fun _=>rfl,fun _ _ _=>rfl⟩
 ·injection hd with hd; subst hd; injection hy with hy; subst hy
  exact⟨_,fun _=>rfl,fun _ _ _=>rfl⟩
 ·injection hd with hd; subst hd; injection hy with hy; subst hy
  exact⟨_,fun _=>rfl,fun _ _ _=>.inl rfl⟩
 ·injection hd with hd; subst hd; injection hy with hy; subst hy
  exact⟨_,fun _=>rfl,fun _ _ _=>.inl rfl⟩
 ·cases hd
theorem datCell_own {els:List (List D)} {o:Own} (h:o≠.bor):datCell (.own els o)=some (.d (.sl els)):=by
 cases o with
 |bor=>exact absurd rfl h
 |_=>rfl
theorem dtC_ok {ρ : VMap} {B:Nat} {m:List (Tr E2)} {x x':Cell} {a:AV} (h:dtC x=some x') (hx:RC ρ B m x a):∃ y,datCell a=some (.d y)∧cellD x'=some y:=by
 unfold dtC at h
 split at h
 ·injection h with h;subst h;cases hx;exact⟨_,rfl,rfl⟩
 ·injection h with h;subst h;cases hx;exact⟨_,rfl,rfl⟩
 ·injection h with h;subst h;cases hx;exact⟨_,rfl,rfl⟩
 ·injection h with h; subst h
  rcases (els_nil (m:=[]) hx).2 with rfl|⟨o,ho,rfl⟩
  ·exact⟨_,rfl,rfl⟩
  ·exact⟨_,datCell_own ho,rfl⟩
 ·cases h
 ·rename_i t l o hne
  injection h with h;subst h
  rcases (els_sl (m:=[]) hx).2.2 (fun e=>hne e) with rfl|⟨o',ho,rfl⟩
  ·exact⟨_,rfl,rfl⟩
  ·exact⟨_,datCell_own ho,rfl⟩
 ·cases h
theorem dt1_ok {ρ : VMap} {B:Nat} {m:List (Tr E2)} {c:CSh} {x:Cell} {a:AV} {d:List Dyn} (h:(dtC x).bind (resDynC c)=some d) (hx:RC ρ B m x a) :
  ∃ y x2,datCell a=some (.d y)∧(∀ rest,c.fill (d++rest)=some (x2,rest))∧∀ (ρ : VMap) (B:Nat) (m:List (Tr E2)),RC ρ B m x2 (.d y):=by
 obtain⟨x',h1,h2⟩:=opt_bind h
 obtain⟨y,h3,h4⟩:=dtC_ok h1 hx
 obtain⟨x2,h5,h6⟩:=resDynC_fill h2 h4
 exact⟨y,x2,h3,h5,h6⟩
theorem dtCs_ok {ρ : VMap} {B:Nat} {m:List (Tr E2)} : ∀ {cs:List CSh} {xs:List Cell} {as:List AV} {ds:List Dyn},dtCs cs xs=some ds→All2 (RC ρ B m) xs as→
  ∃ as' xs2,datCells as=some as'∧(∀ rest,fillCs cs (ds++rest)=some (xs2,rest))∧∀ (ρ : VMap) (B:Nat) (m:List (Tr E2)),All2 (RC ρ B m) xs2 as'
 |[],[],[],ds,h,_=>by
  simp only[dtCs,Option.some.injEq] at h;subst h
  exact⟨[],[],rfl,fun _=>rfl,fun _ _ _=>trivial⟩
 | c :: cs, x :: xs, a :: as, ds, h, ha => by
  simp only[dtCs] at h
  split at h
  ·rename_i d1 d2 h1 h2
   injection h with h;subst h
   obtain⟨y,x2,g1,g2,g3⟩:=dt1_ok h1 ha.1
   obtain⟨as',xs2,g4,g5,g6⟩:=dtCs_ok h2 ha.2
   exact⟨.d y :: as',x2 :: xs2,by simp only[datCells,g1,g4],fun rest=>by simp only[fillCs,List.append_assoc,g2,g5],fun ρ B m=>⟨g3 _ _ _,g6 _ _ _⟩⟩
  ·cases h
 |[],_ :: _,_,_,h,_=>by simp[dtCs] at h
 |_ :: _,[],_,_,h,_=>by simp[dtCs] at h
 |_,[],_ :: _,_,_,ha=>ha.elim
 |_,_ :: _,[],_,_,ha=>ha.elim
theorem dtPs_ok {ρ : VMap} {B:Nat} {m:List (Tr E2)} : ∀ {ps:List PSh} {vs:List V2} {as:List AV} {ds:List Dyn},dtPs ps vs=some ds→All2 (RV ρ B m) vs as→
  ∃ as' vs2,datArgs as=some as'∧(∀ rest,fillP ps (ds++rest)=some (vs2,rest))∧∀ (ρ : VMap) (B:Nat) (m:List (Tr E2)),All2 (RV ρ B m) vs2 as':=by
 intro ps
 induction ps with
 | nil =>
  intro vs as ds h ha
  match vs,as,h,ha with
  |[],[],h,_=>
   simp only[dtPs,Option.some.injEq] at h;subst h
   exact⟨[],[],rfl,fun _=>rfl,fun _ _ _=>trivial⟩
 | cons p ps ih =>
  intro vs as ds h ha
  unfold dtPs at h
  split at h
  ·cases ‹_ :: _=[]›
  ·rename_i e
   injection e with e1 e2
   subst e1 e2
   match as,ha with
   |a :: as,ha=>
   split at h
   ·rename_i d1 d2 h1 h2
    injection h with h;subst h
    obtain⟨y,x2,g1,g2,g3⟩:=dt1_ok h1 ha.1
    obtain⟨as',xs2,g4,g5,g6⟩:=ih h2 ha.2
    have g1:datArg a=some (.d y):=by cases a<;>first|exact g1|cases g1
    exact⟨.d y :: as',.c x2 :: xs2,by simp only[datArgs,g1,g4],fun rest=>by simp only[fillP,VSh.fill,List.append_assoc,g2,g5],fun ρ B m=>⟨g3 _ _ _,g6 _ _ _⟩⟩
   ·cases h
  ·rename_i e
   injection e with e1 e2
   subst e1 e2
   match as,ha with
   |a :: as,ha=>
   split at h
   ·rename_i d1 d2 h1 h2
    injection h with h;subst h
    obtain⟨⟨bs,rfl,hb⟩,ha2⟩:=ha
    obtain⟨bs',x2,g1,g2,g3⟩:=dtCs_ok h1 hb
    obtain⟨as',xs2,g4,g5,g6⟩:=ih h2 ha2
    exact⟨.agg bs' :: as',.agg x2 :: xs2,by simp only[datArgs,datArg,g1,g4,Option.map_some],fun rest=>by simp only[fillP,VSh.fill,List.append_assoc,g2,g5],fun ρ B m=>⟨⟨_,rfl,g3 _ _ _⟩,g6 _ _ _⟩⟩
   ·cases h
  ·cases h
section
variable {ρ : VMap} {B:Nat} {m2:List (Tr E2)} {m:List (Tr Ent)} (hm:MR ρ B m2 m)
include hm
theorem dat1_ok {x x':Cell} {a:AV} (h:dat1 m2 x=some x') (hx:RC ρ B m2 x a):∃ y,cellF m a=some y∧cellD x'=some y:=by
 unfold dat1 at h
 split at h
 ·injection h with h;subst h;cases hx;exact⟨_,rfl,rfl⟩
 ·injection h with h;subst h;cases hx;exact⟨_,rfl,rfl⟩
 ·injection h with h;subst h;cases hx;exact⟨_,rfl,rfl⟩
 ·injection h with h;subst h;cases hx;exact⟨_,rfl,rfl⟩
 ·injection h with h; subst h
  rcases (els_nil (m:=m) hx).2 with rfl|⟨o,ho,rfl⟩<;>exact⟨_,rfl,rfl⟩
 ·injection h with h; subst h
  rcases (els_sl (m:=m) hx).2.1 with rfl|⟨o,rfl⟩<;>exact⟨_,rfl,rfl⟩
 ·split at h
  ·rename_i r hr
   injection h with h;subst h
   have he:=els_ref hm hx hr
   obtain⟨_,u,n,hu,rfl,hn⟩:=hx
   exact⟨_,by simp only[cellF,he,Option.map_some],rfl⟩
  ·cases h
 ·split at h
  ·rename_i r hr
   injection h with h;subst h
   have he:=els_refp hm hx hr (hx.2.choose_spec.2.2 r hr)
   obtain⟨_,u,hu,rfl,_⟩:=hx
   exact⟨_,by simp only[cellF,he,Option.map_some],rfl⟩
  ·cases h
 ·cases h
theorem dats_ok:∀ {xs xs':List Cell} {as:List AV},dats m2 xs=some xs'→All2 (RC ρ B m2) xs as→∃ ds,cellsF m as=some ds∧cellDs xs'=some ds
 |[],xs',[],h,_=>by simp only[dats,Option.some.injEq] at h;subst h;exact⟨[],rfl,rfl⟩
 | x :: xs, xs', a :: as, h, ha => by
  simp only[dats] at h
  split at h
  ·rename_i y ys h1 h2
   injection h with h;subst h
   obtain⟨d,g1,g2⟩:=dat1_ok hm h1 ha.1
   obtain⟨ds,g3,g4⟩:=dats_ok h2 ha.2
   exact⟨d :: ds,by simp only[cellsF,g1,g3],by simp only[cellDs,g2,g4]⟩
  ·cases h
 |[],_,_ :: _,_,ha=>ha.elim
 |_ :: _,_,[],_,ha=>ha.elim
omit hm in
theorem argF_cell {a:AV} {y:D} (h:cellF m a=some y):argF m a=some (.d y):=by
 cases a<;>first|(simp only[argF,h];rfl)|cases h
omit hm in
theorem keyF_cell {a:AV} {y:D} (h:cellF m a=some y):keyF m a=keysIn a:=by
 cases a<;>first|rfl|cases h
theorem argF2_ok {agg:Bool} {c:CSh} {x:Cell} {a:AV} {d:List Dyn} {b:List Bool} (h:c.argF m2 agg x=some (d,b)) (hx:RC ρ B m2 x a) (hb:∀ t∈b,t=true) :
  ∃ y x',(agg=true→cellF m a=some y)∧(agg=false→argF m a=some (.d y)∧KeysR ρ (keyF2 m2 (.c x)) (keyF m a))∧(∀ rest,c.fill (d++rest)=some (x',rest))∧RC ρ0 0 [] x' (.d y):=by
 have one:∀ {y:D} {x':Cell},keyF2 m2 (.c x)=keyV (.c x)→cellF m a=some y→(∀ rest,c.fill (d++rest)=some (x',rest))→RC ρ0 0 [] x' (.d y)→∃ y x',(agg=true→cellF m a=some y)∧(agg=false→argF m a=some (.d y)∧KeysR ρ (keyF2 m2 (.c x)) (keyF m a))∧(∀ rest,c.fill (d++rest)=some (x',rest))∧RC ρ0 0 [] x' (.d y):=
  fun hk h1 h2 h3=>⟨_,_,fun _=>h1,fun _=>⟨argF_cell h1,by rw[hk,keyF_cell h1];exact keyV_ok (v:=.c x) hx⟩,h2,h3⟩
 unfold CSh.argF at h
 split at h<;>(try dsimp only at h)
 ·split at h
  ·simp only [Option.some.injEq, Prod.mk.injEq] at h; obtain ⟨rfl, rfl⟩ := h
   cases hx
   exact one rfl rfl (fun _=>rfl) rfl
  ·cases h
 ·simp only [Option.some.injEq, Prod.mk.injEq] at h; obtain ⟨rfl, rfl⟩ := h
  cases hx
  exact one rfl rfl (fun _=>rfl) rfl
 ·simp only [Option.some.injEq, Prod.mk.injEq] at h; obtain ⟨rfl, rfl⟩ := h
  cases hx
  exact one rfl rfl (fun _=>rfl) rfl
 ·rename_i t o f
  have key:cellF m a=some (.sl (encL t [])):=by
   rcases (els_nil (m:=m) hx).2 with rfl|⟨o',ho,rfl⟩<;>rfl
  split at h
  ·simp only [Option.some.injEq, Prod.mk.injEq] at h; obtain ⟨rfl, rfl⟩ := h
   exact one rfl key (fun _=>rfl) (.inl rfl)
  ·simp only [Option.some.injEq, Prod.mk.injEq] at h; obtain ⟨rfl, rfl⟩ := h
   exact one rfl key (fun _=>rfl) (.inl rfl)
  ·cases h
 ·rename_i t0 o t l o'
  have key:cellF m a=some (.sl (encL t l)):=by
   rcases (els_sl (m:=m) hx).2.1 with rfl|⟨o',rfl⟩<;>rfl
  split at h
  ·simp only [Option.some.injEq, Prod.mk.injEq] at h; obtain ⟨rfl, rfl⟩ := h
   exact one rfl key (fun _=>rfl) (.inl rfl)
  ·simp only [Option.some.injEq, Prod.mk.injEq] at h; obtain ⟨rfl, rfl⟩ := h
   exact one rfl key (fun _=>rfl) (.inl rfl)
  ·cases h
 ·rename_i t0 o lv sq ver t
  cases hr:rowOf m2 lv sq ver with
  |none=>simp[hr] at h
  |some r=>
  simp only[hr] at h
  have he:=els_ref hm hx hr
  obtain⟨_,u,n,hu,rfl,hn⟩:=hx
  have key:cellF m (.ref lv sq u 0 n t.size)=some (.sl (encL r.t r.l)):=by simp only[cellF,he,Option.map_some]
  cases o with
  |d=>simp only[Option.some.injEq,Prod.mk.injEq] at h;obtain⟨rfl,rfl⟩:=h;exact one rfl key (fun _=>rfl) (.inl rfl)
  |bor=>simp only[Option.some.injEq,Prod.mk.injEq] at h;obtain⟨rfl,rfl⟩:=h;exact one rfl key (fun _=>rfl) (.inl rfl)
  |full=>simp at h
  |app v=>simp at h
 ·rename_i t0 o lv sq ver t off len
  cases hr:rowOf m2 lv sq ver with
  |none=>simp[hr] at h
  |some r=>
  simp only[hr] at h
  have fin:b=[decide (off+len≤r.l.length)]→cellF m a=some (.sl (encL r.t ((r.l.drop off).take len))):=by
   intro hb'
   have hle:=of_decide_eq_true (hb (decide (off+len≤r.l.length)) (by rw[hb'];exact List.mem_singleton.2 rfl))
   have he:=els_refp hm hx hr hle
   obtain⟨_,u,hu,rfl,_⟩:=hx
   simp only[cellF,he,Option.map_some]
  cases o with
  |d=>simp only[Option.some.injEq,Prod.mk.injEq] at h;obtain⟨rfl,rfl⟩:=h;exact one rfl (fin rfl) (fun _=>rfl) (.inl rfl)
  |bor=>simp only[Option.some.injEq,Prod.mk.injEq] at h;obtain⟨rfl,rfl⟩:=h;exact one rfl (fin rfl) (fun _=>rfl) (.inl rfl)
  |full=>simp at h
  |app v=>simp at h
 ·rename_i t o lv sq ver off n sz
  split at h
  ·rename_i v cs hg
   split at h
   ·rename_i l hc hp
    rw[Bool.and_eq_true] at hc
    have hv:=Nat.eq_of_beq_eq_true hc.1
    subst hv
    have hle:=Nat.le_of_ble_eq_true hc.2
    obtain⟨dcs,hd,hp⟩:=opt_bind hp
    obtain⟨_,u,hu,rfl⟩:=hx
    obtain⟨e,g1,g2⟩:=hm.ents _ _ _ hg
    obtain⟨_,u',as,g3,rfl,g4⟩:=g2
    rw[hu] at g3;injection g3 with g3;subst g3
    obtain⟨ds,q1,q2⟩:=dats_ok hm hd ((g4.drop off).take (n*sz))
    have hl:=packEs_ok hp (chunk_cellDs n q2)
    have hbx:boxAt m lv sq u=some as:=by
     unfold boxAt
     rw[g1]
     simp only[beq_true.2 rfl]
    have key:argF m (.bref lv sq u off n sz)=some (.d (.sl (encL t l))):=by
     simp only[argF,hbx]
     rw[if_pos (by rw[←g4.length];exact hle),q1]
     simp only[Option.map_some,hl]
    have hkeys:KeysR ρ (keyF2 m2 (.c (.bref lv sq v off n sz))) (keyF m (.bref lv sq u off n sz)):=by
     simp only[keyF2,hg,keyF,hbx]
     exact KeysR.consE lv sq (keyCs_ok g4)
    split at h
    ·simp only [Option.some.injEq, Prod.mk.injEq] at h; obtain ⟨rfl, rfl⟩ := h
     exact⟨_,_,fun h=>(by cases h),fun _=>⟨key,hkeys⟩,fun _=>rfl,.inl rfl⟩
    ·simp only [Option.some.injEq, Prod.mk.injEq] at h; obtain ⟨rfl, rfl⟩ := h
     exact⟨_,_,fun h=>(by cases h),fun _=>⟨key,hkeys⟩,fun _=>rfl,.inl rfl⟩
    ·cases h
   ·cases h
  ·cases h
 ·cases h
theorem argFCs_ok:∀ {cs:List CSh} {xs:List Cell} {as:List AV} {d:List Dyn} {b:List Bool},argFCs m2 cs xs=some (d,b)→All2 (RC ρ B m2) xs as→(∀ t∈b,t=true)→
  ∃ ys xs',cellsF m as=some ys∧(∀ rest,fillCs cs (d++rest)=some (xs',rest))∧All2 (RC ρ0 0 []) xs' (ys.map .d)
 |[],[],as,d,b,h,ha,_=>by
  simp only[argFCs,Option.some.injEq,Prod.mk.injEq] at h
  obtain⟨rfl,rfl⟩:=h
  match as,ha with
  |[],_=>exact⟨[],[],rfl,fun _=>rfl,trivial⟩
 | c :: cs, x :: xs, as, d, b, h, ha, hb => by
  simp only[argFCs] at h
  split at h
  ·rename_i d1 b1 d2 b2 h1 h2
   simp only[Option.some.injEq,Prod.mk.injEq] at h;obtain⟨rfl,rfl⟩:=h
   match as,ha with
   |a :: as,ha=>
    obtain⟨y,x',g1,_,g2,g3⟩:=argF2_ok hm h1 ha.1 (fun t ht=>hb t (List.mem_append_left _ ht))
    obtain⟨ys,xs',g4,g5,g6⟩:=argFCs_ok h2 ha.2 (fun t ht=>hb t (List.mem_append_right _ ht))
    exact⟨y :: ys,x' :: xs',by simp only[cellsF,g1 rfl,g4],fun rest=>by simp only[fillCs,List.append_assoc,g2,g5],g3,g6⟩
  ·cases h
 |[],_ :: _,_,_,_,h,_,_=>by simp[argFCs] at h
 |_ :: _,[],_,_,_,h,_,_=>by simp[argFCs] at h
theorem argsF2_ok:∀ {ps:List PSh} {vs:List V2} {as:List AV} {d:List Dyn} {b:List Bool},argsFK m2 ps vs=some (d,b)→All2 (RV ρ B m2) vs as→(∀ t∈b,t=true)→
  ∃ as' vs',argsF m as=some as'∧KeysR ρ (vs.flatMap (keyF2 m2)) (as.flatMap (keyF m))∧(∀ rest,fillP ps (d++rest)=some (vs',rest))∧All2 (RV ρ0 0 []) vs' as'
 |[],[],as,d,b,h,ha,_=>by
  simp only[argsFK,Option.some.injEq,Prod.mk.injEq] at h
  obtain⟨rfl,rfl⟩:=h
  match as,ha with
  |[],_=>exact⟨[],[],rfl,KeysR.nil,fun _=>rfl,trivial⟩
 | p :: ps, v :: vs, as, d, b, h, ha, hb => by
  simp only[argsFK] at h
  split at h
  ·rename_i d1 b1 d2 b2 h1 h2
   simp only[Option.some.injEq,Prod.mk.injEq] at h;obtain⟨rfl,rfl⟩:=h
   match as,ha with
   | a :: as, ha =>
    obtain⟨as',vs',g4,g7,g5,g6⟩:=argsF2_ok h2 ha.2 (fun t ht=>hb t (List.mem_append_right _ ht))
    have hb1:∀ t∈b1,t=true:=fun t ht=>hb t (List.mem_append_left _ ht)
    have one:∃ a' v',argF m a=some a'∧KeysR ρ (keyF2 m2 v) (keyF m a)∧(∀ rest,fillP (p :: ps) (d1++rest)=(match fillP ps rest with
      |some (xs,r'')=>some (v' :: xs,r'')
      |none=>none))∧RV ρ0 0 [] v' a':=by
     unfold PSh.argF at h1
     split at h1
     ·obtain ⟨y, x', _, q1, q2, q3⟩ := argF2_ok hm h1 ha.1 hb1
      exact⟨_,.c x',(q1 rfl).1,(q1 rfl).2,fun rest=>by simp only[fillP,VSh.fill,q2];rfl,q3⟩
     ·obtain ⟨bs, e, hc⟩ := ha.1
      subst e
      obtain⟨ys,xs1,q1,q2,q3⟩:=argFCs_ok hm h1 hc hb1
      exact⟨.agg (ys.map .d),.agg xs1,by simp only[argF,q1,Option.map_some],keyCs_ok hc,fun rest=>by simp only[fillP,VSh.fill,q2];rfl,_,rfl,q3⟩
     ·split at h1
      ·rename_i f f' hf
       have e:=Nat.eq_of_beq_eq_true hf
       subst e
       simp only[Option.some.injEq,Prod.mk.injEq] at h1;obtain⟨rfl,rfl⟩:=h1
       obtain⟨bs,e,hc⟩:=ha.1
       subst e
       match bs,hc with
       |[],_=>exact⟨.clo _ [],.clo _ [],rfl,KeysR.nil,fun rest=>by simp only[fillP,List.nil_append];rfl,[],rfl,trivial⟩
      ·cases h1
     ·cases h1
    obtain⟨a',v',g1,g8,g2,g3⟩:=one
    exact⟨a' :: as',v' :: vs',by simp only[argsF,g1,g4],(by simp only[List.flatMap_cons];exact g8.append g7),fun rest=>by rw[List.append_assoc,g2,g5],g3,g6⟩
  ·cases h
 |[],_ :: _,_,_,_,h,_,_=>by simp[argsFK] at h
 |_ :: _,[],_,_,_,h,_,_=>by simp[argsFK] at h
end
theorem chkAll_some {α : Type} {l:List Bool} {k:Option α} {r : α} (h:chkAll l k=some r):(∀ t∈l,t=true)∧k=some r:=by
 induction l with
 |nil=>exact⟨fun t ht=>(by cases ht),h⟩
 |cons b l ih=>
  obtain⟨h1,h2⟩:=chk_some h
  obtain⟨h3,h4⟩:=ih h2
  refine⟨fun t ht=>?_,h4⟩
  rcases List.mem_cons.1 ht with rfl|ht
  ·exact h1
  ·exact h3 t ht
section
variable {α : Type} {ρ : VMap} {B:Nat} {s2:S2} {s:St} {r : α} (hm:MR ρ B s2.mem s.mem) (hsl:SlR ρ B s2.mem s2.slots s.slots)
include hm hsl
theorem resK_ok {ar:ARes} {K:Bool→List Cell→Option α} (h:resK s2 ar K=some r):∃ a cs v,resA s ar=some v∧R1 ρ B s2.mem (a,cs) v∧K a cs=some r:=by
 unfold resK at h
 split at h
 ·split at h
  ·rename_i x hx
   have hv:=hsl _ _ hx
   refine⟨false,[x],_,?_,⟨x,rfl,hv⟩,h⟩
   simp only[resA,(RC.cell hv).2.2]
  ·rename_i cs hx
   obtain⟨as,e,hv⟩:=hsl _ _ hx
   refine⟨true,cs,.agg as,?_,⟨as,rfl,hv⟩,h⟩
   simp only[resA,e,notTup]
  ·cases h
 ·rename_i n sz agg
  obtain⟨p,hp,h⟩:=cellK_some h
  obtain⟨cs,as,h1,h2,h3⟩:=loadK_ok hm h (hsl _ _ hp)
  split at h3
  ·refine ⟨true, cs, .agg as, ?_, ⟨as, rfl, h2⟩, h3⟩
   simp only[resA,h1,Option.bind_some,wrapAgg]
  ·rename_i x _
   match as,h2 with
   |[a],h2=>
    refine⟨false,[x],a,?_,⟨x,rfl,h2.1⟩,h3⟩
    simp only[resA,h1,Option.bind_some,wrapAgg]
  ·cases h3
theorem ressK_ok:∀ {l:List ARes} {K:List (Bool×List Cell)→Option α},ressK s2 l K=some r→∃ vs as,resAll s l=some as∧All2 (R1 ρ B s2.mem) vs as∧K vs=some r
 |[],K,h=>⟨[],[],rfl,trivial,h⟩
 |x :: l,K,h=>by
  simp only[ressK] at h
  obtain⟨a,cs,v,h1,h2,h⟩:=resK_ok hm hsl h
  obtain⟨vs,as,h3,h4,h⟩:=ressK_ok h
  exact⟨(a,cs) :: vs,v :: as,by simp only[resAll,h1,h3],⟨h2,h4⟩,h⟩
end
theorem impD_own {cm:List (Tr Ent)} {top k lv sl ver:Nat} {els:List (List D)} {o:Own} (h:o≠.bor):impCell cm top 0 k lv sl ver (.own els o)=some (.d (.sl els),[]):=by
 cases o with
 |bor=>exact absurd rfl h
 |_=>rfl
section
variable {ρ : VMap} {B:Nat} {m2:List (Tr E2)} {m:List (Tr Ent)} (hm:MR ρ B m2 m)
include hm
theorem imp2_ok {top k lv sl ver:Nat} {x y:Cell} {a:AV} (h:imp2 m2 top x=some y) (hx:RC ρ B m2 x a):∃ a',impCell m top 0 k lv sl ver a=some (a',[])∧RC ρ B (m2.take top) y a':=by
 unfold imp2 at h
 split at h
 ·injection h with h;subst h;cases hx;exact⟨_,rfl,rfl⟩
 ·injection h with h;subst h;cases hx;exact⟨_,rfl,rfl⟩
 ·injection h with h;subst h;cases hx;exact⟨_,rfl,rfl⟩
 ·injection h with h;subst h;cases hx;exact⟨_,rfl,rfl⟩
 ·injection h with h; subst h
  rcases (els_nil (m:=m) hx).2 with e|⟨o',ho,e⟩
  ·subst e;exact⟨_,rfl,.inl rfl⟩
  ·subst e;exact⟨_,impD_own ho,.inl rfl⟩
 ·cases h
 ·rename_i t l o hne
  injection h with h;subst h
  rcases (els_sl (m:=m) hx).2.2 (fun e=>hne e) with e|⟨o2,ho,e⟩
  ·subst e;exact⟨_,rfl,.inl rfl⟩
  ·subst e;exact⟨_,impD_own ho,.inl rfl⟩
 ·rename_i lv' sl' ver' t
  split at h
  ·rename_i hb
   injection h with h;subst h
   obtain⟨hv,u,n,hu,rfl,hn⟩:=hx
   refine⟨_,by simp only[impCell,hb],hv,u,n,hu,rfl,fun r hr=>hn r ?_⟩
   have h1:=rowOf_some hr
   refine rowOf_iff.2 ?_
   unfold mget at h1 ⊢
   rw[List.getElem?_take] at h1
   split at h1
   ·exact h1
   ·cases h1
  ·rename_i hb
   split at h
   ·rename_i r hr
    injection h with h;subst h
    have he:=els_ref hm hx hr
    obtain⟨hv,u,n,hu,rfl,hn⟩:=hx
    refine⟨.d (.sl (encL r.t r.l)),?_,.inl rfl⟩
    simp only[impCell,hb,he]
   ·cases h
 ·rename_i lv' sl' ver' t off len
  split at h
  ·rename_i hb
   injection h with h;subst h
   obtain⟨hv,u,hu,rfl,hn⟩:=hx
   refine⟨_,by simp only[impCell,hb],hv,u,hu,rfl,fun r hr=>hn r ?_⟩
   have h1:=rowOf_some hr
   refine rowOf_iff.2 ?_
   unfold mget at h1 ⊢
   rw[List.getElem?_take] at h1
   split at h1
   ·exact h1
   ·cases h1
  ·rename_i hb
   split at h
   ·rename_i r hr
    injection h with h;subst h
    have he:=els_refp hm hx hr (hx.2.choose_spec.2.2 r hr)
    obtain⟨hv,u,hu,rfl,hn⟩:=hx
    refine⟨.d (.sl (encL r.t ((r.l.drop off).take len))),?_,.inl rfl⟩
    simp only[impCell,hb,he]
   ·cases h
 ·cases h
theorem imp2s_ok {top lv sl ver:Nat} : ∀ {k:Nat} {xs ys:List Cell} {as:List AV},imp2s m2 top xs=some ys→All2 (RC ρ B m2) xs as→∃ as',impCells m top 0 lv sl ver k as=some (as',[])∧All2 (RC ρ B (m2.take top)) ys as'
 |k,[],ys,as,h,ha=>by
  simp only[imp2s,Option.some.injEq] at h;subst h
  match as,ha with
  |[],_=>exact⟨[],rfl,trivial⟩
 | k, x :: xs, ys, as, h, ha => by
  simp only[imp2s] at h
  split at h
  ·rename_i y ys' h1 h2
   injection h with h;subst h
   match as,ha with
   |a :: as,ha=>
    obtain⟨a',g1,g2⟩:=imp2_ok hm (k:=k) (lv:=lv) (sl:=sl) (ver:=ver) h1 ha.1
    obtain⟨as',g3,g4⟩:=imp2s_ok (lv:=lv) (sl:=sl) (ver:=ver) (k:=k+1) h2 ha.2
    exact⟨a' :: as',by simp only[impCells,g1,g3,List.append_nil],g2,g4⟩
  ·cases h
theorem imp1_ok {top lv sl ver k:Nat} {b:Bool} {xs ys:List Cell} {a:AV} (h:imp2s m2 top xs=some ys) (ha:R1 ρ B m2 (b,xs) a):∃ a',imp1 m top 0 lv sl ver k a=some (a',[])∧R1 ρ B (m2.take top) (b,ys) a':=by
 cases b with
 |true=>
  obtain⟨as,rfl,ha⟩:=ha
  obtain⟨as',g1,g2⟩:=imp2s_ok hm (k:=k) (lv:=lv) (sl:=sl) (ver:=ver) h ha
  exact⟨.agg as',by simp only[imp1,g1,Option.map_some],as',rfl,g2⟩
 | false =>
  obtain⟨c,rfl,ha⟩:=ha
  simp only[imp2s] at h
  split at h
  ·rename_i y ys' h1 h2
   injection h2 with h2;subst h2
   injection h with h;subst h
   obtain⟨a',g1,g2⟩:=imp2_ok hm (k:=k) (lv:=lv) (sl:=sl) (ver:=ver) h1 ha
   refine⟨a',?_,y,rfl,g2⟩
   have hc:=RC.cell ha
   cases a<;>first|exact g1|cases hc.2.1
  ·cases h
theorem impTup_ok {top lv sl ver:Nat} : ∀ {k:Nat} {vs ws:List (Bool×List Cell)} {as:List AV},imp2r m2 top vs=some ws→All2 (R1 ρ B m2) vs as→∃ as',impTup m top 0 lv sl ver k as=some (as',[])∧All2 (R1 ρ B (m2.take top)) ws as'
 |k,[],ws,as,h,ha=>by
  simp only[imp2r,Option.some.injEq] at h;subst h
  match as,ha with
  |[],_=>exact⟨[],rfl,trivial⟩
 | k, (b, x) :: xs, ws, as, h, ha => by
  simp only[imp2r] at h
  split at h
  ·rename_i y ys' h1 h2
   injection h with h;subst h
   match as,ha with
   |a :: as,ha=>
    obtain⟨a',g1,g2⟩:=imp1_ok hm (k:=k) (lv:=lv) (sl:=sl) (ver:=ver) h1 ha.1
    obtain⟨as',g3,g4⟩:=impTup_ok (lv:=lv) (sl:=sl) (ver:=ver) (k:=k+64) h2 ha.2
    exact⟨a' :: as',by simp only[impTup,g1,g3,List.append_nil],g2,g4⟩
  ·cases h
omit hm in
theorem R1.notTup {b:Bool} {cs:List Cell} {a:AV} (h:R1 ρ B m2 (b,cs) a):Eng.notTup a=true:=by
 cases b with
 |true=>obtain⟨as,rfl,_⟩:=h;rfl
 |false=>obtain⟨c,_,h⟩:=h;exact (RC.cell h).2.2
theorem impR_ok {top lv sl ver:Nat} {vs ws:List (Bool×List Cell)} {w:V2} {as:List AV} (h:imp2r m2 top vs=some ws) (ht:tup2 ws=some w) (ha:All2 (R1 ρ B m2) vs as):∃ a',impR m top 0 lv sl ver (tupOf as)=some (a',[])∧RV ρ B (m2.take top) w a':=by
 match vs,as,ha with
 |[],[],ha=>
  simp only[imp2r,Option.some.injEq] at h;subst h
  simp only[tup2,Option.some.injEq] at ht;subst ht
  exact⟨.tup [],rfl,[],rfl,trivial⟩
 | [(b, x)], [a], ha =>
  simp only[imp2r] at h
  split at h
  ·rename_i y ys' h1 h2
   injection h2 with h2;subst h2
   injection h with h;subst h
   obtain⟨a',g1,g2⟩:=imp1_ok hm (k:=1) (lv:=lv) (sl:=sl) (ver:=ver) h1 ha.1
   refine⟨a',?_,?_⟩
   ·have hn := R1.notTup ha.1
    simp only[tupOf]
    cases a<;>first|exact g1|cases hn
   ·simp only [tup2] at ht
    cases b with
    |true=>
     obtain⟨as',rfl,g3⟩:=g2
     simp only[wrap2,Option.some.injEq] at ht;subst ht
     exact⟨as',rfl,g3⟩
    |false=>
     obtain⟨c,rfl,g3⟩:=g2
     simp only[wrap2,Option.some.injEq] at ht;subst ht
     exact g3
  ·cases h
 | v :: v' :: vs, a :: a' :: as, ha =>
  obtain⟨as',g1,g2⟩:=impTup_ok hm (k:=1) (lv:=lv) (sl:=sl) (ver:=ver) h ha
  refine⟨.tup as',?_,?_⟩
  ·simp only[tupOf,impR,g1,Option.map_some]
  ·have : ∃ x y zs, ws = x :: y :: zs := by
    obtain⟨b,x⟩:=v
    obtain⟨b',x'⟩:=v'
    simp only[imp2r] at h
    split at h
    ·rename_i y ys h1 h2
     injection h with h;subst h
     split at h2
     ·injection h2 with h2; subst h2
      exact⟨_,_,_,rfl⟩
     ·cases h2
    ·cases h
   obtain⟨x,y,zs,rfl⟩:=this
   simp only[tup2,Option.some.injEq] at ht;subst ht
   exact⟨as',rfl,g2⟩
end
end Go.Sym
