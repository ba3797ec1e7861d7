/- The machine over typed data: arguments and results of calls. -/
import Derived.Test.YtdogilonhnbapaaGreatDoorSymH
set_option linter.unusedVariables false
set_option linter.unusedSimpArgs false
namespace Go.Sym
open Go Go.bI
theorem ze{a b:Ty}{x:a.den}{y:b.den}(h:uE a b x=some y):(⟨b,y⟩:eW)=⟨a,x⟩:=by obtain⟨e,he⟩:=Pj h<;>grind
theorem cU:∀{ts:List Ty}{ds:List eW}{x:(rj ts).den},pack ts ds=some x->unpack ts x=ds
 |[],[],_,_=>rfl|[a],[d],x,h=>by have:=ze h;simp[unpack]<;>omega|a::b::r,d::ds,x,h=>by
  simp[pack]at h;split at h;.rename_i y z h1 h2;cases h;simp only[unpack];rw[ze h1,cU h2]
  grind|[],_::_,_,h=>by simp[pack]at h|[_],[],_,h=>by simp[pack]at h|[_],_::_::_,_,h=>by simp[pack]at h|_::_::_,[],_,h=>by simp[pack]at h
theorem EA{a b:AX}(h:WB a b=true):a=b:=by unfold WB at h;split at h<;>simp_all
theorem Ap{ρ:aZ}{so:List (Tr AV)}{s2:S2}{s:St}{ax:AX}(hs:zd ρ so s2 s):∀{os:bt}{y:(oA os).den},mN os ax s2=some y->∃s2' ρ',zd ρ' so s2' s/\Fr ρ s2.nv s.nv ρ' s2'.nv/\∀{α:Type}(K:AX->S2->Option α),pM os y K=K ax s2'
 |[],_,h=>by simp[mN]at h|[x],y,h=>by
  simp[mN]at h;split at h;.rename_i he;obtain⟨ds,h1,h2⟩:=az h;obtain⟨s2',ρ',g1,g2,g3⟩:=Ao h1 hs;refine⟨s2',ρ',g2,g3,λK=>?_⟩;simp[pM,cU h2,g1,bN,EA he]
  grind|x::z::r,y,h=>by
  simp[mN]at h;split at h;.rename_i he;obtain⟨y',h1,h2⟩:=az h;cases h2;obtain⟨ds,h3,h4⟩:=aQ h1;obtain⟨s2',ρ',g1,g2,g3⟩:=Ao h3 hs;refine⟨s2',ρ',g2,g3,λK=>?_⟩;simp[pM,cU h4,g1,bN,EA he]
  .obtain⟨y',h1,h2⟩:=az h;cases h2;obtain⟨s2',ρ',g2,g3,g4⟩:=Ap hs h1;exact⟨s2',ρ',g2,g3,λK=>by simp only[pM,g4]⟩
theorem RC.still{ρ ρ':aZ}{B B':Nat}{m m':List (Tr E2)}{c:Cell}{a:AV}(hc:c.still=true)(h:RC ρ B m c a):RC ρ' B' m' c a:=by cases c with
 |nil f=>cases f<;>exact h|sl t l o=>cases o with|app v=>cases hc|_=>exact h
 |ref=>cases hc|jz=>cases hc|ptr=>cases hc|ff=>cases hc|mp=>cases hc|_=>exact h
theorem RCs.still{ρ ρ':aZ}{B B':Nat}{m m':List (Tr E2)}:∀{cs:List Cell}{aJ:List AV},cs.all Cell.still=true->aC (RC ρ B m) cs aJ->aC (RC ρ' B' m') cs aJ|[],[],_,_=>trivial|c::cs,a::aJ,hc,h=>by rw[List.all_cons,Bool.and_eq_true]at hc;exact⟨h.1.still hc.1,RCs.still hc.2 h.2⟩|[],_::_,_,h=>h.elim|_::_,[],_,h=>h.elim
theorem RV.still{ρ ρ':aZ}{B B':Nat}{m m':List (Tr E2)}{v:V2}{a:AV}(hv:v.still=true)(h:RV ρ B m v a):RV ρ' B' m' v a:=by cases v with|c c=>exact RC.still hv h|agg cs=>obtain⟨aJ,h1,h2⟩:=h;exact⟨aJ,h1,RCs.still hv h2⟩|gm f cs=>obtain⟨aJ,h1,h2⟩:=h;exact⟨aJ,h1,RCs.still hv h2⟩|iF vs=>obtain⟨aJ,h1,h2⟩:=h;refine⟨aJ,h1,?_⟩;clear h1;replace hv:vs.all (λv=>v.2.all Cell.still)=true:=hv;induction vs generalizing aJ with|nil=>cases aJ<;>exact h2|cons v vs ih=>cases aJ with|nil=>exact h2.elim|cons a aJ=>rw[List.all_cons,Bool.and_eq_true]at hv;refine⟨?_,ih aJ h2.2 hv.2⟩;obtain⟨b,cs⟩:=v;cases b with|true=>obtain⟨bs,h3,h4⟩:=h2.1;exact⟨bs,h3,RCs.still hv.1 h4⟩|false=>obtain⟨c,h3,h4⟩:=h2.1;refine⟨c,h3,h4.still ?_⟩;subst h3;simpa using hv.1
theorem Tr.Gw{α:Type}(v:Option α)(l r:Tr α)(k:Nat):(Tr.nd v l r).get? k=if k=0then v else if k%2=1then l.get? (k/2)else r.get? (k/2-1):=by simp[Tr.get?];cases h0:Nat.beq k 0with|true=>simp_all|false=>have:=Nat.ne_of_beq_eq_false h0;cases h1:Nat.beq (k%2) 1with|true=>simp_all|false=>simp[this,Nat.ne_of_beq_eq_false h1]
theorem Tr.WT{α:Type}(t:Tr α)(k:Nat):t.get? k=if k=0then t.top else if k%2=1then t.left.get? (k/2)else t.right.get? (k/2-1):=by cases t with|lf=>simp[Tr.get?,Tr.top,Tr.left,Tr.right]|nd v l r=>rw[Tr.Gw];rfl
theorem xK:∀(t:Tr V2)(k:Nat)(v:V2),(loose t).get? k=some v->t.get? k=some v
 |.lf,_,_,h=>by simp[loose]at h|.nd x l r,k,v,h=>by
  simp[loose]at h;rw[Tr.Gw]at h⊢;by_cases h0:k=0;.grind
  .rw[if_neg h0]at h⊢;by_cases h1:k%2=1;.rw[if_pos h1]at h⊢;exact xK l _ v h
   .rw[if_neg h1]at h⊢;exact xK r _ v h
theorem pU:∀(a b:Tr V2)(k:Nat)(v:V2),(merge a b).get? k=some v->(a.get? k=some v/\v.still=true)\/b.get? k=some v
 |.lf,_,_,_,h=>by simp[merge]at h|.nd x l r,b,k,v,h=>by
  simp[merge]at h;rw[Tr.Gw]at h;rw[Tr.Gw,Tr.WT b];by_cases h0:k=0;.grind
  .rw[if_neg h0]at h⊢;rw[if_neg h0];by_cases h1:k%2=1;.rw[if_pos h1]at h⊢;rw[if_pos h1];exact pU l _ _ v h
   .rw[if_neg h1]at h⊢;rw[if_neg h1];exact pU r _ _ v h
def ρ0:aZ:=λ_=>none
theorem SC{m:List (Tr bC)}{els:List (List D)}{o:Rm}(h:o≠.bA):ep m (.own els o)=some (.d (.sl els),[]):=by cases o with|bA=>grind|_=>rfl
theorem SD{m:List (Tr bC)}{els:List (List D)}{o:Rm}(h:o≠.bA):cR m (.own els o)=some (.d (.sl els)):=by grind[cR]
def HN(agg:Bool)(m:List (Tr bC))(a a':AV)(k:List (Nat×Nat)):Prop:=(agg=true/\ep m a=some (a',k))\/(agg=false/\cR m a=some a'/\k=[])
theorem HN.data{agg:Bool}{m:List (Tr bC)}{a:AV}{y:D}(e:a=.d y):HN agg m a (.d y) []:=by
 subst e;cases agg;.exact .inr ⟨rfl,rfl,rfl⟩
 .exact .inl ⟨rfl,rfl⟩
theorem HN.acB{agg:Bool}{m:List (Tr bC)}{a:AV}{els:List (List D)}{o:Rm}(ho:o≠.bA)(e:a=.own els o):HN agg m a (.d (.sl els)) []:=by
 subst e;cases agg;.exact .inr ⟨rfl,SD ho,rfl⟩
 .exact .inl ⟨rfl,SC ho⟩
theorem HN.alT{agg:Bool}{m:List (Tr bC)}{a:AV}{els:List (List D)}(e:a=.own els .bA):HN agg m a (.own els .bA) []:=by
 subst e;cases agg;.exact .inr ⟨rfl,rfl,rfl⟩
 .exact .inl ⟨rfl,rfl⟩
section
variable{ρ:aZ}{B:Nat}{m2:List (Tr E2)}{m:List (Tr bC)}(hm:MR ρ B m2 m)
include hm
theorem Gx{agg:Bool}{c:gf}{x:Cell}{a:AV}{d:List eW}{k:List (Nat×Nat)}{b:List Bool}(h:c.arg m2 agg x=some (d,k,b))(hx:RC ρ B m2 x a)(hb:∀t∈b,t=true):∃a' x',HN agg m a a' k/\(∀rest,c.fill (d++rest)=some (x',rest))/\RC ρ0 0 [] x' a':=by
 unfold gf.arg at h;split at h<;>(try dsimp only at h)
 .split at h;.cases h;exact⟨_,_,HN.data hx,λ_=>rfl,rfl⟩
  grind
 .cases h;exact⟨_,_,HN.data hx,λ_=>rfl,rfl⟩
 .cases h;exact⟨_,_,HN.data hx,λ_=>rfl,rfl⟩
 .rename_i t o f;have key:∃a',HN agg m a a' []/\a'=.d (.sl (bf t [])):=by
   rcases(gq (m:=m) hx).2with e|⟨o',ho,e⟩;.exact⟨_,HN.data e,rfl⟩
   .exact⟨_,HN.acB ho e,rfl⟩
  obtain⟨a',g1,g2⟩:=key;split at h;.cases h;exact⟨_,_,g1,λ_=>rfl,.inl g2⟩
  .cases h;exact⟨_,_,g1,λ_=>rfl,.inl g2⟩
  grind
 .split at h
  .cases h;rcases(gI (m:=m) hx).2.1with e|⟨o2,e⟩;.exact⟨_,_,HN.data e,λ_=>rfl,.inl rfl⟩
   .by_cases ho:o2=.bA;.subst ho;exact⟨_,_,HN.alT e,λ_=>rfl,.inr ⟨_,rfl⟩⟩
    .exact⟨_,_,HN.acB ho e,λ_=>rfl,.inl rfl⟩
  .cases h
  .rename_i hne;cases h;rcases(gI (m:=m) hx).2.2 (λe=>hne e)with e|⟨o2,ho,e⟩;.exact⟨_,_,HN.data e,λ_=>rfl,.inl rfl⟩
   .exact⟨_,_,HN.acB ho e,λ_=>rfl,.inl rfl⟩
  .cases h
 .rename_i t0 o lv sq ai t;cases hr:rowOf m2 lv sq ai with|none=>grind|some r=>
  simp[hr]at h;have he:=lV hm hx hr;obtain⟨_,u,n,hu,rfl,hn⟩:=hx;have hg:ep m (.ref lv sq u 0 n t.size)=some (.d (.sl (bf r.t r.l)),[(lv,sq)]):=by simp[ep,zS,he,Option.map_some]
  have hl:cR m (.ref lv sq u 0 n t.size)=some (.own (bf r.t r.l) .bA):=by simp[cR,he,Option.map_some]
  cases o with
  |bA=>cases agg with|false=>cases h;exact⟨_,_,.inr ⟨rfl,hl,rfl⟩,λ_=>rfl,.inr ⟨_,rfl⟩⟩|true=>cases h;exact⟨_,_,.inl ⟨rfl,hg⟩,λ_=>rfl,.inl rfl⟩
  |d=>cases agg with|false=>simp at h|true=>cases h;exact⟨_,_,.inl ⟨rfl,hg⟩,λ_=>rfl,.inl rfl⟩
  |full=>grind|app v=>grind
 .rename_i t0 o lv sq ai t off len;cases hr:rowOf m2 lv sq ai with|none=>grind|some r=>simp[hr]at h;cases o with
  |bA=>cases agg with|false=>cases h;have he:=jA hm hx hr (of_decide_eq_true (hb _ List.mem_cons_self));obtain⟨_,u,hu,rfl,_⟩:=hx;refine⟨.own (bf r.t ((r.l.drop off).take len)) .bA,_,.inr ⟨rfl,?_,rfl⟩,λ_=>rfl,.inr ⟨_,rfl⟩⟩;simp[cR,he,Option.map_some]|true=>simp at h
  |d=>grind|full=>grind|app v=>grind
 grind
theorem BO:∀{cs:List gf}{xs:List Cell}{aJ:List AV}{d:List eW}{k:List (Nat×Nat)}{b:List Bool},Bv m2 cs xs=some (d,k,b)->aC (RC ρ B m2) xs aJ->(∀t∈b,t=true)->∃as' xs',fh m aJ=some (as',k)/\(∀rest,cJ cs (d++rest)=some (xs',rest))/\aC (RC ρ0 0 []) xs' as'
 |[],[],aJ,d,k,b,h,ha,_=>by cases h;match aJ,ha with|[],_=>exact⟨[],[],rfl,λ_=>rfl,trivial⟩
 |c::cs,x::xs,aJ,d,k,b,h,ha,hb=>by
  simp[Bv]at h;split at h;.rename_i d1 k1 b1 d2 k2 b2 h1 h2;cases h;match aJ,ha with
   |a::aJ,ha=>
    obtain⟨a',x',g1,g2,g3⟩:=Gx hm h1 ha.1 (λt ht=>hb t (List.mem_append_left _ ht));have g1:ep m a=some (a',k1):=by rcases g1 with⟨_,g⟩|⟨g,_⟩<;>grind
    obtain⟨as',xs',g4,g5,g6⟩:=BO h2 ha.2 (λt ht=>hb t (List.mem_append_right _ ht));exact⟨a'::as',x'::xs',by simp only[fh,g1,g4],λrest=>by simp only[cJ,List.append_assoc,g2,g5],g3,g6⟩
  grind|[],_::_,_,_,_,_,h,_,_=>by simp[Bv]at h|_::_,[],_,_,_,_,h,_,_=>by simp[Bv]at h
omit hm in theorem PC{a:AV}(h0:cellsOf a=some [a])(h1:lP a=true):xe m a=(cR m a).map λy=>(y,[]):=by cases a<;>first|rfl|cases h1
omit hm in theorem PD{a:AV}(h1:lP a=true):xh m a=ep m a:=by cases a<;>first|rfl|cases h1
theorem I5:∀{ps:List pL}{vs:List V2}{aJ:List AV}{d:List eW}{k:List (Nat×Nat)}{b:List Bool},Ek m2 ps vs=some (d,k,b)->aC (RV ρ B m2) vs aJ->(∀t∈b,t=true)->∃as' vs',qW m aJ=some (as',k)/\(∀rest,cS ps (d++rest)=some (vs',rest))/\aC (RV ρ0 0 []) vs' as'
 |[],[],aJ,d,k,b,h,ha,_=>by cases h;match aJ,ha with|[],_=>simp_all[aZ,ρ0,RV,aC,cS,qW]
 |p::ps,v::vs,aJ,d,k,b,h,ha,hb=>by
  simp[Ek]at h;split at h;.rename_i d1 k1 b1 d2 k2 b2 h1 h2;cases h;match aJ,ha with
   |a::aJ,ha=>
    obtain⟨as',vs',g4,g5,g6⟩:=I5 h2 ha.2 (λt ht=>hb t (List.mem_append_right _ ht));have tD:∀t∈b1,t=true:=λt ht=>hb t (List.mem_append_left _ ht);have one:∃a' v',xh m a=some (a',k1)/\(∀rest,cS (p::ps) (d1++rest)=(match cS ps rest with|some (xs,r'')=>some (v'::xs,r'')|none=>none))/\RV ρ0 0 [] v' a':=by
     unfold pL.agW at h1;split at h1
     .obtain⟨a',x',q0,q2,q3⟩:=Gx hm h1 ha.1 tD;have q1:ep m a=some (a',k1):=by rcases q0 with⟨_,g⟩|⟨g,_⟩<;>grind
      have hc:=RC.cell ha.1;exact⟨a',.c x',by rw[PD hc.2.1,q1],λrest=>by simp only[cS,rI.fill,q2];rfl,q3⟩
     .obtain⟨bs,e,hc⟩:=ha.1;subst e;obtain⟨HM,WU,q1,q2,q3⟩:=BO hm h1 hc tD;exact⟨.agg HM,.agg WU,by simp only[xh,q1,Option.map_some],λrest=>by simp only[cS,rI.fill,q2];rfl,HM,rfl,q3⟩
     grind
    obtain⟨a',v',g1,g2,g3⟩:=one;exact⟨a'::as',v'::vs',by simp only[qW,g1,g4],λrest=>by rw[List.append_assoc,g2,g5],g3,g6⟩
  grind|[],_::_,_,_,_,_,h,_,_=>by simp[Ek]at h|_::_,[],_,_,_,_,h,_,_=>by simp[Ek]at h
theorem I6{c:gf}{x:Cell}{a:AV}{d:List eW}{b:List Bool}(h:c.arg m2 false x=some (d,[],b))(hx:RC ρ B m2 x a)(hb:∀t∈b,t=true):∃a' x',cR m a=some a'/\(∀rest,c.fill (d++rest)=some (x',rest))/\RC ρ0 0 [] x' a':=by
 obtain⟨a',x',g,g2,g3⟩:=Gx hm h hx hb;rcases g with⟨g,_⟩|⟨_,g,_⟩;.cases g
 .exact⟨a',x',g,g2,g3⟩
theorem EB:∀{l:List gf}{cs:List Cell}{aJ:List AV}{d:List eW}{b:List Bool},xC m2 l cs=some (d,b)->aC (RC ρ B m2) cs aJ->(∀t∈b,t=true)->∃as' xs',oS m aJ=some as'/\(∀rest,cJ l (d++rest)=some (xs',rest))/\aC (RC ρ0 0 []) xs' as'
 |[],[],aJ,d,b,h,ha,_=>by cases h;match aJ,ha with|[],_=>exact⟨[],[],rfl,λ_=>rfl,trivial⟩
 |c::cs,x::xs,aJ,d,b,h,ha,hb=>by
  simp only[xC]at h;split at h;.rename_i d1 b1 d2 b2 h1 h2;cases h;match aJ,ha with|a::aJ,ha=>obtain⟨a',x',g1,g2,g3⟩:=I6 hm h1 ha.1 (λt ht=>hb t (List.mem_append_left _ ht));obtain⟨as',xs',g4,g5,g6⟩:=EB h2 ha.2 (λt ht=>hb t (List.mem_append_right _ ht));exact⟨a'::as',x'::xs',by simp only[oS,g1,g4],λrest=>by simp only[cJ,List.append_assoc,g2,g5],g3,g6⟩
  .cases h|[],_::_,_,_,_,h,_,_=>by simp[xC]at h|_::_,[],_,_,_,h,_,_=>by simp[xC]at h
omit hm in theorem LD{a:AV}(h1:lP a=true):qX m a=cR m a:=by cases a<;>first|rfl|cases h1
theorem I7:∀{ps:List pL}{vs:List V2}{aJ:List AV}{d:List eW}{b:List Bool},El m2 ps vs=some (d,b)->aC (RV ρ B m2) vs aJ->(∀t∈b,t=true)->∃as' vs',qg m aJ=some as'/\(∀rest,cS ps (d++rest)=some (vs',rest))/\aC (RV ρ0 0 []) vs' as'
 |[],[],aJ,d,b,h,ha,_=>by cases h;match aJ,ha with|[],_=>exact⟨[],[],rfl,λ_=>rfl,trivial⟩
 |p::ps,v::vs,aJ,d,b,h,ha,hb=>by
  simp only[El]at h;split at h;.rename_i d1 b1 d2 b2 h1 h2;cases h;match aJ,ha with
   |a::aJ,ha=>
    obtain⟨as',vs',g4,g5,g6⟩:=I7 h2 ha.2 (λt ht=>hb t (List.mem_append_right _ ht));have tD:∀t∈b1,t=true:=λt ht=>hb t (List.mem_append_left _ ht);have one:∃a' v',qX m a=some a'/\(∀rest,cS (p::ps) (d1++rest)=(match cS ps rest with|some (xs,r'')=>some (v'::xs,r'')|none=>none))/\RV ρ0 0 [] v' a':=by
     unfold pL.agX at h1;split at h1
     .split at h1;.rename_i hx;cases h1;obtain⟨a',x',q1,q2,q3⟩:=I6 hm hx ha.1 tD;have hc:=RC.cell ha.1;exact⟨a',.c x',by rw[LD hc.2.1,q1],λrest=>by simp only[cS,rI.fill,q2];rfl,q3⟩
      .cases h1
     .obtain⟨bs,e,hc⟩:=ha.1;subst e;obtain⟨HM,WU,q1,q2,q3⟩:=EB hm h1 hc tD;exact⟨.agg HM,.agg WU,by simp only[qX,q1,Option.map_some],λrest=>by simp only[cS,rI.fill,q2];rfl,HM,rfl,q3⟩
     .cases h1
    obtain⟨a',v',g1,g2,g3⟩:=one;exact⟨a'::as',v'::vs',by simp only[qg,g1,g4],λrest=>by rw[List.append_assoc,g2,g5],g3,g6⟩
  .cases h|[],_::_,_,_,_,h,_,_=>by simp[El]at h|_::_,[],_,_,_,h,_,_=>by simp[El]at h
theorem I8:∀{ps:List pL}{vs:List V2}{aJ:List AV}{d:List eW}{k:List (Nat×Nat)}{b:List Bool},Ef m2 ps vs=some (d,k,b)->aC (RV ρ B m2) vs aJ->(∀t∈b,t=true)->∃as' vs',pg m aJ=some (as',k)/\(∀rest,cS ps (d++rest)=some (vs',rest))/\aC (RV ρ0 0 []) vs' as'
 |[],[],aJ,d,k,b,h,ha,_=>by cases h;match aJ,ha with|[],_=>simp_all[aZ,ρ0,RV,aC,cS,pg]
 |p::ps,v::vs,aJ,d,k,b,h,ha,hb=>by
  simp[Ef]at h;split at h;.rename_i d1 k1 b1 d2 k2 b2 h1 h2;cases h;match aJ,ha with
   |a::aJ,ha=>
    obtain⟨as',vs',g4,g5,g6⟩:=I8 h2 ha.2 (λt ht=>hb t (List.mem_append_right _ ht));have tD:∀t∈b1,t=true:=λt ht=>hb t (List.mem_append_left _ ht);have one:∃a' v',xe m a=some (a',k1)/\(∀rest,cS (p::ps) (d1++rest)=(match cS ps rest with|some (xs,r'')=>some (v'::xs,r'')|none=>none))/\RV ρ0 0 [] v' a':=by
     unfold pL.arg at h1;split at h1
     .obtain⟨a',x',q0,q2,q3⟩:=Gx hm h1 ha.1 tD;have q1:cR m a=some a'/\k1=[]:=by rcases q0 with⟨g,_⟩|⟨_,g⟩<;>grind
      obtain⟨q1,rfl⟩:=q1;have hc:=RC.cell ha.1;exact⟨a',.c x',by rw[PC hc.1 hc.2.1,q1];rfl,λrest=>by simp only[cS,rI.fill,q2];rfl,q3⟩
     .obtain⟨bs,e,hc⟩:=ha.1;subst e;obtain⟨HM,WU,q1,q2,q3⟩:=BO hm h1 hc tD;exact⟨.agg HM,.agg WU,by simp only[xe,q1,Option.map_some],λrest=>by simp only[cS,rI.fill,q2];rfl,HM,rfl,q3⟩
     .split at h1;.rename_i f f' hf;have e:=Nat.eq_of_beq_eq_true hf;subst e;cases h1;obtain⟨bs,e,hc⟩:=ha.1;subst e;match bs,hc with|[],_=>exact⟨.gm _ [],.gm _ [],rfl,λrest=>by simp only[cS,List.nil_append];rfl,[],rfl,trivial⟩
      grind
     grind
    obtain⟨a',v',g1,g2,g3⟩:=one;exact⟨a'::as',v'::vs',by simp only[pg,g1,g4],λrest=>by rw[List.append_assoc,g2,g5],g3,g6⟩
  grind|[],_::_,_,_,_,_,h,_,_=>by simp[Ef]at h|_::_,[],_,_,_,_,h,_,_=>by simp[Ef]at h
end
theorem wh{sz:Nat}:∀(n:Nat){l:List Cell}{ds:List D},ck l=some ds->aC (λc d=>ck c=some d) (bI.chunk sz n l) (bI.chunk sz n ds)|0,_,_,_=>trivial|n+1,_,_,h=>⟨sE sz h,wh n (sF sz h)⟩
theorem wj{c:gf}{x':Cell}{d:List eW}{y:D}(hd:mZ c x'=some d)(hy:mO x'=some y):∃x2,(∀rest,c.fill (d++rest)=some (x2,rest))/\∀(ρ:aZ)(B:Nat)(m:List (Tr E2)),RC ρ B m x2 (.d y):=by
 unfold mZ at hd;split at hd
 .split at hd;.cases hd;cases hy;exact⟨_,λ_=>rfl,λ_ _ _=>rfl⟩
  .cases hd
 .cases hd;cases hy;exact⟨_,λ_=>rfl,λ_ _ _=>rfl⟩
 .cases hd;cases hy;exact⟨_,λ_=>rfl,λ_ _ _=>rfl⟩
 .cases hd;cases hy;exact⟨_,λ_=>rfl,λ_ _ _=>.inl rfl⟩
 .cases hd;cases hy;exact⟨_,λ_=>rfl,λ_ _ _=>.inl rfl⟩
 .cases hd
theorem zf{els:List (List D)}{o:Rm}(h:o≠.bA):og (.own els o)=some (.d (.sl els)):=by cases o with|bA=>grind|_=>rfl
theorem acC{ρ:aZ}{B:Nat}{m:List (Tr E2)}{x x':Cell}{a:AV}(h:dtC x=some x')(hx:RC ρ B m x a):∃y,og a=some (.d y)/\mO x'=some y:=by
 unfold dtC at h;split at h;.cases h;cases hx;exact⟨_,rfl,rfl⟩
 .cases h;cases hx;exact⟨_,rfl,rfl⟩
 .cases h;cases hx;exact⟨_,rfl,rfl⟩
 .cases h;rcases(gq (m:=[]) hx).2with rfl|⟨o,ho,rfl⟩;.exact⟨_,rfl,rfl⟩
  .exact⟨_,zf ho,rfl⟩
 .cases h
 .rename_i t l o hne;cases h;rcases(gI (m:=[]) hx).2.2 (λe=>hne e)with rfl|⟨o',ho,rfl⟩;.exact⟨_,rfl,rfl⟩
  .exact⟨_,zf ho,rfl⟩
 grind
theorem SE{ρ:aZ}{B:Nat}{m:List (Tr E2)}{c:gf}{x:Cell}{a:AV}{d:List eW}(h:(dtC x).bind (mZ c)=some d)(hx:RC ρ B m x a):∃y x2,og a=some (.d y)/\(∀rest,c.fill (d++rest)=some (x2,rest))/\∀(ρ:aZ)(B:Nat)(m:List (Tr E2)),RC ρ B m x2 (.d y):=by obtain⟨x',h1,h2⟩:=aQ h;obtain⟨y,h3,h4⟩:=acC h1 hx;obtain⟨x2,h5,h6⟩:=wj h2 h4;exact⟨y,x2,h3,h5,h6⟩
theorem Gy{ρ:aZ}{B:Nat}{m:List (Tr E2)}:∀{cs:List gf}{xs:List Cell}{aJ:List AV}{ds:List eW},IG cs xs=some ds->aC (RC ρ B m) xs aJ->∃as' rB,jw aJ=some as'/\(∀rest,cJ cs (ds++rest)=some (rB,rest))/\∀(ρ:aZ)(B:Nat)(m:List (Tr E2)),aC (RC ρ B m) rB as'
 |[],[],[],ds,h,_=>by simp_all[IG,RC,aC,aZ,cJ,jw]|c::cs,x::xs,a::aJ,ds,h,ha=>by
  simp[IG]at h;split at h;.rename_i d1 d2 h1 h2;cases h;obtain⟨y,x2,g1,g2,g3⟩:=SE h1 ha.1;obtain⟨as',rB,g4,g5,g6⟩:=Gy h2 ha.2;exact⟨.d y::as',x2::rB,by simp only[jw,g1,g4],λrest=>by simp only[cJ,List.append_assoc,g2,g5],λρ B m=>⟨g3 _ _ _,g6 _ _ _⟩⟩
  grind|[],_::_,_,_,h,_=>by simp[IG]at h|_::_,[],_,_,h,_=>by simp[IG]at h|_,[],_::_,_,_,ha=>ha.elim|_,_::_,[],_,_,ha=>ha.elim
theorem WV{ρ:aZ}{B:Nat}{m:List (Tr E2)}:∀{ps:List pL}{vs:List V2}{aJ:List AV}{ds:List eW},Pf ps vs=some ds->aC (RV ρ B m) vs aJ->∃as' vs2,oh aJ=some as'/\(∀rest,cS ps (ds++rest)=some (vs2,rest))/\∀(ρ:aZ)(B:Nat)(m:List (Tr E2)),aC (RV ρ B m) vs2 as':=by intro ps;induction ps with
 |nil=>intro vs aJ ds h ha;match vs,aJ,h,ha with|[],[],h,_=>simp_all[Pf,RV,aC,aZ,cS,oh]
 |cons p ps ih=>
  intro vs aJ ds h ha;unfold Pf at h;split at h;.grind
  .rename_i e;cases e;match aJ,ha with
   |a::aJ,ha=>
   split at h
   .rename_i d1 d2 h1 h2;cases h;obtain⟨y,x2,g1,g2,g3⟩:=SE h1 ha.1;obtain⟨as',rB,g4,g5,g6⟩:=ih h2 ha.2;have g1:FD a=some (.d y):=by cases a<;>first|exact g1|cases g1
    exact⟨.d y::as',.c x2::rB,by simp only[oh,g1,g4],λrest=>by simp only[cS,rI.fill,List.append_assoc,g2,g5],λρ B m=>⟨g3 _ _ _,g6 _ _ _⟩⟩
   grind
  .rename_i e;cases e;match aJ,ha with
   |a::aJ,ha=>
   split at h;.rename_i d1 d2 h1 h2;cases h;obtain⟨⟨bs,rfl,hb⟩,ha2⟩:=ha;obtain⟨bs',x2,g1,g2,g3⟩:=Gy h1 hb;obtain⟨as',rB,g4,g5,g6⟩:=ih h2 ha2;exact⟨.agg bs'::as',.agg x2::rB,by simp only[oh,FD,g1,g4,Option.map_some],λrest=>by simp only[cS,rI.fill,List.append_assoc,g2,g5],λρ B m=>⟨⟨_,rfl,g3 _ _ _⟩,g6 _ _ _⟩⟩
   grind
  grind
section
variable{ρ:aZ}{B:Nat}{m2:List (Tr E2)}{m:List (Tr bC)}(hm:MR ρ B m2 m)
include hm
theorem WW{x x':Cell}{a:AV}(h:acn m2 x=some x')(hx:RC ρ B m2 x a):∃y,hU m a=some y/\mO x'=some y:=by
 unfold acn at h;split at h;.cases h;cases hx;exact⟨_,rfl,rfl⟩
 .cases h;cases hx;exact⟨_,rfl,rfl⟩
 .cases h;cases hx;exact⟨_,rfl,rfl⟩
 .cases h;cases hx;exact⟨_,rfl,rfl⟩
 .cases h;rcases(gq (m:=m) hx).2with rfl|⟨o,ho,rfl⟩<;>exact⟨_,rfl,rfl⟩
 .cases h;rcases(gI (m:=m) hx).2.1with rfl|⟨o,rfl⟩<;>exact⟨_,rfl,rfl⟩
 .split at h;.rename_i r hr;cases h;have he:=lV hm hx hr;obtain⟨_,u,n,hu,rfl,hn⟩:=hx;exact⟨_,by simp only[hU,he,Option.map_some],rfl⟩
  grind
 .split at h;.rename_i r hr;cases h;have he:=jA hm hx hr (hx.2.choose_spec.2.2 r hr);obtain⟨_,u,hu,rfl,_⟩:=hx;exact⟨_,by simp only[hU,he,Option.map_some],rfl⟩
  grind
 grind
theorem NS:∀{xs xs':List Cell}{aJ:List AV},Wz m2 xs=some xs'->aC (RC ρ B m2) xs aJ->∃ds,iH m aJ=some ds/\ck xs'=some ds
 |[],xs',[],h,_=>by cases h;exact⟨[],rfl,rfl⟩|x::xs,xs',a::aJ,h,ha=>by
  simp[Wz]at h;split at h;.rename_i y ys h1 h2;cases h;obtain⟨d,g1,g2⟩:=WW hm h1 ha.1;obtain⟨ds,g3,g4⟩:=NS h2 ha.2;exact⟨d::ds,by simp only[iH,g1,g3],by simp only[ck,g2,g4]⟩
  grind|[],_,_::_,_,ha=>ha.elim|_::_,_,[],_,ha=>ha.elim
omit hm in theorem PE{a:AV}{y:D}(h:hU m a=some y):kR m a=some (.d y):=by cases a<;>first|(simp only[kR,h];rfl)|cases h
omit hm in theorem PG{a:AV}{y:D}(h:hU m a=some y):qi m a=dQ a:=by cases a<;>first|rfl|cases h
theorem I9{agg:Bool}{c:gf}{x:Cell}{a:AV}{d:List eW}{b:List Bool}(h:c.kR m2 agg x=some (d,b))(hx:RC ρ B m2 x a)(hb:∀t∈b,t=true):∃y x',(agg=true->hU m a=some y)/\(agg=false->kR m a=some (.d y)/\aR ρ (yU m2 (.c x)) (qi m a))/\(∀rest,c.fill (d++rest)=some (x',rest))/\RC ρ0 0 [] x' (.d y):=by
 have one:∀{y:D}{x':Cell},yU m2 (.c x)=Dk (.c x)->hU m a=some y->(∀rest,c.fill (d++rest)=some (x',rest))->RC ρ0 0 [] x' (.d y)->∃y x',(agg=true->hU m a=some y)/\(agg=false->kR m a=some (.d y)/\aR ρ (yU m2 (.c x)) (qi m a))/\(∀rest,c.fill (d++rest)=some (x',rest))/\RC ρ0 0 [] x' (.d y):=λhk h1 h2 h3=>⟨_,_,λ_=>h1,λ_=>⟨PE h1,by rw[hk,PG h1];exact NQ (v:=.c x) hx⟩,h2,h3⟩;unfold gf.kR at h;split at h<;>(try dsimp only at h)
 .split at h;.cases h;cases hx;exact one rfl rfl (λ_=>rfl) rfl
  grind
 .cases h;cases hx;exact one rfl rfl (λ_=>rfl) rfl
 .cases h;cases hx;exact one rfl rfl (λ_=>rfl) rfl
 .rename_i t o f;have key:hU m a=some (.sl (bf t [])):=by rcases(gq (m:=m) hx).2with rfl|⟨o',ho,rfl⟩<;>rfl
  split at h;.cases h;exact one rfl key (λ_=>rfl) (.inl rfl)
  .cases h;exact one rfl key (λ_=>rfl) (.inl rfl)
  grind
 .rename_i t0 o t l o';have key:hU m a=some (.sl (bf t l)):=by rcases(gI (m:=m) hx).2.1with rfl|⟨o',rfl⟩<;>rfl
  split at h;.cases h;exact one rfl key (λ_=>rfl) (.inl rfl)
  .cases h;exact one rfl key (λ_=>rfl) (.inl rfl)
  grind
 .rename_i t0 o lv sq ai t;cases hr:rowOf m2 lv sq ai with|none=>grind|some r=>
  simp[hr]at h;have he:=lV hm hx hr;obtain⟨_,u,n,hu,rfl,hn⟩:=hx;have key:hU m (.ref lv sq u 0 n t.size)=some (.sl (bf r.t r.l)):=by simp[hU,he,Option.map_some]
  cases o with|d=>cases h;exact one rfl key (λ_=>rfl) (.inl rfl)|bA=>cases h;exact one rfl key (λ_=>rfl) (.inl rfl)|full=>simp at h|app v=>simp at h
 .rename_i t0 o lv sq ai t off len;cases hr:rowOf m2 lv sq ai with|none=>grind|some r=>
  simp[hr]at h;have fin:b=[decide (off+len<=r.l.length)]->hU m a=some (.sl (bf r.t ((r.l.drop off).take len))):=by intro hb';have hle:=of_decide_eq_true (hb (decide (off+len<=r.l.length)) (by rw[hb'];exact List.mem_singleton.2 rfl));have he:=jA hm hx hr hle;obtain⟨_,u,hu,rfl,_⟩:=hx;simp[hU,he,Option.map_some]
  cases o with|d=>cases h;exact one rfl (fin rfl) (λ_=>rfl) (.inl rfl)|bA=>cases h;exact one rfl (fin rfl) (λ_=>rfl) (.inl rfl)|full=>simp at h|app v=>simp at h
 .rename_i t o lv sq ai off n sz;split at h
  .rename_i v cs hg;split at h
   .rename_i l hc hp;rw[Bool.and_eq_true]at hc;have hv:=Nat.eq_of_beq_eq_true hc.1;subst hv;have hle:=Nat.le_of_ble_eq_true hc.2;obtain⟨dcs,hd,hp⟩:=aQ hp;obtain⟨_,u,hu,rfl⟩:=hx;obtain⟨e,g1,g2⟩:=hm.eV _ _ _ hg;obtain⟨_,u',aJ,g3,rfl,g4⟩:=g2;rw[hu]at g3;obtain⟨ds,q1,q2⟩:=NS hm hd ((g4.drop off).take (n*sz));have hl:=xJ hp (wh n q2);have HO:gE m lv sq u=some aJ:=by unfold gE<;>simp_all
    have key:kR m (.ff lv sq u off n sz)=some (.d (.sl (bf t l))):=by simp only[kR,HO];rw[if_pos (by rw[<-g4.length];exact hle),q1]<;>grind
    have hkeys:aR ρ (yU m2 (.c (.ff lv sq v off n sz))) (qi m (.ff lv sq u off n sz)):=by simp[yU,hg,qi,HO];exact aR.iN lv sq (vZ g4)
    split at h;.cases h;exact⟨_,_,λh=>(by cases h),λ_=>⟨key,hkeys⟩,λ_=>rfl,.inl rfl⟩
    .cases h;exact⟨_,_,λh=>(by cases h),λ_=>⟨key,hkeys⟩,λ_=>rfl,.inl rfl⟩
    grind
   grind
  grind
 grind
theorem EC:∀{cs:List gf}{xs:List Cell}{aJ:List AV}{d:List eW}{b:List Bool},xA m2 cs xs=some (d,b)->aC (RC ρ B m2) xs aJ->(∀t∈b,t=true)->∃ys xs',iH m aJ=some ys/\(∀rest,cJ cs (d++rest)=some (xs',rest))/\aC (RC ρ0 0 []) xs' (ys.map .d)
 |[],[],aJ,d,b,h,ha,_=>by cases h;match aJ,ha with|[],_=>simp_all[aZ,ρ0,RC,aC,cJ,iH]
 |c::cs,x::xs,aJ,d,b,h,ha,hb=>by
  simp[xA]at h;split at h;.rename_i d1 b1 d2 b2 h1 h2;cases h;match aJ,ha with|a::aJ,ha=>obtain⟨y,x',g1,_,g2,g3⟩:=I9 hm h1 ha.1 (λt ht=>hb t (List.mem_append_left _ ht));obtain⟨ys,xs',g4,g5,g6⟩:=EC h2 ha.2 (λt ht=>hb t (List.mem_append_right _ ht));exact⟨y::ys,x'::xs',by simp only[iH,g1 rfl,g4],λrest=>by simp only[cJ,List.append_assoc,g2,g5],g3,g6⟩
  grind|[],_::_,_,_,_,h,_,_=>by simp[xA]at h|_::_,[],_,_,_,h,_,_=>by simp[xA]at h
theorem ED:∀{ps:List pL}{vs:List V2}{aJ:List AV}{d:List eW}{b:List Bool},xB m2 ps vs=some (d,b)->aC (RV ρ B m2) vs aJ->(∀t∈b,t=true)->∃as' vs',vk m aJ=some as'/\aR ρ (vs.flatMap (yU m2)) (aJ.flatMap (qi m))/\(∀rest,cS ps (d++rest)=some (vs',rest))/\aC (RV ρ0 0 []) vs' as'
 |[],[],aJ,d,b,h,ha,_=>by cases h;match aJ,ha with|[],_=>exact⟨[],[],rfl,aR.nil,λ_=>rfl,trivial⟩
 |p::ps,v::vs,aJ,d,b,h,ha,hb=>by
  simp[xB]at h;split at h;.rename_i d1 b1 d2 b2 h1 h2;cases h;match aJ,ha with
   |a::aJ,ha=>
    obtain⟨as',vs',g4,g7,g5,g6⟩:=ED h2 ha.2 (λt ht=>hb t (List.mem_append_right _ ht));have tD:∀t∈b1,t=true:=λt ht=>hb t (List.mem_append_left _ ht);have one:∃a' v',kR m a=some a'/\aR ρ (yU m2 v) (qi m a)/\(∀rest,cS (p::ps) (d1++rest)=(match cS ps rest with|some (xs,r'')=>some (v'::xs,r'')|none=>none))/\RV ρ0 0 [] v' a':=by
     unfold pL.kR at h1;split at h1;.obtain⟨y,x',_,q1,q2,q3⟩:=I9 hm h1 ha.1 tD;exact⟨_,.c x',(q1 rfl).1,(q1 rfl).2,λrest=>by simp only[cS,rI.fill,q2];rfl,q3⟩
     .obtain⟨bs,e,hc⟩:=ha.1;subst e;obtain⟨ys,WU,q1,q2,q3⟩:=EC hm h1 hc tD;exact⟨.agg (ys.map .d),.agg WU,by simp only[kR,q1,Option.map_some],vZ hc,λrest=>by simp only[cS,rI.fill,q2];rfl,_,rfl,q3⟩
     .split at h1;.rename_i f f' hf;have e:=Nat.eq_of_beq_eq_true hf;subst e;cases h1;obtain⟨bs,e,hc⟩:=ha.1;subst e;match bs,hc with|[],_=>exact⟨.gm _ [],.gm _ [],rfl,aR.nil,λrest=>by simp only[cS,List.nil_append];rfl,[],rfl,trivial⟩
      grind
     grind
    obtain⟨a',v',g1,g8,g2,g3⟩:=one;exact⟨a'::as',v'::vs',by simp only[vk,g1,g4],(by simp only[List.flatMap_cons];exact g8.append g7),λrest=>by rw[List.append_assoc,g2,g5],g3,g6⟩
  grind|[],_::_,_,_,_,h,_,_=>by simp[xB]at h|_::_,[],_,_,_,h,_,_=>by simp[xB]at h
end
theorem oD{α:Type}{l:List Bool}{k:Option α}{r:α}(h:uG l k=some r):(∀t∈l,t=true)/\k=some r:=by induction l with|nil=>grind[uG]|cons b l ih=>obtain⟨h1,h2⟩:=cl h<;>grind
section
variable{α:Type}{ρ:aZ}{B:Nat}{s2:S2}{s:St}{r:α}(hm:MR ρ B s2.mem s.mem)(cg:uJ ρ B s2.mem s2.slots s.slots)
include hm cg
theorem WX{ar:AG}{K:Bool->List Cell->Option α}(h:acp s2 ar K=some r):∃a cs v,HY s ar=some v/\R1 ρ B s2.mem (a,cs) v/\K a cs=some r:=by
 unfold acp at h;split at h
 .split at h;.rename_i x hx;have hv:=cg _ _ hx;refine⟨false,[x],_,?_,⟨x,rfl,hv⟩,h⟩;simp[HY,(RC.cell hv).2.2]
  .rename_i cs hx;obtain⟨aJ,e,hv⟩:=cg _ _ hx;refine⟨true,cs,.agg aJ,?_,⟨aJ,rfl,hv⟩,h⟩;simp[HY,e,fL]
  grind
 .obtain⟨p,hp,h⟩:=cv h;obtain⟨cs,aJ,h1,h2,h3⟩:=I2 hm h (cg _ _ hp);split at h3;.refine⟨true,cs,.agg aJ,?_,⟨aJ,rfl,h2⟩,h3⟩;simp[HY,h1,Option.bind_some,gH]
  .rename_i x _;match aJ,h2 with|[a],h2=>refine⟨false,[x],a,?_,⟨x,rfl,h2.1⟩,h3⟩;simp[HY,h1,Option.bind_some,gH]
  grind
theorem wm:∀{l:List AG}{K:List (Bool×List Cell)->Option α},yV s2 l K=some r->∃vs aJ,kX s l=some aJ/\aC (R1 ρ B s2.mem) vs aJ/\K vs=some r|[],K,h=>⟨[],[],rfl,trivial,h⟩|x::l,K,h=>by obtain⟨a,cs,v,h1,h2,h⟩:=WX hm cg h;obtain⟨vs,aJ,h3,h4,h⟩:=wm h;exact⟨(a,cs)::vs,v::aJ,by simp only[kX,h1,h3],⟨h2,h4⟩,h⟩
end
theorem wo{cm:List (Tr bC)}{top k lv sl ai:Nat}{els:List (List D)}{o:Rm}(h:o≠.bA):bu cm top 0 k lv sl ai (.own els o)=some (.d (.sl els),[]):=by cases o with|bA=>grind|_=>rfl
section
variable{ρ:aZ}{B:Nat}{m2:List (Tr E2)}{m:List (Tr bC)}(hm:MR ρ B m2 m)
include hm
theorem NT{top k lv sl ai:Nat}{x y:Cell}{a:AV}(h:Sc m2 top x=some y)(hx:RC ρ B m2 x a):∃a',bu m top 0 k lv sl ai a=some (a',[])/\RC ρ B (m2.take top) y a':=by
 unfold Sc at h;split at h;.cases h;cases hx;exact⟨_,rfl,rfl⟩
 .cases h;cases hx;exact⟨_,rfl,rfl⟩
 .cases h;cases hx;exact⟨_,rfl,rfl⟩
 .cases h;cases hx;exact⟨_,rfl,rfl⟩
 .cases h;rcases(gq (m:=m) hx).2with e|⟨o',ho,e⟩;.subst e;exact⟨_,rfl,.inl rfl⟩
  .subst e;exact⟨_,wo ho,.inl rfl⟩
 .cases h
 .rename_i t l o hne;cases h;rcases(gI (m:=m) hx).2.2 (λe=>hne e)with e|⟨o2,ho,e⟩;.subst e;exact⟨_,rfl,.inl rfl⟩
  .subst e;exact⟨_,wo ho,.inl rfl⟩
 .split at h
  .rename_i hb;cases h;obtain⟨hv,u,n,hu,rfl,hn⟩:=hx;refine⟨_,by simp only[bu,hb],hv,u,n,hu,rfl,λr hr=>hn r ?_⟩;have h1:=cC hr;refine gw.2 ?_;unfold iD at h1⊢;rw[List.getElem?_take]at h1;split at h1;.exact h1
   .cases h1
  .rename_i hb;split at h;.rename_i r hr;cases h;have he:=lV hm hx hr;obtain⟨hv,u,n,hu,rfl,hn⟩:=hx;refine⟨.d (.sl (bf r.t r.l)),?_,.inl rfl⟩;simp[bu,hb,he]
   .cases h
 .rename_i cG dF gG t off len;split at h
  .rename_i hb;cases h;obtain⟨hv,u,hu,rfl,hn⟩:=hx;refine⟨_,by simp only[bu,hb],hv,u,hu,rfl,λr hr=>hn r ?_⟩;have h1:=cC hr;refine gw.2 ?_;unfold iD at h1⊢;rw[List.getElem?_take]at h1;split at h1;.exact h1
   .cases h1
  .rename_i hb;split at h;.rename_i r hr;cases h;have he:=jA hm hx hr (hx.2.choose_spec.2.2 r hr);obtain⟨hv,u,hu,rfl,hn⟩:=hx;refine⟨.d (.sl (bf r.t ((r.l.drop off).take len))),?_,.inl rfl⟩;simp[bu,hb,he]
   .cases h
 .cases h
theorem Ja{top lv sl ai:Nat}:∀{k:Nat}{xs ys:List Cell}{aJ:List AV},Bw m2 top xs=some ys->aC (RC ρ B m2) xs aJ->∃as',cL m top 0 lv sl ai k aJ=some (as',[])/\aC (RC ρ B (m2.take top)) ys as'
 |k,[],ys,aJ,h,ha=>by cases h;match aJ,ha with|[],_=>exact⟨[],rfl,trivial⟩
 |k,x::xs,ys,aJ,h,ha=>by
  simp[Bw]at h;split at h;.rename_i y ys' h1 h2;cases h;match aJ,ha with|a::aJ,ha=>obtain⟨a',g1,g2⟩:=NT hm (k:=k) (lv:=lv) (sl:=sl) (ai:=ai) h1 ha.1;obtain⟨as',g3,g4⟩:=Ja (lv:=lv) (sl:=sl) (ai:=ai) (k:=k+1) h2 ha.2;exact⟨a'::as',by simp only[cL,g1,g3,List.append_nil],g2,g4⟩
  grind
theorem NU{top lv sl ai k:Nat}{b:Bool}{xs ys:List Cell}{a:AV}(h:Bw m2 top xs=some ys)(ha:R1 ρ B m2 (b,xs) a):∃a',kV m top 0 lv sl ai k a=some (a',[])/\R1 ρ B (m2.take top) (b,ys) a':=by cases b with|true=>obtain⟨aJ,rfl,ha⟩:=ha;obtain⟨as',g1,g2⟩:=Ja hm (k:=k) (lv:=lv) (sl:=sl) (ai:=ai) h ha<;>simp_all[RC,aC,Bw,aZ,R1,kV]|false=>
 obtain⟨c,rfl,ha⟩:=ha;simp[Bw]at h;split at h;.rename_i y ys' h1 h2;simp_all;subst h;obtain⟨a',g1,g2⟩:=NT hm (k:=k) (lv:=lv) (sl:=sl) (ai:=ai) h1 ha;refine⟨a',?_,y,rfl,g2⟩;have hc:=RC.cell ha;cases a<;>first|exact g1|cases hc.2.1
 grind
theorem EE{top lv sl ai:Nat}:∀{k:Nat}{vs ws:List (Bool×List Cell)}{aJ:List AV},yW m2 top vs=some ws->aC (R1 ρ B m2) vs aJ->∃as',fK m top 0 lv sl ai k aJ=some (as',[])/\aC (R1 ρ B (m2.take top)) ws as'
 |k,[],ws,aJ,h,ha=>by cases h;match aJ,ha with|[],_=>exact⟨[],rfl,trivial⟩
 |k,(b,x)::xs,ws,aJ,h,ha=>by
  simp[yW]at h;split at h;.rename_i y ys' h1 h2;cases h;match aJ,ha with|a::aJ,ha=>obtain⟨a',g1,g2⟩:=NU hm (k:=k) (lv:=lv) (sl:=sl) (ai:=ai) h1 ha.1;obtain⟨as',g3,g4⟩:=EE (lv:=lv) (sl:=sl) (ai:=ai) (k:=k+64) h2 ha.2;exact⟨a'::as',by simp only[fK,g1,g3,List.append_nil],g2,g4⟩
  grind
omit hm in theorem R1.fL{b:Bool}{cs:List Cell}{a:AV}(h:R1 ρ B m2 (b,cs) a):bI.fL a=true:=by cases b with|true=>obtain⟨aJ,rfl,_⟩:=h;rfl|false=>obtain⟨c,_,h⟩:=h;exact(RC.cell h).2.2
theorem WY{top lv sl ai:Nat}{vs ws:List (Bool×List Cell)}{w:V2}{aJ:List AV}(h:yW m2 top vs=some ws)(ht:mY ws=some w)(ha:aC (R1 ρ B m2) vs aJ):∃a',gu m top 0 lv sl ai (jr aJ)=some (a',[])/\RV ρ B (m2.take top) w a':=by match vs,aJ,ha with
 |[],[],ha=>cases h;cases ht;exact⟨.iF [],rfl,[],rfl,trivial⟩|[(b,x)],[a],ha=>
  simp[yW]at h;split at h
  .rename_i y ys' h1 h2;simp_all;subst h;obtain⟨a',g1,g2⟩:=NU hm (k:=1) (lv:=lv) (sl:=sl) (ai:=ai) h1 ha.1;refine⟨a',?_,?_⟩;.have hn:=R1.fL ha.1;cases a<;>first|exact g1|cases hn
   .cases b with|true=>obtain⟨as',rfl,g3⟩:=g2;cases ht;exact⟨as',rfl,g3⟩|false=>obtain⟨c,rfl,g3⟩:=g2;cases ht;exact g3
  grind|v::v'::vs,a::a'::aJ,ha=>
  obtain⟨as',g1,g2⟩:=EE hm (k:=1) (lv:=lv) (sl:=sl) (ai:=ai) h ha;refine⟨.iF as',?_,?_⟩;.simp[jr,gu,g1,Option.map_some]
  .have:∃x y zs,ws=x::y::zs:=by simp[yW]at h<;>grind
   obtain⟨x,y,zs,rfl⟩:=this;cases ht;exact⟨as',rfl,g2⟩
end
end Go.Sym
