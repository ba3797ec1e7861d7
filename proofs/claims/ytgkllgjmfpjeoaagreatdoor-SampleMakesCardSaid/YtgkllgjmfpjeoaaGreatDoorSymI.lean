/- The machine over typed data: arguments and results of calls. -/
import Derived.Test.YtgkllgjmfpjeoaaGreatDoorSymH
set_option linter.unusedVariables false
set_option linter.unusedSimpArgs false
namespace Go.Sym
open Go Go.bJ
theorem yI{a b:Ty}{x:a.den}{y:b.den}(h:uj a b x=some y):(⟨b,y⟩:fG)=⟨a,x⟩:=by obtain⟨e,he⟩:=N8 h<;>grind
theorem dm:∀{ts:List Ty}{ds:List fG}{x:(qQ ts).den},pack ts ds=some x->unpack ts x=ds
 |[],[],_,_=>rfl|[a],[d],x,h=>by have:=yI h;simp[unpack]<;>omega|a::b::r,d::ds,x,h=>by
  simp[pack]at h;split at h;.rename_i y z h1 h2;cases h;simp only[unpack];rw[yI h1,dm h2]
  grind|[],_::_,_,h=>by simp[pack]at h|[_],[],_,h=>by simp[pack]at h|[_],_::_::_,_,h=>by simp[pack]at h|_::_::_,[],_,h=>by simp[pack]at h
theorem D0{a b:AX}(h:VH a b=true):a=b:=by unfold VH at h;split at h<;>simp_all
theorem zN{ρ:bt}{so:List (Tr AV)}{s2:S2}{s:St}{ax:AX}(hs:zL ρ so s2 s):∀{os:bp}{y:(oa os).den},mL os ax s2=some y->∃s2' ρ',zL ρ' so s2' s/\Fr ρ s2.nv s.nv ρ' s2'.nv/\∀{α:Type}(K:AX->S2->Option α),pz os y K=K ax s2'
 |[],_,h=>by simp[mL]at h|[x],y,h=>by
  simp[mL]at h;split at h;.rename_i he;obtain⟨ds,h1,h2⟩:=aA h;obtain⟨s2',ρ',g1,g2,g3⟩:=zM h1 hs;refine⟨s2',ρ',g2,g3,λK=>?_⟩;simp[pz,dm h2,g1,bZ,D0 he]
  grind|x::z::r,y,h=>by
  simp[mL]at h;split at h;.rename_i he;obtain⟨y',h1,h2⟩:=aA h;cases h2;obtain⟨ds,h3,h4⟩:=aR h1;obtain⟨s2',ρ',g1,g2,g3⟩:=zM h3 hs;refine⟨s2',ρ',g2,g3,λK=>?_⟩;simp[pz,dm h4,g1,bZ,D0 he]
  .obtain⟨y',h1,h2⟩:=aA h;cases h2;obtain⟨s2',ρ',g2,g3,g4⟩:=zN hs h1;exact⟨s2',ρ',g2,g3,λK=>by simp only[pz,g4]⟩
theorem RC.still{ρ ρ':bt}{B B':Nat}{m m':List (Tr E2)}{c:Cell}{a:AV}(hc:c.still=true)(h:RC ρ B m c a):RC ρ' B' m' c a:=by cases c with
 |nil f=>cases f<;>exact h|sl t l o=>cases o with|app v=>cases hc|_=>exact h
 |ref=>cases hc|jx=>cases hc|ptr=>cases hc|fe=>cases hc|mp=>cases hc|_=>exact h
theorem RCs.still{ρ ρ':bt}{B B':Nat}{m m':List (Tr E2)}:∀{cs:List Cell}{aL:List AV},cs.all Cell.still=true->aC (RC ρ B m) cs aL->aC (RC ρ' B' m') cs aL|[],[],_,_=>trivial|c::cs,a::aL,hc,h=>by rw[List.all_cons,Bool.and_eq_true]at hc;exact⟨h.1.still hc.1,RCs.still hc.2 h.2⟩|[],_::_,_,h=>h.elim|_::_,[],_,h=>h.elim
theorem RV.still{ρ ρ':bt}{B B':Nat}{m m':List (Tr E2)}{v:V2}{a:AV}(hv:v.still=true)(h:RV ρ B m v a):RV ρ' B' m' v a:=by cases v with|c c=>exact RC.still hv h|agg cs=>obtain⟨aL,h1,h2⟩:=h;exact⟨aL,h1,RCs.still hv h2⟩|gp f cs=>obtain⟨aL,h1,h2⟩:=h;exact⟨aL,h1,RCs.still hv h2⟩|iY vs=>obtain⟨aL,h1,h2⟩:=h;refine⟨aL,h1,?_⟩;clear h1;replace hv:vs.all (λv=>v.2.all Cell.still)=true:=hv;induction vs generalizing aL with|nil=>cases aL<;>exact h2|cons v vs ih=>cases aL with|nil=>exact h2.elim|cons a aL=>rw[List.all_cons,Bool.and_eq_true]at hv;refine⟨?_,ih aL h2.2 hv.2⟩;obtain⟨b,cs⟩:=v;cases b with|true=>obtain⟨bs,h3,h4⟩:=h2.1;exact⟨bs,h3,RCs.still hv.1 h4⟩|false=>obtain⟨c,h3,h4⟩:=h2.1;refine⟨c,h3,h4.still ?_⟩;subst h3;simpa using hv.1
theorem Tr.FN{α:Type}(v:Option α)(l r:Tr α)(k:Nat):(Tr.nd v l r).get? k=if k=0then v else if k%2=1then l.get? (k/2)else r.get? (k/2-1):=by simp[Tr.get?];cases h0:Nat.beq k 0with|true=>simp_all|false=>have:=Nat.ne_of_beq_eq_false h0;cases h1:Nat.beq (k%2) 1with|true=>simp_all|false=>simp[this,Nat.ne_of_beq_eq_false h1]
theorem Tr.VZ{α:Type}(t:Tr α)(k:Nat):t.get? k=if k=0then t.top else if k%2=1then t.left.get? (k/2)else t.right.get? (k/2-1):=by cases t with|lf=>simp[Tr.get?,Tr.top,Tr.left,Tr.right]|nd v l r=>rw[Tr.FN];rfl
theorem xk:∀(t:Tr V2)(k:Nat)(v:V2),(loose t).get? k=some v->t.get? k=some v
 |.lf,_,_,h=>by simp[loose]at h|.nd x l r,k,v,h=>by
  simp[loose]at h;rw[Tr.FN]at h⊢;by_cases h0:k=0;.grind
  .rw[if_neg h0]at h⊢;by_cases h1:k%2=1;.rw[if_pos h1]at h⊢;exact xk l _ v h
   .rw[if_neg h1]at h⊢;exact xk r _ v h
theorem pL:∀(a b:Tr V2)(k:Nat)(v:V2),(merge a b).get? k=some v->(a.get? k=some v/\v.still=true)\/b.get? k=some v
 |.lf,_,_,_,h=>by simp[merge]at h|.nd x l r,b,k,v,h=>by
  simp[merge]at h;rw[Tr.FN]at h;rw[Tr.FN,Tr.VZ b];by_cases h0:k=0;.grind
  .rw[if_neg h0]at h⊢;rw[if_neg h0];by_cases h1:k%2=1;.rw[if_pos h1]at h⊢;rw[if_pos h1];exact pL l _ _ v h
   .rw[if_neg h1]at h⊢;rw[if_neg h1];exact pL r _ _ v h
def ρ0:bt:=λ_=>none
theorem Rl{m:List (Tr bB)}{els:List (List D)}{o:UW}(h:o≠.bC):ef m (.own els o)=some (.d (.sl els),[]):=by cases o with|bC=>grind|_=>rfl
theorem Rm{m:List (Tr bB)}{els:List (List D)}{o:UW}(h:o≠.bC):cP m (.own els o)=some (.d (.sl els)):=by grind[cP]
def GJ(agg:Bool)(m:List (Tr bB))(a a':AV)(k:List (Nat×Nat)):Prop:=(agg=true/\ef m a=some (a',k))\/(agg=false/\cP m a=some a'/\k=[])
theorem GJ.data{agg:Bool}{m:List (Tr bB)}{a:AV}{y:D}(e:a=.d y):GJ agg m a (.d y) []:=by
 subst e;cases agg;.exact .inr ⟨rfl,rfl,rfl⟩
 .exact .inl ⟨rfl,rfl⟩
theorem GJ.aaj{agg:Bool}{m:List (Tr bB)}{a:AV}{els:List (List D)}{o:UW}(ho:o≠.bC)(e:a=.own els o):GJ agg m a (.d (.sl els)) []:=by
 subst e;cases agg;.exact .inr ⟨rfl,Rm ho,rfl⟩
 .exact .inl ⟨rfl,Rl ho⟩
theorem GJ.ajb{agg:Bool}{m:List (Tr bB)}{a:AV}{els:List (List D)}(e:a=.own els .bC):GJ agg m a (.own els .bC) []:=by
 subst e;cases agg;.exact .inr ⟨rfl,rfl,rfl⟩
 .exact .inl ⟨rfl,rfl⟩
section
variable{ρ:bt}{B:Nat}{m2:List (Tr E2)}{m:List (Tr bB)}(hm:MR ρ B m2 m)
include hm
theorem FO{agg:Bool}{c:gG}{x:Cell}{a:AV}{d:List fG}{k:List (Nat×Nat)}{b:List Bool}(h:c.arg m2 agg x=some (d,k,b))(hx:RC ρ B m2 x a)(hb:∀t∈b,t=true):∃a' x',GJ agg m a a' k/\(∀rest,c.fill (d++rest)=some (x',rest))/\RC ρ0 0 [] x' a':=by
 unfold gG.arg at h;split at h<;>(try dsimp only at h)
 .split at h;.cases h;exact⟨_,_,GJ.data hx,λ_=>rfl,rfl⟩
  grind
 .cases h;exact⟨_,_,GJ.data hx,λ_=>rfl,rfl⟩
 .cases h;exact⟨_,_,GJ.data hx,λ_=>rfl,rfl⟩
 .rename_i t o f;have key:∃a',GJ agg m a a' []/\a'=.d (.sl (bf t [])):=by
   rcases(gH (m:=m) hx).2with e|⟨o',ho,e⟩;.exact⟨_,GJ.data e,rfl⟩
   .exact⟨_,GJ.aaj ho e,rfl⟩
  obtain⟨a',g1,g2⟩:=key;split at h;.cases h;exact⟨_,_,g1,λ_=>rfl,.inl g2⟩
  .cases h;exact⟨_,_,g1,λ_=>rfl,.inl g2⟩
  grind
 .split at h
  .cases h;rcases(iA (m:=m) hx).2.1with e|⟨o2,e⟩;.exact⟨_,_,GJ.data e,λ_=>rfl,.inl rfl⟩
   .by_cases ho:o2=.bC;.subst ho;exact⟨_,_,GJ.ajb e,λ_=>rfl,.inr ⟨_,rfl⟩⟩
    .exact⟨_,_,GJ.aaj ho e,λ_=>rfl,.inl rfl⟩
  .cases h
  .rename_i hne;cases h;rcases(iA (m:=m) hx).2.2 (λe=>hne e)with e|⟨o2,ho,e⟩;.exact⟨_,_,GJ.data e,λ_=>rfl,.inl rfl⟩
   .exact⟨_,_,GJ.aaj ho e,λ_=>rfl,.inl rfl⟩
  .cases h
 .rename_i t0 o lv sq ah t;cases hr:rowOf m2 lv sq ah with|none=>grind|some r=>
  simp[hr]at h;have he:=lQ hm hx hr;obtain⟨_,u,n,hu,rfl,hn⟩:=hx;have hg:ef m (.ref lv sq u 0 n t.size)=some (.d (.sl (bf r.t r.l)),[(lv,sq)]):=by simp[ef,zn,he,Option.map_some]
  have hl:cP m (.ref lv sq u 0 n t.size)=some (.own (bf r.t r.l) .bC):=by simp[cP,he,Option.map_some]
  cases o with
  |bC=>cases agg with|false=>cases h;exact⟨_,_,.inr ⟨rfl,hl,rfl⟩,λ_=>rfl,.inr ⟨_,rfl⟩⟩|true=>cases h;exact⟨_,_,.inl ⟨rfl,hg⟩,λ_=>rfl,.inl rfl⟩
  |d=>cases agg with|false=>simp at h|true=>cases h;exact⟨_,_,.inl ⟨rfl,hg⟩,λ_=>rfl,.inl rfl⟩
  |full=>grind|app v=>grind
 .rename_i t0 o lv sq ah t off len;cases hr:rowOf m2 lv sq ah with|none=>grind|some r=>simp[hr]at h;cases o with
  |bC=>cases agg with|false=>cases h;have he:=jy hm hx hr (of_decide_eq_true (hb _ List.mem_cons_self));obtain⟨_,u,hu,rfl,_⟩:=hx;refine⟨.own (bf r.t ((r.l.drop off).take len)) .bC,_,.inr ⟨rfl,?_,rfl⟩,λ_=>rfl,.inr ⟨_,rfl⟩⟩;simp[cP,he,Option.map_some]|true=>simp at h
  |d=>grind|full=>grind|app v=>grind
 grind
theorem Bf:∀{cs:List gG}{xs:List Cell}{aL:List AV}{d:List fG}{k:List (Nat×Nat)}{b:List Bool},AU m2 cs xs=some (d,k,b)->aC (RC ρ B m2) xs aL->(∀t∈b,t=true)->∃as' xs',ff m aL=some (as',k)/\(∀rest,cW cs (d++rest)=some (xs',rest))/\aC (RC ρ0 0 []) xs' as'
 |[],[],aL,d,k,b,h,ha,_=>by cases h;match aL,ha with|[],_=>exact⟨[],[],rfl,λ_=>rfl,trivial⟩
 |c::cs,x::xs,aL,d,k,b,h,ha,hb=>by
  simp[AU]at h;split at h;.rename_i d1 k1 b1 d2 k2 b2 h1 h2;cases h;match aL,ha with
   |a::aL,ha=>
    obtain⟨a',x',g1,g2,g3⟩:=FO hm h1 ha.1 (λt ht=>hb t (List.mem_append_left _ ht));have g1:ef m a=some (a',k1):=by rcases g1 with⟨_,g⟩|⟨g,_⟩<;>grind
    obtain⟨as',xs',g4,g5,g6⟩:=Bf h2 ha.2 (λt ht=>hb t (List.mem_append_right _ ht));exact⟨a'::as',x'::xs',by simp only[ff,g1,g4],λrest=>by simp only[cW,List.append_assoc,g2,g5],g3,g6⟩
  grind|[],_::_,_,_,_,_,h,_,_=>by simp[AU]at h|_::_,[],_,_,_,_,h,_,_=>by simp[AU]at h
omit hm in theorem Ot{a:AV}(h0:cellsOf a=some [a])(h1:lI a=true):wN m a=(cP m a).map λy=>(y,[]):=by cases a<;>first|rfl|cases h1
omit hm in theorem Ou{a:AV}(h1:lI a=true):wO m a=ef m a:=by cases a<;>first|rfl|cases h1
theorem H9:∀{ps:List tP}{vs:List V2}{aL:List AV}{d:List fG}{k:List (Nat×Nat)}{b:List Bool},DM m2 ps vs=some (d,k,b)->aC (RV ρ B m2) vs aL->(∀t∈b,t=true)->∃as' vs',qL m aL=some (as',k)/\(∀rest,di ps (d++rest)=some (vs',rest))/\aC (RV ρ0 0 []) vs' as'
 |[],[],aL,d,k,b,h,ha,_=>by cases h;match aL,ha with|[],_=>simp_all[bt,ρ0,RV,aC,di,qL]
 |p::ps,v::vs,aL,d,k,b,h,ha,hb=>by
  simp[DM]at h;split at h;.rename_i d1 k1 b1 d2 k2 b2 h1 h2;cases h;match aL,ha with
   |a::aL,ha=>
    obtain⟨as',vs',g4,g5,g6⟩:=H9 h2 ha.2 (λt ht=>hb t (List.mem_append_right _ ht));have sV:∀t∈b1,t=true:=λt ht=>hb t (List.mem_append_left _ ht);have one:∃a' v',wO m a=some (a',k1)/\(∀rest,di (p::ps) (d1++rest)=(match di ps rest with|some (xs,r'')=>some (v'::xs,r'')|none=>none))/\RV ρ0 0 [] v' a':=by
     unfold tP.adN at h1;split at h1
     .obtain⟨a',x',q0,q2,q3⟩:=FO hm h1 ha.1 sV;have q1:ef m a=some (a',k1):=by rcases q0 with⟨_,g⟩|⟨g,_⟩<;>grind
      have hc:=RC.cell ha.1;exact⟨a',.c x',by rw[Ou hc.2.1,q1],λrest=>by simp only[di,tc.fill,q2];rfl,q3⟩
     .obtain⟨bs,e,hc⟩:=ha.1;subst e;obtain⟨JO,V0,q1,q2,q3⟩:=Bf hm h1 hc sV;exact⟨.agg JO,.agg V0,by simp only[wO,q1,Option.map_some],λrest=>by simp only[di,tc.fill,q2];rfl,JO,rfl,q3⟩
     grind
    obtain⟨a',v',g1,g2,g3⟩:=one;exact⟨a'::as',v'::vs',by simp only[qL,g1,g4],λrest=>by rw[List.append_assoc,g2,g5],g3,g6⟩
  grind|[],_::_,_,_,_,_,h,_,_=>by simp[DM]at h|_::_,[],_,_,_,_,h,_,_=>by simp[DM]at h
theorem Ia{c:gG}{x:Cell}{a:AV}{d:List fG}{b:List Bool}(h:c.arg m2 false x=some (d,[],b))(hx:RC ρ B m2 x a)(hb:∀t∈b,t=true):∃a' x',cP m a=some a'/\(∀rest,c.fill (d++rest)=some (x',rest))/\RC ρ0 0 [] x' a':=by
 obtain⟨a',x',g,g2,g3⟩:=FO hm h hx hb;rcases g with⟨g,_⟩|⟨_,g,_⟩;.cases g
 .exact⟨a',x',g,g2,g3⟩
theorem D1:∀{l:List gG}{cs:List Cell}{aL:List AV}{d:List fG}{b:List Bool},w8 m2 l cs=some (d,b)->aC (RC ρ B m2) cs aL->(∀t∈b,t=true)->∃as' xs',oK m aL=some as'/\(∀rest,cW l (d++rest)=some (xs',rest))/\aC (RC ρ0 0 []) xs' as'
 |[],[],aL,d,b,h,ha,_=>by cases h;match aL,ha with|[],_=>exact⟨[],[],rfl,λ_=>rfl,trivial⟩
 |c::cs,x::xs,aL,d,b,h,ha,hb=>by
  simp only[w8]at h;split at h;.rename_i d1 b1 d2 b2 h1 h2;cases h;match aL,ha with|a::aL,ha=>obtain⟨a',x',g1,g2,g3⟩:=Ia hm h1 ha.1 (λt ht=>hb t (List.mem_append_left _ ht));obtain⟨as',xs',g4,g5,g6⟩:=D1 h2 ha.2 (λt ht=>hb t (List.mem_append_right _ ht));exact⟨a'::as',x'::xs',by simp only[oK,g1,g4],λrest=>by simp only[cW,List.append_assoc,g2,g5],g3,g6⟩
  .cases h|[],_::_,_,_,_,h,_,_=>by simp[w8]at h|_::_,[],_,_,_,h,_,_=>by simp[w8]at h
omit hm in theorem KC{a:AV}(h1:lI a=true):qM m a=cP m a:=by cases a<;>first|rfl|cases h1
theorem Ib:∀{ps:List tP}{vs:List V2}{aL:List AV}{d:List fG}{b:List Bool},DN m2 ps vs=some (d,b)->aC (RV ρ B m2) vs aL->(∀t∈b,t=true)->∃as' vs',p5 m aL=some as'/\(∀rest,di ps (d++rest)=some (vs',rest))/\aC (RV ρ0 0 []) vs' as'
 |[],[],aL,d,b,h,ha,_=>by cases h;match aL,ha with|[],_=>exact⟨[],[],rfl,λ_=>rfl,trivial⟩
 |p::ps,v::vs,aL,d,b,h,ha,hb=>by
  simp only[DN]at h;split at h;.rename_i d1 b1 d2 b2 h1 h2;cases h;match aL,ha with
   |a::aL,ha=>
    obtain⟨as',vs',g4,g5,g6⟩:=Ib h2 ha.2 (λt ht=>hb t (List.mem_append_right _ ht));have sV:∀t∈b1,t=true:=λt ht=>hb t (List.mem_append_left _ ht);have one:∃a' v',qM m a=some a'/\(∀rest,di (p::ps) (d1++rest)=(match di ps rest with|some (xs,r'')=>some (v'::xs,r'')|none=>none))/\RV ρ0 0 [] v' a':=by
     unfold tP.adO at h1;split at h1
     .split at h1;.rename_i hx;cases h1;obtain⟨a',x',q1,q2,q3⟩:=Ia hm hx ha.1 sV;have hc:=RC.cell ha.1;exact⟨a',.c x',by rw[KC hc.2.1,q1],λrest=>by simp only[di,tc.fill,q2];rfl,q3⟩
      .cases h1
     .obtain⟨bs,e,hc⟩:=ha.1;subst e;obtain⟨JO,V0,q1,q2,q3⟩:=D1 hm h1 hc sV;exact⟨.agg JO,.agg V0,by simp only[qM,q1,Option.map_some],λrest=>by simp only[di,tc.fill,q2];rfl,JO,rfl,q3⟩
     .cases h1
    obtain⟨a',v',g1,g2,g3⟩:=one;exact⟨a'::as',v'::vs',by simp only[p5,g1,g4],λrest=>by rw[List.append_assoc,g2,g5],g3,g6⟩
  .cases h|[],_::_,_,_,_,h,_,_=>by simp[DN]at h|_::_,[],_,_,_,h,_,_=>by simp[DN]at h
theorem Ic:∀{ps:List tP}{vs:List V2}{aL:List AV}{d:List fG}{k:List (Nat×Nat)}{b:List Bool},DG m2 ps vs=some (d,k,b)->aC (RV ρ B m2) vs aL->(∀t∈b,t=true)->∃as' vs',qK m aL=some (as',k)/\(∀rest,di ps (d++rest)=some (vs',rest))/\aC (RV ρ0 0 []) vs' as'
 |[],[],aL,d,k,b,h,ha,_=>by cases h;match aL,ha with|[],_=>simp_all[bt,ρ0,RV,aC,di,qK]
 |p::ps,v::vs,aL,d,k,b,h,ha,hb=>by
  simp[DG]at h;split at h;.rename_i d1 k1 b1 d2 k2 b2 h1 h2;cases h;match aL,ha with
   |a::aL,ha=>
    obtain⟨as',vs',g4,g5,g6⟩:=Ic h2 ha.2 (λt ht=>hb t (List.mem_append_right _ ht));have sV:∀t∈b1,t=true:=λt ht=>hb t (List.mem_append_left _ ht);have one:∃a' v',wN m a=some (a',k1)/\(∀rest,di (p::ps) (d1++rest)=(match di ps rest with|some (xs,r'')=>some (v'::xs,r'')|none=>none))/\RV ρ0 0 [] v' a':=by
     unfold tP.arg at h1;split at h1
     .obtain⟨a',x',q0,q2,q3⟩:=FO hm h1 ha.1 sV;have q1:cP m a=some a'/\k1=[]:=by rcases q0 with⟨g,_⟩|⟨_,g⟩<;>grind
      obtain⟨q1,rfl⟩:=q1;have hc:=RC.cell ha.1;exact⟨a',.c x',by rw[Ot hc.1 hc.2.1,q1];rfl,λrest=>by simp only[di,tc.fill,q2];rfl,q3⟩
     .obtain⟨bs,e,hc⟩:=ha.1;subst e;obtain⟨JO,V0,q1,q2,q3⟩:=Bf hm h1 hc sV;exact⟨.agg JO,.agg V0,by simp only[wN,q1,Option.map_some],λrest=>by simp only[di,tc.fill,q2];rfl,JO,rfl,q3⟩
     .split at h1;.rename_i f f' hf;have e:=Nat.eq_of_beq_eq_true hf;subst e;cases h1;obtain⟨bs,e,hc⟩:=ha.1;subst e;match bs,hc with|[],_=>exact⟨.gp _ [],.gp _ [],rfl,λrest=>by simp only[di,List.nil_append];rfl,[],rfl,trivial⟩
      grind
     grind
    obtain⟨a',v',g1,g2,g3⟩:=one;exact⟨a'::as',v'::vs',by simp only[qK,g1,g4],λrest=>by rw[List.append_assoc,g2,g5],g3,g6⟩
  grind|[],_::_,_,_,_,_,h,_,_=>by simp[DG]at h|_::_,[],_,_,_,_,h,_,_=>by simp[DG]at h
end
theorem vL{sz:Nat}:∀(n:Nat){l:List Cell}{ds:List D},cc l=some ds->aC (λc d=>cc c=some d) (bJ.chunk sz n l) (bJ.chunk sz n ds)|0,_,_,_=>trivial|n+1,_,_,h=>⟨rU sz h,vL n (rV sz h)⟩
theorem FP{c:gG}{x':Cell}{d:List fG}{y:D}(hd:tf c x'=some d)(hy:nF x'=some y):∃x2,(∀rest,c.fill (d++rest)=some (x2,rest))/\∀(ρ:bt)(B:Nat)(m:List (Tr E2)),RC ρ B m x2 (.d y):=by
 unfold tf at hd;split at hd
 .split at hd;.cases hd;cases hy;exact⟨_,λ_=>rfl,λ_ _ _=>rfl⟩
  .cases hd
 .cases hd;cases hy;exact⟨_,λ_=>rfl,λ_ _ _=>rfl⟩
 .cases hd;cases hy;exact⟨_,λ_=>rfl,λ_ _ _=>rfl⟩
 .cases hd;cases hy;exact⟨_,λ_=>rfl,λ_ _ _=>.inl rfl⟩
 .cases hd;cases hy;exact⟨_,λ_=>rfl,λ_ _ _=>.inl rfl⟩
 .cases hd
section
variable{ρ:bt}{B:Nat}{m2:List (Tr E2)}{m:List (Tr bB)}(hm:MR ρ B m2 m)
include hm
theorem V3{x x':Cell}{a:AV}(h:Z8 m2 x=some x')(hx:RC ρ B m2 x a):∃y,ia m a=some y/\nF x'=some y:=by
 unfold Z8 at h;split at h;.cases h;cases hx;exact⟨_,rfl,rfl⟩
 .cases h;cases hx;exact⟨_,rfl,rfl⟩
 .cases h;cases hx;exact⟨_,rfl,rfl⟩
 .cases h;cases hx;exact⟨_,rfl,rfl⟩
 .cases h;rcases(gH (m:=m) hx).2with rfl|⟨o,ho,rfl⟩<;>exact⟨_,rfl,rfl⟩
 .cases h;rcases(iA (m:=m) hx).2.1with rfl|⟨o,rfl⟩<;>exact⟨_,rfl,rfl⟩
 .split at h;.rename_i r hr;cases h;have he:=lQ hm hx hr;obtain⟨_,u,n,hu,rfl,hn⟩:=hx;exact⟨_,by simp only[ia,he,Option.map_some],rfl⟩
  grind
 .split at h;.rename_i r hr;cases h;have he:=jy hm hx hr (hx.2.choose_spec.2.2 r hr);obtain⟨_,u,hu,rfl,_⟩:=hx;exact⟨_,by simp only[ia,he,Option.map_some],rfl⟩
  grind
 grind
theorem MH:∀{xs xs':List Cell}{aL:List AV},VE m2 xs=some xs'->aC (RC ρ B m2) xs aL->∃ds,iF m aL=some ds/\cc xs'=some ds
 |[],xs',[],h,_=>by cases h;exact⟨[],rfl,rfl⟩|x::xs,xs',a::aL,h,ha=>by
  simp[VE]at h;split at h;.rename_i y ys h1 h2;cases h;obtain⟨d,g1,g2⟩:=V3 hm h1 ha.1;obtain⟨ds,g3,g4⟩:=MH h2 ha.2;exact⟨d::ds,by simp only[iF,g1,g3],by simp only[cc,g2,g4]⟩
  grind|[],_,_::_,_,ha=>ha.elim|_::_,_,[],_,ha=>ha.elim
omit hm in theorem Ov{a:AV}{y:D}(h:ia m a=some y):kL m a=some (.d y):=by cases a<;>first|(simp only[kL,h];rfl)|cases h
omit hm in theorem Ox{a:AV}{y:D}(h:ia m a=some y):p7 m a=ec a:=by cases a<;>first|rfl|cases h
theorem Ie{agg:Bool}{c:gG}{x:Cell}{a:AV}{d:List fG}{b:List Bool}(h:c.kL m2 agg x=some (d,b))(hx:RC ρ B m2 x a)(hb:∀t∈b,t=true):∃y x',(agg=true->ia m a=some y)/\(agg=false->kL m a=some (.d y)/\aS ρ (yz m2 (.c x)) (p7 m a))/\(∀rest,c.fill (d++rest)=some (x',rest))/\RC ρ0 0 [] x' (.d y):=by
 have one:∀{y:D}{x':Cell},yz m2 (.c x)=Fw (.c x)->ia m a=some y->(∀rest,c.fill (d++rest)=some (x',rest))->RC ρ0 0 [] x' (.d y)->∃y x',(agg=true->ia m a=some y)/\(agg=false->kL m a=some (.d y)/\aS ρ (yz m2 (.c x)) (p7 m a))/\(∀rest,c.fill (d++rest)=some (x',rest))/\RC ρ0 0 [] x' (.d y):=λhk h1 h2 h3=>⟨_,_,λ_=>h1,λ_=>⟨Ov h1,by rw[hk,Ox h1];exact MF (v:=.c x) hx⟩,h2,h3⟩;unfold gG.kL at h;split at h<;>(try dsimp only at h)
 .split at h;.cases h;cases hx;exact one rfl rfl (λ_=>rfl) rfl
  grind
 .cases h;cases hx;exact one rfl rfl (λ_=>rfl) rfl
 .cases h;cases hx;exact one rfl rfl (λ_=>rfl) rfl
 .rename_i t o f;have key:ia m a=some (.sl (bf t [])):=by rcases(gH (m:=m) hx).2with rfl|⟨o',ho,rfl⟩<;>rfl
  split at h;.cases h;exact one rfl key (λ_=>rfl) (.inl rfl)
  .cases h;exact one rfl key (λ_=>rfl) (.inl rfl)
  grind
 .rename_i t0 o t l o';have key:ia m a=some (.sl (bf t l)):=by rcases(iA (m:=m) hx).2.1with rfl|⟨o',rfl⟩<;>rfl
  split at h;.cases h;exact one rfl key (λ_=>rfl) (.inl rfl)
  .cases h;exact one rfl key (λ_=>rfl) (.inl rfl)
  grind
 .rename_i t0 o lv sq ah t;cases hr:rowOf m2 lv sq ah with|none=>grind|some r=>
  simp[hr]at h;have he:=lQ hm hx hr;obtain⟨_,u,n,hu,rfl,hn⟩:=hx;have key:ia m (.ref lv sq u 0 n t.size)=some (.sl (bf r.t r.l)):=by simp[ia,he,Option.map_some]
  cases o with|d=>cases h;exact one rfl key (λ_=>rfl) (.inl rfl)|bC=>cases h;exact one rfl key (λ_=>rfl) (.inl rfl)|full=>simp at h|app v=>simp at h
 .rename_i t0 o lv sq ah t off len;cases hr:rowOf m2 lv sq ah with|none=>grind|some r=>
  simp[hr]at h;have fin:b=[decide (off+len<=r.l.length)]->ia m a=some (.sl (bf r.t ((r.l.drop off).take len))):=by intro hb';have hle:=of_decide_eq_true (hb (decide (off+len<=r.l.length)) (by rw[hb'];exact List.mem_singleton.2 rfl));have he:=jy hm hx hr hle;obtain⟨_,u,hu,rfl,_⟩:=hx;simp[ia,he,Option.map_some]
  cases o with|d=>cases h;exact one rfl (fin rfl) (λ_=>rfl) (.inl rfl)|bC=>cases h;exact one rfl (fin rfl) (λ_=>rfl) (.inl rfl)|full=>simp at h|app v=>simp at h
 .rename_i t o lv sq ah off n sz;split at h
  .rename_i v cs hg;split at h
   .rename_i l hc hp;rw[Bool.and_eq_true]at hc;have hv:=Nat.eq_of_beq_eq_true hc.1;subst hv;have hle:=Nat.le_of_ble_eq_true hc.2;obtain⟨dcs,hd,hp⟩:=aR hp;obtain⟨_,u,hu,rfl⟩:=hx;obtain⟨e,g1,g2⟩:=hm.fN _ _ _ hg;obtain⟨_,u',aL,g3,rfl,g4⟩:=g2;rw[hu]at g3;obtain⟨ds,q1,q2⟩:=MH hm hd ((g4.drop off).take (n*sz));have hl:=xj hp (vL n q2);have hbx:nZ m lv sq u=some aL:=by unfold nZ<;>simp_all
    have key:kL m (.fe lv sq u off n sz)=some (.d (.sl (bf t l))):=by simp only[kL,hbx];rw[if_pos (by rw[<-g4.length];exact hle),q1]<;>grind
    have hkeys:aS ρ (yz m2 (.c (.fe lv sq v off n sz))) (p7 m (.fe lv sq u off n sz)):=by simp[yz,hg,p7,hbx];exact aS.js lv sq (vI g4)
    split at h;.cases h;exact⟨_,_,λh=>(by cases h),λ_=>⟨key,hkeys⟩,λ_=>rfl,.inl rfl⟩
    .cases h;exact⟨_,_,λh=>(by cases h),λ_=>⟨key,hkeys⟩,λ_=>rfl,.inl rfl⟩
    grind
   grind
  grind
 grind
theorem D2:∀{cs:List gG}{xs:List Cell}{aL:List AV}{d:List fG}{b:List Bool},wY m2 cs xs=some (d,b)->aC (RC ρ B m2) xs aL->(∀t∈b,t=true)->∃ys xs',iF m aL=some ys/\(∀rest,cW cs (d++rest)=some (xs',rest))/\aC (RC ρ0 0 []) xs' (ys.map .d)
 |[],[],aL,d,b,h,ha,_=>by cases h;match aL,ha with|[],_=>simp_all[bt,ρ0,RC,aC,cW,iF]
 |c::cs,x::xs,aL,d,b,h,ha,hb=>by
  simp[wY]at h;split at h;.rename_i d1 b1 d2 b2 h1 h2;cases h;match aL,ha with|a::aL,ha=>obtain⟨y,x',g1,_,g2,g3⟩:=Ie hm h1 ha.1 (λt ht=>hb t (List.mem_append_left _ ht));obtain⟨ys,xs',g4,g5,g6⟩:=D2 h2 ha.2 (λt ht=>hb t (List.mem_append_right _ ht));exact⟨y::ys,x'::xs',by simp only[iF,g1 rfl,g4],λrest=>by simp only[cW,List.append_assoc,g2,g5],g3,g6⟩
  grind|[],_::_,_,_,_,h,_,_=>by simp[wY]at h|_::_,[],_,_,_,h,_,_=>by simp[wY]at h
theorem D3:∀{ps:List tP}{vs:List V2}{aL:List AV}{d:List fG}{b:List Bool},wZ m2 ps vs=some (d,b)->aC (RV ρ B m2) vs aL->(∀t∈b,t=true)->∃as' vs',uV m aL=some as'/\aS ρ (vs.flatMap (yz m2)) (aL.flatMap (p7 m))/\(∀rest,di ps (d++rest)=some (vs',rest))/\aC (RV ρ0 0 []) vs' as'
 |[],[],aL,d,b,h,ha,_=>by cases h;match aL,ha with|[],_=>exact⟨[],[],rfl,aS.nil,λ_=>rfl,trivial⟩
 |p::ps,v::vs,aL,d,b,h,ha,hb=>by
  simp[wZ]at h;split at h;.rename_i d1 b1 d2 b2 h1 h2;cases h;match aL,ha with
   |a::aL,ha=>
    obtain⟨as',vs',g4,g7,g5,g6⟩:=D3 h2 ha.2 (λt ht=>hb t (List.mem_append_right _ ht));have sV:∀t∈b1,t=true:=λt ht=>hb t (List.mem_append_left _ ht);have one:∃a' v',kL m a=some a'/\aS ρ (yz m2 v) (p7 m a)/\(∀rest,di (p::ps) (d1++rest)=(match di ps rest with|some (xs,r'')=>some (v'::xs,r'')|none=>none))/\RV ρ0 0 [] v' a':=by
     unfold tP.kL at h1;split at h1;.obtain⟨y,x',_,q1,q2,q3⟩:=Ie hm h1 ha.1 sV;exact⟨_,.c x',(q1 rfl).1,(q1 rfl).2,λrest=>by simp only[di,tc.fill,q2];rfl,q3⟩
     .obtain⟨bs,e,hc⟩:=ha.1;subst e;obtain⟨ys,V0,q1,q2,q3⟩:=D2 hm h1 hc sV;exact⟨.agg (ys.map .d),.agg V0,by simp only[kL,q1,Option.map_some],vI hc,λrest=>by simp only[di,tc.fill,q2];rfl,_,rfl,q3⟩
     .split at h1;.rename_i f f' hf;have e:=Nat.eq_of_beq_eq_true hf;subst e;cases h1;obtain⟨bs,e,hc⟩:=ha.1;subst e;match bs,hc with|[],_=>exact⟨.gp _ [],.gp _ [],rfl,aS.nil,λrest=>by simp only[di,List.nil_append];rfl,[],rfl,trivial⟩
      grind
     grind
    obtain⟨a',v',g1,g8,g2,g3⟩:=one;exact⟨a'::as',v'::vs',by simp only[uV,g1,g4],(by simp only[List.flatMap_cons];exact g8.append g7),λrest=>by rw[List.append_assoc,g2,g5],g3,g6⟩
  grind|[],_::_,_,_,_,h,_,_=>by simp[wZ]at h|_::_,[],_,_,_,h,_,_=>by simp[wZ]at h
end
theorem og{α:Type}{l:List Bool}{k:Option α}{r:α}(h:um l k=some r):(∀t∈l,t=true)/\k=some r:=by induction l with|nil=>grind[um]|cons b l ih=>obtain⟨h1,h2⟩:=cg h<;>grind
section
variable{α:Type}{ρ:bt}{B:Nat}{s2:S2}{s:St}{r:α}(hm:MR ρ B s2.mem s.mem)(bX:ur ρ B s2.mem s2.slots s.slots)
include hm bX
theorem V4{ar:z6}{K:Bool->List Cell->Option α}(h:aaa s2 ar K=some r):∃a cs v,GV s ar=some v/\R1 ρ B s2.mem (a,cs) v/\K a cs=some r:=by
 unfold aaa at h;split at h
 .split at h;.rename_i x hx;have hv:=bX _ _ hx;refine⟨false,[x],_,?_,⟨x,rfl,hv⟩,h⟩;simp[GV,(RC.cell hv).2.2]
  .rename_i cs hx;obtain⟨aL,e,hv⟩:=bX _ _ hx;refine⟨true,cs,.agg aL,?_,⟨aL,rfl,hv⟩,h⟩;simp[GV,e,fM]
  grind
 .obtain⟨p,hp,h⟩:=cu h;obtain⟨cs,aL,h1,h2,h3⟩:=H6 hm h (bX _ _ hp);split at h3;.refine⟨true,cs,.agg aL,?_,⟨aL,rfl,h2⟩,h3⟩;simp[GV,h1,Option.bind_some,gD]
  .rename_i x _;match aL,h2 with|[a],h2=>refine⟨false,[x],a,?_,⟨x,rfl,h2.1⟩,h3⟩;simp[GV,h1,Option.bind_some,gD]
  grind
theorem Bg:∀{l:List z6}{K:List (Bool×List Cell)->Option α},DK s2 l K=some r->∃vs aL,kT s l=some aL/\aC (R1 ρ B s2.mem) vs aL/\K vs=some r|[],K,h=>⟨[],[],rfl,trivial,h⟩|x::l,K,h=>by obtain⟨a,cs,v,h1,h2,h⟩:=V4 hm bX h;obtain⟨vs,aL,h3,h4,h⟩:=Bg h;exact⟨(a,cs)::vs,v::aL,by simp only[kT,h1,h3],⟨h2,h4⟩,h⟩
end
theorem vM{cm:List (Tr bB)}{top k lv sl ah:Nat}{els:List (List D)}{o:UW}(h:o≠.bC):bu cm top 0 k lv sl ah (.own els o)=some (.d (.sl els),[]):=by cases o with|bC=>grind|_=>rfl
section
variable{ρ:bt}{B:Nat}{m2:List (Tr E2)}{m:List (Tr bB)}(hm:MR ρ B m2 m)
include hm
theorem MI{top k lv sl ah:Nat}{x y:Cell}{a:AV}(h:QX m2 top x=some y)(hx:RC ρ B m2 x a):∃a',bu m top 0 k lv sl ah a=some (a',[])/\RC ρ B (m2.take top) y a':=by
 unfold QX at h;split at h;.cases h;cases hx;exact⟨_,rfl,rfl⟩
 .cases h;cases hx;exact⟨_,rfl,rfl⟩
 .cases h;cases hx;exact⟨_,rfl,rfl⟩
 .cases h;cases hx;exact⟨_,rfl,rfl⟩
 .cases h;rcases(gH (m:=m) hx).2with e|⟨o',ho,e⟩;.subst e;exact⟨_,rfl,.inl rfl⟩
  .subst e;exact⟨_,vM ho,.inl rfl⟩
 .cases h
 .rename_i t l o hne;cases h;rcases(iA (m:=m) hx).2.2 (λe=>hne e)with e|⟨o2,ho,e⟩;.subst e;exact⟨_,rfl,.inl rfl⟩
  .subst e;exact⟨_,vM ho,.inl rfl⟩
 .split at h
  .rename_i hb;cases h;obtain⟨hv,u,n,hu,rfl,hn⟩:=hx;refine⟨_,by simp only[bu,hb],hv,u,n,hu,rfl,λr hr=>hn r ?_⟩;have h1:=cA hr;refine gv.2 ?_;unfold ji at h1⊢;rw[List.getElem?_take]at h1;split at h1;.exact h1
   .cases h1
  .rename_i hb;split at h;.rename_i r hr;cases h;have he:=lQ hm hx hr;obtain⟨hv,u,n,hu,rfl,hn⟩:=hx;refine⟨.d (.sl (bf r.t r.l)),?_,.inl rfl⟩;simp[bu,hb,he]
   .cases h
 .rename_i cL dU gB t off len;split at h
  .rename_i hb;cases h;obtain⟨hv,u,hu,rfl,hn⟩:=hx;refine⟨_,by simp only[bu,hb],hv,u,hu,rfl,λr hr=>hn r ?_⟩;have h1:=cA hr;refine gv.2 ?_;unfold ji at h1⊢;rw[List.getElem?_take]at h1;split at h1;.exact h1
   .cases h1
  .rename_i hb;split at h;.rename_i r hr;cases h;have he:=jy hm hx hr (hx.2.choose_spec.2.2 r hr);obtain⟨hv,u,hu,rfl,hn⟩:=hx;refine⟨.d (.sl (bf r.t ((r.l.drop off).take len))),?_,.inl rfl⟩;simp[bu,hb,he]
   .cases h
 .cases h
theorem Ig{top lv sl ah:Nat}:∀{k:Nat}{xs ys:List Cell}{aL:List AV},AW m2 top xs=some ys->aC (RC ρ B m2) xs aL->∃as',de m top 0 lv sl ah k aL=some (as',[])/\aC (RC ρ B (m2.take top)) ys as'
 |k,[],ys,aL,h,ha=>by cases h;match aL,ha with|[],_=>exact⟨[],rfl,trivial⟩
 |k,x::xs,ys,aL,h,ha=>by
  simp[AW]at h;split at h;.rename_i y ys' h1 h2;cases h;match aL,ha with|a::aL,ha=>obtain⟨a',g1,g2⟩:=MI hm (k:=k) (lv:=lv) (sl:=sl) (ah:=ah) h1 ha.1;obtain⟨as',g3,g4⟩:=Ig (lv:=lv) (sl:=sl) (ah:=ah) (k:=k+1) h2 ha.2;exact⟨a'::as',by simp only[de,g1,g3,List.append_nil],g2,g4⟩
  grind
theorem MJ{top lv sl ah k:Nat}{b:Bool}{xs ys:List Cell}{a:AV}(h:AW m2 top xs=some ys)(ha:R1 ρ B m2 (b,xs) a):∃a',kR m top 0 lv sl ah k a=some (a',[])/\R1 ρ B (m2.take top) (b,ys) a':=by cases b with|true=>obtain⟨aL,rfl,ha⟩:=ha;obtain⟨as',g1,g2⟩:=Ig hm (k:=k) (lv:=lv) (sl:=sl) (ah:=ah) h ha<;>simp_all[RC,aC,AW,bt,R1,kR]|false=>
 obtain⟨c,rfl,ha⟩:=ha;simp[AW]at h;split at h;.rename_i y ys' h1 h2;simp_all;subst h;obtain⟨a',g1,g2⟩:=MI hm (k:=k) (lv:=lv) (sl:=sl) (ah:=ah) h1 ha;refine⟨a',?_,y,rfl,g2⟩;have hc:=RC.cell ha;cases a<;>first|exact g1|cases hc.2.1
 grind
theorem D4{top lv sl ah:Nat}:∀{k:Nat}{vs ws:List (Bool×List Cell)}{aL:List AV},yA m2 top vs=some ws->aC (R1 ρ B m2) vs aL->∃as',fL m top 0 lv sl ah k aL=some (as',[])/\aC (R1 ρ B (m2.take top)) ws as'
 |k,[],ws,aL,h,ha=>by cases h;match aL,ha with|[],_=>exact⟨[],rfl,trivial⟩
 |k,(b,x)::xs,ws,aL,h,ha=>by
  simp[yA]at h;split at h;.rename_i y ys' h1 h2;cases h;match aL,ha with|a::aL,ha=>obtain⟨a',g1,g2⟩:=MJ hm (k:=k) (lv:=lv) (sl:=sl) (ah:=ah) h1 ha.1;obtain⟨as',g3,g4⟩:=D4 (lv:=lv) (sl:=sl) (ah:=ah) (k:=k+64) h2 ha.2;exact⟨a'::as',by simp only[fL,g1,g3,List.append_nil],g2,g4⟩
  grind
omit hm in theorem R1.fM{b:Bool}{cs:List Cell}{a:AV}(h:R1 ρ B m2 (b,cs) a):bJ.fM a=true:=by cases b with|true=>obtain⟨aL,rfl,_⟩:=h;rfl|false=>obtain⟨c,_,h⟩:=h;exact(RC.cell h).2.2
theorem V5{top lv sl ah:Nat}{vs ws:List (Bool×List Cell)}{w:V2}{aL:List AV}(h:yA m2 top vs=some ws)(ht:nU ws=some w)(ha:aC (R1 ρ B m2) vs aL):∃a',gC m top 0 lv sl ah (ju aL)=some (a',[])/\RV ρ B (m2.take top) w a':=by match vs,aL,ha with
 |[],[],ha=>cases h;cases ht;exact⟨.iY [],rfl,[],rfl,trivial⟩|[(b,x)],[a],ha=>
  simp[yA]at h;split at h
  .rename_i y ys' h1 h2;simp_all;subst h;obtain⟨a',g1,g2⟩:=MJ hm (k:=1) (lv:=lv) (sl:=sl) (ah:=ah) h1 ha.1;refine⟨a',?_,?_⟩;.have hn:=R1.fM ha.1;cases a<;>first|exact g1|cases hn
   .cases b with|true=>obtain⟨as',rfl,g3⟩:=g2;cases ht;exact⟨as',rfl,g3⟩|false=>obtain⟨c,rfl,g3⟩:=g2;cases ht;exact g3
  grind|v::v'::vs,a::a'::aL,ha=>
  obtain⟨as',g1,g2⟩:=D4 hm (k:=1) (lv:=lv) (sl:=sl) (ah:=ah) h ha;refine⟨.iY as',?_,?_⟩;.simp[ju,gC,g1,Option.map_some]
  .have:∃x y zs,ws=x::y::zs:=by simp[yA]at h<;>grind
   obtain⟨x,y,zs,rfl⟩:=this;cases ht;exact⟨as',rfl,g2⟩
end
end Go.Sym
