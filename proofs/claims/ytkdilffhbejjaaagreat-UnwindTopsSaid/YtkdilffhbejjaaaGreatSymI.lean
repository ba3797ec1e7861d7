/- The machine over typed data: arguments and results of calls. -/
import Derived.Test.YtkdilffhbejjaaaGreatSymH
set_option linter.unusedVariables false
set_option linter.unusedSimpArgs false
namespace Go.Sym
open Go Go.bM
theorem zH{a b:Ty}{x:a.den}{y:b.den}(h:u0 a b x=some y):(⟨b,y⟩:fS)=⟨a,x⟩:=by obtain⟨e,he⟩:=OY h<;>grind
theorem dJ:∀{ts:List Ty}{ds:List fS}{x:(rS ts).den},pack ts ds=some x->unpack ts x=ds
 |[],[],_,_=>rfl|[a],[d],x,h=>by have:=zH h;simp[unpack]<;>omega|a::b::r,d::ds,x,h=>by
  simp[pack]at h;split at h;.rename_i y z h1 h2;cases h;simp only[unpack];rw[zH h1,dJ h2]
  grind|[],_::_,_,h=>by simp[pack]at h|[_],[],_,h=>by simp[pack]at h|[_],_::_::_,_,h=>by simp[pack]at h|_::_::_,[],_,h=>by simp[pack]at h
theorem E8{a b:AX}(h:XI a b=true):a=b:=by unfold XI at h;split at h<;>simp_all
theorem AO{ρ:bD}{so:List (Tr AV)}{s2:S2}{s:St}{ax:AX}(hs:AM ρ so s2 s):∀{os:bn}{y:(oY os).den},nO os ax s2=some y->∃s2' ρ',AM ρ' so s2' s/\Fr ρ s2.nv s.nv ρ' s2'.nv/\∀{α:Type}(K:AX->S2->Option α),qf os y K=K ax s2'
 |[],_,h=>by simp[nO]at h|[x],y,h=>by
  simp[nO]at h;split at h;.rename_i he;obtain⟨ds,h1,h2⟩:=aB h;obtain⟨s2',ρ',g1,g2,g3⟩:=AN h1 hs;refine⟨s2',ρ',g2,g3,λK=>?_⟩;simp[qf,dJ h2,g1,cu,E8 he]
  grind|x::z::r,y,h=>by
  simp[nO]at h;split at h;.rename_i he;obtain⟨y',h1,h2⟩:=aB h;cases h2;obtain⟨ds,h3,h4⟩:=aV h1;obtain⟨s2',ρ',g1,g2,g3⟩:=AN h3 hs;refine⟨s2',ρ',g2,g3,λK=>?_⟩;simp[qf,dJ h4,g1,cu,E8 he]
  .obtain⟨y',h1,h2⟩:=aB h;cases h2;obtain⟨s2',ρ',g2,g3,g4⟩:=AO hs h1;exact⟨s2',ρ',g2,g3,λK=>by simp only[qf,g4]⟩
theorem RC.still{ρ ρ':bD}{B B':Nat}{m m':List (Tr E2)}{c:Cell}{a:AV}(hc:c.still=true)(h:RC ρ B m c a):RC ρ' B' m' c a:=by cases c with
 |nil f=>cases f<;>exact h|sl t l o=>cases o with|app v=>cases hc|_=>exact h
 |ref=>cases hc|j0=>cases hc|ptr=>cases hc|fF=>cases hc|mp=>cases hc|_=>exact h
theorem RCs.still{ρ ρ':bD}{B B':Nat}{m m':List (Tr E2)}:∀{cs:List Cell}{aO:List AV},cs.all Cell.still=true->aE (RC ρ B m) cs aO->aE (RC ρ' B' m') cs aO|[],[],_,_=>trivial|c::cs,a::aO,hc,h=>by rw[d9,am]at hc;exact⟨h.1.still hc.1,RCs.still hc.2 h.2⟩|[],_::_,_,h=>h.elim|_::_,[],_,h=>h.elim
theorem RV.still{ρ ρ':bD}{B B':Nat}{m m':List (Tr E2)}{v:V2}{a:AV}(hv:v.still=true)(h:RV ρ B m v a):RV ρ' B' m' v a:=by cases v with|c c=>exact RC.still hv h|agg cs=>obtain⟨aO,h1,h2⟩:=h;exact⟨aO,h1,RCs.still hv h2⟩|fk f cs=>obtain⟨aO,h1,h2⟩:=h;exact⟨aO,h1,RCs.still hv h2⟩|jF vs=>obtain⟨aO,h1,h2⟩:=h;refine⟨aO,h1,?_⟩;clear h1;replace hv:vs.all (λv=>v.2.all Cell.still)=true:=hv;induction vs generalizing aO with|nil=>cases aO<;>exact h2|cons v vs ih=>cases aO with|nil=>exact h2.elim|cons a aO=>rw[d9,am]at hv;refine⟨?_,ih aO h2.2 hv.2⟩;obtain⟨b,cs⟩:=v;cases b with|true=>obtain⟨bs,h3,h4⟩:=h2.1;exact⟨bs,h3,RCs.still hv.1 h4⟩|false=>obtain⟨c,h3,h4⟩:=h2.1;refine⟨c,h3,h4.still ?_⟩;subst h3;simpa using hv.1
theorem Tr.GP{α:Type}(v:Option α)(l r:Tr α)(k:Nat):(Tr.nd v l r).get? k=if k=0then v else if k%2=1then l.get? (k/2)else r.get? (k/2-1):=by simp[Tr.get?];cases h0:Nat.beq k 0with|true=>simp_all|false=>have:=mi h0;cases h1:Nat.beq (k%2) 1with|true=>simp_all|false=>simp[this,mi h1]
theorem Tr.X0{α:Type}(t:Tr α)(k:Nat):t.get? k=if k=0then t.top else if k%2=1then t.left.get? (k/2)else t.right.get? (k/2-1):=by cases t with|lf=>simp[Tr.get?,Tr.top,Tr.left,Tr.right]|nd v l r=>rw[Tr.GP];rfl
theorem xY:∀(t:Tr V2)(k:Nat)(v:V2),(loose t).get? k=some v->t.get? k=some v
 |.lf,_,_,h=>by simp[loose]at h|.nd x l r,k,v,h=>by
  simp[loose]at h;rw[Tr.GP]at h⊢;by_cases h0:k=0;.grind
  .rw[be h0]at h⊢;by_cases h1:k%2=1;.rw[bb h1]at h⊢;exact xY l _ v h
   .rw[be h1]at h⊢;exact xY r _ v h
theorem qn:∀(a b:Tr V2)(k:Nat)(v:V2),(merge a b).get? k=some v->(a.get? k=some v/\v.still=true)\/b.get? k=some v
 |.lf,_,_,_,h=>by simp[merge]at h|.nd x l r,b,k,v,h=>by
  simp[merge]at h;rw[Tr.GP]at h;rw[Tr.GP,Tr.X0 b];by_cases h0:k=0;.grind
  .rw[be h0]at h⊢;rw[be h0];by_cases h1:k%2=1;.rw[bb h1]at h⊢;rw[bb h1];exact qn l _ _ v h
   .rw[be h1]at h⊢;rw[be h1];exact qn r _ _ v h
def ρ0:bD:=λ_=>none
theorem Si{m:List (Tr bH)}{els:List (List D)}{o:WV}(h:o≠.bC):eR m (.own els o)=some (.d (.sl els),[]):=by cases o with|bC=>grind|_=>rfl
theorem Sj{m:List (Tr bH)}{els:List (List D)}{o:WV}(h:o≠.bC):cX m (.own els o)=some (.d (.sl els)):=by grind[cX]
def HM(agg:Bool)(m:List (Tr bH))(a a':AV)(k:List (Nat×Nat)):Prop:=(agg=true/\eR m a=some (a',k))\/(agg=false/\cX m a=some a'/\k=[])
theorem HM.data{agg:Bool}{m:List (Tr bH)}{a:AV}{y:D}(e:a=.d y):HM agg m a (.d y) []:=by
 subst e;cases agg;.exact .inr ⟨rfl,rfl,rfl⟩
 .exact .inl ⟨rfl,rfl⟩
theorem HM.ab3{agg:Bool}{m:List (Tr bH)}{a:AV}{els:List (List D)}{o:WV}(ho:o≠.bC)(e:a=.own els o):HM agg m a (.d (.sl els)) []:=by
 subst e;cases agg;.exact .inr ⟨rfl,Sj ho,rfl⟩
 .exact .inl ⟨rfl,Si ho⟩
theorem HM.am1{agg:Bool}{m:List (Tr bH)}{a:AV}{els:List (List D)}(e:a=.own els .bC):HM agg m a (.own els .bC) []:=by
 subst e;cases agg;.exact .inr ⟨rfl,rfl,rfl⟩
 .exact .inl ⟨rfl,rfl⟩
section
variable{ρ:bD}{B:Nat}{m2:List (Tr E2)}{m:List (Tr bH)}(hm:MR ρ B m2 m)
include hm
theorem GQ{agg:Bool}{c:gZ}{x:Cell}{a:AV}{d:List fS}{k:List (Nat×Nat)}{b:List Bool}(h:c.arg m2 agg x=some (d,k,b))(hx:RC ρ B m2 x a)(hb:∀t∈b,t=true):∃a' x',HM agg m a a' k/\(∀rest,c.fill (d++rest)=some (x',rest))/\RC ρ0 0 [] x' a':=by
 unfold gZ.arg at h;split at h<;>(try dsimp only at h)
 .split at h;.cases h;exact⟨_,_,HM.data hx,λ_=>rfl,rfl⟩
  grind
 .cases h;exact⟨_,_,HM.data hx,λ_=>rfl,rfl⟩
 .cases h;exact⟨_,_,HM.data hx,λ_=>rfl,rfl⟩
 .rename_i t o f;have key:∃a',HM agg m a a' []/\a'=.d (.sl (bx t [])):=by
   rcases(hU (m:=m) hx).2with e|⟨o',ho,e⟩;.exact⟨_,HM.data e,rfl⟩
   .exact⟨_,HM.ab3 ho e,rfl⟩
  obtain⟨a',g1,g2⟩:=key;split at h;.cases h;exact⟨_,_,g1,λ_=>rfl,.inl g2⟩
  .cases h;exact⟨_,_,g1,λ_=>rfl,.inl g2⟩
  grind
 .split at h
  .cases h;rcases(iW (m:=m) hx).2.1with e|⟨o2,e⟩;.exact⟨_,_,HM.data e,λ_=>rfl,.inl rfl⟩
   .by_cases ho:o2=.bC;.subst ho;exact⟨_,_,HM.am1 e,λ_=>rfl,.inr ⟨_,rfl⟩⟩
    .exact⟨_,_,HM.ab3 ho e,λ_=>rfl,.inl rfl⟩
  .cases h
  .rename_i hne;cases h;rcases(iW (m:=m) hx).2.2 (λe=>hne e)with e|⟨o2,ho,e⟩;.exact⟨_,_,HM.data e,λ_=>rfl,.inl rfl⟩
   .exact⟨_,_,HM.ab3 ho e,λ_=>rfl,.inl rfl⟩
  .cases h
 .rename_i t0 o lv sq au t;cases hr:rowOf m2 lv sq au with|none=>grind|some r=>
  simp[hr]at h;have he:=mK hm hx hr;obtain⟨_,u,n,hu,rfl,hn⟩:=hx;have hg:eR m (.ref lv sq u 0 n t.size)=some (.d (.sl (bx r.t r.l)),[(lv,sq)]):=by simp[eR,An,he,ca]
  have hl:cX m (.ref lv sq u 0 n t.size)=some (.own (bx r.t r.l) .bC):=by simp[cX,he,ca]
  cases o with
  |bC=>cases agg with|false=>cases h;exact⟨_,_,.inr ⟨rfl,hl,rfl⟩,λ_=>rfl,.inr ⟨_,rfl⟩⟩|true=>cases h;exact⟨_,_,.inl ⟨rfl,hg⟩,λ_=>rfl,.inl rfl⟩
  |d=>cases agg with|false=>simp at h|true=>cases h;exact⟨_,_,.inl ⟨rfl,hg⟩,λ_=>rfl,.inl rfl⟩
  |full=>grind|app v=>grind
 .rename_i t0 o lv sq au t off len;cases hr:rowOf m2 lv sq au with|none=>grind|some r=>simp[hr]at h;cases o with
  |bC=>cases agg with|false=>cases h;have he:=j3 hm hx hr (dv (hb _ cb));obtain⟨_,u,hu,rfl,_⟩:=hx;refine⟨.own (bx r.t ((r.l.drop off).take len)) .bC,_,.inr ⟨rfl,?_,rfl⟩,λ_=>rfl,.inr ⟨_,rfl⟩⟩;simp[cX,he,ca]|true=>simp at h
  |d=>grind|full=>grind|app v=>grind
 grind
theorem Ci:∀{cs:List gZ}{xs:List Cell}{aO:List AV}{d:List fS}{k:List (Nat×Nat)}{b:List Bool},BW m2 cs xs=some (d,k,b)->aE (RC ρ B m2) xs aO->(∀t∈b,t=true)->∃as' xs',fG m aO=some (as',k)/\(∀rest,dx cs (d++rest)=some (xs',rest))/\aE (RC ρ0 0 []) xs' as'
 |[],[],aO,d,k,b,h,ha,_=>by cases h;match aO,ha with|[],_=>exact⟨[],[],rfl,λ_=>rfl,trivial⟩
 |c::cs,x::xs,aO,d,k,b,h,ha,hb=>by
  simp[BW]at h;split at h;.rename_i d1 k1 b1 d2 k2 b2 h1 h2;cases h;match aO,ha with
   |a::aO,ha=>
    obtain⟨a',x',g1,g2,g3⟩:=GQ hm h1 ha.1 (λt ht=>hb t (dp _ ht));have g1:eR m a=some (a',k1):=by rcases g1 with⟨_,g⟩|⟨g,_⟩<;>grind
    obtain⟨as',xs',g4,g5,g6⟩:=Ci h2 ha.2 (λt ht=>hb t (dq _ ht));exact⟨a'::as',x'::xs',by simp only[fG,g1,g4],λrest=>by simp only[dx,bi,g2,g5],g3,g6⟩
  grind|[],_::_,_,_,_,_,h,_,_=>by simp[BW]at h|_::_,[],_,_,_,_,h,_,_=>by simp[BW]at h
omit hm in theorem Pg{a:AV}(h0:cellsOf a=some [a])(h1:jI a=true):xC m a=(cX m a).map λy=>(y,[]):=by cases a<;>first|rfl|cases h1
omit hm in theorem Ph{a:AV}(h1:jI a=true):xD m a=eR m a:=by cases a<;>first|rfl|cases h1
theorem I8:∀{ps:List uD}{vs:List V2}{aO:List AV}{d:List fS}{k:List (Nat×Nat)}{b:List Bool},EU m2 ps vs=some (d,k,b)->aE (RV ρ B m2) vs aO->(∀t∈b,t=true)->∃as' vs',rP m aO=some (as',k)/\(∀rest,dR ps (d++rest)=some (vs',rest))/\aE (RV ρ0 0 []) vs' as'
 |[],[],aO,d,k,b,h,ha,_=>by cases h;match aO,ha with|[],_=>simp_all[bD,ρ0,RV,aE,dR,rP]
 |p::ps,v::vs,aO,d,k,b,h,ha,hb=>by
  simp[EU]at h;split at h;.rename_i d1 k1 b1 d2 k2 b2 h1 h2;cases h;match aO,ha with
   |a::aO,ha=>
    obtain⟨as',vs',g4,g5,g6⟩:=I8 h2 ha.2 (λt ht=>hb t (dq _ ht));have pX:∀t∈b1,t=true:=λt ht=>hb t (dp _ ht);have one:∃a' v',xD m a=some (a',k1)/\(∀rest,dR (p::ps) (d1++rest)=(match dR ps rest with|some (xs,r'')=>some (v'::xs,r'')|none=>none))/\RV ρ0 0 [] v' a':=by
     unfold uD.af1 at h1;split at h1
     .obtain⟨a',x',q0,q2,q3⟩:=GQ hm h1 ha.1 pX;have q1:eR m a=some (a',k1):=by rcases q0 with⟨_,g⟩|⟨g,_⟩<;>grind
      have hc:=RC.cell ha.1;exact⟨a',.c x',by rw[Ph hc.2.1,q1],λrest=>by simp only[dR,tZ.fill,q2];rfl,q3⟩
     .obtain⟨bs,e,hc⟩:=ha.1;subst e;obtain⟨KF,X4,q1,q2,q3⟩:=Ci hm h1 hc pX;exact⟨.agg KF,.agg X4,by simp only[xD,q1,ca],λrest=>by simp only[dR,tZ.fill,q2];rfl,KF,rfl,q3⟩
     grind
    obtain⟨a',v',g1,g2,g3⟩:=one;exact⟨a'::as',v'::vs',by simp only[rP,g1,g4],λrest=>by rw[bi,g2,g5],g3,g6⟩
  grind|[],_::_,_,_,_,_,h,_,_=>by simp[EU]at h|_::_,[],_,_,_,_,h,_,_=>by simp[EU]at h
theorem I9{c:gZ}{x:Cell}{a:AV}{d:List fS}{b:List Bool}(h:c.arg m2 false x=some (d,[],b))(hx:RC ρ B m2 x a)(hb:∀t∈b,t=true):∃a' x',cX m a=some a'/\(∀rest,c.fill (d++rest)=some (x',rest))/\RC ρ0 0 [] x' a':=by
 obtain⟨a',x',g,g2,g3⟩:=GQ hm h hx hb;rcases g with⟨g,_⟩|⟨_,g,_⟩;.cases g
 .exact⟨a',x',g,g2,g3⟩
theorem E9:∀{l:List gZ}{cs:List Cell}{aO:List AV}{d:List fS}{b:List Bool},xO m2 l cs=some (d,b)->aE (RC ρ B m2) cs aO->(∀t∈b,t=true)->∃as' xs',pM m aO=some as'/\(∀rest,dx l (d++rest)=some (xs',rest))/\aE (RC ρ0 0 []) xs' as'
 |[],[],aO,d,b,h,ha,_=>by cases h;match aO,ha with|[],_=>exact⟨[],[],rfl,λ_=>rfl,trivial⟩
 |c::cs,x::xs,aO,d,b,h,ha,hb=>by
  simp only[xO]at h;split at h;.rename_i d1 b1 d2 b2 h1 h2;cases h;match aO,ha with|a::aO,ha=>obtain⟨a',x',g1,g2,g3⟩:=I9 hm h1 ha.1 (λt ht=>hb t (dp _ ht));obtain⟨as',xs',g4,g5,g6⟩:=E9 h2 ha.2 (λt ht=>hb t (dq _ ht));exact⟨a'::as',x'::xs',by simp only[pM,g1,g4],λrest=>by simp only[dx,bi,g2,g5],g3,g6⟩
  .cases h|[],_::_,_,_,_,h,_,_=>by simp[xO]at h|_::_,[],_,_,_,h,_,_=>by simp[xO]at h
omit hm in theorem LH{a:AV}(h1:jI a=true):rQ m a=cX m a:=by cases a<;>first|rfl|cases h1
theorem Ja:∀{ps:List uD}{vs:List V2}{aO:List AV}{d:List fS}{b:List Bool},EV m2 ps vs=some (d,b)->aE (RV ρ B m2) vs aO->(∀t∈b,t=true)->∃as' vs',qH m aO=some as'/\(∀rest,dR ps (d++rest)=some (vs',rest))/\aE (RV ρ0 0 []) vs' as'
 |[],[],aO,d,b,h,ha,_=>by cases h;match aO,ha with|[],_=>exact⟨[],[],rfl,λ_=>rfl,trivial⟩
 |p::ps,v::vs,aO,d,b,h,ha,hb=>by
  simp only[EV]at h;split at h;.rename_i d1 b1 d2 b2 h1 h2;cases h;match aO,ha with
   |a::aO,ha=>
    obtain⟨as',vs',g4,g5,g6⟩:=Ja h2 ha.2 (λt ht=>hb t (dq _ ht));have pX:∀t∈b1,t=true:=λt ht=>hb t (dp _ ht);have one:∃a' v',rQ m a=some a'/\(∀rest,dR (p::ps) (d1++rest)=(match dR ps rest with|some (xs,r'')=>some (v'::xs,r'')|none=>none))/\RV ρ0 0 [] v' a':=by
     unfold uD.af2 at h1;split at h1
     .split at h1;.rename_i hx;cases h1;obtain⟨a',x',q1,q2,q3⟩:=I9 hm hx ha.1 pX;have hc:=RC.cell ha.1;exact⟨a',.c x',by rw[LH hc.2.1,q1],λrest=>by simp only[dR,tZ.fill,q2];rfl,q3⟩
      .cases h1
     .obtain⟨bs,e,hc⟩:=ha.1;subst e;obtain⟨KF,X4,q1,q2,q3⟩:=E9 hm h1 hc pX;exact⟨.agg KF,.agg X4,by simp only[rQ,q1,ca],λrest=>by simp only[dR,tZ.fill,q2];rfl,KF,rfl,q3⟩
     .cases h1
    obtain⟨a',v',g1,g2,g3⟩:=one;exact⟨a'::as',v'::vs',by simp only[qH,g1,g4],λrest=>by rw[bi,g2,g5],g3,g6⟩
  .cases h|[],_::_,_,_,_,h,_,_=>by simp[EV]at h|_::_,[],_,_,_,h,_,_=>by simp[EV]at h
theorem Jb:∀{ps:List uD}{vs:List V2}{aO:List AV}{d:List fS}{k:List (Nat×Nat)}{b:List Bool},EM m2 ps vs=some (d,k,b)->aE (RV ρ B m2) vs aO->(∀t∈b,t=true)->∃as' vs',rO m aO=some (as',k)/\(∀rest,dR ps (d++rest)=some (vs',rest))/\aE (RV ρ0 0 []) vs' as'
 |[],[],aO,d,k,b,h,ha,_=>by cases h;match aO,ha with|[],_=>simp_all[bD,ρ0,RV,aE,dR,rO]
 |p::ps,v::vs,aO,d,k,b,h,ha,hb=>by
  simp[EM]at h;split at h;.rename_i d1 k1 b1 d2 k2 b2 h1 h2;cases h;match aO,ha with
   |a::aO,ha=>
    obtain⟨as',vs',g4,g5,g6⟩:=Jb h2 ha.2 (λt ht=>hb t (dq _ ht));have pX:∀t∈b1,t=true:=λt ht=>hb t (dp _ ht);have one:∃a' v',xC m a=some (a',k1)/\(∀rest,dR (p::ps) (d1++rest)=(match dR ps rest with|some (xs,r'')=>some (v'::xs,r'')|none=>none))/\RV ρ0 0 [] v' a':=by
     unfold uD.arg at h1;split at h1
     .obtain⟨a',x',q0,q2,q3⟩:=GQ hm h1 ha.1 pX;have q1:cX m a=some a'/\k1=[]:=by rcases q0 with⟨g,_⟩|⟨_,g⟩<;>grind
      obtain⟨q1,rfl⟩:=q1;have hc:=RC.cell ha.1;exact⟨a',.c x',by rw[Pg hc.1 hc.2.1,q1];rfl,λrest=>by simp only[dR,tZ.fill,q2];rfl,q3⟩
     .obtain⟨bs,e,hc⟩:=ha.1;subst e;obtain⟨KF,X4,q1,q2,q3⟩:=Ci hm h1 hc pX;exact⟨.agg KF,.agg X4,by simp only[xC,q1,ca],λrest=>by simp only[dR,tZ.fill,q2];rfl,KF,rfl,q3⟩
     .split at h1;.rename_i f f' hf;have e:=aw hf;subst e;cases h1;obtain⟨bs,e,hc⟩:=ha.1;subst e;match bs,hc with|[],_=>exact⟨.fk _ [],.fk _ [],rfl,λrest=>by simp only[dR,gc];rfl,[],rfl,trivial⟩
      grind
     grind
    obtain⟨a',v',g1,g2,g3⟩:=one;exact⟨a'::as',v'::vs',by simp only[rO,g1,g4],λrest=>by rw[bi,g2,g5],g3,g6⟩
  grind|[],_::_,_,_,_,_,h,_,_=>by simp[EM]at h|_::_,[],_,_,_,_,h,_,_=>by simp[EM]at h
end
theorem wO{sz:Nat}:∀(n:Nat){l:List Cell}{ds:List D},cv l=some ds->aE (λc d=>cv c=some d) (bM.chunk sz n l) (bM.chunk sz n ds)|0,_,_,_=>trivial|n+1,_,_,h=>⟨sP sz h,wO n (sQ sz h)⟩
theorem GR{c:gZ}{x':Cell}{d:List fS}{y:D}(hd:uc c x'=some d)(hy:ov x'=some y):∃x2,(∀rest,c.fill (d++rest)=some (x2,rest))/\∀(ρ:bD)(B:Nat)(m:List (Tr E2)),RC ρ B m x2 (.d y):=by
 unfold uc at hd;split at hd
 .split at hd;.cases hd;cases hy;exact⟨_,λ_=>rfl,λ_ _ _=>rfl⟩
  .cases hd
 .cases hd;cases hy;exact⟨_,λ_=>rfl,λ_ _ _=>rfl⟩
 .cases hd;cases hy;exact⟨_,λ_=>rfl,λ_ _ _=>rfl⟩
 .cases hd;cases hy;exact⟨_,λ_=>rfl,λ_ _ _=>.inl rfl⟩
 .cases hd;cases hy;exact⟨_,λ_=>rfl,λ_ _ _=>.inl rfl⟩
 .cases hd
section
variable{ρ:bD}{B:Nat}{m2:List (Tr E2)}{m:List (Tr bH)}(hm:MR ρ B m2 m)
include hm
theorem X5{x x':Cell}{a:AV}(h:abM m2 x=some x')(hx:RC ρ B m2 x a):∃y,iO m a=some y/\ov x'=some y:=by
 unfold abM at h;split at h;.cases h;cases hx;exact⟨_,rfl,rfl⟩
 .cases h;cases hx;exact⟨_,rfl,rfl⟩
 .cases h;cases hx;exact⟨_,rfl,rfl⟩
 .cases h;cases hx;exact⟨_,rfl,rfl⟩
 .cases h;rcases(hU (m:=m) hx).2with rfl|⟨o,ho,rfl⟩<;>exact⟨_,rfl,rfl⟩
 .cases h;rcases(iW (m:=m) hx).2.1with rfl|⟨o,rfl⟩<;>exact⟨_,rfl,rfl⟩
 .split at h;.rename_i r hr;cases h;have he:=mK hm hx hr;obtain⟨_,u,n,hu,rfl,hn⟩:=hx;exact⟨_,by simp only[iO,he,ca],rfl⟩
  grind
 .split at h;.rename_i r hr;cases h;have he:=j3 hm hx hr (hx.2.choose_spec.2.2 r hr);obtain⟨_,u,hu,rfl,_⟩:=hx;exact⟨_,by simp only[iO,he,ca],rfl⟩
  grind
 grind
theorem Ny:∀{xs xs':List Cell}{aO:List AV},XF m2 xs=some xs'->aE (RC ρ B m2) xs aO->∃ds,jh m aO=some ds/\cv xs'=some ds
 |[],xs',[],h,_=>by cases h;exact⟨[],rfl,rfl⟩|x::xs,xs',a::aO,h,ha=>by
  simp[XF]at h;split at h;.rename_i y ys h1 h2;cases h;obtain⟨d,g1,g2⟩:=X5 hm h1 ha.1;obtain⟨ds,g3,g4⟩:=Ny h2 ha.2;exact⟨d::ds,by simp only[jh,g1,g3],by simp only[cv,g2,g4]⟩
  grind|[],_,_::_,_,ha=>ha.elim|_::_,_,[],_,ha=>ha.elim
omit hm in theorem Pj{a:AV}{y:D}(h:iO m a=some y):lG m a=some (.d y):=by cases a<;>first|(simp only[lG,h];rfl)|cases h
omit hm in theorem Pk{a:AV}{y:D}(h:iO m a=some y):qJ m a=eO a:=by cases a<;>first|rfl|cases h
theorem Jc{agg:Bool}{c:gZ}{x:Cell}{a:AV}{d:List fS}{b:List Bool}(h:c.lG m2 agg x=some (d,b))(hx:RC ρ B m2 x a)(hb:∀t∈b,t=true):∃y x',(agg=true->iO m a=some y)/\(agg=false->lG m a=some (.d y)/\aW ρ (zx m2 (.c x)) (qJ m a))/\(∀rest,c.fill (d++rest)=some (x',rest))/\RC ρ0 0 [] x' (.d y):=by
 have one:∀{y:D}{x':Cell},zx m2 (.c x)=Gx (.c x)->iO m a=some y->(∀rest,c.fill (d++rest)=some (x',rest))->RC ρ0 0 [] x' (.d y)->∃y x',(agg=true->iO m a=some y)/\(agg=false->lG m a=some (.d y)/\aW ρ (zx m2 (.c x)) (qJ m a))/\(∀rest,c.fill (d++rest)=some (x',rest))/\RC ρ0 0 [] x' (.d y):=λhk h1 h2 h3=>⟨_,_,λ_=>h1,λ_=>⟨Pj h1,by rw[hk,Pk h1];exact Nw (v:=.c x) hx⟩,h2,h3⟩;unfold gZ.lG at h;split at h<;>(try dsimp only at h)
 .split at h;.cases h;cases hx;exact one rfl rfl (λ_=>rfl) rfl
  grind
 .cases h;cases hx;exact one rfl rfl (λ_=>rfl) rfl
 .cases h;cases hx;exact one rfl rfl (λ_=>rfl) rfl
 .rename_i t o f;have key:iO m a=some (.sl (bx t [])):=by rcases(hU (m:=m) hx).2with rfl|⟨o',ho,rfl⟩<;>rfl
  split at h;.cases h;exact one rfl key (λ_=>rfl) (.inl rfl)
  .cases h;exact one rfl key (λ_=>rfl) (.inl rfl)
  grind
 .rename_i t0 o t l o';have key:iO m a=some (.sl (bx t l)):=by rcases(iW (m:=m) hx).2.1with rfl|⟨o',rfl⟩<;>rfl
  split at h;.cases h;exact one rfl key (λ_=>rfl) (.inl rfl)
  .cases h;exact one rfl key (λ_=>rfl) (.inl rfl)
  grind
 .rename_i t0 o lv sq au t;cases hr:rowOf m2 lv sq au with|none=>grind|some r=>
  simp[hr]at h;have he:=mK hm hx hr;obtain⟨_,u,n,hu,rfl,hn⟩:=hx;have key:iO m (.ref lv sq u 0 n t.size)=some (.sl (bx r.t r.l)):=by simp[iO,he,ca]
  cases o with|d=>cases h;exact one rfl key (λ_=>rfl) (.inl rfl)|bC=>cases h;exact one rfl key (λ_=>rfl) (.inl rfl)|full=>simp at h|app v=>simp at h
 .rename_i t0 o lv sq au t off len;cases hr:rowOf m2 lv sq au with|none=>grind|some r=>
  simp[hr]at h;have fin:b=[decide (off+len<=r.l.length)]->iO m a=some (.sl (bx r.t ((r.l.drop off).take len))):=by intro hb';have hle:=dv (hb (decide (off+len<=r.l.length)) (by rw[hb'];exact bo.2 rfl));have he:=j3 hm hx hr hle;obtain⟨_,u,hu,rfl,_⟩:=hx;simp[iO,he,ca]
  cases o with|d=>cases h;exact one rfl (fin rfl) (λ_=>rfl) (.inl rfl)|bC=>cases h;exact one rfl (fin rfl) (λ_=>rfl) (.inl rfl)|full=>simp at h|app v=>simp at h
 .rename_i t o lv sq au off n sz;split at h
  .rename_i v cs hg;split at h
   .rename_i l hc hp;rw[am]at hc;have hv:=aw hc.1;subst hv;have hle:=f1 hc.2;obtain⟨dcs,hd,hp⟩:=aV hp;obtain⟨_,u,hu,rfl⟩:=hx;obtain⟨e,g1,g2⟩:=hm.fZ _ _ _ hg;obtain⟨_,u',aO,g3,rfl,g4⟩:=g2;rw[hu]at g3;obtain⟨ds,q1,q2⟩:=Ny hm hd ((g4.drop off).take (n*sz));have hl:=xX hp (wO n q2);have hbx:oQ m lv sq u=some aO:=by unfold oQ<;>simp_all
    have key:lG m (.fF lv sq u off n sz)=some (.d (.sl (bx t l))):=by simp only[lG,hbx];rw[bb (by rw[<-g4.length];exact hle),q1]<;>grind
    have hkeys:aW ρ (zx m2 (.c (.fF lv sq v off n sz))) (qJ m (.fF lv sq u off n sz)):=by simp[zx,hg,qJ,hbx];exact aW.jT lv sq (wL g4)
    split at h;.cases h;exact⟨_,_,λh=>(by cases h),λ_=>⟨key,hkeys⟩,λ_=>rfl,.inl rfl⟩
    .cases h;exact⟨_,_,λh=>(by cases h),λ_=>⟨key,hkeys⟩,λ_=>rfl,.inl rfl⟩
    grind
   grind
  grind
 grind
theorem Fa:∀{cs:List gZ}{xs:List Cell}{aO:List AV}{d:List fS}{b:List Bool},xM m2 cs xs=some (d,b)->aE (RC ρ B m2) xs aO->(∀t∈b,t=true)->∃ys xs',jh m aO=some ys/\(∀rest,dx cs (d++rest)=some (xs',rest))/\aE (RC ρ0 0 []) xs' (ys.map .d)
 |[],[],aO,d,b,h,ha,_=>by cases h;match aO,ha with|[],_=>simp_all[bD,ρ0,RC,aE,dx,jh]
 |c::cs,x::xs,aO,d,b,h,ha,hb=>by
  simp[xM]at h;split at h;.rename_i d1 b1 d2 b2 h1 h2;cases h;match aO,ha with|a::aO,ha=>obtain⟨y,x',g1,_,g2,g3⟩:=Jc hm h1 ha.1 (λt ht=>hb t (dp _ ht));obtain⟨ys,xs',g4,g5,g6⟩:=Fa h2 ha.2 (λt ht=>hb t (dq _ ht));exact⟨y::ys,x'::xs',by simp only[jh,g1 rfl,g4],λrest=>by simp only[dx,bi,g2,g5],g3,g6⟩
  grind|[],_::_,_,_,_,h,_,_=>by simp[xM]at h|_::_,[],_,_,_,h,_,_=>by simp[xM]at h
theorem Fb:∀{ps:List uD}{vs:List V2}{aO:List AV}{d:List fS}{b:List Bool},xN m2 ps vs=some (d,b)->aE (RV ρ B m2) vs aO->(∀t∈b,t=true)->∃as' vs',vG m aO=some as'/\aW ρ (vs.flatMap (zx m2)) (aO.flatMap (qJ m))/\(∀rest,dR ps (d++rest)=some (vs',rest))/\aE (RV ρ0 0 []) vs' as'
 |[],[],aO,d,b,h,ha,_=>by cases h;match aO,ha with|[],_=>exact⟨[],[],rfl,aW.nil,λ_=>rfl,trivial⟩
 |p::ps,v::vs,aO,d,b,h,ha,hb=>by
  simp[xN]at h;split at h;.rename_i d1 b1 d2 b2 h1 h2;cases h;match aO,ha with
   |a::aO,ha=>
    obtain⟨as',vs',g4,g7,g5,g6⟩:=Fb h2 ha.2 (λt ht=>hb t (dq _ ht));have pX:∀t∈b1,t=true:=λt ht=>hb t (dp _ ht);have one:∃a' v',lG m a=some a'/\aW ρ (zx m2 v) (qJ m a)/\(∀rest,dR (p::ps) (d1++rest)=(match dR ps rest with|some (xs,r'')=>some (v'::xs,r'')|none=>none))/\RV ρ0 0 [] v' a':=by
     unfold uD.lG at h1;split at h1;.obtain⟨y,x',_,q1,q2,q3⟩:=Jc hm h1 ha.1 pX;exact⟨_,.c x',(q1 rfl).1,(q1 rfl).2,λrest=>by simp only[dR,tZ.fill,q2];rfl,q3⟩
     .obtain⟨bs,e,hc⟩:=ha.1;subst e;obtain⟨ys,X4,q1,q2,q3⟩:=Fa hm h1 hc pX;exact⟨.agg (ys.map .d),.agg X4,by simp only[lG,q1,ca],wL hc,λrest=>by simp only[dR,tZ.fill,q2];rfl,_,rfl,q3⟩
     .split at h1;.rename_i f f' hf;have e:=aw hf;subst e;cases h1;obtain⟨bs,e,hc⟩:=ha.1;subst e;match bs,hc with|[],_=>exact⟨.fk _ [],.fk _ [],rfl,aW.nil,λrest=>by simp only[dR,gc];rfl,[],rfl,trivial⟩
      grind
     grind
    obtain⟨a',v',g1,g8,g2,g3⟩:=one;exact⟨a'::as',v'::vs',by simp only[vG,g1,g4],(by simp only[d7];exact g8.append g7),λrest=>by rw[bi,g2,g5],g3,g6⟩
  grind|[],_::_,_,_,_,h,_,_=>by simp[xN]at h|_::_,[],_,_,_,h,_,_=>by simp[xN]at h
end
theorem o7{α:Type}{l:List Bool}{k:Option α}{r:α}(h:u6 l k=some r):(∀t∈l,t=true)/\k=some r:=by induction l with|nil=>grind[u6]|cons b l ih=>obtain⟨h1,h2⟩:=cx h<;>grind
section
variable{α:Type}{ρ:bD}{B:Nat}{s2:S2}{s:St}{r:α}(hm:MR ρ B s2.mem s.mem)(cj:va ρ B s2.mem s2.slots s.slots)
include hm cj
theorem X6{ar:Am}{K:Bool->List Cell->Option α}(h:abO s2 ar K=some r):∃a cs v,HZ s ar=some v/\R1 ρ B s2.mem (a,cs) v/\K a cs=some r:=by
 unfold abO at h;split at h
 .split at h;.rename_i x hx;have hv:=cj _ _ hx;refine⟨false,[x],_,?_,⟨x,rfl,hv⟩,h⟩;simp[HZ,(RC.cell hv).2.2]
  .rename_i cs hx;obtain⟨aO,e,hv⟩:=cj _ _ hx;refine⟨true,cs,.agg aO,?_,⟨aO,rfl,hv⟩,h⟩;simp[HZ,e,fY]
  grind
 .obtain⟨p,hp,h⟩:=cD h;obtain⟨cs,aO,h1,h2,h3⟩:=I4 hm h (cj _ _ hp);split at h3;.refine⟨true,cs,.agg aO,?_,⟨aO,rfl,h2⟩,h3⟩;simp[HZ,h1,ae,gX]
  .rename_i x _;match aO,h2 with|[a],h2=>refine⟨false,[x],a,?_,⟨x,rfl,h2.1⟩,h3⟩;simp[HZ,h1,ae,gX]
  grind
theorem Cj:∀{l:List Am}{K:List (Bool×List Cell)->Option α},ES s2 l K=some r->∃vs aO,jV s l=some aO/\aE (R1 ρ B s2.mem) vs aO/\K vs=some r|[],K,h=>⟨[],[],rfl,trivial,h⟩|x::l,K,h=>by obtain⟨a,cs,v,h1,h2,h⟩:=X6 hm cj h;obtain⟨vs,aO,h3,h4,h⟩:=Cj h;exact⟨(a,cs)::vs,v::aO,by simp only[jV,h1,h3],⟨h2,h4⟩,h⟩
end
theorem wP{cm:List (Tr bH)}{top k lv sl au:Nat}{els:List (List D)}{o:WV}(h:o≠.bC):bA cm top 0 k lv sl au (.own els o)=some (.d (.sl els),[]):=by cases o with|bC=>grind|_=>rfl
section
variable{ρ:bD}{B:Nat}{m2:List (Tr E2)}{m:List (Tr bH)}(hm:MR ρ B m2 m)
include hm
theorem Nz{top k lv sl au:Nat}{x y:Cell}{a:AV}(h:RN m2 top x=some y)(hx:RC ρ B m2 x a):∃a',bA m top 0 k lv sl au a=some (a',[])/\RC ρ B (m2.take top) y a':=by
 unfold RN at h;split at h;.cases h;cases hx;exact⟨_,rfl,rfl⟩
 .cases h;cases hx;exact⟨_,rfl,rfl⟩
 .cases h;cases hx;exact⟨_,rfl,rfl⟩
 .cases h;cases hx;exact⟨_,rfl,rfl⟩
 .cases h;rcases(hU (m:=m) hx).2with e|⟨o',ho,e⟩;.subst e;exact⟨_,rfl,.inl rfl⟩
  .subst e;exact⟨_,wP ho,.inl rfl⟩
 .cases h
 .rename_i t l o hne;cases h;rcases(iW (m:=m) hx).2.2 (λe=>hne e)with e|⟨o2,ho,e⟩;.subst e;exact⟨_,rfl,.inl rfl⟩
  .subst e;exact⟨_,wP ho,.inl rfl⟩
 .split at h
  .rename_i hb;cases h;obtain⟨hv,u,n,hu,rfl,hn⟩:=hx;refine⟨_,by simp only[bA,hb],hv,u,n,hu,rfl,λr hr=>hn r ?_⟩;have h1:=cJ hr;refine gJ.2 ?_;unfold jO at h1⊢;rw[fx]at h1;split at h1;.exact h1
   .cases h1
  .rename_i hb;split at h;.rename_i r hr;cases h;have he:=mK hm hx hr;obtain⟨hv,u,n,hu,rfl,hn⟩:=hx;refine⟨.d (.sl (bx r.t r.l)),?_,.inl rfl⟩;simp[bA,hb,he]
   .cases h
 .rename_i cM cZ gF t off len;split at h
  .rename_i hb;cases h;obtain⟨hv,u,hu,rfl,hn⟩:=hx;refine⟨_,by simp only[bA,hb],hv,u,hu,rfl,λr hr=>hn r ?_⟩;have h1:=cJ hr;refine gJ.2 ?_;unfold jO at h1⊢;rw[fx]at h1;split at h1;.exact h1
   .cases h1
  .rename_i hb;split at h;.rename_i r hr;cases h;have he:=j3 hm hx hr (hx.2.choose_spec.2.2 r hr);obtain⟨hv,u,hu,rfl,hn⟩:=hx;refine⟨.d (.sl (bx r.t ((r.l.drop off).take len))),?_,.inl rfl⟩;simp[bA,hb,he]
   .cases h
 .split at h;.rename_i hb;cases h;obtain⟨hv,u,hu,rfl⟩:=hx;exact⟨_,by simp only[bA,hb],hv,u,hu,rfl⟩
  .cases h
 .cases h
theorem Jd{top lv sl au:Nat}:∀{k:Nat}{xs ys:List Cell}{aO:List AV},BX m2 top xs=some ys->aE (RC ρ B m2) xs aO->∃as',dH m top 0 lv sl au k aO=some (as',[])/\aE (RC ρ B (m2.take top)) ys as'
 |k,[],ys,aO,h,ha=>by cases h;match aO,ha with|[],_=>exact⟨[],rfl,trivial⟩
 |k,x::xs,ys,aO,h,ha=>by
  simp[BX]at h;split at h;.rename_i y ys' h1 h2;cases h;match aO,ha with|a::aO,ha=>obtain⟨a',g1,g2⟩:=Nz hm (k:=k) (lv:=lv) (sl:=sl) (au:=au) h1 ha.1;obtain⟨as',g3,g4⟩:=Jd (lv:=lv) (sl:=sl) (au:=au) (k:=k+1) h2 ha.2;exact⟨a'::as',by simp only[dH,g1,g3,dt],g2,g4⟩
  grind
theorem NA{top lv sl au k:Nat}{b:Bool}{xs ys:List Cell}{a:AV}(h:BX m2 top xs=some ys)(ha:R1 ρ B m2 (b,xs) a):∃a',lM m top 0 lv sl au k a=some (a',[])/\R1 ρ B (m2.take top) (b,ys) a':=by cases b with|true=>obtain⟨aO,rfl,ha⟩:=ha;obtain⟨as',g1,g2⟩:=Jd hm (k:=k) (lv:=lv) (sl:=sl) (au:=au) h ha<;>simp_all[RC,aE,BX,bD,R1,lM]|false=>
 obtain⟨c,rfl,ha⟩:=ha;simp[BX]at h;split at h;.rename_i y ys' h1 h2;simp_all;subst h;obtain⟨a',g1,g2⟩:=Nz hm (k:=k) (lv:=lv) (sl:=sl) (au:=au) h1 ha;refine⟨a',?_,y,rfl,g2⟩;have hc:=RC.cell ha;cases a<;>first|exact g1|cases hc.2.1
 grind
theorem Fc{top lv sl au:Nat}:∀{k:Nat}{vs ws:List (Bool×List Cell)}{aO:List AV},zy m2 top vs=some ws->aE (R1 ρ B m2) vs aO->∃as',fX m top 0 lv sl au k aO=some (as',[])/\aE (R1 ρ B (m2.take top)) ws as'
 |k,[],ws,aO,h,ha=>by cases h;match aO,ha with|[],_=>exact⟨[],rfl,trivial⟩
 |k,(b,x)::xs,ws,aO,h,ha=>by
  simp[zy]at h;split at h;.rename_i y ys' h1 h2;cases h;match aO,ha with|a::aO,ha=>obtain⟨a',g1,g2⟩:=NA hm (k:=k) (lv:=lv) (sl:=sl) (au:=au) h1 ha.1;obtain⟨as',g3,g4⟩:=Fc (lv:=lv) (sl:=sl) (au:=au) (k:=k+64) h2 ha.2;exact⟨a'::as',by simp only[fX,g1,g3,dt],g2,g4⟩
  grind
omit hm in theorem R1.fY{b:Bool}{cs:List Cell}{a:AV}(h:R1 ρ B m2 (b,cs) a):bM.fY a=true:=by cases b with|true=>obtain⟨aO,rfl,_⟩:=h;rfl|false=>obtain⟨c,_,h⟩:=h;exact(RC.cell h).2.2
theorem X7{top lv sl au:Nat}{vs ws:List (Bool×List Cell)}{w:V2}{aO:List AV}(h:zy m2 top vs=some ws)(ht:qe ws=some w)(ha:aE (R1 ρ B m2) vs aO):∃a',iN m top 0 lv sl au (iZ aO)=some (a',[])/\RV ρ B (m2.take top) w a':=by match vs,aO,ha with
 |[],[],ha=>cases h;cases ht;exact⟨.jF [],rfl,[],rfl,trivial⟩|[(b,x)],[a],ha=>
  simp[zy]at h;split at h
  .rename_i y ys' h1 h2;simp_all;subst h;obtain⟨a',g1,g2⟩:=NA hm (k:=1) (lv:=lv) (sl:=sl) (au:=au) h1 ha.1;refine⟨a',?_,?_⟩;.have hn:=R1.fY ha.1;cases a<;>first|exact g1|cases hn
   .cases b with|true=>obtain⟨as',rfl,g3⟩:=g2;cases ht;exact⟨as',rfl,g3⟩|false=>obtain⟨c,rfl,g3⟩:=g2;cases ht;exact g3
  grind|v::v'::vs,a::a'::aO,ha=>
  obtain⟨as',g1,g2⟩:=Fc hm (k:=1) (lv:=lv) (sl:=sl) (au:=au) h ha;refine⟨.jF as',?_,?_⟩;.simp[iZ,iN,g1,ca]
  .have:∃x y zs,ws=x::y::zs:=by simp[zy]at h<;>grind
   obtain⟨x,y,zs,rfl⟩:=this;cases ht;exact⟨as',rfl,g2⟩
end
end Go.Sym
