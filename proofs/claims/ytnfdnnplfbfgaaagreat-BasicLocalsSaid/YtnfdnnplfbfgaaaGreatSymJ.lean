/- Parts of the proof. -/
import Derived.Test.YtnfdnnplfbfgaaaGreatSymD
set_option linter.unusedVariables false
set_option linter.unusedSimpArgs false
set_option linter.defProp false
namespace Go.Sym
open Go Go.bS
section
variable{α:Type}{ρ:bF}{B B':Nat}{s2:S2}{s:St}{op:cy}{row dst p nx:Nat}{K:iA->Option α}{r:α}{E:ai}{wk:Wk}{ctx:Nat}
def Qe(x y:List UInt8):(⟨x.toArray⟩:ByteArray)++⟨y.toArray⟩=⟨(x++y).toArray⟩:=by apply ByteArray.ext;simp
def HM(x:List UInt8):(⟨x.toArray⟩:ByteArray).size=x.length:=by simp[ByteArray.size]
def MF(x:List UInt8)(a b:Nat):(⟨x.toArray⟩:ByteArray).extract a b=⟨((x.drop a).take (b-a)).toArray⟩:=by apply ByteArray.ext;simp_all
def ZS{x y:List UInt8}{Tl:BinOp}{K:Cell->Option α}(h:adW Tl x y K=some r):∃v c,LX Tl ⟨x.toArray⟩ ⟨y.toArray⟩=some v/\K c=some r/\∀(m:List (Tr E2)),RC ρ B m c (.d (.sc v)):=by
 unfold adW at h;split at h
 .obtain⟨h1,h⟩:=cC h;refine⟨_,_,?_,h,λ_=>rfl⟩;have:¬((x.length+y.length:Nat):Int)>IntKind.i64.max:=by simpa using h1
  simp only[LX,HM,Qe];rw[bi this]
 all_goals first|(refine⟨_,_,?_,h,λ_=>rfl⟩;simp[LX,ByteArray.toList_eq];done)|cases h
def ZT{x y:Cell}{a b:AV}{Tl:BinOp}{m:List (Tr E2)}{K:Cell->Option α}(h:adX Tl x y K=some r)(hx:RC ρ B m x a)(hy:RC ρ B m y b):∃v c,Si Tl a b=some v/\K c=some r/\RC ρ B m c (.d (.sc v)):=by
 unfold adX at h;split at h;.cases hx;cases hy;obtain⟨v,c,h1,h2,h3⟩:=ZR (ρ:=ρ) (B:=B) h;exact⟨v,c,h1,h2,h3 m⟩
 .cases hx;cases hy;obtain⟨v,c,h1,h2,h3⟩:=ZS (ρ:=ρ) (B:=B) h;exact⟨v,c,h1,h2,h3 m⟩
 grind
def Tm{kd:Nat}{x y:Cell}{a b:AV}{m:List (Tr E2)}{t:Bool}(h:S0 kd x y=some t)(hx:RC ρ B m x a)(hy:RC ρ B m y b):IZ kd a b=some t:=by
 unfold S0 at h;split at h;.split at h<;>simp_all[RC,bF,IZ]
 .split at h;.split at h<;>simp_all[RC,bF,IZ]
  grind
 .split at h;.cases h
  .cases h
  .rename_i x y n _ _;cases hx;cases hy;have:((⟨x.toArray⟩:ByteArray)==⟨y.toArray⟩)=(x==y):=by rw[ls];show(x.toArray==y.toArray)=true↔_;simp
   unfold IZ<;>grind
 grind
def FX{xs ys:List Cell}{aU bs:List AV}{m:List (Tr E2)}(hx:aI (RC ρ B m) xs aU)(hy:aI (RC ρ B m) ys bs):∀{l:List (Nat×Nat)}{t:Bool},HF xs ys l=some t->nI aU bs l=some t
 |[],t,h=>h|o::l,t,h=>by
  simp[HF]at h;split at h;.rename_i x y b' h1 h2 h3;obtain⟨b,h4,rfl⟩:=aV h;obtain⟨a,g1,g2⟩:=hx.get _ _ h1;obtain⟨a',g3,g4⟩:=hy.get _ _ h2;simp[nI,g1,g3,Tm h4 g2 g4];cases b with|true=>simpa using FX hx hy h3|false=>rfl
  grind
def aeb{x:Cell}{a:AV}{m:List (Tr E2)}{uop:UnOp}{K:Cell->Option α}(h:unK uop x K=some r)(hx:RC ρ B m x a):∃v c,unA uop a=some v/\K c=some r/\RC ρ B m c (.d (.sc v)):=by
 unfold unK at h;split at h
 .split at h;.cases hx;exact⟨_,_,rfl,h,rfl⟩
  grind
 .split at h;.cases hx;exact⟨_,_,rfl,h,rfl⟩
  .cases hx;exact⟨_,_,by simp[unA,E5],h,rfl⟩
  grind
 grind
section
variable(hm:MR ρ B s2.mem s.mem)(ht:TR ρ B s2.aO s.aO)(hB:B<=B')
include hm ht hB
theorem eB.int{k:IntKind}{n:Int}(hrun:∀call sh,op.run call sh s row dst p=gu.pure (.d (.sc (.int k n))))(hK:K (eG (.int k n))=some r):eB ρ B B' s2 s op row dst p K r:=.pure hm ht hB hrun (v:=.c (.int k n)) rfl hK
theorem eB.str{x:List UInt8}(hrun:∀call sh,op.run call sh s row dst p=gu.pure (.d (.sc (.string ⟨x.toArray⟩))))(hK:K (eG (.str x))=some r):eB ρ B B' s2 s op row dst p K r:=.pure hm ht hB hrun (v:=.c (.str x)) rfl hK
theorem eB.gw{t:Ty}{x:t.den}{off:Nat}(hrun:∀call sh,op.run call sh s row dst p=gu.pure (.gw (fR t x) off))(hK:K (eG (.gw t x off))=some r):eB ρ B B' s2 s op row dst p K r:=.pure hm ht hB hrun (v:=.c (.gw t x off)) rfl hK
theorem eB.ptr{lv sl av u i off:Nat}(hv:av<B)(hu:ρ av=some u)(hrun:∀call sh,op.run call sh s row dst p=gu.pure (.ptr lv sl u i off))(hK:K (eG (.ptr lv sl av i off))=some r):eB ρ B B' s2 s op row dst p K r:=.pure hm ht hB hrun (v:=.c (.ptr lv sl av i off)) ⟨hv,u,hu,rfl⟩ hK
end
variable(hm:MR ρ B s2.mem s.mem)(ht:TR ρ B s2.aO s.aO)(cr:vS ρ B s2.mem s2.slots s.slots)(hB:B<=B')
include hm ht hB cr
theorem Tn{Tl:BinOp}{x y:cq}(h:dn E wk ctx s2 row dst nx (.bin Tl x y) K=some r):eB ρ B B' s2 s (.bin Tl x y) row dst p K r:=by obtain⟨a,ha,h⟩:=cI h;obtain⟨b,hb,h⟩:=cI h;obtain⟨v,c,h1,h2,h3⟩:=ZT h (bx cr ha) (bx cr hb);exact .pure hm ht hB (λ_ _=>by simp only[cy.run,h1,ae,nJ]) (v:=.c c) h3 h2
theorem To{neg:Bool}{x y:cq}(h:dn E wk ctx s2 row dst nx (.Y7 neg x y) K=some r):eB ρ B B' s2 s (.Y7 neg x y) row dst p K r:=by obtain⟨a,ha,h⟩:=rY h;obtain⟨b,hb,h⟩:=rY h;have h1:=rZ (bx cr ha);have h2:=rZ (bx cr hb);refine .pure hm ht hB (a:=.d (.sc (.bool (if neg then !(a==b)else a==b)))) (λ_ _=>by simp only[cy.run,h1,h2,nJ]) (v:=.c _) ?_ h;cases neg<;>rfl
theorem MG{neg:Bool}{x:cq}(h:dn E wk ctx s2 row dst nx (.zN neg x) K=some r):eB ρ B B' s2 s (.zN neg x) row dst p K r:=by
 simp[dn]at h;split at h;.rename_i b hx;have h1:x.ev s.slots=_:=bx cr hx;cases neg with|true=>refine .pure hm ht hB (a:=.d (.sc (.bool b))) (λ_ _=>by cases b<;>(simp only[cy.run,h1,nJ]<;>try rfl)) (v:=.c _) ?_ h;rfl|false=>refine .pure hm ht hB (a:=.d (.sc (.bool !b))) (λ_ _=>by cases b<;>(simp only[cy.run,h1,nJ]<;>try rfl)) (v:=.c _) ?_ h;rfl
 grind
theorem JP{lo n sz:Nat}{x:cq}(h:dn E wk ctx s2 row dst nx (.sZ lo n sz x) K=some r):eB ρ B B' s2 s (.sZ lo n sz x) row dst p K r:=by
 simp[dn]at h;split at h
 .rename_i lv sl av i off hx;split at h;.rename_i hc;obtain⟨hv,u,hu,h1⟩:=bx cr hx;exact .pure hm ht hB (a:=.fX lv sl u (off+lo*sz) (n-lo) sz) (λ_ _=>by simp only[cy.run,h1,hc]) (v:=.c (.fX lv sl av (off+lo*sz) (n-lo) sz)) ⟨hv,u,hu,rfl⟩ h
  grind
 grind
theorem Tp{neg:Bool}{sz:Nat}{l:List (Nat×Nat)}{x y:cq}(h:dn E wk ctx s2 row dst nx (.Y8 neg sz l x y) K=some r):eB ρ B B' s2 s (.Y8 neg sz l x y) row dst p K r:=by
 simp[dn]at h;split at h
 .rename_i xs ys hx hy;split at h
  .rename_i b h1 h2;obtain⟨aU,e1,r1⟩:=bx cr hx;obtain⟨bs,e2,r2⟩:=bx cr hy;have l1:aU.length=sz:=by rw[<-r1.length]<;>simp_all
   have l2:bs.length=sz:=by rw[<-r2.length]<;>simp_all
   refine .pure hm ht hB (a:=.d (.sc (.bool (if neg then !b else b)))) (λ_ _=>by simp only[cy.run,e1,e2];rw[bi (by simp[l1,l2]),FX r1 r2 h2];rfl) (v:=.c _) ?_ h;cases neg<;>rfl
  grind
 grind
theorem ZU{uop:UnOp}{x:cq}(h:dn E wk ctx s2 row dst nx (.un uop x) K=some r):eB ρ B B' s2 s (.un uop x) row dst p K r:=by obtain⟨a,ha,h⟩:=cI h;obtain⟨v,c,h1,h2,h3⟩:=aeb h (bx cr ha);exact .pure hm ht hB (λ_ _=>by simp only[cy.run,h1,ae,nJ]) (v:=.c c) h3 h2
theorem Qf{k:IntKind}{x:cq}(h:dn E wk ctx s2 row dst nx (.conv k x) K=some r):eB ρ B B' s2 s (.conv k x) row dst p K r:=by obtain⟨kd,n,ha,h⟩:=uU h;have e:=tO (bx cr ha);exact .int hm ht hB (λ_ _=>by simp only[cy.run,e,td,ae,nJ]) h
theorem MH{off sz:Nat}{agg:Bool}{x:cq}(h:dn E wk ctx s2 row dst nx (.field off sz agg x) K=some r):eB ρ B B' s2 s (.field off sz agg x) row dst p K r:=by
 simp[dn]at h;split at h
 .rename_i cs hx;split at h;.rename_i v h1 h2;have h1:=i7 h1;obtain⟨aU,e1,r1⟩:=bx cr hx;obtain⟨a,g1,g2⟩:=CT h2 ((r1.drop off).take sz);refine .pure hm ht hB (λ_ _=>?_) g2 h;simp[cy.run,e1];rw[be (by rw[<-r1.length];exact h1),g1];rfl
  grind
 grind
theorem CX{off:Nat}{x:cq}(h:dn E wk ctx s2 row dst nx (.fieldAddr off x) K=some r):eB ρ B B' s2 s (.fieldAddr off x) row dst p K r:=by
 simp[dn]at h;split at h;.rename_i hx;obtain⟨hv,u,hu,e⟩:=bx cr hx;exact .ptr hm ht hB hv hu (λ_ _=>by simp only[cy.run,e]) h
 .rename_i hx;have e:x.ev s.slots=_:=bx cr hx;exact .gw hm ht hB (λ_ _=>by simp only[cy.run,e]) h
 grind
omit hm ht hB cr in theorem uW:∀{n k:Nat}{F:Nat->Option α},P6 n k F=some r->k<n/\F k=some r|0,_,_,h=>by cases h|n+1,k,F,h=>by unfold P6 at h;cases hb:Nat.beq k n with|true=>simp_all|false=>rw[hb]at h;obtain⟨h1,h2⟩:=uW h<;>grind
theorem EM{n sz:Nat}{x i:cq}(h:dn E wk ctx s2 row dst nx (.ld n sz x i) K=some r):eB ρ B B' s2 s (.ld n sz x i) row dst p K r:=by
 simp[dn]at h;obtain⟨kd,k,hi,h0,h⟩:=mM h;have hk:=jH (bx cr hi) h0;split at h;.rename_i hx;obtain⟨hlt,h⟩:=uW h;obtain⟨hv,u,hu,e⟩:=bx cr hx;exact .ptr hm ht hB hv hu (λ_ _=>by simp only[cy.run,hk,ae,e,be hlt]) h
 .rename_i hx;obtain⟨hlt,h⟩:=uW h;have e:x.ev s.slots=_:=bx cr hx;exact .gw hm ht hB (λ_ _=>by simp only[cy.run,hk,ae,e,be hlt]) h
 grind
theorem JQ{n sz:Nat}{agg:Bool}{x i:cq}(h:dn E wk ctx s2 row dst nx (.rG n sz agg x i) K=some r):eB ρ B B' s2 s (.rG n sz agg x i) row dst p K r:=by
 simp[dn]at h;obtain⟨kd,k,hi,h0,h⟩:=mM h;have hk:=jH (bx cr hi) h0;split at h
 .rename_i cs hx;obtain⟨hlt,h⟩:=uW h;split at h;.rename_i v h1 h2;have h1:=i7 h1;obtain⟨aU,e1,r1⟩:=bx cr hx;obtain⟨a,g1,g2⟩:=CT h2 ((r1.drop (k.toNat*sz)).take sz);refine .pure hm ht hB (λ_ _=>?_) g2 h;simp[cy.run,hk,ae,e1];rw[be ⟨hlt,by rw[<-r1.length];exact h1⟩,g1]<;>grind
  grind
 grind
omit hm ht hB cr in theorem tP{β:Type}{l:List β}{i:Int}{x:β}(h:idx l i=some x):0<=i/\l[i.toNat]?=some x:=by grind[idx]
omit hm ht hB cr in theorem JR{i:Int}{n:Nat}(h:fM i n=true):0<=i/\i.toNat<n:=by simpa[fM]using h
theorem CY{sz:Nat}{x i:cq}(h:dn E wk ctx s2 row dst nx (.indexAddr sz x i) K=some r):eB ρ B B' s2 s (.indexAddr sz x i) row dst p K r:=by
 obtain⟨kd,n,hi,h⟩:=uU h;have hi:=bx cr hi;split at h
 .rename_i t l o hx;split at h
  .rename_i hz;have hz:=bb hz;obtain⟨e,he,h⟩:=bind_some h;obtain⟨h0,he⟩:=tP he;have hn:=jH hi h0;have hg:(bB t l)[n.toNat]?=some (fR t e):=by rw[CU,he];rfl
   have hx:=(jk (m:=s.mem) (bx cr hx)).2.1;refine .gw hm ht hB (t:=t) (x:=e) (off:=0) (λ_ _=>?_) h;rcases hx with e1|⟨o',e1⟩;.simp[cy.run,hn,ae,e1,hg,fh,hz,kp]
   .simp[cy.run,hn,ae,e1,hg,fh,hz,kp]
  grind
 .rename_i lv sl av t hx;split at h;.rename_i hz;have hz:=bb hz;obtain⟨r',hr,h⟩:=aE h;obtain⟨h1,h⟩:=cC h;obtain⟨h0,h1⟩:=JR h1;have hn:=jH hi h0;obtain⟨hv,u,k,hu,e1,hk⟩:=bx cr hx;refine .ptr hm ht hB hv hu (λ_ _=>?_) h;simp only[cy.run,hn,ae,e1]<;>grind
  grind
 .rename_i lv sl av t off len hx;split at h;.rename_i hz;have hz:=bb hz;obtain⟨h1,h⟩:=cC h;obtain⟨h0,h1⟩:=JR h1;have hn:=jH hi h0;obtain⟨hv,u,hu,e1⟩:=bx cr hx;refine .ptr hm ht hB hv hu (λ_ _=>?_) h;simp only[cy.run,hn,ae,e1]<;>grind
  grind
 grind
theorem JS{x i:cq}(h:dn E wk ctx s2 row dst nx (.rH x i) K=some r):eB ρ B B' s2 s (.rH x i) row dst p K r:=by
 obtain⟨kd,n,hi,h⟩:=uU h;have hi:=bx cr hi;split at h;.rename_i b hx;obtain⟨c,hc,h⟩:=bind_some h;obtain⟨h0,hc⟩:=tP hc;have hn:=jH hi h0;have e:x.ev s.slots=_:=bx cr hx;refine .int hm ht hB (λ_ _=>?_) h;simp[cy.run,hn,ae,e,hc,nJ]
 grind
omit hm ht hB in theorem qW{β:Type}{x:Option cq}{K:Option Nat->Option β}{r:β}(h:vO x s2 K=some r):∃n,(∀d,gh x s.slots d=some (n.getD d))/\(n.isSome=x.isSome)/\K n=some r:=by unfold vO at h;cases x with|none=>exact⟨none,λ_=>rfl,rfl,h⟩|some o=>obtain⟨kd,n,hv,h0,h⟩:=mM h;exact⟨some n.toNat,λ_=>by simp[gh,jH (bx cr hv) h0],rfl,h⟩
omit hm ht hB cr in theorem jI{n:Nat}{lo hi:Option Nat}(h:oh n lo hi=true):lo.getD 0<=hi.getD n/\hi.getD n<=n:=by unfold oh at h<;>grind
omit hm ht hB cr in theorem CZ{β:Type}{l:List β}{lo hi:Option Nat}(h:oh l.length lo hi=true):p8 l lo hi=(l.drop (lo.getD 0)).take (hi.getD l.length-lo.getD 0):=by unfold p8;cases lo<;>cases hi<;>simp_all;.rw[f8 (by simp)]
omit hm ht hB cr in theorem y8{t:Ty}{l:List t.den}{lo hi:Option Nat}(h:oh l.length lo hi=true):bB t (p8 l lo hi)=((bB t l).drop (lo.getD 0)).take (hi.getD (bB t l).length-lo.getD 0):=by rw[CZ h]<;>simp_all[oh,Ty.den,p8,bB]
omit hm ht hB cr in theorem Qg{sz:Nat}{x:Cell}{a:AV}{lo hi mx:Option Nat}{K:Cell->Option α}(h:My s2.mem sz x lo hi mx K=some r)(hx:RC ρ B s2.mem x a)(l h' k:Nat)(hl:l=lo.getD 0)(hh:∀n,hi=some n->h'=n)(hk:∀n,mx=some n->k=n):∃a' c,fO sz a l (hi.map λ_=>h') (mx.map λ_=>k)=some a'/\RC ρ B s2.mem c a'/\K c=some r:=by
 have ehi:hi.map (λ_=>h')=hi:=by cases hi with|none=>rfl|some n=>grind
 have emx:mx.map (λ_=>k)=mx:=by cases mx with|none=>rfl|some n=>grind
 rw[ehi,emx];subst hl;unfold My at h;split at h
 .rename_i t l o;split at h
  .rename_i hz;have hz:=bb hz;have hall:(bB t l).all (λe=>e.length==sz)=true:=by rw[<-hz];exact gY t l
   split at h
   .obtain⟨hp,h⟩:=cC h;have yR:=jI hp;have he:=y8 (t:=t) hp;rw[bA]at he;have c1:lo.getD 0<=hi.getD (bB t l).length/\hi.getD (bB t l).length<=(bB t l).length/\(bB t l).all (λe=>e.length==sz)=true:=by rw[bA]<;>grind
    have avI:∀{o:Ow},(o=.aY\/o=.d)->RC ρ B s2.mem (.sl t (p8 l lo hi) o) (.d (.sl ((bB t l).drop (lo.getD 0)|>.take (hi.getD (bB t l).length-lo.getD 0)))):=by intro o ho;rw[bA,<-he];rcases ho with rfl|rfl<;>exact .inl rfl
    have dat:fO sz (.d (.sl (bB t l))) (lo.getD 0) hi none=some (.d (.sl ((bB t l).drop (lo.getD 0)|>.take (hi.getD (bB t l).length-lo.getD 0)))):=by simp only[fO]<;>grind
    have own:∀o',o'≠.aY->∃a',fO sz (.own (bB t l) o') (lo.getD 0) hi none=some a'/\RC ρ B s2.mem (.sl t (p8 l lo hi) .d) a':=by intro o' ho';cases o' with
     |aY=>grind|full=>
      simp only[fO];rw[be c1];split;.rename_i e;refine⟨_,rfl,.inr ⟨.full,by simp,?_⟩⟩;rw[he,show hi.getD l.length=l.length from by rw[bA]at e;exact e];rw[f8 (by simp[bA])]
      grind|cT v z=>simp only[fO]<;>grind
    split at h
    .rcases hx with rfl|⟨o',rfl⟩;.grind
     .by_cases ho':o'=.aY;.subst ho';refine⟨_,_,by simp only[fO];rw[be c1],?_,h⟩;refine .inr ⟨.aY,?_⟩;rw[he,bA]
      .obtain⟨a',g1,g2⟩:=own o' ho';refine⟨a',_,g1,?_,h⟩;rcases g2 with rfl|⟨o2,_,rfl⟩;.exact .inl rfl
       .exact .inr ⟨_,rfl⟩
    .split at h
     .cases hx;refine⟨.own ((bB t l).drop (lo.getD 0)) .full,_,?_,?_,h⟩;.simp only[fO]<;>grind
      .show _=_;rw[he];rw[f8 (by simp[bA])]
     .cases hx;obtain⟨a',g1,g2⟩:=own .full (by simp)<;>grind
    .rename_i aro aAe;rcases(jk (m:=[]) hx).2.2 (λe=>aro e)with rfl|⟨o',ho',rfl⟩;.grind
     .obtain⟨a',g1,g2⟩:=own o' ho'<;>grind
   .rename_i mm;split at h;.cases h
    .cases h
    .rename_i hi' hne;obtain⟨hp,h⟩:=cC h;rw[ba]at hp;obtain⟨hp,hmm⟩:=hp;have hmm:=bb hmm;have yR:=jI hp;have he:=y8 (t:=t) hp;simp[tb]at yR he;have c1:lo.getD 0<=hi'/\hi'=mm/\hi'<=(bB t l).length/\(bB t l).all (λe=>e.length==sz)=true:=by rw[bA];exact⟨yR.1,hmm,yR.2,hall⟩
     refine⟨.own ((bB t l).drop (lo.getD 0)|>.take (hi'-lo.getD 0)) .full,_,?_,?_,h⟩
     .rcases(jk (m:=[]) hx).2.2 (λe=>hne e)with rfl|⟨o',ho',rfl⟩;.simp only[fO,tb];rw[be c1]
      .cases o' with|aY=>exact(ho' rfl).elim|_=>simp only[fO,tb];rw[be c1]
     .show _=_;rw[he]
  grind
 .rename_i f;split at h
  .obtain⟨hp,h⟩:=cC h;have yR:=jI hp;have h0:hi.getD 0=0:=by omega
   have l0:lo.getD 0=0:=by omega
   cases f with|true=>cases hx;refine⟨.own [] .full,.nil true,?_,rfl,h⟩;simp[fO,h0,l0]|false=>
    rcases hx with rfl|⟨o,ho,rfl⟩;.exact⟨.d (.sl []),.nil false,by simp[fO,h0,l0],.inl rfl,h⟩
    .cases o with|aY=>grind|full=>exact⟨.own [] .full,.nil false,by simp[fO,h0,l0],.inr ⟨.full,by simp,rfl⟩,h⟩|cT v z=>exact⟨.d (.sl []),.nil false,by simp[fO,h0,l0],.inl rfl,h⟩
  grind
 .rename_i lv sl av t;cases hz:Nat.beq t.size sz with|false=>grind|true=>
  split at h;.have hz:=bb hz;obtain⟨r',hr,h⟩:=aE h;obtain⟨hp,h⟩:=cC h;have yR:=jI hp;obtain⟨hv,u,n,hu,rfl,hn⟩:=hx;have hn:=hn r' hr;refine⟨_,.ku lv sl av t (Bl lo) (hi.getD r'.l.length-Bl lo),?_,⟨hv,u,hu,rfl,λr2 qv=>by rw[hr]at qv;injection qv with qv;subst qv;have h1:=yR.1;have h2:=yR.2;simp only[Bl]at h1 h2⊢;omega⟩,h⟩;simp only[fO,Bl]<;>grind
  grind
 .rename_i lv sl av t off len;cases hz:Nat.beq t.size sz with|false=>grind|true=>
  split at h;.have hz:=bb hz;obtain⟨hp,h⟩:=cC h;have yR:=jI hp;obtain⟨hv,u,hu,rfl,hlen⟩:=hx;refine⟨_,.ku lv sl av t (off+Bl lo) (hi.getD len-Bl lo),?_,⟨hv,u,hu,rfl,λr2 qv=>by have h0:=hlen r2 qv;have h1:=yR.1;have h2:=yR.2;simp only[Bl]at h1 h2⊢;omega⟩,h⟩;simp only[fO,Bl]<;>grind
  grind
 grind
theorem JT{x:cq}{lo hi:Option cq}(h:dn E wk ctx s2 row dst nx (.rI x lo hi) K=some r):eB ρ B B' s2 s (.rI x lo hi) row dst p K r:=by
 simp[dn]at h;split at h;.rename_i b hx;obtain⟨l,el,il,h⟩:=qW cr h;obtain⟨h',eh,ih,h⟩:=qW cr h;obtain⟨hp,h⟩:=cC h;have yR:=jI hp;have e:x.ev s.slots=_:=bx cr hx;refine .str hm ht hB (λ_ _=>?_) h;simp[cy.run,e,el,eh,HM];rw[be yR,MF,CZ hp];rfl
 grind
theorem HN{x:cq}{i:Nat}(h:dn E wk ctx s2 row dst nx (.extract x i) K=some r):eB ρ B B' s2 s (.extract x i) row dst p K r:=by
 simp[dn]at h;split at h
 .rename_i vs hx;split at h
  .rename_i a cs hi;obtain⟨v,hv,h⟩:=aE h;obtain⟨aU,e1,r1⟩:=bx cr hx;obtain⟨y,g1,g2⟩:=r1.get _ _ hi;have:RV ρ B s2.mem v y:=by cases a with|true=>obtain⟨as',rfl,g3⟩:=g2;cases hv;exact⟨as',rfl,g3⟩|false=>obtain⟨c,rfl,g3⟩:=g2;cases hv;exact g3
   exact .pure hm ht hB (λ_ _=>by simp only[cy.run,e1,g1,ae]) this h
  grind
 grind
theorem Tq{x:cq}(h:dn E wk ctx s2 row dst nx (.len x) K=some r):eB ρ B B' s2 s (.len x) row dst p K r:=by
 obtain⟨c,hx,h⟩:=cI h;have hx:=bx cr hx;split at h;.refine .int hm ht hB (λ_ _=>?_) h;rcases(jk (m:=s.mem) hx).2.1with e|⟨o',e⟩<;>(simp only[cy.run,e,bA];rfl)
 .refine .int hm ht hB (λ_ _=>?_) h;rcases(iD (m:=s.mem) hx).2with e|⟨o',_,e⟩<;>(simp only[cy.run,e,m7];rfl)
 .obtain⟨r',hr,h⟩:=aE h;obtain⟨hv,u,n,hu,e,hn⟩:=hx;have hn:=hn r' hr;subst hn;exact .int hm ht hB (λ_ _=>by simp only[cy.run,e];rfl) h
 .obtain⟨hv,u,hu,e⟩:=hx;exact .int hm ht hB (λ_ _=>by simp only[cy.run,e];rfl) h
 grind
theorem Qh{x:cq}(h:dn E wk ctx s2 row dst nx (.IW x) K=some r):eB ρ B B' s2 s (.IW x) row dst p K r:=by
 obtain⟨c,hx,h⟩:=cI h;have hx:=bx cr hx;split at h;.have e:x.ev s.slots=.own [] .full:=hx;exact .int hm ht hB (λ_ _=>by simp only[cy.run,e,m7];rfl) h
 .have e:x.ev s.slots=.own (bB _ _) .full:=hx;exact .int hm ht hB (λ_ _=>by simp only[cy.run,e,bA];rfl) h
 grind
theorem Qi{x:cq}(h:dn E wk ctx s2 row dst nx (.GO x) K=some r):eB ρ B B' s2 s (.GO x) row dst p K r:=by
 simp[dn]at h;split at h;.rename_i b hx;have e:x.ev s.slots=_:=bx cr hx;exact .int hm ht hB (λ_ _=>by simp only[cy.run,e,HM];rfl) h
 grind
omit cr in theorem Qj{n:Nat}(h:dn E wk ctx s2 row dst nx (.EC n) K=some r):eB ρ B B' s2 s (.EC n) row dst p K r:=by exact .int hm ht hB (λ_ _=>rfl) h
theorem JU{n sz:Nat}{x:cq}(h:dn E wk ctx s2 row dst nx (.sliceB n sz x) K=some r):eB ρ B B' s2 s (.sliceB n sz x) row dst p K r:=by
 obtain⟨c,hc,h⟩:=cI h;have hc:=bx cr hc;split at h
 .rename_i lv sl av i off _;split at h;.rename_i hi;obtain⟨hv,u,hu,e⟩:=hc;refine .pure (a:=.fX lv sl u off n sz) hm ht hB (λ_ _=>?_) (show RV ρ B s2.mem (.c (.fX lv sl av off n sz)) (.fX lv sl u off n sz)from⟨hv,u,hu,rfl⟩) h;simp[cy.run,e,hi]
  grind
 grind
theorem Qk{x y:cq}(h:dn E wk ctx s2 row dst nx (.GP x y) K=some r):eB ρ B B' s2 s (.GP x y) row dst p K r:=by
 simp[dn]at h;split at h
 .rename_i k a k' b hx hy;split at h;.subst_vars;have e1:=tO (bx cr hx);have e2:=tO (bx cr hy);exact .int hm ht hB (λ_ _=>by simp only[cy.run,e1,e2,kp,nJ]) h
  grind
 grind
theorem Ql{x y:cq}(h:dn E wk ctx s2 row dst nx (.GQ x y) K=some r):eB ρ B B' s2 s (.GQ x y) row dst p K r:=by
 simp[dn]at h;split at h
 .rename_i k a k' b hx hy;split at h;.subst_vars;have e1:=tO (bx cr hx);have e2:=tO (bx cr hy);exact .int hm ht hB (λ_ _=>by simp only[cy.run,e1,e2,kp,nJ]) h
  grind
 grind
omit hm ht hB cr in theorem Av{m:List (Tr E2)}:∀{vs:List V2}{aU:List AV}{cs:List Cell},CE vs=some cs->aI (RV ρ B m) vs aU->aI (RC ρ B m) cs aU/\aU.all jX=true
 |[],[],cs,h,_=>by cases h;exact⟨trivial,rfl⟩|v::vs,a::aU,cs,h,hv=>by cases v with|c x=>obtain⟨cs',h1,rfl⟩:=aV h;obtain⟨g1,g2⟩:=Av h1 hv.2;exact⟨⟨hv.1,g1⟩,by simp[(RC.cell hv.1).2.1,g2]⟩|_=>cases h
 |[],_::_,_,_,h=>h.elim|_::_,[],_,_,h=>h.elim
theorem EN{f:Nat}{cap:List cq}(h:dn E wk ctx s2 row dst nx (.makeFunc f cap) K=some r):eB ρ B B' s2 s (.makeFunc f cap) row dst p K r:=by obtain⟨cs,hc,h⟩:=aE h;obtain⟨vs,h1,h2⟩:=bg hc;obtain⟨g1,g2⟩:=Av h2 (qa cr h1);exact .pure hm ht hB (λ_ _=>by simp only[cy.run,g2,kp]) (v:=.fL f cs) ⟨_,rfl,g1⟩ h
end
section
variable{α:Type}{ρ:bF}{B B':Nat}{s2:S2}{s:St}{op:cy}{row dst p nx:Nat}{K:iA->Option α}{r:α}{E:ai}{wk:Wk}{ctx:Nat}
def qb:∀(a b:List (Nat×Nat×Option E2))(m:List (Tr E2)),gG m (a++b)=gG (gG m a) b|[],_,_=>rfl|(lv,sl,e)::r,b,m=>by simp[pt,gG,qb r b]
def sM{m:List (Tr E2)}{lv sl cV dy av:Nat}{r:SL}(h:rowOf (Cz m lv sl none) cV dy av=some r):rowOf m cV dy av=some r:=by have:=cR h;rw[kW]at this<;>simp_all[j5,Cz,rowOf]
def nU:∀{ks:List (Nat×Nat)}{m:List (Tr E2)}{lv sl av:Nat}{r:SL},rowOf (gG m (lH ks)) lv sl av=some r->rowOf m lv sl av=some r|[],_,_,_,_,_,h=>h|(a,b)::ks,m,_,_,_,_,h=>sM (nU (ks:=ks) (m:=Cz m a b none) h)
def r6{m:List (Tr E2)}{ks:List (Nat×Nat)}:fS B m (gG m (lH ks)):=λ_ _ _ r _ h=>⟨r,nU h,rfl⟩
def aec(B:Nat)(m:List (Tr E2))(lv sl:Nat):E2->Prop|.box _ _=>True|.row av _ l=>B<=av\/∃r,rowOf m lv sl av=some r/\r.l.length=l.length|.set _ _=>True
def fC{m:List (Tr E2)}{ks:List (Nat×Nat)}{lv sl:Nat}{e:E2}(h:aec B m lv sl e):fS B m (gG m (lH ks++[(lv,sl,some e)])):=by
 intro cV dy av r' hv hr;rw[qb]at hr;simp[gG]at hr;have:=cR hr;rw[kW]at this;split at this;.simp_all;rcases h with h|⟨r,h1,h2⟩<;>grind
 .exact⟨r',nU (gX.2 this),rfl⟩
def jJ{mf:List (Tr E2)}:∀{m:List (Tr bM)}{ks:List (Nat×Nat)},aI (Qc ρ B mf) (lH ks) (eR m ks)|_,[]=>trivial|m,k::ks=>⟨⟨rfl,rfl,λ_ h=>by cases h⟩,jJ (m:=m) (ks:=ks)⟩
def fD{mf:List (Tr E2)}{lv sl:Nat}{e2:E2}{e:bM}(h:RE ρ B mf e2 e):aI (Qc ρ B mf) [(lv,sl,some e2)] [(lv,sl,some e)]:=⟨⟨rfl,rfl,λx hx=>by simp_all⟩,trivial⟩
def FY{mf:List (Tr E2)}:∀{HL:List (Nat×Nat×Option E2)}{us:List (Nat×Nat×Option bM)},aI (Qc ρ B mf) HL us->bn ρ (HL.map λu=>cF u.1 u.2.1) (us.map λu=>cF u.1 u.2.1)|[],[],_=>bn.nil|(a,b,c)::r2,(a',b',c')::r,h=>by obtain⟨⟨h1,h2,_⟩,h4⟩:=h;subst h1 h2;exact bn.ke _ _ (FY h4)|[],_::_,h=>h.elim|_::_,[],h=>h.elim
def bn.C0{a b:List (Nat×Nat×Nat)}{v u:Nat}(hu:ρ v=some u)(h:bn ρ a b):bn ρ (kZ v::a) (kZ u::b):=by
 intro x hx;rcases dq.1 hx with rfl|hx;.simp_all[bn,bF,KR,kZ]
 .obtain⟨y,h1,h2⟩:=h x hx<;>grind
def bn.skip{a b:List (Nat×Nat×Nat)}{k:Nat×Nat×Nat}(h:bn ρ a b):bn ρ (k::a) b:=λx hx=>by obtain⟨y,h1,h2⟩:=h x hx<;>grind
def pF.gR(hm:MR ρ B s2.mem s.mem)(ht:TR ρ B s2.aO s.aO)(hB:B<=B'){HL:List (Nat×Nat×Option E2)}{us:List (Nat×Nat×Option bM)}{v:V2}{a:AV}{Tk rd:List (Nat×Nat×Nat)}(hst:fS B s2.mem (gG s2.mem HL))(hu:aI (Qc ρ B' (gG s2.mem HL)) HL us)(hv:RV ρ B' (gG s2.mem HL) v a)(hr:bn ρ Tk rd):pF ρ B B' s2 s {val:=v,dD:=HL,cT:=[],rd:=Tk} {val:=a,dD:=us,cT:=[],rd:=rd}:=⟨hv,hm.dD hB hst hu,ht.up hB,hst,hr,by exact(FY hu).append bn.nil⟩
def nV{m:List (Tr E2)}:RV ρ B m (.jU []) kI:=⟨[],rfl,trivial⟩
variable(hm:MR ρ B s2.mem s.mem)(ht:TR ρ B s2.aO s.aO)(cr:vS ρ B s2.mem s2.slots s.slots)(hB:B<=nx)(gv:ρ nx=some p)
include hm ht hB gv
theorem y9{lq d:Nat}{cs:List Cell}{aU:List AV}(hc:aI (RC ρ B s2.mem) cs aU)(hrun:∀call sh,op.run call sh s row dst p=some (.cu {val:=.ptr lq d p 0 0,dD:=[(lq,d,some (.box p aU))],cT:=[],rd:=[]}))(h:K (.cu {val:=.c (.ptr lq d nx 0 0),dD:=[(lq,d,some (.box nx cs))],cT:=[],rd:=[]})=some r):eB ρ B (nx+1) s2 s op row dst p K r:=by have hst:fS B s2.mem (gG s2.mem [(lq,d,some (.box nx cs))]):=fC (ks:=[]) (e:=.box nx cs) trivial;refine⟨_,_,hrun,.gR hm ht (by omega) hst (fD ⟨by omega,p,aU,gv,rfl,hc.mono λ_ _=>RC.move hst (by omega) λ_ _=>rfl⟩) (v:=.c (.ptr lq d nx 0 0)) ⟨by omega,p,gv,rfl⟩ bn.nil,h⟩
theorem MI{z:List AV}(h:dn E wk ctx s2 row dst nx (.alloc z) K=some r):eB ρ B (nx+1) s2 s (.alloc z) row dst p K r:=by obtain⟨cs,hc,h⟩:=aE h;rw[hm.len]at h;exact y9 hm ht hB gv (xN hc) (λ_ _=>rfl) h
include cr in theorem Tt{x:cq}(h:dn E wk ctx s2 row dst nx (.box x) K=some r):eB ρ B (nx+1) s2 s (.box x) row dst p K r:=by
 obtain⟨cs,hc,h⟩:=aE h;obtain⟨v,hv,h1⟩:=bg hc;obtain⟨aU,g1,g2⟩:=xO h1 (bx cr hv);rw[hm.len]at h;split at h;.rename_i hb;exact y9 hm ht hB gv g2 (λ_ _=>by simp only[cy.run,hb,g1,cf]) h
 .rename_i hb;exact y9 hm ht hB gv g2 (λ_ _=>by simp only[cy.run,hb,g1,cf]) h
omit gv hB ht in theorem JV{sz:Nat}{pc:Cell}{a:AV}{K:List Cell->Option α}(h:On s2.mem sz pc K=some r)(hp:RC ρ B s2.mem pc a):∃cs aU,sK s.mem sz a=some aU/\aI (RC ρ B s2.mem) cs aU/\K cs=some r:=by
 unfold On at h;split at h
 .rename_i lv sl av i off;obtain⟨hv,u,hu,rfl⟩:=hp;split at h
  .rename_i v cs he;split at h;.rename_i hb;simp only[ba]at hb;obtain⟨⟨JW,hi⟩,hl⟩:=hb;have JW:=bb JW;have hi:=bb hi;obtain⟨e,g1,_,u',aU,g2,rfl,g3⟩:=hm.gz _ _ _ he;simp_all;refine⟨_,(aU.drop off).take sz,?_,(g3.drop off).take sz,h⟩;simp only[sK,g1,tN];rw[be (by rw[<-g3.length];exact hl)]
   grind
  .rename_i v t l he;split at h
   .rename_i hb;simp only[ba]at hb;obtain⟨JW,hl⟩:=hb;have JW:=bb JW;obtain⟨x,hx,h⟩:=bind_some h;obtain⟨e,g1,_,u',g2,rfl⟩:=hm.gz _ _ _ he;simp_all;refine⟨_,(((fR t x).map .d).drop off).take sz,?_,((mL t x).drop off).take sz,h⟩;have:(bB t l)[i]?=some (fR t x):=by rw[CU,hx];rfl
    simp only[sK,g1,tN,this];rw[be (by rw[fh];exact hl)]<;>simp_all
   grind
  .cases h
  grind
 .rename_i t x off;split at h;.rename_i hl;have hl:=i7 hl;have e:a=_:=hp;refine⟨_,(((fR t x).map .d).drop off).take sz,?_,((mL t x).drop off).take sz,h⟩;rw[e];simp only[sK];rw[be (by rw[fh];exact hl)]<;>simp_all
  grind
 grind
omit gv in include cr in theorem Qm{sz:Nat}{agg:Bool}{x:cq}(h:dn E wk ctx s2 row dst nx (.load sz agg x) K=some r):eB ρ B (nx+1) s2 s (.load sz agg x) row dst p K r:=by obtain⟨pc,hx,h⟩:=cI h;have hx:=bx cr hx;obtain⟨cs,aU,g1,g2,h⟩:=JV hm h hx;obtain⟨v,hv,h⟩:=aE h;obtain⟨a,g3,g4⟩:=CT hv g2;exact⟨_,_,λ_ _=>by simp only[cy.run,g1,g3,ae,cf],.yZ hm ht (by omega) g4 (uV hx),h⟩
omit hm ht hB gv in theorem xQ{ks:List (Nat×Nat)}{lv sl:Nat}(h:CF ks lv sl=false):¬(lv,sl)∈ks:=by
 intro hk;have:CF ks lv sl=true:=by simp_all[CF]
 grind
omit hm ht hB gv in theorem qx:∀(t:Ty)(x:t.den),cB (jD t x)=some (fR t x)|.val,v=>by cases v;simp[jD,cB,pE,fR,Mv,jC.kind,jC.int,jC.text,jC.list,jC.cut,bB,qT]|.int _,_=>rfl|.bool,_=>rfl|.str,_=>rfl|.sl _,_=>rfl|.unit,_=>rfl|.prod a b,x=>nG (qx a x.1) (qx b x.2)|.sum _ _,_=>rfl
omit hm ht hB gv in theorem qy:∀{cs:List Cell}{ds:List D},cB cs=some ds->ds.length=cs.length|[],ds,h=>by cases h;rfl|c::r,ds,h=>by obtain⟨x,xs,h1,h2,rfl⟩:=iu h;simp[qy h2]
omit hm ht hB gv in theorem tQ:∀{cs:List Cell}{ds:List D}(n:Nat),cB cs=some ds->cB (cs.take n)=some (ds.take n)|_,_,0,_=>by simp[cB]|[],ds,n+1,h=>by cases h;rfl|c::r,ds,n+1,h=>by obtain⟨x,xs,h1,h2,rfl⟩:=iu h;simp[List.take_succ_cons,cB,h1,tQ n h2]
omit hm ht hB gv in theorem tR:∀{cs:List Cell}{ds:List D}(n:Nat),cB cs=some ds->cB (cs.drop n)=some (ds.drop n)|_,_,0,h=>by grind|[],ds,n+1,h=>by cases h;rfl|c::r,ds,n+1,h=>by obtain⟨x,xs,h1,h2,rfl⟩:=iu h;simpa using tR n h2
omit hm ht hB gv in theorem EO{cs new:List Cell}{ds ds':List D}(h:cB cs=some ds)(h':cB new=some ds')(off:Nat):cB (bS.splice cs off new)=some (bS.splice ds off ds'):=by unfold bS.splice;rw[qy h'];exact nG (nG (tQ off h) h') (tR _ h)
omit gv in theorem Qn{sz:Nat}{pc:Cell}{new:List Cell}{a v:AV}{aU:List AV}(h:Mx s2.mem sz pc new K=some r)(hp:RC ρ B s2.mem pc a)(hv:cellsOf v=some aU)(hn:aI (RC ρ B s2.mem) new aU):∃E e,rM s.mem sz a v=some e/\pF ρ B (nx+1) s2 s E e/\K (.cu E)=some r:=by
 unfold Mx at h;split at h
 .rename_i lv sl av i off hz;have hz:=bb hz;rw[hn.length]at hz;obtain⟨EE,u,hu,rfl⟩:=hp;split at h
  .rename_i vv cs he;split at h;.rename_i hb;simp only[ba]at hb;obtain⟨⟨JW,hi⟩,hl⟩:=hb;have JW:=bb JW;have hi:=bb hi;have hl:=i7 hl;subst JW hi;obtain⟨e,g1,_,u',bs,g2,rfl,g3⟩:=hm.gz _ _ _ he;rw[hu]at g2;cases g2;have hst:fS B s2.mem (gG s2.mem [(lv,sl,some (.box vv (bS.splice cs off new)))]):=fC (ks:=[]) (e:=.box _ _) trivial;refine⟨_,_,?_,.gR hm ht (B':=nx+1) (by omega) hst (fD (e:=.box u (bS.splice bs off aU)) ⟨by omega,u,_,hu,rfl,(y7 g3 hn off).mono λ_ _=>RC.move hst (by omega) λ_ _=>rfl⟩) nV (bn.ke lv sl bn.nil),h⟩;simp only[rM,hv,g1,tN];rw[be hz,be (by rw[<-g3.length];exact hl)]
   grind
  .rename_i vv t l he;split at h
   .rename_i new' ks hb hf;simp only[ba]at hb;obtain⟨JW,hl⟩:=hb;have JW:=bb JW;have hl:=i7 hl;subst JW;split at h;.cases h
    .rename_i hk;obtain⟨x,hx,h⟩:=bind_some h;obtain⟨y,hy,h⟩:=aE h;obtain⟨e,g1,_,u',g2,rfl⟩:=hm.gz _ _ _ he;rw[hu]at g2;cases g2;obtain⟨ds,g3,g4⟩:=MD hm hf hn;have hy:=qU hy (EO (qx t x) g4 off);have hrow:rowOf s2.mem lv sl vv=some ⟨t,l⟩:=gX.2 he;have hst:fS B s2.mem (gG s2.mem (lH ks++[(lv,sl,some (.row vv t (l.set i y)))])):=fC (.inr ⟨_,hrow,by simp⟩);refine⟨_,_,?_,.gR hm ht (B':=nx+1) (by omega) hst ((jJ (m:=s.mem)).append (fD (e:=.row u (bB t (l.set i y))) ⟨by omega,u,hu,rfl⟩)) nV (bn.ke lv sl (bn.jx ks)),h⟩;have hg:(bB t l)[i]?=some (fR t x):=by rw[CU,hx];rfl
     simp only[rM,hv,g1,tN,hg,g3];rw[be hz,be ⟨by rw[fh];exact hl,xQ hk⟩,hy];simp[bB,List.map_set]
   grind
  .cases h
  grind
 grind
omit gv in include cr in theorem MJ{sz:Nat}{x v:cq}(h:dn E wk ctx s2 row dst nx (.store sz x v) K=some r):eB ρ B (nx+1) s2 s (.store sz x v) row dst p K r:=by obtain⟨pc,hx,h⟩:=cI h;obtain⟨new,hn,h⟩:=aE h;obtain⟨w,hw,h1⟩:=bg hn;obtain⟨aU,g1,g2⟩:=xO h1 (bx cr hw);obtain⟨E',e,h2,h3,h4⟩:=Qn hm ht hB h (bx cr hx) g1 g2;exact⟨E',e,λ_ _=>by simp only[cy.run,h2,cf],h3,h4⟩
end
section
variable{α:Type}{ρ:bF}{B B':Nat}{s2:S2}{s:St}{op:cy}{row dst p nx:Nat}{K:iA->Option α}{r:α}{E:ai}{wk:Wk}{ctx:Nat}
def TR.fresh{t2 t:Tr Unit}(h:TR ρ B t2 t)(hB:B<=nx)(gv:ρ nx=some p):TR ρ (nx+1) (eO t2 [(nx,true)]) (eO t [(p,true)]):=by
 intro v hv;simp[eO,kp]at hv⊢;rw[Tr.cD]at hv;split at hv;.simp_all;rw[Tr.cD,be rfl]
 .obtain⟨h1,h2⟩:=h v hv;refine⟨by omega,λu hu=>?_⟩;rw[Tr.cD]<;>grind
def TR.ajh{t2 t:Tr Unit}(h:TR ρ B t2 t)(v:Nat):TR ρ B (t2.set v none) t:=by
 intro v' hv;rw[Tr.cD]at hv;split at hv;.cases hv
 .exact h v' hv
def TR.drop{t2 t:Tr Unit}(h:TR ρ B t2 t)(hinj:∀v v' u,ρ v=some u->ρ v'=some u->v=v'){v u:Nat}(hu:ρ v=some u):TR ρ B (t2.set v none) (t.set u none):=by
 intro v' hv;rw[Tr.cD]at hv;split at hv;.cases hv
 .refine⟨(h v' hv).1,λu' mq=>?_⟩;rw[Tr.cD];split;.grind
  .exact(h v' hv).2 u' mq
def fE{a t:Ty}{l:List a.den}{l':List t.den}(h:j9 a t l=some l'):bB a l=bB t l'/\l.length=l'.length:=by obtain⟨e,he⟩:=CO h<;>grind
def mN{n b:Nat}(h:room n b=true):n<=fN/\n*b<=kP:=by simpa[room]using h
def FZ{m:List (Tr E2)}{mm:List (Tr bM)}(hm:MR ρ B m mm){x:Cell}{a:AV}{e:Option Ty}{K:SL->Option α}(h:p6 m x e K=some r)(hx:RC ρ B m x a)(hne:∀b,x≠.str b):∃els,dQ mm a=some els:=by
 unfold p6 at h;split at h;.exact⟨_,(jk hx).1⟩
 .exact⟨_,(iD hx).1⟩
 .obtain⟨r',hr,h⟩:=aE h;exact⟨_,nH hm hx hr⟩
 .obtain⟨r',hr,h⟩:=aE h;have q:=cC h;obtain⟨hl,h⟩:=q;exact⟨_,kz hm hx hr (dE hl)⟩
 .grind
 grind
variable(hm:MR ρ B s2.mem s.mem)(ht:TR ρ B s2.aO s.aO)(cr:vS ρ B s2.mem s2.slots s.slots)(hB:B<=nx)(gv:ρ nx=some p)(hinj:∀v v' u,ρ v=some u->ρ v'=some u->v=v')
include hm ht hB gv
omit ht in theorem pF.C1{t:Ty}{l:List t.den}{els:List (List D)}{Tk rd:List (Nat×Nat×Nat)}{tp2 tp:List (Nat×Bool)}(he:els=bB t l)(hr:bn ρ Tk rd)(htp:TR ρ (nx+1) (eO s2.aO tp2) (eO s.aO tp))(hw:bn ρ (tp2.map λu=>kZ u.1) (tp.map λu=>kZ u.1)):pF ρ B (nx+1) s2 s {val:=.c (.sl t l (.app nx)),dD:=[],cT:=tp2,rd:=Tk} {val:=.own els (.cT p t.size),dD:=[],cT:=tp,rd:=rd}:=by subst he;exact⟨⟨by omega,.inr ⟨p,gv,rfl⟩⟩,hm.mono (by omega),htp,fS.refl _ _,hr,by simpa[Jx.wr,gu.wr]using hw⟩
theorem pF.r7{t:Ty}{l:List t.den}{els:List (List D)}{n lv sl:Nat}{ks:List (Nat×Nat)}{Tk rd:List (Nat×Nat×Nat)}(he:els=bB t l)(hn:n=l.length)(hr:bn ρ Tk rd):pF ρ B (nx+1) s2 s {val:=.c (.ref lv sl nx t),dD:=lH ks++[(lv,sl,some (.row nx t l))],cT:=[],rd:=Tk} {val:=.ref lv sl p 0 n t.size,dD:=eR s.mem ks++[(lv,sl,some (.row p els))],cT:=[],rd:=rd}:=by
 subst he hn;refine .gR hm ht (by omega) (fC (.inl hB)) (jJ.append (fD ⟨by omega,p,gv,rfl⟩)) ⟨by omega,p,l.length,gv,rfl,λr' hr'=>?_⟩ hr;rw[qb]at hr';simp[gG]at hr';have:=cR hr';rw[kW]at this;split at this;.grind
 .have h1:=nU (gX.2 this);obtain⟨e,_,hlt,_⟩:=hm.gz _ _ _ (cR h1)<;>omega
include hinj in theorem HO{aed:Bool}{lv sl sz bytes:Nat}{x y:Cell}{a b:AV}{e:Option Ty}(h:P8 s2 aed lv sl nx sz bytes x y e K=some r)(hx:RC ρ B s2.mem x a)(hy:RC ρ B s2.mem y b):∃E e,eg s aed lv sl p sz bytes a b=some e/\pF ρ B (nx+1) s2 s E e/\K (.cu E)=some r:=by
 unfold P8 at h;have R8:=uV hy;split at h
 .obtain⟨n,hn,h⟩:=lI hm h hy;split at h
  .rename_i hz;have hz:=bb hz;have q:=cC h;obtain⟨hr,h⟩:=q;have hr:=mN hr;cases hx;split at h;.refine⟨_,_,?_,.C1 hm hB gv (l:=n.l) (els:=[]++bB n.t n.l) rfl R8 (ht.fresh hB gv) (bn.C0 gv bn.nil),h⟩;simp only[eg,<-hz,hn,gY,kp,wy,m7,m9,bA];rw[be ⟨trivial,hr.1,hr.2⟩]
   .refine⟨_,_,?_,.r7 hm ht hB gv (ks:=[]) (els:=[]++bB n.t n.l) rfl rfl R8,h⟩;simp only[eg,<-hz,hn,gY,kp,wy,m7,m9,bA];rw[be ⟨trivial,hr.1,hr.2⟩];simp[eR]
  .cases h
 .rename_i t l;have q:=lI hm h hy;obtain⟨n,hn,h⟩:=q;split at h
  .rename_i news hz hc;have hz:=bb hz;obtain⟨hc,_⟩:=fE hc;rw[hc]at hn;have q:=cC h;obtain⟨hr,h⟩:=q;have hr:=mN hr;cases hx;split at h;.refine⟨_,_,?_,.C1 hm hB gv (l:=l++news) (els:=bB t l++bB t news) (nT ..).symm R8 (ht.fresh hB gv) (bn.C0 gv bn.nil),h⟩;simp only[eg,<-hz,hn,gY,kp,bA];rw[be ⟨trivial,hr.1,hr.2⟩]
   .obtain⟨hne,h⟩:=cC h;refine⟨_,_,?_,.r7 hm ht hB gv (ks:=[]) (l:=l++news) (n:=l.length+news.length) (els:=bB t l++bB t news) (nT ..).symm (by simp) R8,h⟩;simp only[eg,<-hz,hn,gY,kp,bA];rw[be ⟨trivial,hr.1,hr.2⟩,bi (by
    intro hc;have h1:l.isEmpty=false:=by simpa[bB]using hc.1
    have h2:news.isEmpty=true:=by simpa[bB]using hc.2
    rw[h1,h2]at hne;cases hne)];simp[eR]
  .cases h
 .rename_i t l v;have q:=lI hm h hy;obtain⟨n,hn,h⟩:=q;cases hz:Nat.beq t.size sz with|false=>simp[hz]at h|true=>cases hc:j9 n.t t n.l with|none=>simp[hz,hc]at h|some news=>cases aed with|true=>simp[hz,hc]at h|false=>cases htip:s2.aO.get? v with|none=>simp[hz,hc,htip]at h|some un=>
  simp[hz,hc,htip]at h
  .have hz:=bb hz;obtain⟨hc,_⟩:=fE hc;rw[hc]at hn;have q:=cC h;obtain⟨hr,h⟩:=q;have hr:=mN hr;rcases hx with⟨hv,⟨hu,rfl⟩|⟨u,hu,rfl⟩⟩;.refine⟨_,_,?_,.C1 hm hB gv (l:=l++news) (els:=bB t l++bB t news) (tp2:=[(v,false),(nx,true)]) (tp:=[(p,true)]) (nT ..).symm R8.skip (TR.fresh (ht.ajh v) hB gv) (bn.skip (bn.C0 gv bn.nil)),h⟩;simp only[eg,<-hz,hn,gY,kp,bA];rw[be ⟨trivial,hr.1,hr.2⟩]
   .refine⟨_,_,?_,.C1 hm hB gv (l:=l++news) (els:=bB t l++bB t news) (tp2:=[(v,false),(nx,true)]) (tp:=[(u,false),(p,true)]) (nT ..).symm (bn.C0 hu R8) (TR.fresh (ht.drop hinj hu) hB gv) (bn.C0 hu (bn.C0 gv bn.nil)),h⟩;have:=(ht v htip).2 u hu;simp only[eg,<-hz,hn,gY,kp,bA];rw[be ⟨trivial,hr.1,hr.2,by rw[this];rfl⟩]
 .rename_i cV dy av t;have q:=aE h;obtain⟨r',hr',h⟩:=q;have q:=lI hm h hy;obtain⟨n,hn,h⟩:=q;split at h;.rename_i l news hz hc1 hc;have hz:=bb hz;obtain⟨hc,_⟩:=fE hc;obtain⟨hc1,qD⟩:=fE hc1;rw[hc]at hn;have q:=cC h;obtain⟨hr,h⟩:=q;have hr:=mN hr;obtain⟨hv,u,n',hu,rfl,hn'⟩:=hx;have hn':=hn' _ hr';rw[qD]at hn';subst hn';have hrow:=(jG hm hr' hu).2;rw[hc1]at hrow;refine⟨_,_,?_,.r7 hm ht hB gv (ks:=[]) (l:=l++news) (n:=l.length+news.length) (els:=bB t l++bB t news) (nT ..).symm (by simp) (bn.ke cV dy R8),h⟩;simp only[eg,<-hz,hn,gY,kp,hrow,bA];rw[be ⟨trivial,by omega,hr.1,hr.2⟩];simp[eR,f8,bA]
  .cases h
 .rename_i cV dy av t off len;have q:=aE h;obtain⟨r',hr',h⟩:=q;have q:=lI hm h hy;obtain⟨n,hn,h⟩:=q;split at h;.rename_i l news hz hc1 hc;have hz:=bb hz;obtain⟨hc,_⟩:=fE hc;obtain⟨hc1,qD⟩:=fE hc1;rw[hc]at hn;have q:=cC h;obtain⟨hr,h⟩:=q;rw[ba]at hr;have hl:=dE hr.1;have hr:=mN hr.2;obtain⟨hv,u,hu,rfl,_⟩:=hx;have hrow:=(jG hm hr' hu).2;rw[hc1]at hrow;refine⟨_,_,?_,.r7 hm ht hB gv (ks:=[]) (l:=(l.drop off).take len++news) (n:=len+news.length) (els:=((bB t l).drop off).take len++bB t news) (by simp[bB,sT,wa]) (by simp;omega) (bn.ke cV dy R8),h⟩;simp only[eg,<-hz,hn,gY,kp,hrow,bA];rw[be ⟨trivial,hl,hr.1,hr.2⟩];simp[eR]
  .cases h
 .cases h
theorem ZV{sz:Nat}{x:Cell}{a:AV}{lo hi:Option Nat}(h:adY s2.mem sz nx x lo hi K=some r)(hx:RC ρ B s2.mem x a)(l h':Nat)(hl:l=lo.getD 0)(hh:∀n,hi=some n->h'=n):∃E e,I0 s p sz a l (hi.map λ_=>h')=some e/\pF ρ B (nx+1) s2 s E e/\K (.cu E)=some r:=by
 have ehi:hi.map (λ_=>h')=hi:=by cases hi with|none=>rfl|some n=>grind
 rw[ehi];subst hl;unfold adY at h;split at h
 .rename_i lv sl av t;have q:=aE h;obtain⟨r',hr',h⟩:=q;split at h
  .rename_i l' hz hc1;have hz:=bb hz;obtain⟨hc1,qD⟩:=fE hc1;have q:=cC h;obtain⟨hp,h⟩:=q;have yR:=jI hp;obtain⟨hv,u,n',hu,rfl,hn'⟩:=hx;have hn':=hn' _ hr';rw[qD]at hn';subst hn';have hrow:=(jG hm hr' hu).2;rw[hc1]at hrow;have he:=y8 (t:=t) hp;rw[bA]at he;refine⟨_,_,?_,.r7 hm ht hB gv (ks:=[]) (l:=p8 l' lo hi) (n:=hi.getD l'.length-lo.getD 0) (els:=((bB t l').drop (lo.getD 0)).take (hi.getD l'.length-lo.getD 0)) he.symm ?_ (bn.ke lv sl bn.nil),h⟩;.simp only[I0,hrow,<-hz];rw[be ⟨trivial,yR.1,yR.2,by rw[bA];omega⟩];simp[eR]
   .rw[CZ hp,io,ol];omega
  grind
 grind
omit hm ht hB gv in theorem RC.ou{m:List (Tr E2)}{c:Cell}{a:AV}(h:RC ρ B m c a):bS.ou a=c.ou:=by cases c with
 |nil f=>cases f with|false=>rcases h with rfl|⟨_,_,rfl⟩<;>rfl|true=>cases h;rfl
 |sl t l o=>cases o with|d=>rcases h with rfl|⟨_,_,rfl⟩<;>rfl|aY=>rcases h with rfl|⟨_,rfl⟩<;>rfl|full=>cases h;rfl|app v=>rcases h.2with⟨_,rfl⟩|⟨_,_,rfl⟩<;>rfl
 |ref=>obtain⟨_,_,_,_,rfl,_⟩:=h;rfl|ku=>obtain⟨_,_,_,rfl,_⟩:=h;rfl|ptr=>obtain⟨_,_,_,rfl⟩:=h;rfl|fX=>obtain⟨_,_,_,rfl⟩:=h;rfl|mp=>obtain⟨_,_,_,rfl⟩:=h;rfl|int=>cases h;rfl|bool=>cases h;rfl|er=>cases h;rfl|str=>cases h;rfl|raw=>cases h;rfl|gw=>cases h;rfl
include cr in theorem MK{sz:Nat}{x:cq}{lo hi mx:Option cq}(h:dn E wk ctx s2 row dst nx (.slice sz x lo hi mx) K=some r):eB ρ B (nx+1) s2 s (.slice sz x lo hi mx) row dst p K r:=by
 have q:=cI h;obtain⟨c,hx,h⟩:=q;have q:=qW cr h;obtain⟨l,el,il,h⟩:=q;have q:=qW cr h;obtain⟨h',eh,ih,h⟩:=q;have q:=qW cr h;obtain⟨k,ek,ik,h⟩:=q;have e1:hi.map (λ_=>h'.getD 0)=h'.map λ_=>h'.getD 0:=by cases hi<;>cases h'<;>simp_all
 have e2:mx.map (λ_=>k.getD 0)=k.map λ_=>k.getD 0:=by cases mx<;>cases k<;>simp_all
 have hir:=RC.ou (bx cr hx);split at h;.rename_i hq;rw[<-hir]at hq;obtain⟨E',e,g1,g2,g3⟩:=ZV hm ht hB gv h (bx cr hx) (l.getD 0) (h'.getD 0) rfl (λn e=>by rw[e];rfl);exact⟨E',e,λ_ _=>by simp only[cy.run,el,eh,ek,hq,e1,g1,cf],g2,g3⟩
 .rename_i hq;rw[<-hir]at hq;obtain⟨a',c',g1,g2,g3⟩:=Qg h (bx cr hx) (l.getD 0) (h'.getD 0) (k.getD 0) rfl (λn e=>by rw[e];rfl) (λn e=>by rw[e];rfl);refine .pure hm ht (by omega) (a:=a') (λ_ _=>?_) (v:=.c c') g2 g3;simp[cy.run,el,eh,ek,hq,e1,e2,g1,ae]
include hinj cr in theorem JX{sz bytes:Nat}{x y:cq}(h:dn E wk ctx s2 row dst nx (.append sz bytes x y) K=some r):eB ρ B (nx+1) s2 s (.append sz bytes x y) row dst p K r:=by have q:=cI h;obtain⟨a,ha,h⟩:=q;have q:=cI h;obtain⟨b,hb,h⟩:=q;rw[hm.len]at h;obtain⟨E',e,h1,h2,h3⟩:=HO hm ht hB gv hinj h (bx cr ha) (bx cr hb);exact⟨E',e,λ_ _=>by simp only[cy.run,h1,cf],h2,h3⟩
include hinj cr in theorem HP{sz bytes:Nat}{z:List D}{x n:cq}(h:dn E wk ctx s2 row dst nx (.pU sz bytes z x n) K=some r):eB ρ B (nx+1) s2 s (.pU sz bytes z x n) row dst p K r:=by
 have q:=cI h;obtain⟨a,ha,h⟩:=q;have q:=mM h;obtain⟨kl,l',hl,hl0,h⟩:=q;have q:=aE h;obtain⟨t,_,h⟩:=q;have q:=aE h;obtain⟨z',L6,h⟩:=q;obtain⟨zc,R6,hz2⟩:=bg L6;have hze:=qU hz2 (qV R6);split at h;.rename_i hb;simp only[ba]at hb;have h2:=bb hb.2;have q:=cC h;obtain⟨hr,h⟩:=q;have hr:=mN hr;rw[hm.len]at h;have hb:RC ρ B s2.mem (.sl t (List.replicate l'.toNat z') .d) (.d (.sl (List.replicate l'.toNat z))):=.inl (by simp[bB,hze]);obtain⟨E',e,h3,h4,h5⟩:=HO hm ht hB gv hinj h (bx cr ha) hb;exact⟨E',e,λ_ _=>by simp only[cy.run,jH (bx cr hl) hl0,ae];rw[be ⟨h2,hr.1,hr.2⟩,h3,cf],h4,h5⟩
 grind
include hinj cr in theorem ML{sz bytes:Nat}{x:cq}(h:dn E wk ctx s2 row dst nx (.clone sz bytes x) K=some r):eB ρ B (nx+1) s2 s (.clone sz bytes x) row dst p K r:=by
 have q:=cI h;obtain⟨b,hb,h⟩:=q;have hb:=bx cr hb;split at h;.cases h
 .rename_i hne;rw[hm.len]at h;have he:∃els,dQ s.mem (x.ev s.slots)=some els:=by unfold P8 at h;exact FZ hm h hb (λb' e=>hne b' e)
  obtain⟨els,he⟩:=he;obtain⟨E',e,h1,h2,h3⟩:=HO hm ht hB gv hinj h (show RC ρ B s2.mem (.nil true) (.own [] .full)from rfl) hb;exact⟨E',e,λ_ _=>by simp only[cy.run,he,h1,cf],h2,h3⟩
omit gv hm ht hB in theorem F0{t:Ty}:∀l:List t.den,aI (RC ρ B s2.mem) (l.flatMap (jD t)) (((l.map (fR t)).flatten).map .d)|[]=>trivial|x::l=>by simp only[eQ,gc,pj,fx];exact(mL t x).append (F0 l)
omit gv in include cr in theorem Qo{sz:Nat}{x y:cq}(h:dn E wk ctx s2 row dst nx (.copy sz x y) K=some r):eB ρ B (nx+1) s2 s (.copy sz x y) row dst p K r:=by
 have q:=cI h;clear h;obtain⟨a,ha,h⟩:=q;have q:=cI h;clear h;obtain⟨b,hb,h⟩:=q;have ha:=bx cr ha;have hb:=bx cr hb;have R8:=uV hb;split at h
 .rename_i lv sl av t _;have q:=aE h;obtain⟨r',hr',h⟩:=q;have q:=lI hm h hb;obtain⟨n,hn,h⟩:=q;split at h;.rename_i l news hz hc1 hc;have hz:=bb hz;obtain⟨hc,_⟩:=fE hc;obtain⟨hc1,qD⟩:=fE hc1;rw[hc]at hn;obtain⟨hv,u,n',hu,ea,hn'⟩:=ha;have hn':=hn' _ hr';rw[qD]at hn';subst hn';have hrow:=(jG hm hr' hu).2;rw[hc1]at hrow;have hst:fS B s2.mem (gG s2.mem [(lv,sl,some (.row av t (CB news l)))]):=fC (ks:=[]) (.inr ⟨_,hr',by simp[CB,qD];omega⟩);refine⟨_,_,λ_ _=>?_,.gR hm ht (by omega) hst (fD (e:=.row u (bB t (CB news l))) ⟨by omega,u,hu,rfl⟩) (v:=.c (.int .i64 ((min news.length l.length:Nat):Int))) (a:=qF (min news.length l.length)) (show _=_ from rfl) (bn.ke lv sl R8),h⟩;simp[cy.run,<-hz,ea,hn,hrow,gY,bA];simp[CB,bS.splice,bB,sT,wa]
  grind
 .rename_i lv sl av t off len _;have q:=aE h;obtain⟨r',hr',h⟩:=q;have q:=lI hm h hb;obtain⟨n,hn,h⟩:=q;split at h;.rename_i l news hz hc1 hc;have hz:=bb hz;obtain⟨hc,_⟩:=fE hc;obtain⟨hc1,qD⟩:=fE hc1;rw[hc]at hn;have q:=cC h;obtain⟨hl,h⟩:=q;have hl:=dE hl;obtain⟨hv,u,hu,ea⟩:=ha;have hrow:=(jG hm hr' hu).2;rw[hc1]at hrow;have hst:fS B s2.mem (gG s2.mem [(lv,sl,some (.row av t (l.take off++(news.take (min news.length len)++l.drop (off+(news.take (min news.length len)).length)))))]):=fC (ks:=[]) (.inr ⟨_,hr',by simp[qD];omega⟩);refine⟨_,_,λ_ _=>?_,.gR hm ht (by omega) hst (fD (e:=.row u (bB t (l.take off++(news.take (min news.length len)++l.drop (off+(news.take (min news.length len)).length))))) ⟨by omega,u,hu,rfl⟩) (v:=.c (.int .i64 ((min news.length len:Nat):Int))) (a:=qF (min news.length len)) (show _=_ from rfl) (bn.ke lv sl R8),h⟩;simp only[cy.run,<-hz,ea,hn,hrow,gY,bA];rw[be ⟨trivial,hl,trivial⟩];simp[bS.splice,bB,sT,wa]
  grind
 .rename_i lv sl av off n sz' _;obtain⟨EE,u,hu,ea⟩:=ha;split at h
  .rename_i v cs he;have q:=lI hm h hb;clear h;obtain⟨nw,hn,h⟩:=q;split at h
   .rename_i hq;simp only[ba]at hq;obtain⟨⟨⟨JW,R6⟩,hl⟩,hz⟩:=hq;have JW:=bb JW;have R6:=bb R6;have hl:=i7 hl;have hz:=bb hz;subst JW R6;obtain⟨e,g1,_,u',bs,g2,rfl,g3⟩:=hm.gz _ _ _ he;rw[hu]at g2;cases g2;have hst:fS B s2.mem (gG s2.mem [(lv,sl,some (.box v (bS.splice cs off ((nw.l.take (min nw.l.length n)).flatMap (jD nw.t)))))]):=fC (ks:=[]) (e:=.box _ _) trivial;have B3:aI (RC ρ B s2.mem) ((nw.l.take (min nw.l.length n)).flatMap (jD nw.t)) ((((bB nw.t nw.l).take (min (bB nw.t nw.l).length n)).flatten).map .d):=by rw[bA];unfold bB;rw[<-sT];exact F0 _
    refine⟨_,_,λ_ _=>?_,.gR hm ht (B':=nx+1) (by omega) hst (fD (e:=.box u (bS.splice bs off ((((bB nw.t nw.l).take (min (bB nw.t nw.l).length n)).flatten).map .d))) ⟨by omega,u,_,hu,rfl,(y7 g3 B3 off).mono λ_ _=>RC.move hst (by omega) λ_ _=>rfl⟩) (v:=.c (.int .i64 ((min nw.l.length n:Nat):Int))) (a:=qF (min nw.l.length n)) (show _=_ from rfl) (bn.ke lv sl R8),h⟩;have arp:bS.pV s.mem lv sl u=some bs:=by simp[bS.pV,g1,tN]
    simp only[cy.run,ea,hn,arp];rw[be ⟨trivial,by rw[<-g3.length];exact hl,by rw[<-hz];exact gY _ _⟩,bA]
   grind
  grind
 grind
include cr in theorem C2{sz bytes:Nat}{z:List D}{l c:cq}(h:dn E wk ctx s2 row dst nx (.makeSlice sz bytes z l c) K=some r):eB ρ B (nx+1) s2 s (.makeSlice sz bytes z l c) row dst p K r:=by
 simp[dn]at h;have q:=mM h;clear h;obtain⟨kl,l',hl,hl0,h⟩:=q;have q:=mM h;clear h;obtain⟨kc,c',hc,hc0,h⟩:=q;have q:=aE h;clear h;obtain⟨t,_,h⟩:=q;have q:=aE h;clear h;obtain⟨z',L6,h⟩:=q;obtain⟨zc,R6,hz2⟩:=bg L6;have hze:=qU hz2 (qV R6);split at h;.rename_i hb;simp only[ba]at hb;have h1:=bb hb.1;have h2:=bb hb.2;subst h1;have q:=cC h;obtain⟨hr,h⟩:=q;rw[ba]at hr;have hle:=dE hr.1;have hr:=mN hr.2;rw[hm.len]at h;refine⟨_,_,λ_ _=>?_,.r7 hm ht hB gv (ks:=[]) (l:=List.replicate l'.toNat z') (n:=l'.toNat) (els:=List.replicate l'.toNat z) (by simp[bB,hze]) (by simp) bn.nil,h⟩;simp only[cy.run,jH (bx cr hl) hl0,jH (bx cr hc) hc0];rw[be ⟨hle,by rw[ww];exact hr.2,hr.1,h2⟩];simp[eR]
 grind
omit gv in include cr in theorem MM{sz:Nat}{z:List D}{x:cq}(h:dn E wk ctx s2 row dst nx (.clear sz z x) K=some r):eB ρ B (nx+1) s2 s (.clear sz z x) row dst p K r:=by
 have q:=cI h;obtain⟨a,ha,h⟩:=q;have ha:=bx cr ha;split at h
 .rename_i lv sl av t _;have q:=aE h;obtain⟨r',hr',h⟩:=q;have q:=aE h;obtain⟨z',L6,h⟩:=q;obtain⟨zc,R6,hz2⟩:=bg L6;have hze:=qU hz2 (qV R6);split at h;.rename_i l hb hc1;simp only[ba]at hb;have h1:=bb hb.1;have h2:=bb hb.2;obtain⟨hc1,qD⟩:=fE hc1;obtain⟨hv,u,n',hu,ea,hn'⟩:=ha;have hn':=hn' _ hr';rw[qD]at hn';subst hn';have hrow:=(jG hm hr' hu).2;rw[hc1]at hrow;have hst:fS B s2.mem (gG s2.mem [(lv,sl,some (.row av t (List.replicate l.length z')))]):=fC (ks:=[]) (.inr ⟨_,hr',by simp[qD]⟩);refine⟨_,_,λ_ _=>?_,.gR hm ht (by omega) hst (fD (e:=.row u (bB t (List.replicate l.length z'))) ⟨by omega,u,hu,rfl⟩) nV (bn.ke lv sl bn.nil),h⟩;simp only[cy.run,<-h1,ea,hrow,bA];rw[be ⟨trivial,by omega,by rw[h2,h1]⟩];simp[bS.splice,bB,hze]
  grind
 .rename_i lv sl av t off len _;have q:=aE h;obtain⟨r',hr',h⟩:=q;have q:=aE h;obtain⟨z',L6,h⟩:=q;obtain⟨zc,R6,hz2⟩:=bg L6;have hze:=qU hz2 (qV R6);split at h;.rename_i l hb hc1;simp only[ba]at hb;have h1:=bb hb.1;have h2:=bb hb.2;obtain⟨hc1,qD⟩:=fE hc1;have q:=cC h;obtain⟨hd,h⟩:=q;have hd:=dE hd;obtain⟨hv,u,hu,ea,_⟩:=ha;have hrow:=(jG hm hr' hu).2;rw[hc1]at hrow;have hst:fS B s2.mem (gG s2.mem [(lv,sl,some (.row av t (l.take off++List.replicate len z'++l.drop (off+len))))]):=fC (ks:=[]) (.inr ⟨_,hr',by simp[qD];omega⟩);refine⟨_,_,λ_ _=>?_,.gR hm ht (by omega) hst (fD (e:=.row u (bB t (l.take off++List.replicate len z'++l.drop (off+len)))) ⟨by omega,u,hu,rfl⟩) nV (bn.ke lv sl bn.nil),h⟩;simp only[cy.run,<-h1,ea,hrow,bA];rw[be ⟨trivial,hd,by rw[h2,h1]⟩];simp[bS.splice,bB,hze,sT,wa]
  grind
 grind
omit hm ht hB gv in theorem r8:∀l:List Int,tf (jm l)=some l|[]=>rfl|z::l=>by show(tf (jm l)).map (z::·)=_;rw[r8 l];rfl
omit hm ht hB gv in theorem RV.ou{m:List (Tr E2)}{v:V2}{a:AV}(h:RV ρ B m v a):bS.ou a=v.ou:=by cases v with|c c=>exact RC.ou h|agg=>obtain⟨_,rfl,_⟩:=h;rfl|fL=>obtain⟨_,rfl,_⟩:=h;rfl|jU=>obtain⟨_,rfl,_⟩:=h;rfl
omit hm ht hB gv in theorem Qp{m:List (Tr E2)}{row lv d aZ:Nat}{v:V2}{a:AV}(h:RV ρ B m v a)(h1:∀f,v≠.c (.nil f))(h2:∀t l o,v≠.c (.sl t l o)):Bf row lv d aZ a={val:=a,dD:=[],cT:=[],rd:=[]}:=by
 unfold Bf;split;.cases v with
  |c x=>cases x with|nil f=>grind|sl t l o=>grind|ref=>obtain⟨_,_,_,_,e,_⟩:=h<;>grind|ku=>obtain⟨_,_,_,e,_⟩:=h<;>grind|ptr=>obtain⟨_,_,_,e⟩:=h<;>grind|fX=>obtain⟨_,_,_,e⟩:=h<;>grind|mp=>obtain⟨_,_,_,e⟩:=h<;>grind|int=>cases h|bool=>cases h|er=>cases h|str=>cases h|raw=>cases h|gw=>cases h
  |agg=>obtain⟨_,e,_⟩:=h<;>grind|fL=>obtain⟨_,e,_⟩:=h<;>grind|jU=>obtain⟨_,e,_⟩:=h<;>grind
 .rfl
include cr in theorem Tu{x:cq}(h:dn E wk ctx s2 row dst nx (.IV x) K=some r):eB ρ B (nx+1) s2 s (.IV x) row dst p K r:=by
 have q:=aE h;obtain⟨v,hv,h⟩:=q;have hv:=bx cr hv;have hir:=RV.ou hv;split at h
 .rename_i hq;rw[<-hir]at hq;split at h
  .rename_i lv sl av t _;have q:=aE h;obtain⟨r',hr',h⟩:=q;have q:=aE h;obtain⟨l,hl,h⟩:=q;obtain⟨hc1,qD⟩:=fE hl;obtain⟨EE,u,n',hu,ea,hn'⟩:=hv;have hn':=hn' _ hr';rw[qD]at hn';subst hn';have hrow:=(jG hm hr' hu).2;rw[hc1]at hrow;rw[hm.len]at h;have hst:fS B s2.mem (gG s2.mem [(lv,sl,none),(s.mem.length-1,dst,some (.row nx t l))]):=fC (ks:=[(lv,sl)]) (e:=.row nx t l) (.inl hB);refine⟨_,_,λ_ _=>?_,.gR hm ht (B':=nx+1) (HL:=[(lv,sl,none),(s.mem.length-1,dst,some (.row nx t l))]) (us:=[(lv,sl,none),(s.mem.length-1,dst,some (.row p (bB t l)))]) (by omega) hst ⟨⟨rfl,rfl,λ_ h=>by cases h⟩,fD ⟨xi _,p,gv,rfl⟩⟩ (v:=.c (.ref (s.mem.length-1) dst nx t)) (a:=.ref (s.mem.length-1) dst p 0 l.length t.size) (show RC _ _ _ (.ref (s.mem.length-1) dst nx t) _ from⟨xi _,p,l.length,gv,rfl,λr hr=>?_⟩) (bn.ke lv sl bn.nil),h⟩;.rw[ea]at hq;simp only[cy.run,hq,ea,I1,hrow,m9,bA,List.drop_zero];rw[show Nat.ble l.length l.length=true from rh (bd _),<-bA (t:=t) (l:=l),f9];simp[bA]
   .have this:=cR hr;simp[gG]at this;rw[kW]at this;split at this;.injection this with this;injection this with _ h1 h2;obtain⟨t',l'⟩:=r;simp only at h1 h2;subst h1;cases h2;rfl
    .have h1:=sM (gX.2 this);obtain⟨e,_,hlt,_⟩:=hm.gz _ _ _ (cR h1);omega
  grind
 rename_i hq;rw[<-hir]at hq;split at h;.rename_i hq4;refine .pure hm ht (by omega) (λ_ _=>?_) hv h;simp[cy.run,hq,Bf,hq4];rfl
 .rename_i hq4;split at h
  .have e:x.ev s.slots=.own [] .full:=hv;have q:=aE h;obtain⟨t,_,h⟩:=q;split at h;.rename_i hsz;have hsz:=bb hsz;rw[hm.len]at h;refine⟨_,_,λ_ _=>?_,.r7 hm ht hB gv (ks:=[]) (l:=([]:List t.den)) (n:=0) (els:=[]) rfl rfl bn.nil,h⟩;rw[e]at hq;simp[cy.run,Bf,hq,hq4,e,hsz];rfl
   grind
  .cases h
  .cases h
  .rename_i h1 h2 h3;refine .pure hm ht (by omega) (λ_ _=>?_) hv h;simp[cy.run,hq];rw[Qp hv (λf hf=>h2 f hf) (λt l o hf=>h3 t l o hf)];rfl
include cr in theorem HQ{x:cq}(h:dn E wk ctx s2 row dst nx (.compact x) K=some r):eB ρ B (nx+1) s2 s (.compact x) row dst p K r:=by
 have q:=cI h;obtain⟨a,ha,h⟩:=q;have ha:=bx cr ha;split at h;.have e:x.ev s.slots=.own [] .full:=ha;refine .pure hm ht (by omega) (a:=.own [] .full) (λ_ _=>?_) (v:=.c (.nil true)) rfl h;simp[cy.run,nL,e,cf];rfl
 .rename_i lv sl av t _;have q:=aE h;obtain⟨r',hr',h⟩:=q;split at h;.rename_i l hb hc1;have h1:=bb hb;obtain⟨hc1,qD⟩:=fE hc1;have q:=cC h;obtain⟨hd,h⟩:=q;obtain⟨hv,u,n',hu,ea,hn'⟩:=ha;have hn':=hn' _ hr';rw[qD]at hn';subst hn';have hrow:=(jG hm hr' hu).2;rw[hc1]at hrow;refine⟨_,_,λ_ _=>?_,.r7 hm ht hB gv (ks:=[]) (t:=.int .i64) (l:=j8 l) (n:=(j8 l).length) (els:=bB (.int .i64) (j8 l)) rfl rfl (bn.ke lv sl bn.nil),h⟩;have he:bB (.int .i64) l=jm l:=rfl;simp only[cy.run,nL,ea,hrow,he,r8,ae,h1];rw[be ⟨trivial,by simp[jm],trivial,by simpa[jm]using hd⟩];rfl
  grind
 grind
omit gv in include cr in theorem Qq{x:cq}(h:dn E wk ctx s2 row dst nx (.sort x) K=some r):eB ρ B (nx+1) s2 s (.sort x) row dst p K r:=by
 have q:=cI h;obtain⟨a,ha,h⟩:=q;have ha:=bx cr ha;split at h;.have e:x.ev s.slots=.own [] .full:=ha;exact⟨_,_,λ_ _=>by simp only[cy.run,zP,e,cf],.gR (HL:=[]) (us:=[]) hm ht (by omega) (fS.refl _ _) trivial nV bn.nil,h⟩
 .rename_i lv sl av t _;have q:=aE h;obtain⟨r',hr',h⟩:=q;split at h;.rename_i l hb hc1;have h1:=bb hb;obtain⟨hc1,qD⟩:=fE hc1;have q:=cC h;obtain⟨hd,h⟩:=q;obtain⟨hv,u,n',hu,ea,hn'⟩:=ha;have hn':=hn' _ hr';rw[qD]at hn';subst hn';have hrow:=(jG hm hr' hu).2;rw[hc1]at hrow;have hst:fS B s2.mem (gG s2.mem [(lv,sl,some (.row av (.int .i64) (j7 l)))]):=fC (ks:=[]) (.inr ⟨_,hr',by rw[qD];exact(oI l).symm⟩);refine⟨_,_,λ_ _=>?_,.gR hm ht (by omega) hst (fD (e:=.row u (bB (.int .i64) (j7 l))) ⟨by omega,u,hu,rfl⟩) nV (bn.ke lv sl bn.nil),h⟩;have he:bB (.int .i64) l=jm l:=rfl;simp only[cy.run,zP,ea,hrow,he,r8,ae,h1];rw[be ⟨trivial,by simp[jm],trivial,by simpa[jm]using hd⟩];rfl
  grind
 grind
include cr in theorem Qr{sz:Nat}{x n:cq}(h:dn E wk ctx s2 row dst nx (.grow sz x n) K=some r):eB ρ B (nx+1) s2 s (.grow sz x n) row dst p K r:=by
 have q:=cI h;obtain⟨a,ha,h⟩:=q;have q:=mM h;clear h;obtain⟨kn,n',hn,hn0,h⟩:=q;have ha:=bx cr ha;split at h
 .rename_i t vg _;split at h;.rename_i hz;have hz:=bb hz;have ea:x.ev s.slots=_:=ha;refine⟨_,_,λ_ _=>?_,.C1 hm hB gv (l:=([]:List t.den)) (els:=[]) rfl bn.nil (ht.fresh hB gv) (bn.C0 gv bn.nil),h⟩;simp[cy.run,ea,jH (bx cr hn) hn0,hz]
  grind
 grind
omit ht hB gv in include cr in theorem JY{sz:Nat}:∀{ps:List (Nat×cq)}{yN OH:List (List Cell)}{els:List (List D)}{ks:List (Nat×Nat)},CC s2 sz yN ps=some (OH,ks)->aI (λc d=>cB c=some d) yN els->∃els',qH s.mem s.slots sz els ps=some (els',ks)/\aI (λc d=>cB c=some d) OH els'
 |[],yN,OH,els,ks,h,ha=>by cases h;exact⟨els,rfl,ha⟩|(i,x)::ps,yN,OH,els,ks,h,ha=>by
  simp[CC]at h;split at h
  .rename_i e k hn;obtain⟨cs,h1,h2⟩:=bg hn;obtain⟨v,hv,h3⟩:=bg h1;obtain⟨aU,g1,g2⟩:=xO h3 (bx cr hv);obtain⟨ds,g3,g4⟩:=MD hm h2 g2;split at h
   .rename_i hb;rw[ba]at hb;have hz:=bb hb.1;have hi:i<yN.length:=by simp_all
    split at h
    .rename_i els' ks' h4;cases h;have ha':aI (λc d=>cB c=some d) (yN.set i e) (els.set i ds):=by
      refine .vA (by simp[ha.length]) λj c d hc hd=>?_;rw[nn]at hc hd;by_cases hij:i=j;.grind
      .rw[bi hij]at hc hd;obtain⟨d',g5,g6⟩:=ha.get j c hc<;>grind
     obtain⟨adz,g5,g6⟩:=JY h4 ha';refine⟨adz,?_,g6⟩;simp only[qH,E4,g1,ae,g3];rw[be ⟨by rw[qy g4];exact hz,by rw[<-ha.length];exact hi⟩,g5]
    grind
   grind
  grind
omit hm ht hB gv in theorem za{t:Ty}:∀{yN:List (List Cell)}{els:List (List D)}{l:List t.den},CD t yN=some l->aI (λc d=>cB c=some d) yN els->els=bB t l
 |[],[],l,h,_=>by cases h;rfl|c::r,d::ds,l,h,ha=>by
  simp[CD]at h;split at h;.rename_i x xs h1 h2;cases h;rw[qU h1 ha.1,za h2 ha.2];rfl
  grind|[],_::_,_,_,h=>h.elim|_::_,[],_,_,h=>h.elim
omit hm ht hB gv in theorem tS{β γ:Type}{R:β->γ->Prop}{x:β}{y:γ}(h:R x y):∀n,aI R (List.replicate n x) (List.replicate n y)|0=>trivial|n+1=>⟨h,tS h n⟩
include cr in theorem Bm{sz n:Nat}{z:List D}{ps:List (Nat×cq)}(h:dn E wk ctx s2 row dst nx (.buildSlice sz n z ps) K=some r):eB ρ B (nx+1) s2 s (.buildSlice sz n z ps) row dst p K r:=by simp[dn]at h;cases qv:Nat.beq row 2with|true=>
  rw[qv]at h;simp at h;split at h;.cases h
  rename_i hn;obtain⟨cs,hcs,h⟩:=aE h;obtain⟨zc,Zp,hcs⟩:=bg hcs;have vD:∀k:Nat,aI (RC ρ B s2.mem) (List.replicate k zc).flatten ((List.replicate k z).flatten.map .d):=by intro k;induction k with|zero=>trivial|succ k ih=>simp only[py,pj,fx];exact(JM Zp).append ih
  obtain⟨aU,g1,g2⟩:=CV cr hcs (vD n);have hst:fS B s2.mem (gG s2.mem [(s2.mem.length-1,dst,some (.box nx cs))]):=fC (ks:=[]) (e:=.box nx cs) trivial;refine⟨_,_,λ_ _=>?_,.gR hm ht (B':=nx+1) (by omega) hst (fD (e:=.box p aU) ⟨by omega,p,aU,gv,rfl,g2.mono λ_ _=>RC.move hst (by omega) λ_ _=>rfl⟩) (v:=.c (.fX (s2.mem.length-1) dst nx 0 n sz)) (a:=.fX (s2.mem.length-1) dst p 0 n sz) ⟨by omega,p,gv,rfl⟩ bn.nil,h⟩;simp only[cy.run,qv,hn,g1,hm.len,cf]|false=>
 rw[qv]at h;have q:=aE h;obtain⟨t,_,h⟩:=q;have q:=aE h;obtain⟨zc,Zp,h⟩:=q;have q:=aE h;obtain⟨⟨yN,ks⟩,hf,h⟩:=q;obtain⟨els,g1,g2⟩:=JY hm cr hf (tS (R:=λc d=>cB c=some d) (qV Zp) n);split at h
 .rename_i l hz hp;have hz:=bb hz;have he:=za hp g2;have hlen:n=l.length:=by
   have h1:=g2.length;have h2:∀{ps:List (Nat×cq)}{a b:List (List Cell)}{ks:List (Nat×Nat)},CC s2 sz a ps=some (b,ks)->b.length=a.length:=by intro ps;induction ps with|nil=>intro a b ks h;simp[CC,fj,fi]at h;rw[h.1]|cons q ps ih=>intro a b ks h;simp[CC]at h<;>grind
   have:=h2 hf;simp at this;rw[<-this,h1,he,bA]
  split at h;.rename_i hrow;refine⟨_,_,λ_ _=>?_,.gR hm ht (by omega) (r6 (ks:=ks)) (jJ (m:=s.mem)) (v:=.c (.sl t l .full)) (a:=.own els .full) (show _=_ by rw[he]) (bn.jx ks),h⟩;simp[cy.run,qv,g1,hrow]
  .rename_i hrow;split at h;.cases h
   .rename_i hk;rw[hm.len]at h hk;refine⟨_,_,λ_ _=>?_,.r7 hm ht hB gv (ks:=ks) (l:=l) (n:=n) (els:=els) he hlen (bn.jx ks),h⟩;simp only[cy.run,qv,g1,hrow];rw[bi (xQ hk),hz]
 grind
end
section
variable{α:Type}{ρ:bF}{B B':Nat}{s2:S2}{s:St}{row dst p nx:Nat}{K:iA->Option α}{r:α}{E:ai}{wk:Wk}{ctx:Nat}
def Aw:∀l:List Int,bytesOf (bB (.int .u8) l)=some (l.map λn=>UInt8.ofNat n.toNat)|[]=>rfl|n::l=>by have ih:=Aw l;show(bytesOf (bB (.int .u8) l)).map _=_;grind
def Tv{m:List (Tr bM)}{a:AV}{x els:List (List D)}(h:gP m a=some x)(he:dQ m a=some els):x=els:=by unfold gP at h<;>grind[dQ,gP]
def JZ{m2:List (Tr E2)}{m:List (Tr bM)}(hm:MR ρ B m2 m){lv sl av u:Nat}{l:List (List UInt8)}(h:Om m2 lv sl av=some l)(hu:ρ av=some u):j5 m2 lv sl=some (.set av l)/\setAt m lv sl u=some l:=by
 unfold Om at h;split at h
 .rename_i v l' hg;split at h;.subst_vars;obtain⟨e,g1,_,u',g2,rfl⟩:=hm.gz _ _ _ hg<;>simp_all[bF,setAt,j5]
  grind
 grind
variable(hm:MR ρ B s2.mem s.mem)(ht:TR ρ B s2.aO s.aO)(cr:vS ρ B s2.mem s2.slots s.slots)(hB:B<=nx)(gv:ρ nx=some p)
include hm ht hB cr
theorem Tw{x:cq}(h:dn E wk ctx s2 row dst nx (.b2s x) K=some r):eB ρ B (nx+1) s2 s (.b2s x) row dst p K r:=by
 have q:=cI h;obtain⟨c,hc,h⟩:=q;have hc:=bx cr hc;split at h;.cases h
 .rename_i hne;obtain⟨els,he⟩:=FZ hm h hc (λb' e=>hne b' e);obtain⟨n,h1,h⟩:=lI hm h hc;obtain⟨l,hl,h⟩:=aE h;have hx:=Tv h1 he;subst hx;obtain⟨t,l0⟩:=n;obtain⟨e1,e2⟩:=CO hl;cases e1;subst e2;refine⟨_,_,λ_ _=>?_,.yZ hm ht (by omega) (v:=.c (.str (l.map λ(n:Int)=>UInt8.ofNat n.toNat))) (a:=nJ (.string (od (l.map λ(n:Int)=>UInt8.ofNat n.toNat)))) rfl (uV hc),h⟩;simp[cy.run,he,ae,Aw,cf]
theorem Tx{x:cq}(h:dn E wk ctx s2 row dst nx (.s2b x) K=some r):eB ρ B (nx+1) s2 s (.s2b x) row dst p K r:=by
 simp[dn]at h;split at h
 .rename_i b hx;have e:x.ev s.slots=_:=bx cr hx;refine .pure (a:=.d (.sl (b.map λ(c:UInt8)=>[.sc (.int .u8 (c.toNat:Int))]))) hm ht (by omega) (λ_ _=>?_) (v:=.c (.sl (.int .u8) (bP b) .d)) (show RC ρ B s2.mem (.sl (.int .u8) (bP b) .d) (.d (.sl (b.map λ(c:UInt8)=>[.sc (.int .u8 (c.toNat:Int))])))from .inl ?_) h;.simp[cy.run,e]
  .simp[bB,bP,fR,rc,Function.comp_def]
 grind
include gv in omit cr in theorem MN(h:dn E wk ctx s2 row dst nx .mkSet K=some r):eB ρ B (nx+1) s2 s .mkSet row dst p K r:=by simp[dn]at h;rw[hm.len]at h;have hst:fS B s2.mem (gG s2.mem [(s.mem.length-1,dst,some (.set nx []))]):=fC (ks:=[]) (e:=.set nx []) trivial;exact⟨_,_,λ_ _=>rfl,.gR hm ht (B':=nx+1) (by omega) hst (fD (e:=.mp p []) ⟨by omega,p,gv,rfl⟩) (v:=.c (.mp (s.mem.length-1) dst nx)) (a:=.mp (s.mem.length-1) dst p) (show RC ρ (nx+1) (gG s2.mem [(s.mem.length-1,dst,some (.set nx []))]) (.mp (s.mem.length-1) dst nx) _ from⟨xi _,p,gv,rfl⟩) bn.nil,h⟩
theorem Qs{x y:cq}(h:dn E wk ctx s2 row dst nx (.IX x y) K=some r):eB ρ B (nx+1) s2 s (.IX x y) row dst p K r:=by
 simp[dn]at h;split at h;.rename_i lv sl av b hx hy;obtain⟨l,hl,h⟩:=aE h;obtain⟨hv,u,hu,ex⟩:=bx cr hx;have ey:y.ev s.slots=_:=bx cr hy;obtain⟨_,g⟩:=JZ hm hl hu;refine⟨_,_,λ_ _=>?_,.yZ hm ht (by omega) (v:=.c (.bool (hasB l b))) (a:=nJ (.bool (hasB l b))) rfl (bn.ke lv sl bn.nil),h⟩;simp[cy.run,ex,ey,g,cf]
 grind
theorem Qt{x y:cq}(h:dn E wk ctx s2 row dst nx (.IY x y) K=some r):eB ρ B (nx+1) s2 s (.IY x y) row dst p K r:=by
 simp[dn]at h;split at h;.rename_i lv sl av b hx hy;obtain⟨l,hl,h⟩:=aE h;obtain⟨hv,u,hu,ex⟩:=bx cr hx;have ey:y.ev s.slots=_:=bx cr hy;obtain⟨_,g⟩:=JZ hm hl hu;have hst:fS B s2.mem (gG s2.mem [(lv,sl,some (.set av (tc l b)))]):=fC (ks:=[]) (e:=.set av (tc l b)) trivial;refine⟨_,_,λ_ _=>?_,.gR hm ht (B':=nx+1) (by omega) hst (fD (e:=.mp u (tc l b)) ⟨by omega,u,hu,rfl⟩) nV (bn.ke lv sl bn.nil),h⟩;simp[cy.run,ex,ey,g,cf]
 grind
end
structure qX(rn:Ren)(ρ ρ':bF)(B':Nat)(m m':List (Tr E2)):Prop where
 av:∀p∈rn,ρ' p.1=p.2.bind ρ/\p.1<B'
 row:∀v w,(v,some w)∈rn->∀lv sl r,rowOf m' lv sl v=some r->rowOf m lv sl w=some r
def qX.left{rn rn':Ren}{ρ ρ':bF}{B':Nat}{m m':List (Tr E2)}(h:qX (rn++rn') ρ ρ' B' m m'):qX rn ρ ρ' B' m m':=⟨λp hp=>h.av p (dt _ hp),λv w hp=>h.row v w (dt _ hp)⟩
def qX.right{rn rn':Ren}{ρ ρ':bF}{B':Nat}{m m':List (Tr E2)}(h:qX (rn++rn') ρ ρ' B' m m'):qX rn' ρ ρ' B' m m':=⟨λp hp=>h.av p (du _ hp),λv w hp=>h.row v w (du _ hp)⟩
def qX.tail{q:Nat×Option Nat}{rn:Ren}{ρ ρ':bF}{B':Nat}{m m':List (Tr E2)}(h:qX (q::rn) ρ ρ' B' m m'):qX rn ρ ρ' B' m m':=qX.right (rn:=[q]) h
def ZW(rn:Ren)(x x':Cell):Prop:=∀ρ B m a ρ' B' m',qX rn ρ ρ' B' m m'->RC ρ B m x a->RC ρ' B' m' x' a
def Tz{c:iB}{x:Cell}{d:List gr}{rn:Ren}(h:c.get x=some (d,rn)):∃x',(∀rest,c.fill (d++rest)=some (x',rest))/\ZW rn x x':=by
  unfold iB.get at h;split at h
  . split at h;.cases h;exact⟨_,λ_=>rfl,λ_ _ _ _ _ _ _ _ h=>h⟩
    .cases h
  .cases h;exact⟨_,λ_=>rfl,λ_ _ _ _ _ _ _ _ h=>h⟩
  .cases h;exact⟨_,λ_=>rfl,λ_ _ _ _ _ _ _ _ h=>h⟩
  .cases h;exact⟨_,λ_=>rfl,λ_ _ _ _ _ _ _ _ h=>h⟩
  . split at h
    . cases h;refine⟨_,λ_=>rfl,λρ B m a ρ' B' m' _ h=>?_⟩;rcases(iD (m:=[]) h).2with rfl|⟨o',ho,rfl⟩;.exact .inl rfl
      .exact .inr ⟨o',ho,rfl⟩
    . cases h;refine⟨_,λ_=>rfl,λρ B m a ρ' B' m' _ h=>?_⟩;rcases(iD (m:=[]) h).2with rfl|⟨o',ho,rfl⟩;.exact .inl rfl
      .exact .inr ⟨o',rfl⟩
    .cases h;exact⟨_,λ_=>rfl,λρ B m a ρ' B' m' _ h=>h⟩
    .cases h;refine⟨_,λ_=>rfl,λρ B m a ρ' B' m' hb h=>?_⟩;have:=hb.av _ ci;exact⟨this.2,.inl ⟨this.1,h⟩⟩
    .cases h
  . split at h;.cases h;refine⟨_,λ_=>rfl,λρ B m a ρ' B' m' _ h=>?_⟩;exact(jk (m:=[]) h).2.1
    .cases h
    .rename_i hne;cases h;refine⟨_,λ_=>rfl,λρ B m a ρ' B' m' _ h=>?_⟩;exact(jk (m:=[]) h).2.2 λe=>hne e
    .cases h;exact⟨_,λ_=>rfl,λρ B m a ρ' B' m' _ h=>h⟩
    .cases h;refine⟨_,λ_=>rfl,λρ B m a ρ' B' m' hb h=>?_⟩;have:=hb.av _ ci;exact⟨this.2,.inl ⟨this.1,h⟩⟩
    . cases h;refine⟨_,λ_=>rfl,λρ B m a ρ' B' m' hb h=>?_⟩;have:=hb.av _ ci;refine⟨this.2,?_⟩;rcases h with⟨_,⟨hu,rfl⟩|⟨u,hu,rfl⟩⟩;.exact .inl ⟨by rw[this.1];exact hu,rfl⟩
      .exact .inr ⟨u,by rw[this.1];exact hu,rfl⟩
    .cases h
  .cases h;exact⟨_,λ_=>rfl,λρ B m a ρ' B' m' _ h=>h⟩
  .cases h;exact⟨_,λ_=>rfl,λρ B m a ρ' B' m' _ h=>(iD (m:=[]) h).2⟩
  . split at h;.rename_i e hb _;rw[ba]at hb;have e1:=bb hb.1;have e2:=bb hb.2;subst e e1 e2;cases h;refine⟨_,λ_=>rfl,λρ B m a ρ' B' m' hb h=>?_⟩;have hv:=hb.av _ ci;obtain⟨_,u,n,hu,rfl,hn⟩:=h;exact⟨hv.2,u,n,by rw[hv.1];exact hu,rfl,λr hr=>hn r (hb.row _ _ ci _ _ _ hr)⟩
    .cases h
  . split at h;.rename_i hb;simp only[ba]at hb;have e1:=bb hb.1.1.1;have e2:=bb hb.1.1.2;have e3:=bb hb.1.2;have e4:=bb hb.2;subst e1 e2 e3 e4;cases h;refine⟨_,λ_=>rfl,λρ B m a ρ' B' m' hb h=>?_⟩;have hv:=hb.av _ ci;obtain⟨_,u,hu,rfl⟩:=h;exact⟨hv.2,u,by rw[hv.1];exact hu,rfl⟩
    .cases h
  . split at h;.rename_i hb;have e:=bb hb;subst e;cases h;exact⟨_,λ_=>rfl,λρ B m a ρ' B' m' _ h=>h⟩
    .cases h
  . split at h;.rename_i hb;simp only[ba]at hb;have e1:=bb hb.1;have e2:=bb hb.2;subst e1 e2;cases h;refine⟨_,λ_=>rfl,λρ B m a ρ' B' m' hb h=>?_⟩;have hv:=hb.av _ ci;obtain⟨_,u,hu,rfl⟩:=h;exact⟨hv.2,u,by rw[hv.1];exact hu,rfl⟩
    .cases h
  .cases h
def xR:∀{cs:List iB}{xs:List Cell}{d:List gr}{rn:Ren},Al cs xs=some (d,rn)->∃xs',(∀rest,dK cs (d++rest)=some (xs',rest))/\∀ρ B m aU ρ' B' m',qX rn ρ ρ' B' m m'->aI (RC ρ B m) xs aU->aI (RC ρ' B' m') xs' aU
 |[],[],d,rn,h=>by cases h;exact⟨[],λ_=>rfl,λ_ _ _ _ _ _ _ _ h=>by cases‹List AV›<;>exact h⟩|c::cs,x::xs,d,rn,h=>by
    simp[Al]at h;split at h
    . rename_i d1 r1 d2 r2 h1 h2;cases h;obtain⟨x',g1,g2⟩:=Tz h1;obtain⟨xs',g3,g4⟩:=xR h2;refine⟨x'::xs',λrest=>?_,λρ B m aU ρ' B' m' hb ha=>?_⟩;.simp[dK,bj,g1,g3]
      .match aU,ha with|a::aU,ha=>exact⟨g2 _ _ _ _ _ _ _ hb.left ha.1,g4 _ _ _ _ _ _ _ hb.right ha.2⟩
    grind|[],_::_,_,_,h=>by simp[Al]at h|_::_,[],_,_,h=>by simp[Al]at h
def ZX{v:uR}{x:V2}{d:List gr}{rn:Ren}(h:v.get x=some (d,rn)):∃x',(∀rest,v.fill (d++rest)=some (x',rest))/\∀ρ B m a ρ' B' m',qX rn ρ ρ' B' m m'->RV ρ B m x a->RV ρ' B' m' x' a:=by
  unfold uR.get at h;split at h;.obtain⟨x',g1,g2⟩:=Tz h;exact⟨.c x',λrest=>by simp only[uR.fill,g1],λρ B m a ρ' B' m' hb ha=>g2 _ _ _ _ _ _ _ hb ha⟩
  .obtain⟨xs',g1,g2⟩:=xR h;refine⟨.agg xs',λrest=>by simp only[uR.fill,g1],λρ B m a ρ' B' m' hb ha=>?_⟩;obtain⟨aU,rfl,ha⟩:=ha;exact⟨aU,rfl,g2 _ _ _ _ _ _ _ hb ha⟩
  . rename_i f l f' cs;split at h;.rename_i hf;have e:=bb hf;subst e;obtain⟨xs',g1,g2⟩:=xR h;refine⟨.fL f xs',λrest=>by simp only[uR.fill,g1],λρ B m a ρ' B' m' hb ha=>?_⟩;obtain⟨aU,rfl,ha⟩:=ha;exact⟨aU,rfl,g2 _ _ _ _ _ _ _ hb ha⟩
    grind
  grind
def tT{s:Tr V2}:∀{l:List (Nat×uR)}{d:List gr}{rn:Ren},qN s l=some (d,rn)->∀t0:Tr V2,∃t,(∀rest,oS l (d++rest) t0=some (t,rest))/\∀ρ B m o ρ' B' m',qX rn ρ ρ' B' m m'->vS ρ B m s o->vS ρ' B' m' t0 o->vS ρ' B' m' t o
 |[],d,rn,h,t0=>by simp_all[qN,Ren,vS,bF,oS]|(k,v)::l,d,rn,h,t0=>by
    simp[qN]at h;split at h
    . rename_i d1 r1 d2 r2 h1 h2;cases h;obtain⟨x,hx,h1⟩:=bg h1;obtain⟨x',g1,g2⟩:=ZX h1;obtain⟨t,g3,g4⟩:=tT h2 (t0.set k (some x'));refine⟨t,λrest=>?_,λρ B m o ρ' B' m' hb hs h0=>g4 _ _ _ _ _ _ _ hb.right hs ?_⟩;.simp[oS,bj,g1,g3]
      . intro k' v' hk';rw[Tr.cD]at hk';split at hk';.rename_i e;subst e;simp_all;exact g2 _ _ _ _ _ _ _ hb.left (hs k x hx)
        .exact h0 k' v' hk'
    grind
def Ax:∀{ts:List (Tr V2)}{l:List (List (Nat×uR))}{d:List gr}{rn:Ren},qO ts l=some (d,rn)->∃ts',(∀rest,uS l (d++rest)=some (ts',rest))/\∀ρ B m os ρ' B' m',qX rn ρ ρ' B' m m'->aI (vS ρ B m) ts os->aI (vS ρ' B' m') ts' os
 |[],[],d,rn,h=>by cases h;exact⟨[],λ_=>rfl,λ_ _ _ os _ _ _ _ h=>by cases os<;>exact h⟩|t::ts,x::xs,d,rn,h=>by
  simp[qO]at h;split at h;.rename_i d1 r1 d2 r2 h1 h2;cases h;obtain⟨t',g1,g2⟩:=tT h1 .lf;obtain⟨ts',g3,g4⟩:=Ax h2;refine⟨t'::ts',λrest=>by simp only[uS,bj,g1,g3],λρ B m os ρ' B' m' hb ha=>?_⟩;match os,ha with|o::os,ha=>exact⟨g2 _ _ _ _ _ _ _ hb.left ha.1 (λk v hk=>by simp at hk),g4 _ _ _ _ _ _ _ hb.right ha.2⟩
  grind|[],_::_,_,_,h=>by simp[qO]at h|_::_,[],_,_,h=>by simp[qO]at h
def tU(rn:Ren)(e e':E2):Prop:=(∀v t l,e'=.row v t l->∃w,e=.row w t l/\(v,some w)∈rn)/\∀ρ B m a ρ' B' m',qX rn ρ ρ' B' m m'->RE ρ B m e a->RE ρ' B' m' e' a
def ZY{sh:Oo}{e:E2}{d:List gr}{rn:Ren}(h:sh.get e=some (d,rn)):∃e',(∀rest,sh.fill (d++rest)=some (e',rest))/\tU rn e e':=by
  unfold Oo.get at h;split at h
  . cases h;refine⟨_,λ_=>rfl,λv t l he=>?_,λρ B m a ρ' B' m' hb ha=>?_⟩;.grind
    .have hv:=hb.av _ ci<;>simp_all[bF,Ty.den,bB,RE]
  . rename_i av l gU cs;split at h;.rename_i d1 r1 h1;cases h;obtain⟨xs',g1,g2⟩:=xR h1;refine⟨.box av xs',λrest=>by simp only[Oo.fill,g1],λv t l he=>(by cases he),λρ B m a ρ' B' m' hb ha=>?_⟩;obtain⟨_,u,aU,hu,rfl,ha⟩:=ha;have hv:=hb.av _ ci;exact⟨hv.2,u,aU,by rw[hv.1];exact hu,rfl,g2 _ _ _ _ _ _ _ hb.tail ha⟩
    grind
  .cases h;refine⟨_,λ_=>rfl,λv t l he=>(by cases he),λρ B m a ρ' B' m' hb ha=>?_⟩;have hv:=hb.av _ ci<;>simp_all[bF,RE]
  grind
def HR(rn:Ren)(m m':List (Tr E2)):Prop:=∀lv sl e',j5 m' lv sl=some e'->∃e,j5 m lv sl=some e/\tU rn e e'
def tU.mono{rn rn':Ren}{e e':E2}(hs:∀p∈rn,p∈rn')(h:tU rn e e'):tU rn' e e':=⟨λv t l he=>by obtain⟨w,h1,h2⟩:=h.1 v t l he<;>grind,λρ B m a ρ' B' m' hb ha=>h.2 ρ B m a ρ' B' m' ⟨λp hp=>hb.av p (hs p hp),λv w hp=>hb.row v w (hs _ hp)⟩ ha⟩
def F1{m:List (Tr E2)}:∀{l:List (Nat×Nat×Oo)}{d:List gr}{rn:Ren},CG m l=some (d,rn)->∀(m0:List (Tr E2))(rn0:Ren),HR rn0 m m0->(∀p∈rn,p∈rn0)->∃m',(∀rest,xJ l (d++rest) m0=some (m',rest))/\HR rn0 m m'/\m'.length=m0.length
 |[],d,rn,h,m0,rn0,hg,_=>by simp_all[CG,Ren,HR,xJ]|(lv,sl,sh)::l,d,rn,h,m0,rn0,hg,hs=>by
  simp[CG]at h
  split at h;.rename_i d1 r1 d2 r2 h1 h2;cases h;obtain⟨e,he,h1⟩:=bg h1;obtain⟨e',g1,g2⟩:=ZY h1;obtain⟨m',g3,g4,g5⟩:=F1 h2 (Cz m0 lv sl (some e')) rn0 (by
   intro cV dy x hx;rw[kW]at hx;split at hx;.rename_i hc;obtain⟨rfl,rfl,_⟩:=hc;injection hx with hx;subst hx;exact⟨e,he,g2.mono λp hp=>hs p (dt _ hp)⟩
   .exact hg cV dy x hx) (λp hp=>hs p (du _ hp));exact⟨m',λrest=>by simp only[xJ,bj,g1,g3],g4,by rw[g5,tM]⟩
  grind
def tV(n lv sl:Nat):j5 (List.replicate n .lf) lv sl=none:=by unfold j5;grind[Tr.get?]
def C3:∀{l:List Nat}{t:Tr Unit}{v:Nat},(HG l t).get? v=some ()->v∈l\/t.get? v=some ()
 |[],_,_,h=>.inr h|a::r,t,v,h=>by
  rcases C3 (l:=r) (t:=t.set a (some ())) h with h|h;.grind
  .rw[Tr.cD]at h<;>grind
def uX{nv:Nat}{σ:Ren}{t:Tr Unit}:∀{l:List Nat},HH nv σ t l=true->∀v∈l,v<nv/\∀w,vn σ v=some w->t.get? w=some ()
 |[],_,_,hv=>by cases hv|a::r,h,v,hv=>by
  simp[HH,ba]at h;rcases dq.1 hv with rfl|hv;.refine⟨by simpa using h.1.1,λw hw=>?_⟩;have h1:=h.1.2;rw[hw]at h1;simp[Option.isSome_iff_exists]at h1<;>grind
  .exact uX h.2 v hv
def TA{a b:Option Nat}:oeq a b=true↔a=b:=by cases a<;>cases b<;>simp[oeq]
structure ars(nv snv:Nat)(σ:Ren):Prop where
 lt:∀p∈σ,p.1<nv
 at_:∀p∈σ,vn σ p.1=p.2slt:∀p∈σ,∀w,p.2=some w->w<snv
 inj:∀p∈σ,∀q∈σ,∀w,p.2=some w->q.2=some w->q.1=p.1
def TB{nv snv:Nat}{σ:Ren}(h:S1 nv snv σ=true):ars nv snv σ:=by
 unfold S1 at h;rw[lx]at h;refine⟨λp hp=>?_,λp hp=>?_,λp hp w hw=>?_,λp hp q hq w hw Oc=>?_⟩;all_goals have:=h p hp;simp only[ba]at this
 .simp_all
 .exact TA.1 this.1.2
 .simp_all
 .have:=this.2;rw[hw]at this;simp only[ba,lx]at this;have:=this.2 q hq<;>simp_all[vn,oeq,Ren]
def oT{σ:Ren}{v w:Nat}(h:vn σ v=some w):(v,some w)∈σ:=by induction σ with|nil=>cases h|cons q r ih=>obtain⟨a,b⟩:=q;simp[vn]at h;split at h<;>simp_all
def Fr(ρ:bF)(n2 n:Nat)(ρ':bF)(n2':Nat):Prop:=∀v u,v<n2'->ρ' v=some u->(∃w,w<n2/\ρ w=some u)\/n<=u
def Fr.refl(ρ:bF)(n2 n:Nat):Fr ρ n2 n ρ n2:=λv _ hv hu=>.inl ⟨v,hv,hu⟩
def Fr.trans{ρ ρ' F2:bF}{n2 n2' ajj n n':Nat}(h:Fr ρ n2 n ρ' n2')(k:Fr ρ' n2' n' F2 ajj)(hn:n<=n'):Fr ρ n2 n F2 ajj:=by
 intro v u hv hu;rcases k v u hv hu with⟨w,hw,mq⟩|h';.exact h w u hw mq
 omega
abbrev Bz(ρ:bF)(os:List (Tr AV))(s2:S2)(s:St):Prop:=SR ρ s2.nv os s2 s
def BA{T:aX}{s2:S2}{ds:List gr}{ρ:bF}{os:List (Tr AV)}{s:St}(h:T.get s2=some ds)(hs:Bz ρ os s2 s):∃s2' ρ',T.st ds=some s2'/\Bz ρ' os s2' s/\Fr ρ s2.nv s.nv ρ' s2'.nv:=by
  unfold aX.get at h;split at h
  . rename_i d r d' r' d'' r'' h1 h2 h3;split at h
    . rename_i hb;simp only[ba]at hb;obtain⟨⟨hl,hr⟩,ht⟩:=hb;have hl:=bb hl;have hr:=TB hr;obtain⟨t,g1,g2⟩:=tT h1 .lf;obtain⟨ts,g3,g4⟩:=Ax h2;let σ:=r++(r'++r'');obtain⟨m',g5,g6,g7⟩:=F1 h3 (List.replicate T.lvs .lf) σ (λlv sl e he=>by rw[tV]at he;cases he) (λp hp=>du _ (du _ hp));let ρ':bF:=λv=>if v<T.nv then(vn σ v).bind ρ else some (s.nv+(v-T.nv));have hρ':∀v,ρ' v=if v<T.nv then(vn σ v).bind ρ else some (s.nv+(v-T.nv)):=λ_=>rfl;have TC:qX σ ρ ρ' T.nv s2.mem m':=by
        refine⟨λp hp=>⟨?_,hr.lt p hp⟩,λv w hp lv sl rr hrow=>?_⟩;.rw[hρ',be (hr.lt p hp),hr.at_ p hp]
        .obtain⟨e,he,hc⟩:=g6 _ _ _ (cR hrow);obtain⟨w',e1,e2⟩:=hc.1 _ _ _ rfl;have h1:=hr.at_ _ hp;have h2:=hr.at_ _ e2;rw[h1]at h2;cases h2;exact gX.2 (he.trans (by rw[e1]))
      have hb0:qX (r'++r'') ρ ρ' T.nv s2.mem m':=qX.right (rn:=r) TC;refine⟨{slots:=t,outer:=ts,mem:=m',aO:=HG T.aO .lf,nv:=T.nv},ρ',?_,⟨?_,?_,?_,?_,?_,bd _⟩,?_⟩;.have e3:=g5 [];unfold aX.st<;>grind
      .exact g2 _ _ _ _ _ _ _ (qX.left (rn':=r'++r'') TC) hs.slots (λk v hk=>by simp at hk)
      .exact g4 _ _ _ _ _ _ _ hb0.left hs.outer
      .refine⟨by rw[g7,d6,hl];exact hs.mem.len,λlv sl e' he'=>?_⟩;obtain⟨e,he,hc⟩:=g6 lv sl e' he';obtain⟨x,h4,h5⟩:=hs.mem.gz lv sl e he;exact⟨x,h4,hc.2 _ _ _ _ _ _ _ TC h5⟩
      . intro v hv;rcases C3 hv with hv|hv
        . refine⟨(uX ht v hv).1,λu hu=>?_⟩;rw[hρ']at hu;split at hu;.obtain⟨w,hw,hu⟩:=bg hu;exact(hs.aO w ((uX ht v hv).2 w hw)).2 u hu
          .exact absurd (uX ht v hv).1 (by assumption)
        simp_all
      . refine⟨λv _ hv hu=>?_,λv hv=>?_,λv v' u hu mq=>?_⟩;.rw[hρ',be hv]at hu;obtain⟨w,hw,hu⟩:=bg hu;exact hs.av.low w _ (hr.slt _ (oT hw) w rfl) hu
        .grind
        . rw[hρ']at hu mq;split at hu
          . obtain⟨w,hw,hu⟩:=bg hu;have hw2:=hr.slt _ (oT hw) w rfl;split at mq;.obtain⟨w',Oc,mq⟩:=bg mq;have:=hs.av.inj _ _ _ hu mq;subst this;exact(hr.inj _ (oT Oc) _ (oT hw) w rfl rfl)
            .simp_all;have:=hs.av.low w u hw2 hu;omega
          . simp_all;split at mq;.obtain⟨w',Oc,mq⟩:=bg mq;have:=hs.av.low w' u (hr.slt _ (oT Oc) w' rfl) mq<;>omega
            grind
      .intro v u hv hu;rw[hρ',be hv]at hu;obtain⟨w,hw,hu⟩:=bg hu;exact .inl ⟨w,hr.slt _ (oT hw) w rfl,hu⟩
    grind
  grind
def Ay{a b:Ty}{x:a.den}{y:b.den}(h:vN a b x=some y):(⟨b,y⟩:gr)=⟨a,x⟩:=by obtain⟨e,he⟩:=Qa h<;>grind
def dU:∀{ts:List Ty}{ds:List gr}{x:(sL ts).den},pack ts ds=some x->unpack ts x=ds
 |[],[],_,_=>rfl|[a],[d],x,h=>by have:=Ay h;simp[unpack]<;>omega|a::b::r,d::ds,x,h=>by
  simp[pack]at h;split at h;.rename_i y z h1 h2;cases h;simp only[unpack];rw[Ay h1,dU h2]
  grind|[],_::_,_,h=>by simp[pack]at h|[_],[],_,h=>by simp[pack]at h|[_],_::_::_,_,h=>by simp[pack]at h|_::_::_,[],_,h=>by simp[pack]at h
def Ga{a b:AX}(h:ZI a b=true):a=b:=by unfold ZI at h;split at h<;>simp_all
def BB{ρ:bF}{so:List (Tr AV)}{s2:S2}{s:St}{ax:AX}(hs:Bz ρ so s2 s):∀{os:aW}{y:(p9 os).den},oB os ax s2=some y->∃s2' ρ',Bz ρ' so s2' s/\Fr ρ s2.nv s.nv ρ' s2'.nv/\∀{α:Type}(K:AX->S2->Option α),qQ os y K=K ax s2'
 |[],_,h=>by simp[oB]at h|[x],y,h=>by
  simp[oB]at h;split at h;.rename_i he;obtain⟨ds,h1,h2⟩:=aE h;obtain⟨s2',ρ',g1,g2,g3⟩:=BA h1 hs;refine⟨s2',ρ',g2,g3,λK=>?_⟩;simp[qQ,dU h2,g1,cA,Ga he]
  grind|x::z::r,y,h=>by
  simp[oB]at h;split at h;.rename_i he;obtain⟨y',h1,h2⟩:=aE h;cases h2;obtain⟨ds,h3,h4⟩:=bg h1;obtain⟨s2',ρ',g1,g2,g3⟩:=BA h3 hs;refine⟨s2',ρ',g2,g3,λK=>?_⟩;simp[qQ,dU h4,g1,cA,Ga he]
  .obtain⟨y',h1,h2⟩:=aE h;cases h2;obtain⟨s2',ρ',g2,g3,g4⟩:=BB hs h1;exact⟨s2',ρ',g2,g3,λK=>by simp only[qQ,g4]⟩
def RC.still{ρ ρ':bF}{B B':Nat}{m m':List (Tr E2)}{c:Cell}{a:AV}(hc:c.still=true)(h:RC ρ B m c a):RC ρ' B' m' c a:=by cases c with
 |nil f=>cases f<;>exact h|sl t l o=>cases o with|app v=>cases hc|_=>exact h
 |ref=>cases hc|ku=>cases hc|ptr=>cases hc|fX=>cases hc|mp=>cases hc|_=>exact h
def RCs.still{ρ ρ':bF}{B B':Nat}{m m':List (Tr E2)}:∀{cs:List Cell}{aU:List AV},cs.all Cell.still=true->aI (RC ρ B m) cs aU->aI (RC ρ' B' m') cs aU|[],[],_,_=>trivial|c::cs,a::aU,hc,h=>by rw[fg,ba]at hc;exact⟨h.1.still hc.1,RCs.still hc.2 h.2⟩|[],_::_,_,h=>h.elim|_::_,[],_,h=>h.elim
def RV.still{ρ ρ':bF}{B B':Nat}{m m':List (Tr E2)}{v:V2}{a:AV}(hv:v.still=true)(h:RV ρ B m v a):RV ρ' B' m' v a:=by cases v with|c c=>exact RC.still hv h|agg cs=>obtain⟨aU,h1,h2⟩:=h;exact⟨aU,h1,RCs.still hv h2⟩|fL f cs=>obtain⟨aU,h1,h2⟩:=h;exact⟨aU,h1,RCs.still hv h2⟩|jU vs=>obtain⟨aU,h1,h2⟩:=h;refine⟨aU,h1,?_⟩;clear h1;replace hv:vs.all (λv=>v.2.all Cell.still)=true:=hv;induction vs generalizing aU with|nil=>cases aU<;>exact h2|cons v vs ih=>cases aU with|nil=>exact h2.elim|cons a aU=>rw[fg,ba]at hv;refine⟨?_,ih aU h2.2 hv.2⟩;obtain⟨b,cs⟩:=v;cases b with|true=>obtain⟨bs,h3,h4⟩:=h2.1;exact⟨bs,h3,RCs.still hv.1 h4⟩|false=>obtain⟨c,h3,h4⟩:=h2.1;refine⟨c,h3,h4.still ?_⟩;subst h3;simpa using hv.1
def Tr.HS{α:Type}(v:Option α)(l r:Tr α)(k:Nat):(Tr.nd v l r).get? k=if k=0then v else if k%2=1then l.get? (k/2)else r.get? (k/2-1):=by simp[Tr.get?];cases h0:Nat.beq k 0with|true=>simp_all|false=>have:=na h0;cases h1:Nat.beq (k%2) 1with|true=>simp_all|false=>simp[this,na h1]
def Tr.ZZ{α:Type}(t:Tr α)(k:Nat):t.get? k=if k=0then t.top else if k%2=1then t.left.get? (k/2)else t.right.get? (k/2-1):=by cases t with|lf=>simp[Tr.get?,Tr.top,Tr.left,Tr.right]|nd v l r=>rw[Tr.HS];rfl
def zb:∀(t:Tr V2)(k:Nat)(v:V2),(loose t).get? k=some v->t.get? k=some v
 |.lf,_,_,h=>by simp[loose]at h|.nd x l r,k,v,h=>by
  simp[loose]at h;rw[Tr.HS]at h⊢;by_cases h0:k=0;.grind
  .rw[bi h0]at h⊢;by_cases h1:k%2=1;.rw[be h1]at h⊢;exact zb l _ v h
   .rw[bi h1]at h⊢;exact zb r _ v h
def qY:∀(a b:Tr V2)(k:Nat)(v:V2),(merge a b).get? k=some v->(a.get? k=some v/\v.still=true)\/b.get? k=some v
 |.lf,_,_,_,h=>by simp[merge]at h|.nd x l r,b,k,v,h=>by
  simp[merge]at h;rw[Tr.HS]at h;rw[Tr.HS,Tr.ZZ b];by_cases h0:k=0;.grind
  .rw[bi h0]at h⊢;rw[bi h0];by_cases h1:k%2=1;.rw[be h1]at h⊢;rw[be h1];exact qY l _ _ v h
   .rw[bi h1]at h⊢;rw[bi h1];exact qY r _ _ v h
def ρ0:bF:=λ_=>none
def TD{m:List (Tr bM)}{els:List (List D)}{o:YT}(h:o≠.aY):fc m (.own els o)=some (.d (.sl els),[]):=by cases o with|aY=>grind|_=>rfl
def TE{m:List (Tr bM)}{els:List (List D)}{o:YT}(h:o≠.aY):dm m (.own els o)=some (.d (.sl els)):=by grind[dm]
def IN(agg:Bool)(m:List (Tr bM))(a a':AV)(k:List (Nat×Nat)):Prop:=(agg=true/\fc m a=some (a',k))\/(agg=false/\dm m a=some a'/\k=[])
def IN.data{agg:Bool}{m:List (Tr bM)}{a:AV}{y:D}(e:a=.d y):IN agg m a (.d y) []:=by
 subst e;cases agg;.exact .inr ⟨rfl,rfl,rfl⟩
 .exact .inl ⟨rfl,rfl⟩
def IN.aeg{agg:Bool}{m:List (Tr bM)}{a:AV}{els:List (List D)}{o:YT}(ho:o≠.aY)(e:a=.own els o):IN agg m a (.d (.sl els)) []:=by
 subst e;cases agg;.exact .inr ⟨rfl,TE ho,rfl⟩
 .exact .inl ⟨rfl,TD ho⟩
def IN.art{agg:Bool}{m:List (Tr bM)}{a:AV}{els:List (List D)}(e:a=.own els .aY):IN agg m a (.own els .aY) []:=by
 subst e;cases agg;.exact .inr ⟨rfl,rfl,rfl⟩
 .exact .inl ⟨rfl,rfl⟩
section
variable{ρ:bF}{B:Nat}{m2:List (Tr E2)}{m:List (Tr bM)}(hm:MR ρ B m2 m)
include hm
theorem HT{agg:Bool}{c:iB}{x:Cell}{a:AV}{d:List gr}{k:List (Nat×Nat)}{b:List Bool}(h:c.arg m2 agg x=some (d,k,b))(hx:RC ρ B m2 x a)(hb:∀t∈b,t=true):∃a' x',IN agg m a a' k/\(∀rest,c.fill (d++rest)=some (x',rest))/\RC ρ0 0 [] x' a':=by
 unfold iB.arg at h;split at h<;>(try dsimp only at h)
 .split at h;.cases h;exact⟨_,_,IN.data hx,λ_=>rfl,rfl⟩
  grind
 .cases h;exact⟨_,_,IN.data hx,λ_=>rfl,rfl⟩
 .cases h;exact⟨_,_,IN.data hx,λ_=>rfl,rfl⟩
 .rename_i t o f;have key:∃a',IN agg m a a' []/\a'=.d (.sl (bB t [])):=by
   rcases(iD (m:=m) hx).2with e|⟨o',ho,e⟩;.exact⟨_,IN.data e,rfl⟩
   .exact⟨_,IN.aeg ho e,rfl⟩
  obtain⟨a',g1,g2⟩:=key;split at h;.cases h;exact⟨_,_,g1,λ_=>rfl,.inl g2⟩
  .cases h;exact⟨_,_,g1,λ_=>rfl,.inl g2⟩
  grind
 .split at h
  .cases h;rcases(jk (m:=m) hx).2.1with e|⟨o2,e⟩;.exact⟨_,_,IN.data e,λ_=>rfl,.inl rfl⟩
   .by_cases ho:o2=.aY;.subst ho;exact⟨_,_,IN.art e,λ_=>rfl,.inr ⟨_,rfl⟩⟩
    .exact⟨_,_,IN.aeg ho e,λ_=>rfl,.inl rfl⟩
  .cases h
  .rename_i hne;cases h;rcases(jk (m:=m) hx).2.2 (λe=>hne e)with e|⟨o2,ho,e⟩;.exact⟨_,_,IN.data e,λ_=>rfl,.inl rfl⟩
   .exact⟨_,_,IN.aeg ho e,λ_=>rfl,.inl rfl⟩
  .cases h
 .rename_i t0 o lv sq av t;cases hr:rowOf m2 lv sq av with|none=>grind|some r=>
  simp[hr]at h;have he:=nH hm hx hr;obtain⟨_,u,n,hu,rfl,hn⟩:=hx;have hg:fc m (.ref lv sq u 0 n t.size)=some (.d (.sl (bB r.t r.l)),[(lv,sq)]):=by simp[fc,Be,he,cf]
  have hl:dm m (.ref lv sq u 0 n t.size)=some (.own (bB r.t r.l) .aY):=by simp[dm,he,cf]
  cases o with
  |aY=>cases agg with|false=>cases h;exact⟨_,_,.inr ⟨rfl,hl,rfl⟩,λ_=>rfl,.inr ⟨_,rfl⟩⟩|true=>cases h;exact⟨_,_,.inl ⟨rfl,hg⟩,λ_=>rfl,.inl rfl⟩
  |d=>cases agg with|false=>simp at h|true=>cases h;exact⟨_,_,.inl ⟨rfl,hg⟩,λ_=>rfl,.inl rfl⟩
  |full=>grind|app v=>grind
 .rename_i t0 o lv sq av t off len;cases hr:rowOf m2 lv sq av with|none=>grind|some r=>simp[hr]at h;cases o with
  |aY=>cases agg with|false=>cases h;have he:=kz hm hx hr (dE (hb _ ci));obtain⟨_,u,hu,rfl,_⟩:=hx;refine⟨.own (bB r.t ((r.l.drop off).take len)) .aY,_,.inr ⟨rfl,?_,rfl⟩,λ_=>rfl,.inr ⟨_,rfl⟩⟩;simp[dm,he,cf]|true=>simp at h
  |d=>grind|full=>grind|app v=>grind
 grind
theorem C4:∀{cs:List iB}{xs:List Cell}{aU:List AV}{d:List gr}{k:List (Nat×Nat)}{b:List Bool},CH m2 cs xs=some (d,k,b)->aI (RC ρ B m2) xs aU->(∀t∈b,t=true)->∃as' xs',fY m aU=some (as',k)/\(∀rest,dK cs (d++rest)=some (xs',rest))/\aI (RC ρ0 0 []) xs' as'
 |[],[],aU,d,k,b,h,ha,_=>by cases h;match aU,ha with|[],_=>exact⟨[],[],rfl,λ_=>rfl,trivial⟩
 |c::cs,x::xs,aU,d,k,b,h,ha,hb=>by
  simp[CH]at h;split at h;.rename_i d1 k1 b1 d2 k2 b2 h1 h2;cases h;match aU,ha with
   |a::aU,ha=>
    obtain⟨a',x',g1,g2,g3⟩:=HT hm h1 ha.1 (λt ht=>hb t (dt _ ht));have g1:fc m a=some (a',k1):=by rcases g1 with⟨_,g⟩|⟨g,_⟩<;>grind
    obtain⟨as',xs',g4,g5,g6⟩:=C4 h2 ha.2 (λt ht=>hb t (du _ ht));exact⟨a'::as',x'::xs',by simp only[fY,g1,g4],λrest=>by simp only[dK,bj,g2,g5],g3,g6⟩
  grind|[],_::_,_,_,_,_,h,_,_=>by simp[CH]at h|_::_,[],_,_,_,_,h,_,_=>by simp[CH]at h
omit hm in theorem Qu{a:AV}(h0:cellsOf a=some [a])(h1:jX a=true):yI m a=(dm m a).map λy=>(y,[]):=by cases a<;>first|rfl|cases h1
omit hm in theorem Qv{a:AV}(h1:jX a=true):yJ m a=fc m a:=by cases a<;>first|rfl|cases h1
theorem J0:∀{ps:List vo}{vs:List V2}{aU:List AV}{d:List gr}{k:List (Nat×Nat)}{b:List Bool},FP m2 ps vs=some (d,k,b)->aI (RV ρ B m2) vs aU->(∀t∈b,t=true)->∃as' vs',sI m aU=some (as',k)/\(∀rest,eo ps (d++rest)=some (vs',rest))/\aI (RV ρ0 0 []) vs' as'
 |[],[],aU,d,k,b,h,ha,_=>by cases h;match aU,ha with|[],_=>simp_all[bF,ρ0,RV,aI,eo,sI]
 |p::ps,v::vs,aU,d,k,b,h,ha,hb=>by
  simp[FP]at h;split at h;.rename_i d1 k1 b1 d2 k2 b2 h1 h2;cases h;match aU,ha with
   |a::aU,ha=>
    obtain⟨as',vs',g4,g5,g6⟩:=J0 h2 ha.2 (λt ht=>hb t (du _ ht));have qC:∀t∈b1,t=true:=λt ht=>hb t (dt _ ht);have one:∃a' v',yJ m a=some (a',k1)/\(∀rest,eo (p::ps) (d1++rest)=(match eo ps rest with|some (xs,r'')=>some (v'::xs,r'')|none=>none))/\RV ρ0 0 [] v' a':=by
     unfold vo.ai3 at h1;split at h1
     .obtain⟨a',x',q0,q2,q3⟩:=HT hm h1 ha.1 qC;have q1:fc m a=some (a',k1):=by rcases q0 with⟨_,g⟩|⟨g,_⟩<;>grind
      have hc:=RC.cell ha.1;exact⟨a',.c x',by rw[Qv hc.2.1,q1],λrest=>by simp only[eo,uR.fill,q2];rfl,q3⟩
     .obtain⟨bs,e,hc⟩:=ha.1;subst e;obtain⟨LU,Z0,q1,q2,q3⟩:=C4 hm h1 hc qC;exact⟨.agg LU,.agg Z0,by simp only[yJ,q1,cf],λrest=>by simp only[eo,uR.fill,q2];rfl,LU,rfl,q3⟩
     grind
    obtain⟨a',v',g1,g2,g3⟩:=one;exact⟨a'::as',v'::vs',by simp only[sI,g1,g4],λrest=>by rw[bj,g2,g5],g3,g6⟩
  grind|[],_::_,_,_,_,_,h,_,_=>by simp[FP]at h|_::_,[],_,_,_,_,h,_,_=>by simp[FP]at h
theorem J1{c:iB}{x:Cell}{a:AV}{d:List gr}{b:List Bool}(h:c.arg m2 false x=some (d,[],b))(hx:RC ρ B m2 x a)(hb:∀t∈b,t=true):∃a' x',dm m a=some a'/\(∀rest,c.fill (d++rest)=some (x',rest))/\RC ρ0 0 [] x' a':=by
 obtain⟨a',x',g,g2,g3⟩:=HT hm h hx hb;rcases g with⟨g,_⟩|⟨_,g,_⟩;.cases g
 .exact⟨a',x',g,g2,g3⟩
theorem Gb:∀{l:List iB}{cs:List Cell}{aU:List AV}{d:List gr}{b:List Bool},yU m2 l cs=some (d,b)->aI (RC ρ B m2) cs aU->(∀t∈b,t=true)->∃as' xs',qq m aU=some as'/\(∀rest,dK l (d++rest)=some (xs',rest))/\aI (RC ρ0 0 []) xs' as'
 |[],[],aU,d,b,h,ha,_=>by cases h;match aU,ha with|[],_=>exact⟨[],[],rfl,λ_=>rfl,trivial⟩
 |c::cs,x::xs,aU,d,b,h,ha,hb=>by
  simp only[yU]at h;split at h;.rename_i d1 b1 d2 b2 h1 h2;cases h;match aU,ha with|a::aU,ha=>obtain⟨a',x',g1,g2,g3⟩:=J1 hm h1 ha.1 (λt ht=>hb t (dt _ ht));obtain⟨as',xs',g4,g5,g6⟩:=Gb h2 ha.2 (λt ht=>hb t (du _ ht));exact⟨a'::as',x'::xs',by simp only[qq,g1,g4],λrest=>by simp only[dK,bj,g2,g5],g3,g6⟩
  .cases h|[],_::_,_,_,_,h,_,_=>by simp[yU]at h|_::_,[],_,_,_,h,_,_=>by simp[yU]at h
omit hm in theorem MO{a:AV}(h1:jX a=true):sJ m a=dm m a:=by cases a<;>first|rfl|cases h1
theorem J2:∀{ps:List vo}{vs:List V2}{aU:List AV}{d:List gr}{b:List Bool},FQ m2 ps vs=some (d,b)->aI (RV ρ B m2) vs aU->(∀t∈b,t=true)->∃as' vs',rJ m aU=some as'/\(∀rest,eo ps (d++rest)=some (vs',rest))/\aI (RV ρ0 0 []) vs' as'
 |[],[],aU,d,b,h,ha,_=>by cases h;match aU,ha with|[],_=>exact⟨[],[],rfl,λ_=>rfl,trivial⟩
 |p::ps,v::vs,aU,d,b,h,ha,hb=>by
  simp only[FQ]at h;split at h;.rename_i d1 b1 d2 b2 h1 h2;cases h;match aU,ha with
   |a::aU,ha=>
    obtain⟨as',vs',g4,g5,g6⟩:=J2 h2 ha.2 (λt ht=>hb t (du _ ht));have qC:∀t∈b1,t=true:=λt ht=>hb t (dt _ ht);have one:∃a' v',sJ m a=some a'/\(∀rest,eo (p::ps) (d1++rest)=(match eo ps rest with|some (xs,r'')=>some (v'::xs,r'')|none=>none))/\RV ρ0 0 [] v' a':=by
     unfold vo.ai4 at h1;split at h1
     .split at h1;.rename_i hx;cases h1;obtain⟨a',x',q1,q2,q3⟩:=J1 hm hx ha.1 qC;have hc:=RC.cell ha.1;exact⟨a',.c x',by rw[MO hc.2.1,q1],λrest=>by simp only[eo,uR.fill,q2];rfl,q3⟩
      .cases h1
     .obtain⟨bs,e,hc⟩:=ha.1;subst e;obtain⟨LU,Z0,q1,q2,q3⟩:=Gb hm h1 hc qC;exact⟨.agg LU,.agg Z0,by simp only[sJ,q1,cf],λrest=>by simp only[eo,uR.fill,q2];rfl,LU,rfl,q3⟩
     .cases h1
    obtain⟨a',v',g1,g2,g3⟩:=one;exact⟨a'::as',v'::vs',by simp only[rJ,g1,g4],λrest=>by rw[bj,g2,g5],g3,g6⟩
  .cases h|[],_::_,_,_,_,h,_,_=>by simp[FQ]at h|_::_,[],_,_,_,h,_,_=>by simp[FQ]at h
theorem J3:∀{ps:List vo}{vs:List V2}{aU:List AV}{d:List gr}{k:List (Nat×Nat)}{b:List Bool},FJ m2 ps vs=some (d,k,b)->aI (RV ρ B m2) vs aU->(∀t∈b,t=true)->∃as' vs',sH m aU=some (as',k)/\(∀rest,eo ps (d++rest)=some (vs',rest))/\aI (RV ρ0 0 []) vs' as'
 |[],[],aU,d,k,b,h,ha,_=>by cases h;match aU,ha with|[],_=>simp_all[bF,ρ0,RV,aI,eo,sH]
 |p::ps,v::vs,aU,d,k,b,h,ha,hb=>by
  simp[FJ]at h;split at h;.rename_i d1 k1 b1 d2 k2 b2 h1 h2;cases h;match aU,ha with
   |a::aU,ha=>
    obtain⟨as',vs',g4,g5,g6⟩:=J3 h2 ha.2 (λt ht=>hb t (du _ ht));have qC:∀t∈b1,t=true:=λt ht=>hb t (dt _ ht);have one:∃a' v',yI m a=some (a',k1)/\(∀rest,eo (p::ps) (d1++rest)=(match eo ps rest with|some (xs,r'')=>some (v'::xs,r'')|none=>none))/\RV ρ0 0 [] v' a':=by
     unfold vo.arg at h1;split at h1
     .obtain⟨a',x',q0,q2,q3⟩:=HT hm h1 ha.1 qC;have q1:dm m a=some a'/\k1=[]:=by rcases q0 with⟨g,_⟩|⟨_,g⟩<;>grind
      obtain⟨q1,rfl⟩:=q1;have hc:=RC.cell ha.1;exact⟨a',.c x',by rw[Qu hc.1 hc.2.1,q1];rfl,λrest=>by simp only[eo,uR.fill,q2];rfl,q3⟩
     .obtain⟨bs,e,hc⟩:=ha.1;subst e;obtain⟨LU,Z0,q1,q2,q3⟩:=C4 hm h1 hc qC;exact⟨.agg LU,.agg Z0,by simp only[yI,q1,cf],λrest=>by simp only[eo,uR.fill,q2];rfl,LU,rfl,q3⟩
     .split at h1;.rename_i f f' hf;have e:=bb hf;subst e;cases h1;obtain⟨bs,e,hc⟩:=ha.1;subst e;match bs,hc with|[],_=>exact⟨.fL _ [],.fL _ [],rfl,λrest=>by simp only[eo,ge];rfl,[],rfl,trivial⟩
      grind
     grind
    obtain⟨a',v',g1,g2,g3⟩:=one;exact⟨a'::as',v'::vs',by simp only[sH,g1,g4],λrest=>by rw[bj,g2,g5],g3,g6⟩
  grind|[],_::_,_,_,_,_,h,_,_=>by simp[FJ]at h|_::_,[],_,_,_,_,h,_,_=>by simp[FJ]at h
end
def xS{sz:Nat}:∀(n:Nat){l:List Cell}{ds:List D},cB l=some ds->aI (λc d=>cB c=some d) (bS.chunk sz n l) (bS.chunk sz n ds)|0,_,_,_=>trivial|n+1,_,_,h=>⟨tQ sz h,xS n (tR sz h)⟩
def HU{c:iB}{x':Cell}{d:List gr}{y:D}(hd:uT c x'=some d)(hy:pE x'=some y):∃x2,(∀rest,c.fill (d++rest)=some (x2,rest))/\∀(ρ:bF)(B:Nat)(m:List (Tr E2)),RC ρ B m x2 (.d y):=by
 unfold uT at hd;split at hd
 .split at hd;.cases hd;cases hy;exact⟨_,λ_=>rfl,λ_ _ _=>rfl⟩
  .cases hd
 .cases hd;cases hy;exact⟨_,λ_=>rfl,λ_ _ _=>rfl⟩
 .cases hd;cases hy;exact⟨_,λ_=>rfl,λ_ _ _=>rfl⟩
 .cases hd;cases hy;exact⟨_,λ_=>rfl,λ_ _ _=>.inl rfl⟩
 .cases hd;cases hy;exact⟨_,λ_=>rfl,λ_ _ _=>.inl rfl⟩
 .cases hd
section
variable{ρ:bF}{B:Nat}{m2:List (Tr E2)}{m:List (Tr bM)}(hm:MR ρ B m2 m)
include hm
theorem Z1{x x':Cell}{a:AV}(h:adZ m2 x=some x')(hx:RC ρ B m2 x a):∃y,jd m a=some y/\pE x'=some y:=by
 unfold adZ at h;split at h;.cases h;cases hx;exact⟨_,rfl,rfl⟩
 .cases h;cases hx;exact⟨_,rfl,rfl⟩
 .cases h;cases hx;exact⟨_,rfl,rfl⟩
 .cases h;cases hx;exact⟨_,rfl,rfl⟩
 .cases h;rcases(iD (m:=m) hx).2with rfl|⟨o,ho,rfl⟩<;>exact⟨_,rfl,rfl⟩
 .cases h;rcases(jk (m:=m) hx).2.1with rfl|⟨o,rfl⟩<;>exact⟨_,rfl,rfl⟩
 .split at h;.rename_i r hr;cases h;have he:=nH hm hx hr;obtain⟨_,u,n,hu,rfl,hn⟩:=hx;exact⟨_,by simp only[jd,he,cf],rfl⟩
  grind
 .split at h;.rename_i r hr;cases h;have he:=kz hm hx hr (hx.2.choose_spec.2.2 r hr);obtain⟨_,u,hu,rfl,_⟩:=hx;exact⟨_,by simp only[jd,he,cf],rfl⟩
  grind
 grind
theorem OI:∀{xs xs':List Cell}{aU:List AV},ZF m2 xs=some xs'->aI (RC ρ B m2) xs aU->∃ds,jy m aU=some ds/\cB xs'=some ds
 |[],xs',[],h,_=>by cases h;exact⟨[],rfl,rfl⟩|x::xs,xs',a::aU,h,ha=>by
  simp[ZF]at h;split at h;.rename_i y ys h1 h2;cases h;obtain⟨d,g1,g2⟩:=Z1 hm h1 ha.1;obtain⟨ds,g3,g4⟩:=OI h2 ha.2;exact⟨d::ds,by simp only[jy,g1,g3],by simp only[cB,g2,g4]⟩
  grind|[],_,_::_,_,ha=>ha.elim|_::_,_,[],_,ha=>ha.elim
omit hm in theorem Qw{a:AV}{y:D}(h:jd m a=some y):mw m a=some (.d y):=by cases a<;>first|(simp only[mw,h];rfl)|cases h
omit hm in theorem Qx{a:AV}{y:D}(h:jd m a=some y):rL m a=e9 a:=by cases a<;>first|rfl|cases h
theorem J4{agg:Bool}{c:iB}{x:Cell}{a:AV}{d:List gr}{b:List Bool}(h:c.mw m2 agg x=some (d,b))(hx:RC ρ B m2 x a)(hb:∀t∈b,t=true):∃y x',(agg=true->jd m a=some y)/\(agg=false->mw m a=some (.d y)/\bn ρ (Am m2 (.c x)) (rL m a))/\(∀rest,c.fill (d++rest)=some (x',rest))/\RC ρ0 0 [] x' (.d y):=by
 have one:∀{y:D}{x':Cell},Am m2 (.c x)=HC (.c x)->jd m a=some y->(∀rest,c.fill (d++rest)=some (x',rest))->RC ρ0 0 [] x' (.d y)->∃y x',(agg=true->jd m a=some y)/\(agg=false->mw m a=some (.d y)/\bn ρ (Am m2 (.c x)) (rL m a))/\(∀rest,c.fill (d++rest)=some (x',rest))/\RC ρ0 0 [] x' (.d y):=λhk h1 h2 h3=>⟨_,_,λ_=>h1,λ_=>⟨Qw h1,by rw[hk,Qx h1];exact OG (v:=.c x) hx⟩,h2,h3⟩;unfold iB.mw at h;split at h<;>(try dsimp only at h)
 .split at h;.cases h;cases hx;exact one rfl rfl (λ_=>rfl) rfl
  grind
 .cases h;cases hx;exact one rfl rfl (λ_=>rfl) rfl
 .cases h;cases hx;exact one rfl rfl (λ_=>rfl) rfl
 .rename_i t o f;have key:jd m a=some (.sl (bB t [])):=by rcases(iD (m:=m) hx).2with rfl|⟨o',ho,rfl⟩<;>rfl
  split at h;.cases h;exact one rfl key (λ_=>rfl) (.inl rfl)
  .cases h;exact one rfl key (λ_=>rfl) (.inl rfl)
  grind
 .rename_i t0 o t l o';have key:jd m a=some (.sl (bB t l)):=by rcases(jk (m:=m) hx).2.1with rfl|⟨o',rfl⟩<;>rfl
  split at h;.cases h;exact one rfl key (λ_=>rfl) (.inl rfl)
  .cases h;exact one rfl key (λ_=>rfl) (.inl rfl)
  grind
 .rename_i t0 o lv sq av t;cases hr:rowOf m2 lv sq av with|none=>grind|some r=>
  simp[hr]at h;have he:=nH hm hx hr;obtain⟨_,u,n,hu,rfl,hn⟩:=hx;have key:jd m (.ref lv sq u 0 n t.size)=some (.sl (bB r.t r.l)):=by simp[jd,he,cf]
  cases o with|d=>cases h;exact one rfl key (λ_=>rfl) (.inl rfl)|aY=>cases h;exact one rfl key (λ_=>rfl) (.inl rfl)|full=>simp at h|app v=>simp at h
 .rename_i t0 o lv sq av t off len;cases hr:rowOf m2 lv sq av with|none=>grind|some r=>
  simp[hr]at h;have fin:b=[decide (off+len<=r.l.length)]->jd m a=some (.sl (bB r.t ((r.l.drop off).take len))):=by intro hb';have hle:=dE (hb (decide (off+len<=r.l.length)) (by rw[hb'];exact ca.2 rfl));have he:=kz hm hx hr hle;obtain⟨_,u,hu,rfl,_⟩:=hx;simp[jd,he,cf]
  cases o with|d=>cases h;exact one rfl (fin rfl) (λ_=>rfl) (.inl rfl)|aY=>cases h;exact one rfl (fin rfl) (λ_=>rfl) (.inl rfl)|full=>simp at h|app v=>simp at h
 .rename_i t o lv sq av off n sz;split at h
  .rename_i v cs hg;split at h
   .rename_i l hc hp;rw[ba]at hc;have hv:=bb hc.1;subst hv;have hle:=i7 hc.2;obtain⟨dcs,hd,hp⟩:=bg hp;obtain⟨_,u,hu,rfl⟩:=hx;obtain⟨e,g1,g2⟩:=hm.gz _ _ _ hg;obtain⟨_,u',aU,g3,rfl,g4⟩:=g2;rw[hu]at g3;obtain⟨ds,q1,q2⟩:=OI hm hd ((g4.drop off).take (n*sz));have hl:=za hp (xS n q2);have hbx:pV m lv sq u=some aU:=by unfold pV<;>simp_all
    have key:mw m (.fX lv sq u off n sz)=some (.d (.sl (bB t l))):=by simp only[mw,hbx];rw[be (by rw[<-g4.length];exact hle),q1]<;>grind
    have hkeys:bn ρ (Am m2 (.c (.fX lv sq v off n sz))) (rL m (.fX lv sq u off n sz)):=by simp[Am,hg,rL,hbx];exact bn.ke lv sq (xP g4)
    split at h;.cases h;exact⟨_,_,λh=>(by cases h),λ_=>⟨key,hkeys⟩,λ_=>rfl,.inl rfl⟩
    .cases h;exact⟨_,_,λh=>(by cases h),λ_=>⟨key,hkeys⟩,λ_=>rfl,.inl rfl⟩
    grind
   grind
  grind
 grind
theorem Gc:∀{cs:List iB}{xs:List Cell}{aU:List AV}{d:List gr}{b:List Bool},yS m2 cs xs=some (d,b)->aI (RC ρ B m2) xs aU->(∀t∈b,t=true)->∃ys xs',jy m aU=some ys/\(∀rest,dK cs (d++rest)=some (xs',rest))/\aI (RC ρ0 0 []) xs' (ys.map .d)
 |[],[],aU,d,b,h,ha,_=>by cases h;match aU,ha with|[],_=>simp_all[bF,ρ0,RC,aI,dK,jy]
 |c::cs,x::xs,aU,d,b,h,ha,hb=>by
  simp[yS]at h;split at h;.rename_i d1 b1 d2 b2 h1 h2;cases h;match aU,ha with|a::aU,ha=>obtain⟨y,x',g1,_,g2,g3⟩:=J4 hm h1 ha.1 (λt ht=>hb t (dt _ ht));obtain⟨ys,xs',g4,g5,g6⟩:=Gc h2 ha.2 (λt ht=>hb t (du _ ht));exact⟨y::ys,x'::xs',by simp only[jy,g1 rfl,g4],λrest=>by simp only[dK,bj,g2,g5],g3,g6⟩
  grind|[],_::_,_,_,_,h,_,_=>by simp[yS]at h|_::_,[],_,_,_,h,_,_=>by simp[yS]at h
theorem Gd:∀{ps:List vo}{vs:List V2}{aU:List AV}{d:List gr}{b:List Bool},yT m2 ps vs=some (d,b)->aI (RV ρ B m2) vs aU->(∀t∈b,t=true)->∃as' vs',wQ m aU=some as'/\bn ρ (vs.flatMap (Am m2)) (aU.flatMap (rL m))/\(∀rest,eo ps (d++rest)=some (vs',rest))/\aI (RV ρ0 0 []) vs' as'
 |[],[],aU,d,b,h,ha,_=>by cases h;match aU,ha with|[],_=>exact⟨[],[],rfl,bn.nil,λ_=>rfl,trivial⟩
 |p::ps,v::vs,aU,d,b,h,ha,hb=>by
  simp[yT]at h;split at h;.rename_i d1 b1 d2 b2 h1 h2;cases h;match aU,ha with
   |a::aU,ha=>
    obtain⟨as',vs',g4,g7,g5,g6⟩:=Gd h2 ha.2 (λt ht=>hb t (du _ ht));have qC:∀t∈b1,t=true:=λt ht=>hb t (dt _ ht);have one:∃a' v',mw m a=some a'/\bn ρ (Am m2 v) (rL m a)/\(∀rest,eo (p::ps) (d1++rest)=(match eo ps rest with|some (xs,r'')=>some (v'::xs,r'')|none=>none))/\RV ρ0 0 [] v' a':=by
     unfold vo.mw at h1;split at h1;.obtain⟨y,x',_,q1,q2,q3⟩:=J4 hm h1 ha.1 qC;exact⟨_,.c x',(q1 rfl).1,(q1 rfl).2,λrest=>by simp only[eo,uR.fill,q2];rfl,q3⟩
     .obtain⟨bs,e,hc⟩:=ha.1;subst e;obtain⟨ys,Z0,q1,q2,q3⟩:=Gc hm h1 hc qC;exact⟨.agg (ys.map .d),.agg Z0,by simp only[mw,q1,cf],xP hc,λrest=>by simp only[eo,uR.fill,q2];rfl,_,rfl,q3⟩
     .split at h1;.rename_i f f' hf;have e:=bb hf;subst e;cases h1;obtain⟨bs,e,hc⟩:=ha.1;subst e;match bs,hc with|[],_=>exact⟨.fL _ [],.fL _ [],rfl,bn.nil,λrest=>by simp only[eo,ge];rfl,[],rfl,trivial⟩
      grind
     grind
    obtain⟨a',v',g1,g8,g2,g3⟩:=one;exact⟨a'::as',v'::vs',by simp only[wQ,g1,g4],(by simp only[eQ];exact g8.append g7),λrest=>by rw[bj,g2,g5],g3,g6⟩
  grind|[],_::_,_,_,_,h,_,_=>by simp[yT]at h|_::_,[],_,_,_,h,_,_=>by simp[yT]at h
end
def qc{α:Type}{l:List Bool}{k:Option α}{r:α}(h:vP l k=some r):(∀t∈l,t=true)/\k=some r:=by induction l with|nil=>grind[vP]|cons b l ih=>obtain⟨h1,h2⟩:=cC h<;>grind
section
variable{α:Type}{ρ:bF}{B:Nat}{s2:S2}{s:St}{r:α}(hm:MR ρ B s2.mem s.mem)(cr:vS ρ B s2.mem s2.slots s.slots)
include hm cr
theorem Z2{ar:Bd}{K:Bool->List Cell->Option α}(h:ad1 s2 ar K=some r):∃a cs v,I2 s ar=some v/\R1 ρ B s2.mem (a,cs) v/\K a cs=some r:=by
 unfold ad1 at h;split at h
 .split at h;.rename_i x hx;have hv:=cr _ _ hx;refine⟨false,[x],_,?_,⟨x,rfl,hv⟩,h⟩;simp[I2,(RC.cell hv).2.2]
  .rename_i cs hx;obtain⟨aU,e,hv⟩:=cr _ _ hx;refine⟨true,cs,.agg aU,?_,⟨aU,rfl,hv⟩,h⟩;simp[I2,e,gy]
  grind
 .obtain⟨p,hp,h⟩:=cI h;obtain⟨cs,aU,h1,h2,h3⟩:=JV hm h (cr _ _ hp);split at h3;.refine⟨true,cs,.agg aU,?_,⟨aU,rfl,h2⟩,h3⟩;simp[I2,h1,ae,iz]
  .rename_i x _;match aU,h2 with|[a],h2=>refine⟨false,[x],a,?_,⟨x,rfl,h2.1⟩,h3⟩;simp[I2,h1,ae,iz]
  grind
theorem C5:∀{l:List Bd}{K:List (Bool×List Cell)->Option α},FN s2 l K=some r->∃vs aU,kg s l=some aU/\aI (R1 ρ B s2.mem) vs aU/\K vs=some r|[],K,h=>⟨[],[],rfl,trivial,h⟩|x::l,K,h=>by obtain⟨a,cs,v,h1,h2,h⟩:=Z2 hm cr h;obtain⟨vs,aU,h3,h4,h⟩:=C5 h;exact⟨(a,cs)::vs,v::aU,by simp only[kg,h1,h3],⟨h2,h4⟩,h⟩
end
def xT{cm:List (Tr bM)}{top k lv sl av:Nat}{els:List (List D)}{o:YT}(h:o≠.aY):bC cm top 0 k lv sl av (.own els o)=some (.d (.sl els),[]):=by cases o with|aY=>grind|_=>rfl
section
variable{ρ:bF}{B:Nat}{m2:List (Tr E2)}{m:List (Tr bM)}(hm:MR ρ B m2 m)
include hm
theorem OJ{top k lv sl av:Nat}{x y:Cell}{a:AV}(h:S4 m2 top x=some y)(hx:RC ρ B m2 x a):∃a',bC m top 0 k lv sl av a=some (a',[])/\RC ρ B (m2.take top) y a':=by
 unfold S4 at h;split at h;.cases h;cases hx;exact⟨_,rfl,rfl⟩
 .cases h;cases hx;exact⟨_,rfl,rfl⟩
 .cases h;cases hx;exact⟨_,rfl,rfl⟩
 .cases h;cases hx;exact⟨_,rfl,rfl⟩
 .cases h;rcases(iD (m:=m) hx).2with e|⟨o',ho,e⟩;.subst e;exact⟨_,rfl,.inl rfl⟩
  .subst e;exact⟨_,xT ho,.inl rfl⟩
 .cases h
 .rename_i t l o hne;cases h;rcases(jk (m:=m) hx).2.2 (λe=>hne e)with e|⟨o2,ho,e⟩;.subst e;exact⟨_,rfl,.inl rfl⟩
  .subst e;exact⟨_,xT ho,.inl rfl⟩
 .split at h
  .rename_i hb;cases h;obtain⟨hv,u,n,hu,rfl,hn⟩:=hx;refine⟨_,by simp only[bC,hb],hv,u,n,hu,rfl,λr hr=>hn r ?_⟩;have h1:=cR hr;refine gX.2 ?_;unfold j5 at h1⊢;rw[gg]at h1;split at h1;.exact h1
   .cases h1
  .rename_i hb;split at h;.rename_i r hr;cases h;have he:=nH hm hx hr;obtain⟨hv,u,n,hu,rfl,hn⟩:=hx;refine⟨.d (.sl (bB r.t r.l)),?_,.inl rfl⟩;simp[bC,hb,he]
   .cases h
 .rename_i cV dy gU t off len;split at h
  .rename_i hb;cases h;obtain⟨hv,u,hu,rfl,hn⟩:=hx;refine⟨_,by simp only[bC,hb],hv,u,hu,rfl,λr hr=>hn r ?_⟩;have h1:=cR hr;refine gX.2 ?_;unfold j5 at h1⊢;rw[gg]at h1;split at h1;.exact h1
   .cases h1
  .rename_i hb;split at h;.rename_i r hr;cases h;have he:=kz hm hx hr (hx.2.choose_spec.2.2 r hr);obtain⟨hv,u,hu,rfl,hn⟩:=hx;refine⟨.d (.sl (bB r.t ((r.l.drop off).take len))),?_,.inl rfl⟩;simp[bC,hb,he]
   .cases h
 .split at h;.rename_i hb;cases h;obtain⟨hv,u,hu,rfl⟩:=hx;exact⟨_,by simp only[bC,hb],hv,u,hu,rfl⟩
  .cases h
 .cases h
theorem J5{top lv sl av:Nat}:∀{k:Nat}{xs ys:List Cell}{aU:List AV},CI m2 top xs=some ys->aI (RC ρ B m2) xs aU->∃as',dR m top 0 lv sl av k aU=some (as',[])/\aI (RC ρ B (m2.take top)) ys as'
 |k,[],ys,aU,h,ha=>by cases h;match aU,ha with|[],_=>exact⟨[],rfl,trivial⟩
 |k,x::xs,ys,aU,h,ha=>by
  simp[CI]at h;split at h;.rename_i y ys' h1 h2;cases h;match aU,ha with|a::aU,ha=>obtain⟨a',g1,g2⟩:=OJ hm (k:=k) (lv:=lv) (sl:=sl) (av:=av) h1 ha.1;obtain⟨as',g3,g4⟩:=J5 (lv:=lv) (sl:=sl) (av:=av) (k:=k+1) h2 ha.2;exact⟨a'::as',by simp only[dR,g1,g3,dv],g2,g4⟩
  grind
theorem OK{top lv sl av k:Nat}{b:Bool}{xs ys:List Cell}{a:AV}(h:CI m2 top xs=some ys)(ha:R1 ρ B m2 (b,xs) a):∃a',mF m top 0 lv sl av k a=some (a',[])/\R1 ρ B (m2.take top) (b,ys) a':=by cases b with|true=>obtain⟨aU,rfl,ha⟩:=ha;obtain⟨as',g1,g2⟩:=J5 hm (k:=k) (lv:=lv) (sl:=sl) (av:=av) h ha<;>simp_all[RC,aI,CI,bF,R1,mF]|false=>
 obtain⟨c,rfl,ha⟩:=ha;simp[CI]at h;split at h;.rename_i y ys' h1 h2;simp_all;subst h;obtain⟨a',g1,g2⟩:=OJ hm (k:=k) (lv:=lv) (sl:=sl) (av:=av) h1 ha;refine⟨a',?_,y,rfl,g2⟩;have hc:=RC.cell ha;cases a<;>first|exact g1|cases hc.2.1
 grind
theorem Ge{top lv sl av:Nat}:∀{k:Nat}{vs ws:List (Bool×List Cell)}{aU:List AV},An m2 top vs=some ws->aI (R1 ρ B m2) vs aU->∃as',gx m top 0 lv sl av k aU=some (as',[])/\aI (R1 ρ B (m2.take top)) ws as'
 |k,[],ws,aU,h,ha=>by cases h;match aU,ha with|[],_=>exact⟨[],rfl,trivial⟩
 |k,(b,x)::xs,ws,aU,h,ha=>by
  simp[An]at h;split at h;.rename_i y ys' h1 h2;cases h;match aU,ha with|a::aU,ha=>obtain⟨a',g1,g2⟩:=OK hm (k:=k) (lv:=lv) (sl:=sl) (av:=av) h1 ha.1;obtain⟨as',g3,g4⟩:=Ge (lv:=lv) (sl:=sl) (av:=av) (k:=k+64) h2 ha.2;exact⟨a'::as',by simp only[gx,g1,g3,dv],g2,g4⟩
  grind
omit hm in theorem R1.gy{b:Bool}{cs:List Cell}{a:AV}(h:R1 ρ B m2 (b,cs) a):bS.gy a=true:=by cases b with|true=>obtain⟨aU,rfl,_⟩:=h;rfl|false=>obtain⟨c,_,h⟩:=h;exact(RC.cell h).2.2
theorem Z3{top lv sl av:Nat}{vs ws:List (Bool×List Cell)}{w:V2}{aU:List AV}(h:An m2 top vs=some ws)(ht:qP ws=some w)(ha:aI (R1 ρ B m2) vs aU):∃a',jc m top 0 lv sl av (jq aU)=some (a',[])/\RV ρ B (m2.take top) w a':=by match vs,aU,ha with
 |[],[],ha=>cases h;cases ht;exact⟨.jU [],rfl,[],rfl,trivial⟩|[(b,x)],[a],ha=>
  simp[An]at h;split at h
  .rename_i y ys' h1 h2;simp_all;subst h;obtain⟨a',g1,g2⟩:=OK hm (k:=1) (lv:=lv) (sl:=sl) (av:=av) h1 ha.1;refine⟨a',?_,?_⟩;.have hn:=R1.gy ha.1;cases a<;>first|exact g1|cases hn
   .cases b with|true=>obtain⟨as',rfl,g3⟩:=g2;cases ht;exact⟨as',rfl,g3⟩|false=>obtain⟨c,rfl,g3⟩:=g2;cases ht;exact g3
  grind|v::v'::vs,a::a'::aU,ha=>
  obtain⟨as',g1,g2⟩:=Ge hm (k:=1) (lv:=lv) (sl:=sl) (av:=av) h ha;refine⟨.jU as',?_,?_⟩;.simp[jq,jc,g1,cf]
  .have:∃x y zs,ws=x::y::zs:=by simp[An]at h<;>grind
   obtain⟨x,y,zs,rfl⟩:=this;cases ht;exact⟨as',rfl,g2⟩
end
def BC(Fs:Nat->Option rF):Nat->Bool:=λg=>((Fs g).map (·.sh)).getD false
def Ev(Fs:Tb)(c:AC)(s:St)(x:AX×St):Prop:=∃n0,∀k n,n0<=k->n0<=n->exec (jF Fs k) (BC Fs) n c s=some x
def MP(Fs:Tb)(wk:Wk):Prop:=∀(α:Type)(ctx i:Nat)(c:AC)(s2:S2)(K:AX->S2->Option α)(r:α),wk α ctx i c s2 K=some r->∀(ρ:bF)(os:List (Tr AV))(s:St),Bz ρ os s2 s->∃ax s2' ρ' s',Ev Fs c s (ax,s')/\Bz ρ' os s2' s'/\Fr ρ s2.nv s.nv ρ' s2'.nv/\s.nv<=s'.nv/\K ax s2'=some r
def lJ(ρ:bF)(B:Nat)(m:List (Tr E2))(lv sl av p:Nat)(us:List SL):Prop:=av<B/\ρ av=some p/\∀u∈us,∀r,rowOf m lv sl av=some r->r.l.length=u.l.length
def aeh(Fs:Tb)(f:Nat)(c:Callee):Prop:=∀a y,c.F a=some y->∃vs,eo c.args (unpack c.ta a)=some (vs,[])/\∀aU,aI (RV ρ0 0 []) vs aU->∃n0 rv cm ts nv,(∀n,n0<=n->jF Fs n f aU [.lf] .lf 0=some (rv,cm,ts,nv))/\∀ws,oA c.res (unpack c.tr y)=some (ws,[])->(c.rk≠65535->∀w,qP ws=some w->∀lv sl aZ,∃a',jc cm 0 0 lv sl aZ rv=some (a',[])/\∀ρ B m,RV ρ B m w a')/\∀row lv sl av p EA us w,c.rk≠0->row%65536=c.rk->row/65536≠0->FM c.rk lv sl av 1 ws=some (EA,us)->(∀u∈us,row/65536=u.t.size)->qP EA=some w->∃a',jc cm 0 row lv sl p rv=some (a',us.map λu=>bB u.t u.l)/\∀ρ B m,lJ ρ B m lv sl av p us->RV ρ B m w a'
def lK(Fs:Tb)(f:Nat)(c:Callee):Prop:=aeh Fs f c
def r9{Fs:Tb}{f:Nat}{c:Callee}(h:∀a,c.F a=none):lK Fs f c:=λa y hy=>by grind
def TF(Fs:Tb)(c:AC)(L:Jy):Prop:=∀x y,L.F x=some y->∀s2,L.T.st (unpack L.T.tys x)=some s2->∀ρ os s,Bz ρ os s2 s->∃ax s2' ρ' s',Ev Fs (.loop c) s (ax,s')/\Bz ρ' os s2' s'/\Fr ρ s2.nv s.nv ρ' s2'.nv/\s.nv<=s'.nv/\∀{α:Type}(K:AX->S2->Option α),qQ L.outs y K=K ax s2'
structure az(Fs:Tb)(E:ai):Prop where
 fns:E.fns=Fs
 tI:∀f c,E.tI f=some c->lK Fs f c
 loops:∀ctx i c L,E.loops ctx i c=some L->TF Fs c L
structure RI(ρ:bF)(nx rem:Nat)(os:List (Tr AV))(s2:S2)(s:St)(p:Nat):Prop where
 slots:vS ρ nx s2.mem s2.slots s.slots
 outer:aI (vS ρ nx s2.mem) s2.outer os
 mem:MR ρ nx s2.mem s.mem
 aO:TR ρ nx s2.aO s.aO
 av:VOK ρ s2.nv s.nv
 Bn:∀j,j<rem->ρ (nx+j)=some (p+j)nv:nx+rem=s2.nv
 pn:p+rem<=s.nv
def qd(ρ:bF)(nx:Nat)(os:List (Tr AV))(s2:S2)(s:St):iA->ir->Prop|.cu E,.cu e=>pF ρ nx (nx+1) s2 s E e|.all v s2',.all a m t n=>∃ρ',Bz ρ' os s2' {slots:=s.slots,mem:=m,aO:=t,nv:=n}/\RV ρ' s2'.nv s2'.mem v a/\Fr ρ (nx+1) s.nv ρ' s2'.nv/\s.nv<=n|_,_=>False
section
variable{Fs:Tb}{E:ai}{wk:Wk}{α:Type}{ρ:bF}{nx rem p:Nat}{os:List (Tr AV)}{s2:S2}{s:St}{ctx row d:Nat}{K:iA->Option α}{r:α}
def vq:∀(l:List V2)(i:Nat)(t:Tr V2)(k:Nat),(kU i l t).get? k=if h:i<=k/\k<i+l.length then some (l[k-i]'(by omega))else t.get? k
 |[],i,t,k=>by rw[zt (by simp)];rfl|x::r,i,t,k=>by
  rw[kU,vq r (i+1)];by_cases h1:i+1<=k/\k<i+1+r.length;.grind
  .rw[zt h1];by_cases h2:k=i;.subst h2;simp[Tr.cD]
   .rw[zt (by simp;omega)];rw[Tr.cD,bi (pD h2)]
def xU{B:Nat}{m:List (Tr E2)}{vs:List V2}{aU:List AV}(h:aI (RV ρ B m) vs aU):vS ρ B m (kU 0 vs .lf) (ep 0 aU .lf):=by
 intro k v hk;rw[vq]at hk;rw[rX];split at hk;.subst_vars;obtain⟨b,hb,hr⟩:=h.get (k-0) _ (aw (by omega))<;>grind
 simp_all
def Gf{m:List (Tr E2)}{lv sl:Nat}:j5 (m++[.lf]) lv sl=j5 m lv sl:=by unfold j5;grind[Tr.get?]
def J6{m:List (Tr bM)}{lv sl:Nat}:aT (m++[.lf]) lv sl=aT m lv sl:=by unfold aT;grind[Tr.get?]
def MQ{m:List (Tr E2)}{lv sl av:Nat}:rowOf (m++[.lf]) lv sl av=rowOf m lv sl av:=by unfold rowOf;rw[Gf]
def uY{B:Nat}{m:List (Tr E2)}:fS B m (m++[.lf]):=λ_ _ _ r _ h=>⟨r,by rw[MQ]at h;exact h,rfl⟩
def Gg{m:List (Tr E2)}{k lv sl:Nat}{e:E2}(h:j5 (m.take k) lv sl=some e):lv<k/\j5 m lv sl=some e:=by grind[j5]
def nP{m:List (Tr bM)}{k lv sl:Nat}(h:lv<k):aT (m.take k) lv sl=aT m lv sl:=by grind[aT]
def mO{B k:Nat}{m:List (Tr E2)}:fS B m (m.take k):=λ_ _ _ r _ h=>⟨r,gX.2 (Gg (cR h)).2,rfl⟩
def MR.take{B k:Nat}{m2:List (Tr E2)}{m:List (Tr bM)}(h:MR ρ B m2 m):MR ρ B (m2.take k) (m.take k):=by refine⟨by simp[h.len],λlv sl e2 he=>?_⟩;obtain⟨h1,h2⟩:=Gg he;obtain⟨e,h3,h4⟩:=h.gz lv sl e2 h2;exact⟨e,by rw[nP h1];exact h3,RE.mono (bd _) (λ_ _=>rfl) (λ_ _=>RC.move mO (bd _) λ_ _=>rfl) h4⟩
def MR.snoc{B:Nat}{m2:List (Tr E2)}{m:List (Tr bM)}(h:MR ρ B m2 m):MR ρ B (m2++[.lf]) (m++[.lf]):=by refine⟨by simp[h.len],λlv sl e2 he=>?_⟩;rw[Gf]at he;obtain⟨e,h3,h4⟩:=h.gz lv sl e2 he;exact⟨e,by rw[J6];exact h3,RE.mono (bd _) (λ_ _=>rfl) (λ_ _=>RC.move uY (bd _) λ_ _=>rfl) h4⟩
def MR.ren{ρ':bF}{B:Nat}{m2:List (Tr E2)}{m:List (Tr bM)}(h:MR ρ B m2 m)(hρ:∀v,v<B->ρ' v=ρ v):MR ρ' B m2 m:=by refine⟨h.len,λlv sl e2 he=>?_⟩;obtain⟨e,h3,h4⟩:=h.gz lv sl e2 he;exact⟨e,h3,RE.mono (bd _) hρ (λ_ _=>RC.move (fS.refl _ _) (bd _) hρ) h4⟩
def C6{B:Nat}{m:List (Tr E2)}:∀{vs:List V2}{aU:List AV},vs.all V2.abL=true->aI (RV ρ B m) vs aU->aU.all gy=true
 |[],[],_,_=>rfl|v::vs,a::aU,h,ha=>by rw[fg,ba]at h;rw[fg,C6 h.2 ha.2,lA];cases v with|c x=>exact(RC.cell ha.1).2.2|agg cs=>obtain⟨as',e,_⟩:=ha.1;rw[e];rfl|fL f cs=>obtain⟨as',e,_⟩:=ha.1;rw[e];rfl|jU vs=>cases h.1
 |[],_::_,_,h=>h.elim|_::_,[],_,h=>h.elim
def ji{ρ':bF}{B B':Nat}{m m':List (Tr E2)}(hs:fS B m m')(hB:B<=B')(hρ:∀v,v<B->ρ' v=ρ v){ts:List (Tr V2)}(h:aI (vS ρ B m) ts os):aI (vS ρ' B' m') ts os:=h.mono λ_ _=>vS.move hs hB hρ
section
variable{B:Nat}{m2:List (Tr E2)}{m:List (Tr bM)}(hm:MR ρ B m2 m)
def ez(ρ:bF)(B top:Nat)(m2:List (Tr E2))(lv sl av p:Nat)(us:List SL)(Q:bF->Nat->List (Tr E2)->Prop):Prop:=∀ρ' B' m',lJ ρ' B' m' lv sl av p us->(∀v,v<B->ρ' v=ρ v)->B<=B'->fS B (m2.take top) m'->Q ρ' B' m'
theorem lJ.left{ρ:bF}{B:Nat}{m:List (Tr E2)}{lv sl av p:Nat}{us vs:List SL}(h:lJ ρ B m lv sl av p (us++vs)):lJ ρ B m lv sl av p us:=⟨h.1,h.2.1,λu hu=>h.2.2 u (dt _ hu)⟩
theorem lJ.right{ρ:bF}{B:Nat}{m:List (Tr E2)}{lv sl av p:Nat}{us vs:List SL}(h:lJ ρ B m lv sl av p (us++vs)):lJ ρ B m lv sl av p vs:=⟨h.1,h.2.1,λu hu=>h.2.2 u (du _ hu)⟩
theorem Az{top k lv sl av:Nat}(hn:k≠row%65536){els:List (List D)}{o:YT}(ho:o≠.aY):∃a',bC m top row k lv sl av (.own els o)=some (a',[])/\(pW top row=true->a'=.own els o)/\(a'=.own els o\/a'=.d (.sl els)):=by have h0:Nat.beq k (row%65536)=false:=beq_false.2 hn;cases o with|aY=>grind|full=>grind[pW,bC]|cT=>simp[bC]<;>grind
theorem Z4{top k lv sl av:Nat}{x y:Cell}{a:AV}(hr:row≠0)(hn:k≠row%65536)(h:ad2 m2 top x=some y)(hh:abJ top x=false)(hx:RC ρ B m2 x a):∃a',bC m top row k lv sl av a=some (a',[])/\RC ρ B (m2.take top) y a':=by
 have keep:∀{els:List (List D)}{o:YT}{z:Cell},o≠.aY->RC ρ B (m2.take top) z (.own els o)->Nat.beq top 0=false->∃a',bC m top row k lv sl av (.own els o)=some (a',[])/\RC ρ B (m2.take top) z a':=by intro els o z ho hz ht;obtain⟨a',h1,h2,_⟩:=Az (m:=m) (top:=top) (lv:=lv) (sl:=sl) (av:=av) hn (els:=els) ho;rw[h2 (by simp only[pW,beq_false.2 hr,ht];rfl)]at h1;exact⟨_,h1,hz⟩
 have lose:∀{els:List (List D)}{o:YT}{z:Cell},o≠.aY->(RC ρ B (m2.take top) z (.d (.sl els))/\RC ρ B (m2.take top) z (.own els o))->Nat.beq top 0=true->∃a',bC m top row k lv sl av (.own els o)=some (a',[])/\RC ρ B (m2.take top) z a':=by
  intro els o z ho hz ht;obtain⟨a',h1,_,h2⟩:=Az (m:=m) (top:=top) (lv:=lv) (sl:=sl) (av:=av) hn (els:=els) ho;refine⟨a',h1,?_⟩;rcases h2 with rfl|rfl;.exact hz.2
  .exact hz.1
 unfold ad2 at h;split at h
 .rename_i b;have hx':=(iD (m:=m) hx).2;split at h
  .rename_i ht;cases h;rcases hx' with rfl|⟨o,ho,rfl⟩;.exact⟨_,rfl,.inl rfl⟩
   .exact lose ho ⟨.inl rfl,.inr ⟨_,ho,rfl⟩⟩ ht
  .rename_i ht;cases h;rcases hx' with rfl|⟨o,ho,rfl⟩;.refine⟨_,rfl,?_⟩;cases b with|false=>exact .inl rfl|true=>cases hx
   .refine keep ho ?_ ht;cases b with|false=>exact .inr ⟨o,ho,rfl⟩|true=>exact hx
 .split at h
  .rename_i ht;cases h;obtain⟨h1,⟨h2,rfl⟩|⟨u,h2,rfl⟩⟩:=hx;.exact lose (λe=>by cases e) ⟨.inl rfl,.inr ⟨_,(λe=>by cases e),rfl⟩⟩ ht
   .exact lose (λe=>by cases e) ⟨.inl rfl,.inr ⟨_,(λe=>by cases e),rfl⟩⟩ ht
  .rename_i ht;cases h;obtain⟨h1,⟨h2,rfl⟩|⟨u,h2,rfl⟩⟩:=hx;.exact keep (λe=>by cases e) ⟨h1,.inl ⟨h2,rfl⟩⟩ ht
   .exact keep (λe=>by cases e) ⟨h1,.inr ⟨u,h2,rfl⟩⟩ ht
 .subst hx;split at h;.rename_i ht;cases h;exact lose (λe=>by cases e) ⟨.inl rfl,.inr ⟨_,(λe=>by cases e),rfl⟩⟩ ht
  .rename_i ht;cases h;exact keep (λe=>by cases e) rfl ht
 .rename_i hn1 hn2 hn3;unfold S4 at h;split at h;.cases h;cases hx;exact⟨_,rfl,rfl⟩
  .cases h;cases hx;exact⟨_,rfl,rfl⟩
  .cases h;cases hx;exact⟨_,rfl,rfl⟩
  .cases h;cases hx;exact⟨_,rfl,rfl⟩
  .exact absurd rfl (hn1 _)
  .cases h
  .rename_i t l o hne;cases h;have ho:o=.d:=by cases o with|d=>rfl|aY=>exact absurd rfl hne|full=>exact absurd rfl (hn3 _ _)|app v=>exact absurd rfl (hn2 _ _ _)
   subst ho;rcases hx with rfl|⟨o,ho,rfl⟩;.exact⟨_,rfl,.inl rfl⟩
   .cases ht:Nat.beq top 0with|true=>exact lose ho ⟨.inl rfl,.inr ⟨_,ho,rfl⟩⟩ ht|false=>exact keep ho (.inr ⟨o,ho,rfl⟩) ht
  .rename_i cV dy gU t;have hb:Nat.ble top cV=false:=hh;rw[hb]at h;cases h;obtain⟨hv,u,n,hu,rfl,hn⟩:=hx;refine⟨_,by simp only[bC,hb],hv,u,n,hu,rfl,λr hr=>hn r ?_⟩;have h1:=cR hr;refine gX.2 ?_;unfold j5 at h1⊢;rw[gg]at h1;split at h1;.exact h1
   .cases h1
  .rename_i cV dy gU t off len;have hb:Nat.ble top cV=false:=hh;rw[hb]at h;cases h;obtain⟨hv,u,hu,rfl,hn⟩:=hx;refine⟨_,by simp only[bC,hb],hv,u,hu,rfl,λr hr=>hn r ?_⟩;have h1:=cR hr;refine gX.2 ?_;unfold j5 at h1⊢;rw[gg]at h1;split at h1;.exact h1
   .cases h1
  .split at h;.rename_i hb;cases h;obtain⟨hv,u,hu,rfl⟩:=hx;exact⟨_,by simp only[bC,hb],hv,u,hu,rfl⟩
   .cases h
  .cases h
include hm
theorem J7{top rk k lv sl av p:Nat}{e:Option Ty}{x y:Cell}{us:List SL}{a:AV}(hr:row≠0)(EB:row%65536=rk)(h2:row/65536≠0)(h:S5 m2 top rk lv sl av e k x=some (y,us))(hx:RC ρ B m2 x a)(hu:∀u∈us,row/65536=u.t.size):∃a',bC m top row k lv sl p a=some (a',us.map λu=>bB u.t u.l)/\ez ρ B top m2 lv sl av p us λρ' B' m'=>RC ρ' B' m' y a':=by
 have hrow:Nat.beq row 0=false:=beq_false.2 hr;unfold S5 at h;split at h
 .rename_i hk;have hk:=beq_true.1 hk;subst hk;have hkk:Nat.beq k (row%65536)=true:=beq_true.2 EB.symm;have at_:∀{cV dy gU r u},rowOf m2 cV dy gU=some r->ρ gU=some u->bS.rowAt m cV dy u=some (bB r.t r.l):=by intro cV dy gU r u hr hu;obtain⟨e,g1,g2⟩:=hm.gz _ _ _ (cR hr);obtain⟨_,u',g3,rfl⟩:=g2;unfold bS.rowAt<;>simp_all
  split at h;.cases e with|none=>cases h|some t=>
    cases h;subst hx;have hs:(!Nat.beq (row/65536) 0)=true:=by rw[beq_false.2 h2];rfl
    have hu:=hu _ (ca.2 rfl);refine⟨.ref lv sl p 0 0 (row/65536),by simp only[bC,hs,hkk,lA];rfl,λρ' B' m' hf _ _ _=>⟨hf.1,p,0,hf.2.1,by rw[hu],λr hr=>?_⟩⟩;have:=hf.2.2 _ (ca.2 rfl) r hr<;>grind
  .rename_i cV dy gU t;split at h
   .rename_i r hb hr;split at h
    .rename_i hsz;have hsz:=beq_true.1 hsz;cases h;have he:=nH hm hx hr;obtain⟨hv,u,n,mq,rfl,hn⟩:=hx;refine⟨.ref lv sl p 0 n t.size,?_,λρ' B' m' hf _ _ _=>⟨hf.1,p,n,hf.2.1,by rw[hsz],λr' hr'=>?_⟩⟩;.simp only[bC,hb,he,hrow,hkk,at_ hr mq]<;>grind
     .rw[hf.2.2 _ (ca.2 rfl) r' hr']<;>grind
    grind
   grind
  .rename_i cV dy gU t off len;split at h
   .rename_i r hb hr;split at h
    .rename_i hsz;have hsz:=beq_true.1 hsz;cases h;have hle:=hx.2.choose_spec.2.2 r hr;have he:=kz hm hx hr hle;obtain⟨hv,u,mq,rfl,hn⟩:=hx;refine⟨.ref lv sl p 0 len t.size,?_,λρ' B' m' hf _ _ _=>⟨hf.1,p,len,hf.2.1,by rw[hsz],λr' hr'=>?_⟩⟩;.simp only[bC,hb,he,hrow,hkk,at_ hr mq]<;>grind
     .rw[hf.2.2 _ (ca.2 rfl) r' hr',io,ol]<;>omega
    grind
   grind
  grind
 .rename_i hk;have hk:=beq_false.1 hk;split at h;.cases h
  .rename_i hh;obtain⟨y',h1,h⟩:=f0.1 h;cases h;obtain⟨a',g1,g2⟩:=Z4 (m:=m) (k:=k) (lv:=lv) (sl:=sl) (av:=p) hr (by rw[EB];exact hk) h1 hh hx;exact⟨a',g1,λρ' B' m' _ hρ hB hs=>g2.move hs hB hρ⟩
theorem J8{top rk lv sl av p:Nat}{e:Option Ty}(hr:row≠0)(EB:row%65536=rk)(h2:row/65536≠0):∀{k:Nat}{xs ys:List Cell}{us:List SL}{aU:List AV},FO m2 top rk lv sl av e k xs=some (ys,us)->aI (RC ρ B m2) xs aU->(∀u∈us,row/65536=u.t.size)->∃as',dR m top row lv sl p k aU=some (as',us.map λu=>bB u.t u.l)/\ez ρ B top m2 lv sl av p us λρ' B' m'=>aI (RC ρ' B' m') ys as'
 |k,[],ys,us,aU,h,ha,_=>by cases h;match aU,ha with|[],_=>exact⟨[],rfl,λ_ _ _ _ _ _ _=>trivial⟩
 |k,x::xs,ys,us,aU,h,ha,hu=>by
  simp[FO]at h;split at h;.rename_i y u ys' us' h1 h3;cases h;match aU,ha with|a::aU,ha=>obtain⟨a',g1,g2⟩:=J7 hm (p:=p) hr EB h2 h1 ha.1 λv hv=>hu v (dt _ hv);obtain⟨as',g3,g4⟩:=J8 (p:=p) hr EB h2 h3 ha.2 λv hv=>hu v (du _ hv);refine⟨a'::as',by simp only[dR,g1,g3,fx],λρ' B' m' hf h4 h5 h6=>⟨g2 ρ' B' m' hf.left h4 h5 h6,g4 ρ' B' m' hf.right h4 h5 h6⟩⟩
  grind
theorem Gh{top rk k lv sl av p:Nat}{e:Option Ty}(hr:row≠0)(EB:row%65536=rk)(h2:row/65536≠0){b:Bool}{xs ys:List Cell}{us:List SL}{a:AV}(h:FO m2 top rk lv sl av e k xs=some (ys,us))(ha:R1 ρ B m2 (b,xs) a)(hu:∀u∈us,row/65536=u.t.size):∃a',mF m top row lv sl p k a=some (a',us.map λu=>bB u.t u.l)/\ez ρ B top m2 lv sl av p us λρ' B' m'=>R1 ρ' B' m' (b,ys) a':=by cases b with|true=>obtain⟨aU,rfl,ha⟩:=ha;obtain⟨as',g1,g2⟩:=J8 hm (p:=p) hr EB h2 h ha hu;exact⟨.agg as',by simp only[mF,g1,cf],λρ' B' m' hf h4 h5 h6=>⟨as',rfl,g2 ρ' B' m' hf h4 h5 h6⟩⟩|false=>
 obtain⟨c,rfl,ha⟩:=ha;simp[FO]at h;split at h;.rename_i y u ys' us' h1 h3;cases h3;simp at h;obtain⟨rfl,rfl⟩:=h;obtain⟨a',g1,g2⟩:=J7 hm (p:=p) hr EB h2 h1 ha hu;refine⟨a',?_,λρ' B' m' hf h4 h5 h6=>⟨y,rfl,g2 ρ' B' m' hf h4 h5 h6⟩⟩;have hc:=RC.cell ha;cases a<;>first|exact g1|cases hc.2.1
 grind
theorem J9{top rk lv sl av p:Nat}{e:Option Ty}(hr:row≠0)(EB:row%65536=rk)(h2:row/65536≠0):∀{k:Nat}{vs ws:List (Bool×List Cell)}{us:List SL}{aU:List AV},CJ m2 top rk lv sl av e k vs=some (ws,us)->aI (R1 ρ B m2) vs aU->(∀u∈us,row/65536=u.t.size)->∃as',gx m top row lv sl p k aU=some (as',us.map λu=>bB u.t u.l)/\ws.length=vs.length/\ez ρ B top m2 lv sl av p us λρ' B' m'=>aI (R1 ρ' B' m') ws as'
 |k,[],ws,us,aU,h,ha,_=>by cases h;match aU,ha with|[],_=>exact⟨[],rfl,rfl,λ_ _ _ _ _ _ _=>trivial⟩
 |k,(b,x)::xs,ws,us,aU,h,ha,hu=>by
  simp[CJ]at h;split at h;.rename_i y u ys' us' h1 h3;cases h;match aU,ha with|a::aU,ha=>obtain⟨a',g1,g2⟩:=Gh hm (p:=p) hr EB h2 h1 ha.1 λv hv=>hu v (dt _ hv);obtain⟨as',g3,gl,g4⟩:=J9 (p:=p) hr EB h2 h3 ha.2 λv hv=>hu v (du _ hv);refine⟨a'::as',by simp only[gx,g1,g3,fx],by rw[eK,eK,gl],λρ' B' m' hf h4 h5 h6=>⟨g2 ρ' B' m' hf.left h4 h5 h6,g4 ρ' B' m' hf.right h4 h5 h6⟩⟩
  grind
theorem Ka{top rk lv sl av p:Nat}{e:Option Ty}(hr:row≠0)(EB:row%65536=rk)(h2:row/65536≠0){vs ws:List (Bool×List Cell)}{us:List SL}{w:V2}{aU:List AV}(h:CJ m2 top rk lv sl av e 1 vs=some (ws,us))(ht:qP ws=some w)(ha:aI (R1 ρ B m2) vs aU)(hu:∀u∈us,row/65536=u.t.size):∃a',jc m top row lv sl p (jq aU)=some (a',us.map λu=>bB u.t u.l)/\ez ρ B top m2 lv sl av p us λρ' B' m'=>RV ρ' B' m' w a':=by match vs,aU,ha with
 |[],[],ha=>cases h;cases ht;exact⟨.jU [],rfl,λ_ _ _ _ _ _ _=>⟨[],rfl,trivial⟩⟩|[(b,x)],[a],ha=>
  simp[CJ]at h;split at h
  .rename_i y u ys' us' h1 h3;cases h3;simp at h;obtain⟨rfl,rfl⟩:=h;obtain⟨a',g1,g2⟩:=Gh hm (p:=p) hr EB h2 h1 ha.1 hu;refine⟨a',?_,λρ' B' m' hf h4 h5 h6=>?_⟩;.have hn:=R1.gy ha.1;cases a<;>first|exact g1|cases hn
   .have g2:=g2 ρ' B' m' hf h4 h5 h6;cases b with|true=>obtain⟨as',rfl,g3⟩:=g2;cases ht;exact⟨as',rfl,g3⟩|false=>obtain⟨c,rfl,g3⟩:=g2;cases ht;exact g3
  grind|v::v'::vs,a::a'::aU,ha=>obtain⟨as',g1,gl,g2⟩:=J9 hm (p:=p) hr EB h2 h ha hu;refine⟨.jU as',by simp only[jq,jc,g1,cf],λρ' B' m' hf h4 h5 h6=>?_⟩;match ws,gl,ht with|x::y::zs,_,ht=>cases ht;exact⟨as',rfl,g2 ρ' B' m' hf h4 h5 h6⟩
end
def qZ{B:Nat}{m:List (Tr E2)}:∀{vs:List V2}{aU:List AV},aI (RV ρ B m) vs aU->bn ρ (vs.flatMap HC) (aU.flatMap e9)|[],[],_=>bn.nil|_::_,_::_,h=>by exact(OG h.1).append (qZ h.2)|[],_::_,h=>h.elim|_::_,[],h=>h.elim
def Kb(hE:az Fs E)(hi:RI ρ nx rem os s2 s p)(MS:0<rem){f:Nat}{vs:List V2}{aU:List AV}(hsh:BC Fs f=false)(h:S6 E s2 row d nx f vs K=some r)(has:aI (RV ρ nx s2.mem) vs aU):∃r2 e,(∃n0,∀n,n0<=n->gO (jF Fs n) (BC Fs f) row s (s.mem.length-1) d p f aU=some e)/\qd ρ nx os s2 s r2 e/\K r2=some r:=by
 obtain⟨c,hc,h⟩:=aE h;obtain⟨⟨ds,ks,bs⟩,ha,h⟩:=aE h;obtain⟨x,hx,h⟩:=aE h;obtain⟨hb,h⟩:=qc h;obtain⟨y,hy,h⟩:=bind_some h;split at h
 .rename_i ws CR;obtain⟨as',vs',g1,g2,g3⟩:=J3 hi.mem ha has hb;obtain⟨vs1,g4,g5⟩:=hE.tI f c hc x y hy;rw[dU hx]at g4;have ER:=g2 [];rw[dv,g4]at ER;injection ER with ER;injection ER with ER _;subst ER;obtain⟨n0,rv,cm,ts,nv,g6,g7⟩:=g5 as' g3;obtain⟨g7,g7'⟩:=g7 ws CR;split at h
  .rename_i hrow;have hrow:=bb hrow;split at h;.cases h
   rename_i AA;obtain⟨w,hw,h⟩:=aE h;obtain⟨a',g8,g9⟩:=g7 (beq_false.1 AA) w hw (s.mem.length-1) d p;refine⟨_,.cu {val:=a',dD:=eR s.mem ks++[],cT:=[],rd:=aU.flatMap e9},⟨n0,λn hn=>?_⟩,?_,h⟩;.rw[hsh,hrow];simp only[gO,g1,g6 n hn,g8,lg]
   .rw[dv];exact .gR hi.mem hi.aO (by omega) (r6 (ks:=ks)) jJ (g9 _ _ _) (qZ has)
  .split at h
   .rename_i EA hq hp;rw[ba,ba]at hq;obtain⟨⟨hq1,xl⟩,R4⟩:=hq;have hq1:=bb hq1;have xl:c.rk≠0:=by intro e;rw[e]at xl;cases xl
    have R4:row/65536≠0:=by intro e;rw[e]at R4;cases R4
    obtain⟨w,hw,h⟩:=aE h;obtain⟨a',g8,g9⟩:=g7' row (s2.mem.length-1) d nx p EA [] w xl hq1 R4 hp (λv hv=>by cases hv) hw;rw[hi.mem.len]at g8;refine⟨_,.cu {val:=a',dD:=eR s.mem ks++[],cT:=[],rd:=aU.flatMap e9},⟨n0,λn hn=>?_⟩,?_,h⟩;.rw[hsh];simp only[gO,g1,g6 n hn,g8,lg,lc]
    .have gv:ρ nx=some p:=hi.Bn 0 MS;rw[dv];exact .gR hi.mem hi.aO (B':=nx+1) (by omega) (r6 (ks:=ks)) jJ (g9 _ _ _ ⟨by omega,gv,λv hv=>by cases hv⟩) (qZ has)
   .rename_i EA u hq hp;rw[ba,ba]at hq;obtain⟨⟨hq1,xl⟩,R4⟩:=hq;have hq1:=bb hq1;have xl:c.rk≠0:=by intro e;rw[e]at xl;cases xl
    have R4:row/65536≠0:=by intro e;rw[e]at R4;cases R4
    split at h
    .rename_i hsz;have hsz:=bb hsz;obtain⟨w,hw,h⟩:=aE h;obtain⟨a',g8,g9⟩:=g7' row (s2.mem.length-1) d nx p EA [u] w xl hq1 R4 hp (λv hv=>by rw[ca.1 hv];exact hsz) hw;rw[hi.mem.len]at g8;refine⟨_,.cu {val:=a',dD:=eR s.mem ks++[(s.mem.length-1,d,some (.row p (bB u.t u.l)))],cT:=[],rd:=aU.flatMap e9},⟨n0,λn hn=>?_⟩,?_,h⟩;.rw[hsh];simp only[gO,g1,g6 n hn,g8,lg,gc,lc]
     .have gv:ρ nx=some p:=hi.Bn 0 MS;rw[<-hi.mem.len];refine .gR hi.mem hi.aO (B':=nx+1) (by omega) (fC (.inl (bd _))) (jJ.append (fD ⟨by omega,p,gv,rfl⟩)) (g9 _ _ _ ⟨by omega,gv,λv hv r' hr'=>?_⟩) (qZ has);rw[ca.1 hv];rw[qb]at hr';simp only[gG]at hr';have:=cR hr';rw[kW]at this;split at this;.injection this with this;injection this with _ h1 h2;obtain⟨t',l'⟩:=r';simp only at h1 h2;subst h1;cases h2;rfl
      .have h1:=nU (gX.2 this);obtain⟨e,_,hlt,_⟩:=hi.mem.gz _ _ _ (cR h1);omega
    .cases h
   .cases h
 .cases h
def TG(hE:az Fs E)(hi:RI ρ nx rem os s2 s p){f:Nat}{vs:List V2}{aU:List AV}(h:abM E s2 f vs K=some r)(has:aI (RV ρ nx s2.mem) vs aU):∃r2 e,(∃n0,∀n,n0<=n->oX (jF Fs n) s p f aU=some e)/\qd ρ nx os s2 s r2 e/\K r2=some r:=by
 obtain⟨c,hc,h⟩:=aE h;split at h
 .rename_i AA;simp at AA;obtain⟨⟨ds,ks,bs⟩,ha,h⟩:=aE h;obtain⟨x,hx,h⟩:=aE h;obtain⟨hb,h⟩:=qc h;obtain⟨y,hy,h⟩:=bind_some h;split at h
  .rename_i ws CR;obtain⟨as',vs',g1,g2,g3⟩:=J0 hi.mem ha has hb;obtain⟨vs1,g4,g5⟩:=hE.tI f c hc x y hy;rw[dU hx]at g4;have ER:=g2 [];rw[dv,g4]at ER;cases ER;obtain⟨n0,rv,cm,ts,nv,g6,g7⟩:=g5 as' g3;obtain⟨w,hw,h⟩:=aE h;obtain⟨a',g8,g9⟩:=(g7 ws CR).1 (λe=>by rw[e]at AA;cases AA) w hw 0 0 p;refine⟨_,.cu {val:=a',dD:=eR s.mem ks,cT:=[],rd:=aU.flatMap e9},⟨n0,λn hn=>?_⟩,?_,h⟩;.simp[oX,g1,g6 n hn,g8]
   .exact .gR hi.mem hi.aO (by omega) (r6 (ks:=ks)) jJ (g9 _ _ _) (qZ has)
  grind
 grind
def TH(hE:az Fs E)(hi:RI ρ nx rem os s2 s p){f:Nat}{vs:List V2}{aU:List AV}(h:abN E s2 f vs K=some r)(has:aI (RV ρ nx s2.mem) vs aU):∃r2 e,(∃n0,∀n,n0<=n->oY (jF Fs n) s p f aU=some e)/\qd ρ nx os s2 s r2 e/\K r2=some r:=by
 obtain⟨c,hc,h⟩:=aE h;split at h
 .rename_i AA;simp at AA;obtain⟨⟨ds,bs⟩,ha,h⟩:=aE h;obtain⟨x,hx,h⟩:=aE h;obtain⟨hb,h⟩:=qc h;obtain⟨y,hy,h⟩:=bind_some h;split at h
  .rename_i ws CR;obtain⟨as',vs',g1,g2,g3⟩:=J2 hi.mem ha has hb;obtain⟨vs1,g4,g5⟩:=hE.tI f c hc x y hy;rw[dU hx]at g4;have ER:=g2 [];rw[dv,g4]at ER;cases ER;obtain⟨n0,rv,cm,ts,nv,g6,g7⟩:=g5 as' g3;obtain⟨w,hw,h⟩:=aE h;obtain⟨a',g8,g9⟩:=(g7 ws CR).1 (λe=>by rw[e]at AA;cases AA) w hw 0 0 p;refine⟨_,.cu {val:=a',dD:=[],cT:=[],rd:=aU.flatMap e9},⟨n0,λn hn=>?_⟩,?_,h⟩;.simp[oY,g1,g6 n hn,g8]
   .exact .gR (HL:=[]) (us:=[]) hi.mem hi.aO (by omega) (fS.refl _ _) trivial (g9 _ _ _) (qZ has)
  grind
 grind
def C7(hwk:MP Fs wk)(hE:az Fs E)(hi:RI ρ nx rem os s2 s p)(MS:0<rem){f:Nat}{vs:List V2}{aU:List AV}(h:JA E wk ctx s2 row d nx f vs K=some r)(has:aI (RV ρ nx s2.mem) vs aU):∃r2 e,(∃n0,∀n,n0<=n->gO (jF Fs n) (BC Fs f) row s (s.mem.length-1) d p f aU=some e)/\qd ρ nx os s2 s r2 e/\K r2=some r:=by
 unfold JA at h;split at h
 .rename_i fn hf;rw[hE.fns]at hf;have hsh:BC Fs f=fn.sh:=by simp[BC,hf]
  split at h;.rename_i hfs;rw[hfs]at hsh;exact Kb hE hi MS hsh h has
  .rename_i hfs;rw[hfs]at hsh;split at h;.cases h
   .rename_i hnp;rw[ba]at hnp;obtain⟨hnp,hnt⟩:=hnp;have hnt:=C6 hnt has;let ρc:bF:=λv=>if v<nx then ρ v else some (s.nv+(v-nx));have TI:∀v,v<nx->ρc v=ρ v:=λv hv=>be hv;have hle:nx<=s2.nv:=by have:=hi.nv;omega
    have start:Bz ρc (s.slots::os) {slots:=kU 0 vs .lf,outer:=loose s2.slots::s2.outer,mem:=s2.mem++[.lf],aO:=s2.aO,nv:=nx} {slots:=ep 0 aU .lf,mem:=s.mem++[.lf],aO:=s.aO,nv:=s.nv}:=by
     refine⟨?_,⟨?_,?_⟩,?_,?_,?_,bd _⟩;.exact xU (has.mono λ_ _=>RV.move uY (bd _) TI)
     .exactλk v hk=>(hi.slots k v (zb _ _ _ hk)).move uY (bd _) TI
     .exact ji uY (bd _) TI hi.outer
     .exact(hi.mem.ren TI).snoc
     .intro v hv;obtain⟨h1,h2⟩:=hi.aO v hv;exact⟨h1,λu hu=>h2 u (by rw[<-TI v h1];exact hu)⟩
     .refine⟨λv u hv hu=>?_,λv hv=>?_,λv v' u hu mq=>?_⟩;.have hv:v<nx:=hv;rw[TI v hv]at hu;exact hi.av.low v u (by omega) hu
      .have hv:nx<=v:=hv;simp only[ρc];rw[bi (by omega)]
      .simp[ρc]at hu mq;split at hu
       .split at mq;.exact hi.av.inj v v' u hu mq
        .simp_all;have:=hi.av.low v u (by omega) hu;omega
       .simp_all;split at mq;.have:=hi.av.low v' u (by omega) mq;omega
        .simp_all;omega
    have fin:∀(ax:AX)(t2:S2)(ρ':bF)(t:St),(∀id,ax≠.exit id)->Ev Fs fn.body {slots:=ep 0 aU .lf,mem:=s.mem++[.lf],aO:=s.aO,nv:=s.nv} (ax,t)->Bz ρ' (s.slots::os) t2 t->Fr ρc nx s.nv ρ' t2.nv->s.nv<=t.nv->(match t2.outer with
      |o::os'=>FN t2 fn.res λvs=>match Nat.beq row 0with|true=>cA (An t2.mem s2.mem.length vs) λvs=>cA (qP vs) λv=>K (.all v {slots:=merge s2.slots o,outer:=os',mem:=t2.mem.take s2.mem.length,aO:=t2.aO,nv:=t2.nv})|false=>match !Nat.beq (row%65536) 0&&!Nat.beq (row/65536) 0,CJ t2.mem s2.mem.length (row%65536) (s2.mem.length-1) d t2.nv (E.Oq ctx d) 1 vs with
        |true,some (vs,[u])=>match Nat.beq (row/65536) u.t.size with|true=>cA (qP vs) λv=>K (.all v {slots:=merge s2.slots o,outer:=os',mem:=gG (t2.mem.take s2.mem.length) [(s2.mem.length-1,d,some (.row t2.nv u.t u.l))],aO:=t2.aO,nv:=t2.nv+1})|false=>none
        |true,some (vs,[])=>cA (qP vs) λv=>K (.all v {slots:=merge s2.slots o,outer:=os',mem:=t2.mem.take s2.mem.length,aO:=t2.aO,nv:=t2.nv+1})|_,_=>none
      |[]=>none)=some r->∃r2 e,(∃n0,∀n,n0<=n->gO (jF Fs n) (BC Fs f) row s (s.mem.length-1) d p f aU=some e)/\qd ρ nx os s2 s r2 e/\K r2=some r:=by
     intro ax t2 ρ' t Tf qE zd hfr Cm hk;have hout:=zd.outer;split at hk
     .rename_i o os' ho;rw[ho]at hout;obtain⟨vs1,LU,q1,q2,hk'⟩:=C5 zd.mem zd.slots hk;clear hk;have hk:=hk';obtain⟨n0,qE⟩:=qE;have hrun:∀n,n0+1<=n->jF Fs n f aU (s.mem++[.lf]) s.aO s.nv=some (jq LU,t.mem,t.aO,t.nv):=by intro n hn;obtain⟨n,rfl⟩:∃k,n=k+1:=⟨n-1,by omega⟩;simp[jF,hf];rw[<-has.length];simp[hnp];have:=qE n n (by omega) (by omega);unfold BC at this;rw[this];cases ax with|normal=>simp[q1,cf]|ret=>simp[q1,cf]|exit id=>exact absurd rfl (Tf id)
      split at hk
      .rename_i hrow;have hrow:=bb hrow;subst hrow;obtain⟨vs2,q3,hk⟩:=aE hk;obtain⟨v,q4,hk⟩:=aE hk;obtain⟨a',q5,q6⟩:=Z3 zd.mem (lv:=s.mem.length-1) (sl:=d) (av:=p) q3 q4 q2;refine⟨_,.all a' (bI (t.mem.take s.mem.length) []) t.aO t.nv,⟨n0+1,λn hn=>?_⟩,?_,hk⟩;.rw[hsh];simp[gO,hnt,hrun n hn];rw[hi.mem.len]at q5;rw[q5];simp[lg]
       .refine⟨ρ',⟨?_,?_,?_,?_,zd.av,bd _⟩,?_,?_,Cm⟩
        .intro k v hk;rcases qY _ _ _ _ hk with⟨h1,h2⟩|h1;.exact(hi.slots k v h1).still h2
         .exact(hout.1 k v h1).move mO (bd _) λ_ _=>rfl
        .exact ji mO (bd _) (λ_ _=>rfl) hout.2
        .have:=zd.mem.take (k:=s2.mem.length);rw[hi.mem.len]at this⊢;exact this
        .exact zd.aO
        .exact q6
        .intro v u hv hu;rcases hfr v u hv hu with⟨w,hw,HV⟩|h';.exact .inl ⟨w,by omega,by rw[<-TI w hw];exact HV⟩
         .exact .inr h'
      .rename_i hrow;have hrow:row≠0:=beq_false.1 hrow;split at hk
       .rename_i vs2 u hq q3;rw[ba]at hq;have xl:row/65536≠0:=by intro e;rw[e]at hq;cases hq.2
        split at hk
        .rename_i hsz;have hsz:=bb hsz;obtain⟨v,q4,hk⟩:=aE hk;obtain⟨a',q5,q6⟩:=Ka zd.mem (p:=p) hrow rfl xl q3 q4 q2 (λv hv=>by rw[ca.1 hv];exact hsz);have gv:ρ nx=some p:=hi.Bn 0 MS;have hps:p<s.nv:=by have:=hi.pn;omega
         let F2:bF:=λv=>if v<t2.nv then ρ' v else if v=t2.nv then some p else some (t.nv+(v-(t2.nv+1)));have e1:∀v,v<t2.nv->F2 v=ρ' v:=λv h=>be h;have e2:F2 t2.nv=some p:=by show(if _ then _ else _)=_;rw[bi (by omega),be rfl]
         have e3:∀v,t2.nv+1<=v->F2 v=some (t.nv+(v-(t2.nv+1))):=λv h=>by show(if _ then _ else _)=_;rw[bi (by omega),bi (by omega)]
         have fresh:∀v,v<t2.nv->ρ' v≠some p:=by
          intro v hv hu;rcases hfr v p hv hu with⟨w,hw,HV⟩|h';.rw[TI w hw]at HV;have:=hi.av.inj _ _ _ HV gv;omega
          .omega
         have hst:fS t2.nv (t2.mem.take s2.mem.length) (gG (t2.mem.take s2.mem.length) [(s2.mem.length-1,d,some (.row t2.nv u.t u.l))]):=by have:=fC (B:=t2.nv) (m:=t2.mem.take s2.mem.length) (ks:=[]) (lv:=s2.mem.length-1) (sl:=d) (e:=.row t2.nv u.t u.l) (.inl (bd _));simpa[lH,lc,ge]using this
         have hmt:=(zd.mem.take (k:=s2.mem.length)).ren e1;have hmu:MR F2 (t2.nv+1) (gG (t2.mem.take s2.mem.length) [(s2.mem.length-1,d,some (.row t2.nv u.t u.l))]) (bI (t.mem.take s2.mem.length) [(s2.mem.length-1,d,some (.row p (bB u.t u.l)))]):=hmt.dD (pC _) hst (fD ⟨by omega,p,e2,rfl⟩);refine⟨_,.all a' (bI (t.mem.take s.mem.length) [(s.mem.length-1,d,some (.row p (bB u.t u.l)))]) t.aO t.nv,⟨n0+1,λn hn=>?_⟩,?_,hk⟩;.rw[hsh];simp[gO,hnt,hrun n hn];rw[hi.mem.len]at q5;rw[q5];simp[gc,lc,lg]
         .refine⟨F2,⟨?_,?_,?_,?_,⟨?_,e3,?_⟩,bd _⟩,?_,?_,Cm⟩
          .intro k v hk;rcases qY _ _ _ _ hk with⟨h1,h2⟩|h1;.exact(hi.slots k v h1).still h2
           .exact(hout.1 k v h1).move (mO.trans hst) (pC _) e1
          .exact ji (mO.trans hst) (pC _) e1 hout.2
          .rw[<-hi.mem.len];exact hmu
          .intro v hv;obtain⟨h1,h2⟩:=zd.aO v hv;exact⟨Nat.lt_succ_of_lt h1,λu hu=>h2 u (by rw[<-e1 v h1];exact hu)⟩
          .intro v u' hv hu;have hv:v<t2.nv+1:=hv;show u'<t.nv;rcases i9 v t2.nv with h1|h1;.rw[e1 v h1]at hu;exact zd.av.low v u' h1 hu
           .have:v=t2.nv:=by omega
            subst this;rw[e2]at hu;cases hu;omega
          .intro v v' u' hu mq;have xd:∀v,v<t2.nv->∀u',F2 v=some u'->u'<t.nv/\u'≠p:=by intro v hv u' hu;rw[e1 v hv]at hu;exact⟨zd.av.low v u' hv hu,λe=>fresh v hv (by rw[hu,e])⟩
           rcases m6 v t2.nv with h1|h1|h1
           .obtain⟨l1,l2⟩:=xd v h1 u' hu;rcases m6 v' t2.nv with h3|h3|h3;.rw[e1 v h1]at hu;rw[e1 v' h3]at mq;exact zd.av.inj v v' u' hu mq
            .subst h3;rw[e2]at mq;simp_all
            .rw[e3 v' h3]at mq;simp_all;omega
           .subst h1;rw[e2]at hu;injection hu with hu;rcases m6 v' t2.nv with h3|h3|h3;.obtain⟨l1,l2⟩:=xd v' h3 u' mq;omega
            .exact h3.symm
            .rw[e3 v' h3]at mq;simp_all;omega
           .rw[e3 v h1]at hu;injection hu with hu;rcases m6 v' t2.nv with h3|h3|h3;.obtain⟨l1,l2⟩:=xd v' h3 u' mq;omega
            .subst h3;rw[e2]at mq;simp_all;omega
            .rw[e3 v' h3]at mq;simp_all;omega
          .refine q6 F2 (t2.nv+1) _ ⟨by omega,e2,λv hv r' hr'=>?_⟩ e1 (pC _) hst;rw[ca.1 hv];simp[gG]at hr';have:=cR hr';rw[kW]at this;split at this;.injection this with this;injection this with _ h1 h2;obtain⟨t',l'⟩:=r';simp only at h1 h2;subst h1;cases h2;rfl
           .obtain⟨e,_,hlt,_⟩:=hmt.gz _ _ _ this;omega
          .intro v u' hv hu;have hv:v<t2.nv+1:=hv;rcases i9 v t2.nv with h1|h1
           .rw[e1 v h1]at hu;rcases hfr v u' h1 hu with⟨w,hw,HV⟩|h';.exact .inl ⟨w,by omega,by rw[<-TI w hw];exact HV⟩
            .exact .inr h'
           .have:v=t2.nv:=by omega
            subst this;rw[e2]at hu;exact .inl ⟨nx,by omega,by rw[gv];exact hu⟩
        .cases hk
       .rename_i vs2 hq q3;simp at hq;have xl:row/65536≠0:=by intro e;rw[e]at hq;cases hq.2
        obtain⟨v,q4,hk⟩:=aE hk;obtain⟨a',q5,q6⟩:=Ka zd.mem (p:=p) hrow rfl xl q3 q4 q2 (λv hv=>(by cases hv));have gv:ρ nx=some p:=hi.Bn 0 MS;have hps:p<s.nv:=by have:=hi.pn;omega
        let F2:bF:=λv=>if v<t2.nv then ρ' v else if v=t2.nv then some p else some (t.nv+(v-(t2.nv+1)));have e1:∀v,v<t2.nv->F2 v=ρ' v:=λv h=>be h;have e2:F2 t2.nv=some p:=by show(if _ then _ else _)=_;rw[bi (by omega),be rfl]
        have e3:∀v,t2.nv+1<=v->F2 v=some (t.nv+(v-(t2.nv+1))):=λv h=>by show(if _ then _ else _)=_;rw[bi (by omega),bi (by omega)]
        have fresh:∀v,v<t2.nv->ρ' v≠some p:=by
         intro v hv hu;rcases hfr v p hv hu with⟨w,hw,HV⟩|h';.rw[TI w hw]at HV;have:=hi.av.inj _ _ _ HV gv;omega
         .omega
        have hst:fS t2.nv (t2.mem.take s2.mem.length) (t2.mem.take s2.mem.length):=fS.refl _ _;have hmt:=(zd.mem.take (k:=s2.mem.length)).ren e1;have hmu:MR F2 (t2.nv+1) (t2.mem.take s2.mem.length) (t.mem.take s2.mem.length):=hmt.mono (pC _);refine⟨_,.all a' (bI (t.mem.take s.mem.length) []) t.aO t.nv,⟨n0+1,λn hn=>?_⟩,?_,hk⟩;.rw[hsh];simp[gO,hnt,hrun n hn];rw[hi.mem.len]at q5;rw[q5];simp[lc,lg]
        .refine⟨F2,⟨?_,?_,?_,?_,⟨?_,e3,?_⟩,bd _⟩,?_,?_,Cm⟩
         .intro k v hk;rcases qY _ _ _ _ hk with⟨h1,h2⟩|h1;.exact(hi.slots k v h1).still h2
          .exact(hout.1 k v h1).move (mO.trans hst) (pC _) e1
         .exact ji (mO.trans hst) (pC _) e1 hout.2
         .rw[<-hi.mem.len];exact hmu
         .intro v hv;obtain⟨h1,h2⟩:=zd.aO v hv;exact⟨Nat.lt_succ_of_lt h1,λu hu=>h2 u (by rw[<-e1 v h1];exact hu)⟩
         .intro v u' hv hu;have hv:v<t2.nv+1:=hv;show u'<t.nv;rcases i9 v t2.nv with h1|h1;.rw[e1 v h1]at hu;exact zd.av.low v u' h1 hu
          .have:v=t2.nv:=by omega
           subst this;rw[e2]at hu;cases hu;omega
         .intro v v' u' hu mq;have xd:∀v,v<t2.nv->∀u',F2 v=some u'->u'<t.nv/\u'≠p:=by intro v hv u' hu;rw[e1 v hv]at hu;exact⟨zd.av.low v u' hv hu,λe=>fresh v hv (by rw[hu,e])⟩
          rcases m6 v t2.nv with h1|h1|h1
          .obtain⟨l1,l2⟩:=xd v h1 u' hu;rcases m6 v' t2.nv with h3|h3|h3;.rw[e1 v h1]at hu;rw[e1 v' h3]at mq;exact zd.av.inj v v' u' hu mq
           .subst h3;rw[e2]at mq;simp_all
           .rw[e3 v' h3]at mq;simp_all;omega
          .subst h1;rw[e2]at hu;injection hu with hu;rcases m6 v' t2.nv with h3|h3|h3;.obtain⟨l1,l2⟩:=xd v' h3 u' mq;omega
           .exact h3.symm
           .rw[e3 v' h3]at mq;simp_all;omega
          .rw[e3 v h1]at hu;injection hu with hu;rcases m6 v' t2.nv with h3|h3|h3;.obtain⟨l1,l2⟩:=xd v' h3 u' mq;omega
           .subst h3;rw[e2]at mq;simp_all;omega
           .rw[e3 v' h3]at mq;simp_all;omega
         .exact q6 F2 (t2.nv+1) _ ⟨by omega,e2,λv hv=>(by cases hv)⟩ e1 (pC _) hst
         .intro v u' hv hu;have hv:v<t2.nv+1:=hv;rcases i9 v t2.nv with h1|h1
          .rw[e1 v h1]at hu;rcases hfr v u' h1 hu with⟨w,hw,HV⟩|h';.exact .inl ⟨w,by omega,by rw[<-TI w hw];exact HV⟩
           .exact .inr h'
          .have:v=t2.nv:=by omega
           subst this;rw[e2]at hu;exact .inl ⟨nx,by omega,by rw[gv];exact hu⟩
       .cases hk
     .cases hk
    dsimp at h;split at h;.obtain⟨ax,t2,ρ',t,g1,g2,g3,g4,g5⟩:=hwk _ _ _ _ _ _ _ h _ _ _ start;cases ax with|exit id=>cases g5|normal=>exact fin .normal t2 ρ' t (λ_ h=>by cases h) g1 g2 g3 g4 g5|ret=>exact fin .ret t2 ρ' t (λ_ h=>by cases h) g1 g2 g3 g4 g5
    .rename_i outs ho;obtain⟨y,hy,h⟩:=bind_some h;obtain⟨ax,t2,ρ',t,g1,g2,g3,g4,g5⟩:=hwk _ _ _ _ _ _ _ hy _ _ _ start;have Tf:∀id,ax≠.exit id:=by intro id e;subst e;cases g5
     have g5:oB outs .ret t2=some y:=by cases ax with|exit id=>cases g5|normal=>exact g5|ret=>exact g5
     obtain⟨t3,F2,g6,g7,g8⟩:=BB g2 g5;rw[g8]at h;exact fin ax t3 F2 t Tf g1 g6 (g3.trans g7 g4) g4 h
 .rename_i hf;exact Kb hE hi MS (by simp[BC,<-hE.fns,hf]) h has
def vT{ρ:bF}{B:Nat}{m:List (Tr E2)}:∀{l:List iB}{d d':List gr}{cs:List Cell}{aU:List AV},l.all iB.flat=true->dK l d=some (cs,d')->aI (RC ρ B m) cs aU->aU.all BR=true
 |[],_,_,_,aU,_,h,ha=>by cases h;match aU,ha with|[],_=>rfl
 |c::l,d,d',cs,aU,hl,h,ha=>by
  rw[fg,ba]at hl;simp[dK]at h;split at h
  .rename_i x r' h1;split at h;.rename_i xs r'' h2;cases h;match aU,ha with
    |a::aU,ha=>
     have hx:BR a=true:=by have hf:=hl.1;unfold iB.fill at h1;split at h1<;>first|(simp only[fj,fi]at h1;obtain⟨rfl,rfl⟩:=h1;first|(cases ha.1;rfl)|cases hf)|cases h1
     rw[fg,hx,vT hl.2 h2 ha.2]<;>grind
   grind
  grind
def Z5{ρ:bF}{B:Nat}{m:List (Tr E2)}{b:Bool}{l:List iB}{d d':List gr}{cs:List Cell}{a:AV}(hl:l.all iB.flat=true)(h:dK l d=some (cs,d'))(ha:R1 ρ B m (b,cs) a):E6 a=true:=by cases b with|true=>obtain⟨aU,rfl,ha⟩:=ha;exact vT hl h ha|false=>obtain⟨c,rfl,ha⟩:=ha;have:=vT (aU:=[a]) hl h ⟨ha,trivial⟩;simp at this;cases a<;>first|exact this|cases this
def ze{ρ:bF}{B:Nat}{m:List (Tr E2)}:∀{res:List (Bool×List iB)}{d d':List gr}{ws:List (Bool×List Cell)}{aU:List AV},Bv res=true->oA res d=some (ws,d')->aI (R1 ρ B m) ws aU->aU.all E6=true
 |[],_,_,_,aU,_,h,ha=>by cases h;match aU,ha with|[],_=>rfl
 |(b,l)::res,d,d',ws,aU,hl,h,ha=>by
  unfold Bv at hl;rw[fg,ba]at hl;simp[oA]at h;split at h
  .rename_i x r' h1;split at h;.rename_i xs r'' h2;cases h;match aU,ha with|a::aU,ha=>rw[fg,Z5 hl.1 h1 ha.1,ze (res:=res) hl.2 h2 ha.2]<;>grind
   grind
  grind
def TJ{ρ:bF}{B:Nat}{m:List (Tr E2)}{res:List (Bool×List iB)}{d d':List gr}{ws:List (Bool×List Cell)}{w:V2}{a:AV}(hl:Bv res=true)(h:oA res d=some (ws,d'))(ht:qP ws=some w)(ha:RV ρ B m w a):Sk a=true:=by
 unfold qP at ht;split at ht
 .rename_i b cs;have hr:R1 ρ B m (b,cs) a:=by cases b with|true=>cases ht;exact ha|false=>match cs,ht with|[c],ht=>cases ht;exact⟨c,rfl,ha⟩
  have:=ze (aU:=[a]) hl h ⟨hr,trivial⟩;simp at this;cases a<;>first|exact this|cases this
 .cases ht;obtain⟨aU,rfl,ha⟩:=ha;exact ze hl h ha
def Qy(hE:az Fs E)(hi:RI ρ nx rem os s2 s p){f:Nat}{vs:List V2}{aU:List AV}(h:S7 E s2 f vs K=some r)(has:aI (RV ρ nx s2.mem) vs aU):∃r2 e,(∃n0,∀n,n0<=n->lu (jF Fs n) s f aU=some e)/\qd ρ nx os s2 s r2 e/\K r2=some r:=by
 obtain⟨c,hc,h⟩:=aE h;split at h
 .rename_i hfl;obtain⟨⟨ds,bs⟩,ha,h⟩:=aE h;obtain⟨x,hx,h⟩:=aE h;obtain⟨hb,h⟩:=qc h;obtain⟨y,hy,h⟩:=bind_some h;split at h
  .rename_i ws CR;obtain⟨w,hw,h⟩:=aE h;obtain⟨as',vs',g1,gk,g2,g3⟩:=Gd hi.mem ha has hb;simp at hfl;obtain⟨hfl,AA⟩:=hfl;obtain⟨vs1,g4,g5⟩:=hE.tI f c hc x y hy;rw[dU hx]at g4;have ER:=g2 [];rw[dv,g4]at ER;cases ER;obtain⟨n0,rv,cm,ts,nv,g6,g7⟩:=g5 as' g3;obtain⟨a',g8,g9⟩:=(g7 ws CR).1 (λe=>by rw[e]at AA;cases AA) w hw 0 0 0;have hfa:=TJ hfl CR hw (g9 ρ0 0 []);refine⟨_,.cu {val:=a',dD:=[],cT:=[],rd:=aU.flatMap (rL s.mem)},⟨n0,λn hn=>?_⟩,?_,h⟩;.simp[lu,g1,g6 n hn,g8,hfa]
   .exact .yZ hi.mem hi.aO (by omega) (g9 _ _ _) gk
  grind
 grind
end
end Go.Sym
