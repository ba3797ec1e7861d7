/- A part of the proof: SymE, SymF. -/
import Derived.Test.YtkdilffhbejjaaaGreatSymD
set_option linter.unusedVariables false
set_option linter.unusedSimpArgs false
namespace Go.Sym
open Go Go.bM
section
variable{α:Type}{ρ:bD}{B B':Nat}{s2:S2}{s:St}{op:ct}{row dst p nx:Nat}{K:gY->Option α}{r:α}{E:ah}{wk:Wk}{ctx:Nat}
theorem O2(x y:List UInt8):(⟨x.toArray⟩:ByteArray)++⟨y.toArray⟩=⟨(x++y).toArray⟩:=by apply ByteArray.ext;simp
theorem GJ(x:List UInt8):(⟨x.toArray⟩:ByteArray).size=x.length:=by simp[ByteArray.size]
theorem Lx(x:List UInt8)(a b:Nat):(⟨x.toArray⟩:ByteArray).extract a b=⟨((x.drop a).take (b-a)).toArray⟩:=by apply ByteArray.ext;simp_all
theorem XS{x y:List UInt8}{R5:BinOp}{K:Cell->Option α}(h:abJ R5 x y K=some r):∃v c,KH R5 ⟨x.toArray⟩ ⟨y.toArray⟩=some v/\K c=some r/\∀(m:List (Tr E2)),RC ρ B m c (.d (.sc v)):=by
 unfold abJ at h;split at h
 .obtain⟨h1,h⟩:=cx h;refine⟨_,_,?_,h,λ_=>rfl⟩;have:¬((x.length+y.length:Nat):Int)>IntKind.i64.max:=by simpa using h1
  simp only[KH,GJ,O2];rw[be this]
 all_goals first|(refine⟨_,_,?_,h,λ_=>rfl⟩;simp[KH,ByteArray.toList_eq];done)|cases h
theorem XT{x y:Cell}{a b:AV}{R5:BinOp}{m:List (Tr E2)}{K:Cell->Option α}(h:abK R5 x y K=some r)(hx:RC ρ B m x a)(hy:RC ρ B m y b):∃v c,Q2 R5 a b=some v/\K c=some r/\RC ρ B m c (.d (.sc v)):=by
 unfold abK at h;split at h;.cases hx;cases hy;obtain⟨v,c,h1,h2,h3⟩:=XR (ρ:=ρ) (B:=B) h;exact⟨v,c,h1,h2,h3 m⟩
 .cases hx;cases hy;obtain⟨v,c,h1,h2,h3⟩:=XS (ρ:=ρ) (B:=B) h;exact⟨v,c,h1,h2,h3 m⟩
 grind
theorem R6{kd:Nat}{x y:Cell}{a b:AV}{m:List (Tr E2)}{t:Bool}(h:RK kd x y=some t)(hx:RC ρ B m x a)(hy:RC ρ B m y b):HW kd a b=some t:=by
 unfold RK at h;split at h;.split at h<;>simp_all[RC,bD,HW]
 .split at h;.split at h<;>simp_all[RC,bD,HW]
  grind
 .split at h;.cases h
  .cases h
  .rename_i x y n _ _;cases hx;cases hy;have:((⟨x.toArray⟩:ByteArray)==⟨y.toArray⟩)=(x==y):=by rw[lO];show(x.toArray==y.toArray)=true↔_;simp
   unfold HW<;>grind
 grind
theorem E1{xs ys:List Cell}{aO bs:List AV}{m:List (Tr E2)}(hx:aE (RC ρ B m) xs aO)(hy:aE (RC ρ B m) ys bs):∀{l:List (Nat×Nat)}{t:Bool},GB xs ys l=some t->mL aO bs l=some t
 |[],t,h=>h|o::l,t,h=>by
  simp[GB]at h;split at h;.rename_i x y b' h1 h2 h3;obtain⟨b,h4,rfl⟩:=aQ h;obtain⟨a,g1,g2⟩:=hx.get _ _ h1;obtain⟨a',g3,g4⟩:=hy.get _ _ h2;simp[mL,g1,g3,R6 h4 g2 g4];cases b with|true=>simpa using E1 hx hy h3|false=>rfl
  grind
theorem abY{x:Cell}{a:AV}{m:List (Tr E2)}{uop:UnOp}{K:Cell->Option α}(h:unK uop x K=some r)(hx:RC ρ B m x a):∃v c,unA uop a=some v/\K c=some r/\RC ρ B m c (.d (.sc v)):=by
 unfold unK at h;split at h
 .split at h;.cases hx;exact⟨_,_,rfl,h,rfl⟩
  grind
 .split at h;.cases hx;exact⟨_,_,rfl,h,rfl⟩
  .cases hx;exact⟨_,_,by simp[unA,Eb],h,rfl⟩
  grind
 grind
section
variable(hm:MR ρ B s2.mem s.mem)(ht:TR ρ B s2.aK s.aK)(hB:B<=B')
include hm ht hB
theorem dX.int{k:IntKind}{n:Int}(hrun:∀call sh,op.run call sh s row dst p=fT.pure (.d (.sc (.int k n))))(hK:K (ef (.int k n))=some r):dX ρ B B' s2 s op row dst p K r:=.pure hm ht hB hrun (v:=.c (.int k n)) rfl hK
theorem dX.str{x:List UInt8}(hrun:∀call sh,op.run call sh s row dst p=fT.pure (.d (.sc (.string ⟨x.toArray⟩))))(hK:K (ef (.str x))=some r):dX ρ B B' s2 s op row dst p K r:=.pure hm ht hB hrun (v:=.c (.str x)) rfl hK
theorem dX.fW{t:Ty}{x:t.den}{off:Nat}(hrun:∀call sh,op.run call sh s row dst p=fT.pure (.fW (fy t x) off))(hK:K (ef (.fW t x off))=some r):dX ρ B B' s2 s op row dst p K r:=.pure hm ht hB hrun (v:=.c (.fW t x off)) rfl hK
theorem dX.ptr{lv sl au u i off:Nat}(hv:au<B)(hu:ρ au=some u)(hrun:∀call sh,op.run call sh s row dst p=fT.pure (.ptr lv sl u i off))(hK:K (ef (.ptr lv sl au i off))=some r):dX ρ B B' s2 s op row dst p K r:=.pure hm ht hB hrun (v:=.c (.ptr lv sl au i off)) ⟨hv,u,hu,rfl⟩ hK
end
variable(hm:MR ρ B s2.mem s.mem)(ht:TR ρ B s2.aK s.aK)(cj:va ρ B s2.mem s2.slots s.slots)(hB:B<=B')
include hm ht hB cj
theorem R7{R5:BinOp}{x y:cc}(h:cY E wk ctx s2 row dst nx (.bin R5 x y) K=some r):dX ρ B B' s2 s (.bin R5 x y) row dst p K r:=by obtain⟨a,ha,h⟩:=cD h;obtain⟨b,hb,h⟩:=cD h;obtain⟨v,c,h1,h2,h3⟩:=XT h (bt cj ha) (bt cj hb);exact .pure hm ht hB (λ_ _=>by simp only[ct.run,h1,ae,mM]) (v:=.c c) h3 h2
theorem R8{neg:Bool}{x y:cc}(h:cY E wk ctx s2 row dst nx (.W6 neg x y) K=some r):dX ρ B B' s2 s (.W6 neg x y) row dst p K r:=by obtain⟨a,ha,h⟩:=qW h;obtain⟨b,hb,h⟩:=qW h;have h1:=qX (bt cj ha);have h2:=qX (bt cj hb);refine .pure hm ht hB (a:=.d (.sc (.bool (if neg then !(a==b)else a==b)))) (λ_ _=>by simp only[ct.run,h1,h2,mM]) (v:=.c _) ?_ h;cases neg<;>rfl
theorem Lz{neg:Bool}{x:cc}(h:cY E wk ctx s2 row dst nx (.yR neg x) K=some r):dX ρ B B' s2 s (.yR neg x) row dst p K r:=by
 simp[cY]at h;split at h;.rename_i b hx;have h1:x.ev s.slots=_:=bt cj hx;cases neg with|true=>refine .pure hm ht hB (a:=.d (.sc (.bool b))) (λ_ _=>by cases b<;>(simp only[ct.run,h1,mM]<;>try rfl)) (v:=.c _) ?_ h;rfl|false=>refine .pure hm ht hB (a:=.d (.sc (.bool !b))) (λ_ _=>by cases b<;>(simp only[ct.run,h1,mM]<;>try rfl)) (v:=.c _) ?_ h;rfl
 grind
theorem IY{lo n sz:Nat}{x:cc}(h:cY E wk ctx s2 row dst nx (.r9 lo n sz x) K=some r):dX ρ B B' s2 s (.r9 lo n sz x) row dst p K r:=by
 simp[cY]at h;split at h
 .rename_i lv sl au i off hx;split at h;.rename_i hc;obtain⟨hv,u,hu,h1⟩:=bt cj hx;exact .pure hm ht hB (a:=.fF lv sl u (off+lo*sz) (n-lo) sz) (λ_ _=>by simp only[ct.run,h1,hc]) (v:=.c (.fF lv sl au (off+lo*sz) (n-lo) sz)) ⟨hv,u,hu,rfl⟩ h
  grind
 grind
theorem R9{neg:Bool}{sz:Nat}{l:List (Nat×Nat)}{x y:cc}(h:cY E wk ctx s2 row dst nx (.W7 neg sz l x y) K=some r):dX ρ B B' s2 s (.W7 neg sz l x y) row dst p K r:=by
 simp[cY]at h;split at h
 .rename_i xs ys hx hy;split at h
  .rename_i b h1 h2;obtain⟨aO,e1,r1⟩:=bt cj hx;obtain⟨bs,e2,r2⟩:=bt cj hy;have l1:aO.length=sz:=by rw[<-r1.length]<;>simp_all
   have l2:bs.length=sz:=by rw[<-r2.length]<;>simp_all
   refine .pure hm ht hB (a:=.d (.sc (.bool (if neg then !b else b)))) (λ_ _=>by simp only[ct.run,e1,e2];rw[be (by simp[l1,l2]),E1 r1 r2 h2];rfl) (v:=.c _) ?_ h;cases neg<;>rfl
  grind
 grind
theorem XU{uop:UnOp}{x:cc}(h:cY E wk ctx s2 row dst nx (.un uop x) K=some r):dX ρ B B' s2 s (.un uop x) row dst p K r:=by obtain⟨a,ha,h⟩:=cD h;obtain⟨v,c,h1,h2,h3⟩:=abY h (bt cj ha);exact .pure hm ht hB (λ_ _=>by simp only[ct.run,h1,ae,mM]) (v:=.c c) h3 h2
theorem O3{k:IntKind}{x:cc}(h:cY E wk ctx s2 row dst nx (.conv k x) K=some r):dX ρ B B' s2 s (.conv k x) row dst p K r:=by obtain⟨kd,n,ha,h⟩:=ud h;have e:=sN (bt cj ha);exact .int hm ht hB (λ_ _=>by simp only[ct.run,e,sk,ae,mM]) h
theorem LA{off sz:Nat}{agg:Bool}{x:cc}(h:cY E wk ctx s2 row dst nx (.field off sz agg x) K=some r):dX ρ B B' s2 s (.field off sz agg x) row dst p K r:=by
 simp[cY]at h;split at h
 .rename_i cs hx;split at h;.rename_i v h1 h2;have h1:=f1 h1;obtain⟨aO,e1,r1⟩:=bt cj hx;obtain⟨a,g1,g2⟩:=B8 h2 ((r1.drop off).take sz);refine .pure hm ht hB (λ_ _=>?_) g2 h;simp[ct.run,e1];rw[bb (by rw[<-r1.length];exact h1),g1];rfl
  grind
 grind
theorem Cb{off:Nat}{x:cc}(h:cY E wk ctx s2 row dst nx (.fieldAddr off x) K=some r):dX ρ B B' s2 s (.fieldAddr off x) row dst p K r:=by
 simp[cY]at h;split at h;.rename_i hx;obtain⟨hv,u,hu,e⟩:=bt cj hx;exact .ptr hm ht hB hv hu (λ_ _=>by simp only[ct.run,e]) h
 .rename_i hx;have e:x.ev s.slots=_:=bt cj hx;exact .fW hm ht hB (λ_ _=>by simp only[ct.run,e]) h
 grind
omit hm ht hB cj in theorem uf:∀{n k:Nat}{F:Nat->Option α},OU n k F=some r->k<n/\F k=some r|0,_,_,h=>by cases h|n+1,k,F,h=>by unfold OU at h;cases hb:Nat.beq k n with|true=>simp_all|false=>rw[hb]at h;obtain⟨h1,h2⟩:=uf h<;>grind
theorem DY{n sz:Nat}{x i:cc}(h:cY E wk ctx s2 row dst nx (.kJ n sz x i) K=some r):dX ρ B B' s2 s (.kJ n sz x i) row dst p K r:=by
 simp[cY]at h;obtain⟨kd,k,hi,h0,h⟩:=lU h;have hk:=jr (bt cj hi) h0;split at h;.rename_i hx;obtain⟨hlt,h⟩:=uf h;obtain⟨hv,u,hu,e⟩:=bt cj hx;exact .ptr hm ht hB hv hu (λ_ _=>by simp only[ct.run,hk,ae,e,bb hlt]) h
 .rename_i hx;obtain⟨hlt,h⟩:=uf h;have e:x.ev s.slots=_:=bt cj hx;exact .fW hm ht hB (λ_ _=>by simp only[ct.run,hk,ae,e,bb hlt]) h
 grind
theorem IZ{n sz:Nat}{agg:Bool}{x i:cc}(h:cY E wk ctx s2 row dst nx (.qE n sz agg x i) K=some r):dX ρ B B' s2 s (.qE n sz agg x i) row dst p K r:=by
 simp[cY]at h;obtain⟨kd,k,hi,h0,h⟩:=lU h;have hk:=jr (bt cj hi) h0;split at h
 .rename_i cs hx;obtain⟨hlt,h⟩:=uf h;split at h;.rename_i v h1 h2;have h1:=f1 h1;obtain⟨aO,e1,r1⟩:=bt cj hx;obtain⟨a,g1,g2⟩:=B8 h2 ((r1.drop (k.toNat*sz)).take sz);refine .pure hm ht hB (λ_ _=>?_) g2 h;simp[ct.run,hk,ae,e1];rw[bb ⟨hlt,by rw[<-r1.length];exact h1⟩,g1]<;>grind
  grind
 grind
omit hm ht hB cj in theorem sO{β:Type}{l:List β}{i:Int}{x:β}(h:idx l i=some x):0<=i/\l[i.toNat]?=some x:=by grind[idx]
omit hm ht hB cj in theorem I0{i:Int}{n:Nat}(h:ga i n=true):0<=i/\i.toNat<n:=by simpa[ga]using h
theorem Cc{sz:Nat}{x i:cc}(h:cY E wk ctx s2 row dst nx (.indexAddr sz x i) K=some r):dX ρ B B' s2 s (.indexAddr sz x i) row dst p K r:=by
 obtain⟨kd,n,hi,h⟩:=ud h;have hi:=bt cj hi;split at h
 .rename_i t l o hx;split at h
  .rename_i hz;have hz:=aw hz;obtain⟨e,he,h⟩:=bind_some h;obtain⟨h0,he⟩:=sO he;have hn:=jr hi h0;have hg:(bx t l)[n.toNat]?=some (fy t e):=by rw[B9,he];rfl
   have hx:=(iW (m:=s.mem) (bt cj hx)).2.1;refine .fW hm ht hB (t:=t) (x:=e) (off:=0) (λ_ _=>?_) h;rcases hx with e1|⟨o',e1⟩;.simp[ct.run,hn,ae,e1,hg,eU,hz,ii]
   .simp[ct.run,hn,ae,e1,hg,eU,hz,ii]
  grind
 .rename_i lv sl au t hx;split at h;.rename_i hz;have hz:=aw hz;obtain⟨r',hr,h⟩:=aB h;obtain⟨h1,h⟩:=cx h;obtain⟨h0,h1⟩:=I0 h1;have hn:=jr hi h0;obtain⟨hv,u,k,hu,e1,hk⟩:=bt cj hx;refine .ptr hm ht hB hv hu (λ_ _=>?_) h;simp only[ct.run,hn,ae,e1]<;>grind
  grind
 .rename_i lv sl au t off len hx;split at h;.rename_i hz;have hz:=aw hz;obtain⟨h1,h⟩:=cx h;obtain⟨h0,h1⟩:=I0 h1;have hn:=jr hi h0;obtain⟨hv,u,hu,e1⟩:=bt cj hx;refine .ptr hm ht hB hv hu (λ_ _=>?_) h;simp only[ct.run,hn,ae,e1]<;>grind
  grind
 grind
theorem I1{x i:cc}(h:cY E wk ctx s2 row dst nx (.qF x i) K=some r):dX ρ B B' s2 s (.qF x i) row dst p K r:=by
 obtain⟨kd,n,hi,h⟩:=ud h;have hi:=bt cj hi;split at h;.rename_i b hx;obtain⟨c,hc,h⟩:=bind_some h;obtain⟨h0,hc⟩:=sO hc;have hn:=jr hi h0;have e:x.ev s.slots=_:=bt cj hx;refine .int hm ht hB (λ_ _=>?_) h;simp[ct.run,hn,ae,e,hc,mM]
 grind
omit hm ht hB in theorem ql{β:Type}{x:Option cc}{K:Option Nat->Option β}{r:β}(h:u5 x s2 K=some r):∃n,(∀d,fJ x s.slots d=some (n.getD d))/\(n.isSome=x.isSome)/\K n=some r:=by unfold u5 at h;cases x with|none=>exact⟨none,λ_=>rfl,rfl,h⟩|some o=>obtain⟨kd,n,hv,h0,h⟩:=lU h;exact⟨some n.toNat,λ_=>by simp[fJ,jr (bt cj hv) h0],rfl,h⟩
omit hm ht hB cj in theorem js{n:Nat}{lo hi:Option Nat}(h:nI n lo hi=true):lo.getD 0<=hi.getD n/\hi.getD n<=n:=by unfold nI at h<;>grind
omit hm ht hB cj in theorem Cd{β:Type}{l:List β}{lo hi:Option Nat}(h:nI l.length lo hi=true):oX l lo hi=(l.drop (lo.getD 0)).take (hi.getD l.length-lo.getD 0):=by unfold oX;cases lo<;>cases hi<;>simp_all;.rw[fg (by simp)]
omit hm ht hB cj in theorem xV{t:Ty}{l:List t.den}{lo hi:Option Nat}(h:nI l.length lo hi=true):bx t (oX l lo hi)=((bx t l).drop (lo.getD 0)).take (hi.getD (bx t l).length-lo.getD 0):=by rw[Cd h]<;>simp_all[nI,Ty.den,oX,bx]
omit hm ht hB cj in theorem O4{sz:Nat}{x:Cell}{a:AV}{lo hi mx:Option Nat}{K:Cell->Option α}(h:Lp s2.mem sz x lo hi mx K=some r)(hx:RC ρ B s2.mem x a)(l h' k:Nat)(hl:l=lo.getD 0)(hh:∀n,hi=some n->h'=n)(hk:∀n,mx=some n->k=n):∃a' c,fo sz a l (hi.map λ_=>h') (mx.map λ_=>k)=some a'/\RC ρ B s2.mem c a'/\K c=some r:=by
 have ehi:hi.map (λ_=>h')=hi:=by cases hi with|none=>rfl|some n=>grind
 have emx:mx.map (λ_=>k)=mx:=by cases mx with|none=>rfl|some n=>grind
 rw[ehi,emx];subst hl;unfold Lp at h;split at h
 .rename_i t l o;split at h
  .rename_i hz;have hz:=aw hz;have hall:(bx t l).all (λe=>e.length==sz)=true:=by rw[<-hz];exact gK t l
   split at h
   .obtain⟨hp,h⟩:=cx h;have AF:=js hp;have he:=xV (t:=t) hp;rw[bw]at he;have c1:lo.getD 0<=hi.getD (bx t l).length/\hi.getD (bx t l).length<=(bx t l).length/\(bx t l).all (λe=>e.length==sz)=true:=by rw[bw]<;>grind
    have aqM:∀{o:Ow},(o=.bC\/o=.d)->RC ρ B s2.mem (.sl t (oX l lo hi) o) (.d (.sl ((bx t l).drop (lo.getD 0)|>.take (hi.getD (bx t l).length-lo.getD 0)))):=by intro o ho;rw[bw,<-he];rcases ho with rfl|rfl<;>exact .inl rfl
    have dat:fo sz (.d (.sl (bx t l))) (lo.getD 0) hi none=some (.d (.sl ((bx t l).drop (lo.getD 0)|>.take (hi.getD (bx t l).length-lo.getD 0)))):=by simp only[fo]<;>grind
    have own:∀o',o'≠.bC->∃a',fo sz (.own (bx t l) o') (lo.getD 0) hi none=some a'/\RC ρ B s2.mem (.sl t (oX l lo hi) .d) a':=by intro o' ho';cases o' with
     |bC=>grind|full=>
      simp only[fo];rw[bb c1];split;.rename_i e;refine⟨_,rfl,.inr ⟨.full,by simp,?_⟩⟩;rw[he,show hi.getD l.length=l.length from by rw[bw]at e;exact e];rw[fg (by simp[bw])]
      grind|cK v z=>simp only[fo]<;>grind
    split at h
    .rcases hx with rfl|⟨o',rfl⟩;.grind
     .by_cases ho':o'=.bC;.subst ho';refine⟨_,_,by simp only[fo];rw[bb c1],?_,h⟩;refine .inr ⟨.bC,?_⟩;rw[he,bw]
      .obtain⟨a',g1,g2⟩:=own o' ho';refine⟨a',_,g1,?_,h⟩;rcases g2 with rfl|⟨o2,_,rfl⟩;.exact .inl rfl
       .exact .inr ⟨_,rfl⟩
    .split at h
     .cases hx;refine⟨.own ((bx t l).drop (lo.getD 0)) .full,_,?_,?_,h⟩;.simp only[fo]<;>grind
      .show _=_;rw[he];rw[fg (by simp[bw])]
     .cases hx;obtain⟨a',g1,g2⟩:=own .full (by simp)<;>grind
    .rename_i amX avg;rcases(iW (m:=[]) hx).2.2 (λe=>amX e)with rfl|⟨o',ho',rfl⟩;.grind
     .obtain⟨a',g1,g2⟩:=own o' ho'<;>grind
   .rename_i mm;split at h;.cases h
    .cases h
    .rename_i hi' hne;obtain⟨hp,h⟩:=cx h;rw[am]at hp;obtain⟨hp,hmm⟩:=hp;have hmm:=aw hmm;have AF:=js hp;have he:=xV (t:=t) hp;simp[rb]at AF he;have c1:lo.getD 0<=hi'/\hi'=mm/\hi'<=(bx t l).length/\(bx t l).all (λe=>e.length==sz)=true:=by rw[bw];exact⟨AF.1,hmm,AF.2,hall⟩
     refine⟨.own ((bx t l).drop (lo.getD 0)|>.take (hi'-lo.getD 0)) .full,_,?_,?_,h⟩
     .rcases(iW (m:=[]) hx).2.2 (λe=>hne e)with rfl|⟨o',ho',rfl⟩;.simp only[fo,rb];rw[bb c1]
      .cases o' with|bC=>exact(ho' rfl).elim|_=>simp only[fo,rb];rw[bb c1]
     .show _=_;rw[he]
  grind
 .rename_i f;split at h
  .obtain⟨hp,h⟩:=cx h;have AF:=js hp;have h0:hi.getD 0=0:=by omega
   have l0:lo.getD 0=0:=by omega
   cases f with|true=>cases hx;refine⟨.own [] .full,.nil true,?_,rfl,h⟩;simp[fo,h0,l0]|false=>
    rcases hx with rfl|⟨o,ho,rfl⟩;.exact⟨.d (.sl []),.nil false,by simp[fo,h0,l0],.inl rfl,h⟩
    .cases o with|bC=>grind|full=>exact⟨.own [] .full,.nil false,by simp[fo,h0,l0],.inr ⟨.full,by simp,rfl⟩,h⟩|cK v z=>exact⟨.d (.sl []),.nil false,by simp[fo,h0,l0],.inl rfl,h⟩
  grind
 .rename_i lv sl au t;cases hz:Nat.beq t.size sz with|false=>grind|true=>
  split at h;.have hz:=aw hz;obtain⟨r',hr,h⟩:=aB h;obtain⟨hp,h⟩:=cx h;have AF:=js hp;obtain⟨hv,u,n,hu,rfl,hn⟩:=hx;have hn:=hn r' hr;refine⟨_,.j0 lv sl au t (Aw lo) (hi.getD r'.l.length-Aw lo),?_,⟨hv,u,hu,rfl,λr2 pP=>by rw[hr]at pP;injection pP with pP;subst pP;have h1:=AF.1;have h2:=AF.2;simp only[Aw]at h1 h2⊢;omega⟩,h⟩;simp only[fo,Aw]<;>grind
  grind
 .rename_i lv sl au t off len;cases hz:Nat.beq t.size sz with|false=>grind|true=>
  split at h;.have hz:=aw hz;obtain⟨hp,h⟩:=cx h;have AF:=js hp;obtain⟨hv,u,hu,rfl,hlen⟩:=hx;refine⟨_,.j0 lv sl au t (off+Aw lo) (hi.getD len-Aw lo),?_,⟨hv,u,hu,rfl,λr2 pP=>by have h0:=hlen r2 pP;have h1:=AF.1;have h2:=AF.2;simp only[Aw]at h1 h2⊢;omega⟩,h⟩;simp only[fo,Aw]<;>grind
  grind
 grind
theorem I2{x:cc}{lo hi:Option cc}(h:cY E wk ctx s2 row dst nx (.qG x lo hi) K=some r):dX ρ B B' s2 s (.qG x lo hi) row dst p K r:=by
 simp[cY]at h;split at h;.rename_i b hx;obtain⟨l,el,il,h⟩:=ql cj h;obtain⟨h',eh,ih,h⟩:=ql cj h;obtain⟨hp,h⟩:=cx h;have AF:=js hp;have e:x.ev s.slots=_:=bt cj hx;refine .str hm ht hB (λ_ _=>?_) h;simp[ct.run,e,el,eh,GJ];rw[bb AF,Lx,Cd hp];rfl
 grind
theorem GK{x:cc}{i:Nat}(h:cY E wk ctx s2 row dst nx (.extract x i) K=some r):dX ρ B B' s2 s (.extract x i) row dst p K r:=by
 simp[cY]at h;split at h
 .rename_i vs hx;split at h
  .rename_i a cs hi;obtain⟨v,hv,h⟩:=aB h;obtain⟨aO,e1,r1⟩:=bt cj hx;obtain⟨y,g1,g2⟩:=r1.get _ _ hi;have:RV ρ B s2.mem v y:=by cases a with|true=>obtain⟨as',rfl,g3⟩:=g2;cases hv;exact⟨as',rfl,g3⟩|false=>obtain⟨c,rfl,g3⟩:=g2;cases hv;exact g3
   exact .pure hm ht hB (λ_ _=>by simp only[ct.run,e1,g1,ae]) this h
  grind
 grind
theorem Sa{x:cc}(h:cY E wk ctx s2 row dst nx (.len x) K=some r):dX ρ B B' s2 s (.len x) row dst p K r:=by
 obtain⟨c,hx,h⟩:=cD h;have hx:=bt cj hx;split at h;.refine .int hm ht hB (λ_ _=>?_) h;rcases(iW (m:=s.mem) hx).2.1with e|⟨o',e⟩<;>(simp only[ct.run,e,bw];rfl)
 .refine .int hm ht hB (λ_ _=>?_) h;rcases(hU (m:=s.mem) hx).2with e|⟨o',_,e⟩<;>(simp only[ct.run,e,lL];rfl)
 .obtain⟨r',hr,h⟩:=aB h;obtain⟨hv,u,n,hu,e,hn⟩:=hx;have hn:=hn r' hr;subst hn;exact .int hm ht hB (λ_ _=>by simp only[ct.run,e];rfl) h
 .obtain⟨hv,u,hu,e⟩:=hx;exact .int hm ht hB (λ_ _=>by simp only[ct.run,e];rfl) h
 grind
theorem O5{x:cc}(h:cY E wk ctx s2 row dst nx (.HT x) K=some r):dX ρ B B' s2 s (.HT x) row dst p K r:=by
 obtain⟨c,hx,h⟩:=cD h;have hx:=bt cj hx;split at h;.have e:x.ev s.slots=.own [] .full:=hx;exact .int hm ht hB (λ_ _=>by simp only[ct.run,e,lL];rfl) h
 .have e:x.ev s.slots=.own (bx _ _) .full:=hx;exact .int hm ht hB (λ_ _=>by simp only[ct.run,e,bw];rfl) h
 grind
theorem O6{x:cc}(h:cY E wk ctx s2 row dst nx (.FO x) K=some r):dX ρ B B' s2 s (.FO x) row dst p K r:=by
 simp[cY]at h;split at h;.rename_i b hx;have e:x.ev s.slots=_:=bt cj hx;exact .int hm ht hB (λ_ _=>by simp only[ct.run,e,GJ];rfl) h
 grind
omit cj in theorem O7{n:Nat}(h:cY E wk ctx s2 row dst nx (.DN n) K=some r):dX ρ B B' s2 s (.DN n) row dst p K r:=by exact .int hm ht hB (λ_ _=>rfl) h
theorem I3{n sz:Nat}{x:cc}(h:cY E wk ctx s2 row dst nx (.sliceB n sz x) K=some r):dX ρ B B' s2 s (.sliceB n sz x) row dst p K r:=by
 obtain⟨c,hc,h⟩:=cD h;have hc:=bt cj hc;split at h
 .rename_i lv sl au i off _;split at h;.rename_i hi;obtain⟨hv,u,hu,e⟩:=hc;refine .pure (a:=.fF lv sl u off n sz) hm ht hB (λ_ _=>?_) (show RV ρ B s2.mem (.c (.fF lv sl au off n sz)) (.fF lv sl u off n sz)from⟨hv,u,hu,rfl⟩) h;simp[ct.run,e,hi]
  grind
 grind
theorem O8{x y:cc}(h:cY E wk ctx s2 row dst nx (.FP x y) K=some r):dX ρ B B' s2 s (.FP x y) row dst p K r:=by
 simp[cY]at h;split at h
 .rename_i k a k' b hx hy;split at h;.subst_vars;have e1:=sN (bt cj hx);have e2:=sN (bt cj hy);exact .int hm ht hB (λ_ _=>by simp only[ct.run,e1,e2,ii,mM]) h
  grind
 grind
theorem O9{x y:cc}(h:cY E wk ctx s2 row dst nx (.FQ x y) K=some r):dX ρ B B' s2 s (.FQ x y) row dst p K r:=by
 simp[cY]at h;split at h
 .rename_i k a k' b hx hy;split at h;.subst_vars;have e1:=sN (bt cj hx);have e2:=sN (bt cj hy);exact .int hm ht hB (λ_ _=>by simp only[ct.run,e1,e2,ii,mM]) h
  grind
 grind
omit hm ht hB cj in theorem zF{m:List (Tr E2)}:∀{vs:List V2}{aO:List AV}{cs:List Cell},BT vs=some cs->aE (RV ρ B m) vs aO->aE (RC ρ B m) cs aO/\aO.all jI=true
 |[],[],cs,h,_=>by cases h;exact⟨trivial,rfl⟩|v::vs,a::aO,cs,h,hv=>by cases v with|c x=>obtain⟨cs',h1,rfl⟩:=aQ h;obtain⟨g1,g2⟩:=zF h1 hv.2;exact⟨⟨hv.1,g1⟩,by simp[(RC.cell hv.1).2.1,g2]⟩|_=>cases h
 |[],_::_,_,_,h=>h.elim|_::_,[],_,_,h=>h.elim
theorem DZ{f:Nat}{cap:List cc}(h:cY E wk ctx s2 row dst nx (.makeFunc f cap) K=some r):dX ρ B B' s2 s (.makeFunc f cap) row dst p K r:=by obtain⟨cs,hc,h⟩:=aB h;obtain⟨vs,h1,h2⟩:=aV hc;obtain⟨g1,g2⟩:=zF h2 (oZ cj h1);exact .pure hm ht hB (λ_ _=>by simp only[ct.run,g2,ii]) (v:=.fk f cs) ⟨_,rfl,g1⟩ h
end
end Go.Sym
namespace Go.Sym
open Go Go.bM
section
variable{α:Type}{ρ:bD}{B B':Nat}{s2:S2}{s:St}{op:ct}{row dst p nx:Nat}{K:gY->Option α}{r:α}{E:ah}{wk:Wk}{ctx:Nat}
theorem o6:∀(a b:List (Nat×Nat×Option E2))(m:List (Tr E2)),gr m (a++b)=gr (gr m a) b|[],_,_=>rfl|(lv,sl,e)::r,b,m=>by simp[n3,gr,o6 r b]
theorem rT{m:List (Tr E2)}{lv sl cM cZ au:Nat}{r:SL}(h:rowOf (BO m lv sl none) cM cZ au=some r):rowOf m cM cZ au=some r:=by have:=cJ h;rw[kF]at this<;>simp_all[jO,BO,rowOf]
theorem mX:∀{ks:List (Nat×Nat)}{m:List (Tr E2)}{lv sl au:Nat}{r:SL},rowOf (gr m (kT ks)) lv sl au=some r->rowOf m lv sl au=some r|[],_,_,_,_,_,h=>h|(a,b)::ks,m,_,_,_,_,h=>rT (mX (ks:=ks) (m:=BO m a b none) h)
theorem qY{m:List (Tr E2)}{ks:List (Nat×Nat)}:fA B m (gr m (kT ks)):=λ_ _ _ r _ h=>⟨r,mX h,rfl⟩
def abZ(B:Nat)(m:List (Tr E2))(lv sl:Nat):E2->Prop|.box _ _=>True|.row au _ l=>B<=au\/∃r,rowOf m lv sl au=some r/\r.l.length=l.length|.set _ _=>True
theorem e8{m:List (Tr E2)}{ks:List (Nat×Nat)}{lv sl:Nat}{e:E2}(h:abZ B m lv sl e):fA B m (gr m (kT ks++[(lv,sl,some e)])):=by
 intro cM cZ au r' hv hr;rw[o6]at hr;simp[gr]at hr;have:=cJ hr;rw[kF]at this;split at this;.simp_all;rcases h with h|⟨r,h1,h2⟩<;>grind
 .exact⟨r',mX (gJ.2 this),rfl⟩
theorem jt{mf:List (Tr E2)}:∀{m:List (Tr bH)}{ks:List (Nat×Nat)},aE (O0 ρ B mf) (kT ks) (ew m ks)|_,[]=>trivial|m,k::ks=>⟨⟨rfl,rfl,λ_ h=>by cases h⟩,jt (m:=m) (ks:=ks)⟩
theorem e9{mf:List (Tr E2)}{lv sl:Nat}{e2:E2}{e:bH}(h:RE ρ B mf e2 e):aE (O0 ρ B mf) [(lv,sl,some e2)] [(lv,sl,some e)]:=⟨⟨rfl,rfl,λx hx=>by simp_all⟩,trivial⟩
theorem E3{mf:List (Tr E2)}:∀{GI:List (Nat×Nat×Option E2)}{us:List (Nat×Nat×Option bH)},aE (O0 ρ B mf) GI us->aW ρ (GI.map λu=>cB u.1 u.2.1) (us.map λu=>cB u.1 u.2.1)|[],[],_=>aW.nil|(a,b,c)::r2,(a',b',c')::r,h=>by obtain⟨⟨h1,h2,_⟩,h4⟩:=h;subst h1 h2;exact aW.jT _ _ (E3 h4)|[],_::_,h=>h.elim|_::_,[],h=>h.elim
theorem aW.Ce{a b:List (Nat×Nat×Nat)}{v u:Nat}(hu:ρ v=some u)(h:aW ρ a b):aW ρ (kH v::a) (kH u::b):=by
 intro x hx;rcases dk.1 hx with rfl|hx;.simp_all[aW,bD,KR,kH]
 .obtain⟨y,h1,h2⟩:=h x hx<;>grind
theorem aW.skip{a b:List (Nat×Nat×Nat)}{k:Nat×Nat×Nat}(h:aW ρ a b):aW ρ (k::a) b:=λx hx=>by obtain⟨y,h1,h2⟩:=h x hx<;>grind
theorem oA.gD(hm:MR ρ B s2.mem s.mem)(ht:TR ρ B s2.aK s.aK)(hB:B<=B'){GI:List (Nat×Nat×Option E2)}{us:List (Nat×Nat×Option bH)}{v:V2}{a:AV}{R4 rd:List (Nat×Nat×Nat)}(hst:fA B s2.mem (gr s2.mem GI))(hu:aE (O0 ρ B' (gr s2.mem GI)) GI us)(hv:RV ρ B' (gr s2.mem GI) v a)(hr:aW ρ R4 rd):oA ρ B B' s2 s {val:=v,di:=GI,cK:=[],rd:=R4} {val:=a,di:=us,cK:=[],rd:=rd}:=⟨hv,hm.di hB hst hu,ht.up hB,hst,hr,by exact(E3 hu).append aW.nil⟩
theorem mY{m:List (Tr E2)}:RV ρ B m (.jF []) kg:=⟨[],rfl,trivial⟩
variable(hm:MR ρ B s2.mem s.mem)(ht:TR ρ B s2.aK s.aK)(cj:va ρ B s2.mem s2.slots s.slots)(hB:B<=nx)(fU:ρ nx=some p)
include hm ht hB fU
theorem xW{lq d:Nat}{cs:List Cell}{aO:List AV}(hc:aE (RC ρ B s2.mem) cs aO)(hrun:∀call sh,op.run call sh s row dst p=some (.ck {val:=.ptr lq d p 0 0,di:=[(lq,d,some (.box p aO))],cK:=[],rd:=[]}))(h:K (.ck {val:=.c (.ptr lq d nx 0 0),di:=[(lq,d,some (.box nx cs))],cK:=[],rd:=[]})=some r):dX ρ B (nx+1) s2 s op row dst p K r:=by have hst:fA B s2.mem (gr s2.mem [(lq,d,some (.box nx cs))]):=e8 (ks:=[]) (e:=.box nx cs) trivial;refine⟨_,_,hrun,.gD hm ht (by omega) hst (e9 ⟨by omega,p,aO,fU,rfl,hc.mono λ_ _=>RC.move hst (by omega) λ_ _=>rfl⟩) (v:=.c (.ptr lq d nx 0 0)) ⟨by omega,p,fU,rfl⟩ aW.nil,h⟩
theorem LB{z:List AV}(h:cY E wk ctx s2 row dst nx (.alloc z) K=some r):dX ρ B (nx+1) s2 s (.alloc z) row dst p K r:=by obtain⟨cs,hc,h⟩:=aB h;rw[hm.len]at h;exact xW hm ht hB fU (wJ hc) (λ_ _=>rfl) h
include cj in theorem Sb{x:cc}(h:cY E wk ctx s2 row dst nx (.box x) K=some r):dX ρ B (nx+1) s2 s (.box x) row dst p K r:=by
 obtain⟨cs,hc,h⟩:=aB h;obtain⟨v,hv,h1⟩:=aV hc;obtain⟨aO,g1,g2⟩:=wK h1 (bt cj hv);rw[hm.len]at h;split at h;.rename_i hb;exact xW hm ht hB fU g2 (λ_ _=>by simp only[ct.run,hb,g1,ca]) h
 .rename_i hb;exact xW hm ht hB fU g2 (λ_ _=>by simp only[ct.run,hb,g1,ca]) h
omit fU hB ht in theorem I4{sz:Nat}{pc:Cell}{a:AV}{K:List Cell->Option α}(h:Ng s2.mem sz pc K=some r)(hp:RC ρ B s2.mem pc a):∃cs aO,rR s.mem sz a=some aO/\aE (RC ρ B s2.mem) cs aO/\K cs=some r:=by
 unfold Ng at h;split at h
 .rename_i lv sl au i off;obtain⟨hv,u,hu,rfl⟩:=hp;split at h
  .rename_i v cs he;split at h;.rename_i hb;simp only[am]at hb;obtain⟨⟨I5,hi⟩,hl⟩:=hb;have I5:=aw I5;have hi:=aw hi;obtain⟨e,g1,_,u',aO,g2,rfl,g3⟩:=hm.fZ _ _ _ he;simp_all;refine⟨_,(aO.drop off).take sz,?_,(g3.drop off).take sz,h⟩;simp only[rR,g1,sM];rw[bb (by rw[<-g3.length];exact hl)]
   grind
  .rename_i v t l he;split at h
   .rename_i hb;simp only[am]at hb;obtain⟨I5,hl⟩:=hb;have I5:=aw I5;obtain⟨x,hx,h⟩:=bind_some h;obtain⟨e,g1,_,u',g2,rfl⟩:=hm.fZ _ _ _ he;simp_all;refine⟨_,(((fy t x).map .d).drop off).take sz,?_,((lT t x).drop off).take sz,h⟩;have:(bx t l)[i]?=some (fy t x):=by rw[B9,hx];rfl
    simp only[rR,g1,sM,this];rw[bb (by rw[eU];exact hl)]<;>simp_all
   grind
  .cases h
  grind
 .rename_i t x off;split at h;.rename_i hl;have hl:=f1 hl;have e:a=_:=hp;refine⟨_,(((fy t x).map .d).drop off).take sz,?_,((lT t x).drop off).take sz,h⟩;rw[e];simp only[rR];rw[bb (by rw[eU];exact hl)]<;>simp_all
  grind
 grind
omit fU in include cj in theorem Pa{sz:Nat}{agg:Bool}{x:cc}(h:cY E wk ctx s2 row dst nx (.load sz agg x) K=some r):dX ρ B (nx+1) s2 s (.load sz agg x) row dst p K r:=by obtain⟨pc,hx,h⟩:=cD h;have hx:=bt cj hx;obtain⟨cs,aO,g1,g2,h⟩:=I4 hm h hx;obtain⟨v,hv,h⟩:=aB h;obtain⟨a,g3,g4⟩:=B8 hv g2;exact⟨_,_,λ_ _=>by simp only[ct.run,g1,g3,ae,ca],.xT hm ht (by omega) g4 (ue hx),h⟩
omit hm ht hB fU in theorem wM{ks:List (Nat×Nat)}{lv sl:Nat}(h:BU ks lv sl=false):¬(lv,sl)∈ks:=by
 intro hk;have:BU ks lv sl=true:=by simp_all[BU]
 grind
omit hm ht hB fU in theorem pR:∀(t:Ty)(x:t.den),cv (jl t x)=some (fy t x)|.val,v=>by cases v;simp[jl,cv,ov,fy,Lm,qD.kind,qD.int,qD.text,qD.list,qD.cut,bx,qi]|.int _,_=>rfl|.bool,_=>rfl|.str,_=>rfl|.sl _,_=>rfl|.unit,_=>rfl|.prod a b,x=>mJ (pR a x.1) (pR b x.2)|.sum _ _,_=>rfl
omit hm ht hB fU in theorem pS:∀{cs:List Cell}{ds:List D},cv cs=some ds->ds.length=cs.length|[],ds,h=>by cases h;rfl|c::r,ds,h=>by obtain⟨x,xs,h1,h2,rfl⟩:=gU h;simp[pS h2]
omit hm ht hB fU in theorem sP:∀{cs:List Cell}{ds:List D}(n:Nat),cv cs=some ds->cv (cs.take n)=some (ds.take n)|_,_,0,_=>by simp[cv]|[],ds,n+1,h=>by cases h;rfl|c::r,ds,n+1,h=>by obtain⟨x,xs,h1,h2,rfl⟩:=gU h;simp[List.take_succ_cons,cv,h1,sP n h2]
omit hm ht hB fU in theorem sQ:∀{cs:List Cell}{ds:List D}(n:Nat),cv cs=some ds->cv (cs.drop n)=some (ds.drop n)|_,_,0,h=>by grind|[],ds,n+1,h=>by cases h;rfl|c::r,ds,n+1,h=>by obtain⟨x,xs,h1,h2,rfl⟩:=gU h;simpa using sQ n h2
omit hm ht hB fU in theorem D0{cs new:List Cell}{ds ds':List D}(h:cv cs=some ds)(h':cv new=some ds')(off:Nat):cv (bM.splice cs off new)=some (bM.splice ds off ds'):=by unfold bM.splice;rw[pS h'];exact mJ (mJ (sP off h) h') (sQ _ h)
omit fU in theorem Pb{sz:Nat}{pc:Cell}{new:List Cell}{a v:AV}{aO:List AV}(h:Lo s2.mem sz pc new K=some r)(hp:RC ρ B s2.mem pc a)(hv:cellsOf v=some aO)(hn:aE (RC ρ B s2.mem) new aO):∃E e,qK s.mem sz a v=some e/\oA ρ B (nx+1) s2 s E e/\K (.ck E)=some r:=by
 unfold Lo at h;split at h
 .rename_i lv sl au i off hz;have hz:=aw hz;rw[hn.length]at hz;obtain⟨DP,u,hu,rfl⟩:=hp;split at h
  .rename_i vv cs he;split at h;.rename_i hb;simp only[am]at hb;obtain⟨⟨I5,hi⟩,hl⟩:=hb;have I5:=aw I5;have hi:=aw hi;have hl:=f1 hl;subst I5 hi;obtain⟨e,g1,_,u',bs,g2,rfl,g3⟩:=hm.fZ _ _ _ he;rw[hu]at g2;cases g2;have hst:fA B s2.mem (gr s2.mem [(lv,sl,some (.box vv (bM.splice cs off new)))]):=e8 (ks:=[]) (e:=.box _ _) trivial;refine⟨_,_,?_,.gD hm ht (B':=nx+1) (by omega) hst (e9 (e:=.box u (bM.splice bs off aO)) ⟨by omega,u,_,hu,rfl,(xU g3 hn off).mono λ_ _=>RC.move hst (by omega) λ_ _=>rfl⟩) mY (aW.jT lv sl aW.nil),h⟩;simp only[qK,hv,g1,sM];rw[bb hz,bb (by rw[<-g3.length];exact hl)]
   grind
  .rename_i vv t l he;split at h
   .rename_i new' ks hb hf;simp only[am]at hb;obtain⟨I5,hl⟩:=hb;have I5:=aw I5;have hl:=f1 hl;subst I5;split at h;.cases h
    .rename_i hk;obtain⟨x,hx,h⟩:=bind_some h;obtain⟨y,hy,h⟩:=aB h;obtain⟨e,g1,_,u',g2,rfl⟩:=hm.fZ _ _ _ he;rw[hu]at g2;cases g2;obtain⟨ds,g3,g4⟩:=Lu hm hf hn;have hy:=qj hy (D0 (pR t x) g4 off);have hrow:rowOf s2.mem lv sl vv=some ⟨t,l⟩:=gJ.2 he;have hst:fA B s2.mem (gr s2.mem (kT ks++[(lv,sl,some (.row vv t (l.set i y)))])):=e8 (.inr ⟨_,hrow,by simp⟩);refine⟨_,_,?_,.gD hm ht (B':=nx+1) (by omega) hst ((jt (m:=s.mem)).append (e9 (e:=.row u (bx t (l.set i y))) ⟨by omega,u,hu,rfl⟩)) mY (aW.jT lv sl (aW.jg ks)),h⟩;have hg:(bx t l)[i]?=some (fy t x):=by rw[B9,hx];rfl
     simp only[qK,hv,g1,sM,hg,g3];rw[bb hz,bb ⟨by rw[eU];exact hl,wM hk⟩,hy];simp[bx,List.map_set]
   grind
  .cases h
  grind
 grind
omit fU in include cj in theorem LC{sz:Nat}{x v:cc}(h:cY E wk ctx s2 row dst nx (.store sz x v) K=some r):dX ρ B (nx+1) s2 s (.store sz x v) row dst p K r:=by obtain⟨pc,hx,h⟩:=cD h;obtain⟨new,hn,h⟩:=aB h;obtain⟨w,hw,h1⟩:=aV hn;obtain⟨aO,g1,g2⟩:=wK h1 (bt cj hw);obtain⟨E',e,h2,h3,h4⟩:=Pb hm ht hB h (bt cj hx) g1 g2;exact⟨E',e,λ_ _=>by simp only[ct.run,h2,ca],h3,h4⟩
end
end Go.Sym
