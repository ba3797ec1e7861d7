/- A part of the proof: SymE, SymF. -/
import Derived.Test.YtdogilonhnbapaaGreatDoorSymD
set_option linter.unusedVariables false
set_option linter.unusedSimpArgs false
namespace Go.Sym
open Go Go.bI
section
variable{α:Type}{ρ:aZ}{B B':Nat}{s2:S2}{s:St}{op:cq}{row dst p nx:Nat}{K:gC->Option α}{r:α}{E:aq}{wk:Wk}{ctx:Nat}
theorem Pn(x y:List UInt8):(⟨x.toArray⟩:ByteArray)++⟨y.toArray⟩=⟨(x++y).toArray⟩:=by apply ByteArray.ext;simp
theorem Gq(x:List UInt8):(⟨x.toArray⟩:ByteArray).size=x.length:=by simp[ByteArray.size]
theorem Lt(x:List UInt8)(a b:Nat):(⟨x.toArray⟩:ByteArray).extract a b=⟨((x.drop a).take (b-a)).toArray⟩:=by apply ByteArray.ext;simp_all
theorem WL{x y:List UInt8}{Sp:BinOp}{K:Cell->Option α}(h:acj Sp x y K=some r):∃v c,KE Sp ⟨x.toArray⟩ ⟨y.toArray⟩=some v/\K c=some r/\∀(m:List (Tr E2)),RC ρ B m c (.d (.sc v)):=by
 unfold acj at h;split at h
 .obtain⟨h1,h⟩:=cl h;refine⟨_,_,?_,h,λ_=>rfl⟩;have:¬((x.length+y.length:Nat):Int)>IntKind.i64.max:=by simpa using h1
  simp only[KE,Gq,Pn];rw[if_neg this]
 all_goals first|(refine⟨_,_,?_,h,λ_=>rfl⟩;simp[KE,ByteArray.toList_eq];done)|cases h
theorem WM{x y:Cell}{a b:AV}{Sp:BinOp}{m:List (Tr E2)}{K:Cell->Option α}(h:ack Sp x y K=some r)(hx:RC ρ B m x a)(hy:RC ρ B m y b):∃v c,Ro Sp a b=some v/\K c=some r/\RC ρ B m c (.d (.sc v)):=by
 unfold ack at h;split at h;.cases hx;cases hy;obtain⟨v,c,h1,h2,h3⟩:=WK (ρ:=ρ) (B:=B) h;exact⟨v,c,h1,h2,h3 m⟩
 .cases hx;cases hy;obtain⟨v,c,h1,h2,h3⟩:=WL (ρ:=ρ) (B:=B) h;exact⟨v,c,h1,h2,h3 m⟩
 grind
theorem Sq{kd:Nat}{x y:Cell}{a b:AV}{m:List (Tr E2)}{t:Bool}(h:R9 kd x y=some t)(hx:RC ρ B m x a)(hy:RC ρ B m y b):HU kd a b=some t:=by
 unfold R9 at h;split at h;.split at h<;>simp_all[RC,aZ,HU]
 .split at h;.split at h<;>simp_all[RC,aZ,HU]
  grind
 .split at h;.cases h
  .cases h
  .rename_i x y n _ _;cases hx;cases hy;have:((⟨x.toArray⟩:ByteArray)==⟨y.toArray⟩)=(x==y):=by rw[Bool.eq_iff_iff];show(x.toArray==y.toArray)=true↔_;simp
   unfold HU<;>grind
 grind
theorem Er{xs ys:List Cell}{aJ bs:List AV}{m:List (Tr E2)}(hx:aC (RC ρ B m) xs aJ)(hy:aC (RC ρ B m) ys bs):∀{l:List (Nat×Nat)}{t:Bool},Gi xs ys l=some t->lX aJ bs l=some t
 |[],t,h=>h|o::l,t,h=>by
  simp[Gi]at h;split at h;.rename_i x y b' h1 h2 h3;obtain⟨b,h4,rfl⟩:=aN h;obtain⟨a,g1,g2⟩:=hx.get _ _ h1;obtain⟨a',g3,g4⟩:=hy.get _ _ h2;simp[lX,g1,g3,Sq h4 g2 g4];cases b with|true=>simpa using Er hx hy h3|false=>rfl
  grind
theorem acv{x:Cell}{a:AV}{m:List (Tr E2)}{uop:UnOp}{K:Cell->Option α}(h:unK uop x K=some r)(hx:RC ρ B m x a):∃v c,unA uop a=some v/\K c=some r/\RC ρ B m c (.d (.sc v)):=by
 unfold unK at h;split at h
 .split at h;.cases hx;exact⟨_,_,rfl,h,rfl⟩
  grind
 .split at h;.cases hx;exact⟨_,_,rfl,h,rfl⟩
  .cases hx;exact⟨_,_,by simp[unA,DG],h,rfl⟩
  grind
 grind
section
variable(hm:MR ρ B s2.mem s.mem)(ht:TR ρ B s2.aG s.aG)(hB:B<=B')
include hm ht hB
theorem dI.int{k:IntKind}{n:Int}(hrun:∀call sh,op.run call sh s row dst p=fH.pure (.d (.sc (.int k n))))(hK:K (dO (.int k n))=some r):dI ρ B B' s2 s op row dst p K r:=.pure hm ht hB hrun (v:=.c (.int k n)) rfl hK
theorem dI.str{x:List UInt8}(hrun:∀call sh,op.run call sh s row dst p=fH.pure (.d (.sc (.string ⟨x.toArray⟩))))(hK:K (dO (.str x))=some r):dI ρ B B' s2 s op row dst p K r:=.pure hm ht hB hrun (v:=.c (.str x)) rfl hK
theorem dI.fJ{t:Ty}{x:t.den}{off:Nat}(hrun:∀call sh,op.run call sh s row dst p=fH.pure (.fJ (eX t x) off))(hK:K (dO (.fJ t x off))=some r):dI ρ B B' s2 s op row dst p K r:=.pure hm ht hB hrun (v:=.c (.fJ t x off)) rfl hK
theorem dI.ptr{lv sl ai u i off:Nat}(hv:ai<B)(hu:ρ ai=some u)(hrun:∀call sh,op.run call sh s row dst p=fH.pure (.ptr lv sl u i off))(hK:K (dO (.ptr lv sl ai i off))=some r):dI ρ B B' s2 s op row dst p K r:=.pure hm ht hB hrun (v:=.c (.ptr lv sl ai i off)) ⟨hv,u,hu,rfl⟩ hK
end
variable(hm:MR ρ B s2.mem s.mem)(ht:TR ρ B s2.aG s.aG)(cg:uJ ρ B s2.mem s2.slots s.slots)(hB:B<=B')
include hm ht hB cg
theorem Sr{Sp:BinOp}{x y:bZ}(h:cT E wk ctx s2 row dst nx (.bin Sp x y) K=some r):dI ρ B B' s2 s (.bin Sp x y) row dst p K r:=by obtain⟨a,ha,h⟩:=cv h;obtain⟨b,hb,h⟩:=cv h;obtain⟨v,c,h1,h2,h3⟩:=WM h (aW cg ha) (aW cg hb);exact .pure hm ht hB (λ_ _=>by simp only[cq.run,h1,Option.bind_some,lY]) (v:=.c c) h3 h2
theorem Ss{neg:Bool}{x y:bZ}(h:cT E wk ctx s2 row dst nx (.VT neg x y) K=some r):dI ρ B B' s2 s (.VT neg x y) row dst p K r:=by obtain⟨a,ha,h⟩:=qx h;obtain⟨b,hb,h⟩:=qx h;have h1:=qy (aW cg ha);have h2:=qy (aW cg hb);refine .pure hm ht hB (a:=.d (.sc (.bool (if neg then !(a==b)else a==b)))) (λ_ _=>by simp only[cq.run,h1,h2,lY]) (v:=.c _) ?_ h;cases neg<;>rfl
theorem Lu{neg:Bool}{x:bZ}(h:cT E wk ctx s2 row dst nx (.yp neg x) K=some r):dI ρ B B' s2 s (.yp neg x) row dst p K r:=by
 simp[cT]at h;split at h;.rename_i b hx;have h1:x.ev s.slots=_:=aW cg hx;cases neg with|true=>refine .pure hm ht hB (a:=.d (.sc (.bool b))) (λ_ _=>by cases b<;>(simp only[cq.run,h1,lY]<;>try rfl)) (v:=.c _) ?_ h;rfl|false=>refine .pure hm ht hB (a:=.d (.sc (.bool !b))) (λ_ _=>by cases b<;>(simp only[cq.run,h1,lY]<;>try rfl)) (v:=.c _) ?_ h;rfl
 grind
theorem IW{lo n sz:Nat}{x:bZ}(h:cT E wk ctx s2 row dst nx (.rK lo n sz x) K=some r):dI ρ B B' s2 s (.rK lo n sz x) row dst p K r:=by
 simp[cT]at h;split at h
 .rename_i lv sl ai i off hx;split at h;.rename_i hc;obtain⟨hv,u,hu,h1⟩:=aW cg hx;exact .pure hm ht hB (a:=.ff lv sl u (off+lo*sz) (n-lo) sz) (λ_ _=>by simp only[cq.run,h1,hc]) (v:=.c (.ff lv sl ai (off+lo*sz) (n-lo) sz)) ⟨hv,u,hu,rfl⟩ h
  grind
 grind
theorem Su{neg:Bool}{sz:Nat}{l:List (Nat×Nat)}{x y:bZ}(h:cT E wk ctx s2 row dst nx (.VU neg sz l x y) K=some r):dI ρ B B' s2 s (.VU neg sz l x y) row dst p K r:=by
 simp[cT]at h;split at h
 .rename_i xs ys hx hy;split at h
  .rename_i b h1 h2;obtain⟨aJ,e1,r1⟩:=aW cg hx;obtain⟨bs,e2,r2⟩:=aW cg hy;have l1:aJ.length=sz:=by rw[<-r1.length]<;>simp_all
   have l2:bs.length=sz:=by rw[<-r2.length]<;>simp_all
   refine .pure hm ht hB (a:=.d (.sc (.bool (if neg then !b else b)))) (λ_ _=>by simp only[cq.run,e1,e2];rw[if_neg (by simp[l1,l2]),Er r1 r2 h2];rfl) (v:=.c _) ?_ h;cases neg<;>rfl
  grind
 grind
theorem WN{uop:UnOp}{x:bZ}(h:cT E wk ctx s2 row dst nx (.un uop x) K=some r):dI ρ B B' s2 s (.un uop x) row dst p K r:=by obtain⟨a,ha,h⟩:=cv h;obtain⟨v,c,h1,h2,h3⟩:=acv h (aW cg ha);exact .pure hm ht hB (λ_ _=>by simp only[cq.run,h1,Option.bind_some,lY]) (v:=.c c) h3 h2
theorem Po{k:IntKind}{x:bZ}(h:cT E wk ctx s2 row dst nx (.conv k x) K=some r):dI ρ B B' s2 s (.conv k x) row dst p K r:=by obtain⟨kd,n,ha,h⟩:=tJ h;have e:=sC (aW cg ha);exact .int hm ht hB (λ_ _=>by simp only[cq.run,e,rM,Option.bind_some,lY]) h
theorem Lw{off sz:Nat}{agg:Bool}{x:bZ}(h:cT E wk ctx s2 row dst nx (.field off sz agg x) K=some r):dI ρ B B' s2 s (.field off sz agg x) row dst p K r:=by
 simp[cT]at h;split at h
 .rename_i cs hx;split at h;.rename_i v h1 h2;have h1:=Nat.le_of_ble_eq_true h1;obtain⟨aJ,e1,r1⟩:=aW cg hx;obtain⟨a,g1,g2⟩:=BE h2 ((r1.drop off).take sz);refine .pure hm ht hB (λ_ _=>?_) g2 h;simp[cq.run,e1];rw[if_pos (by rw[<-r1.length];exact h1),g1];rfl
  grind
 grind
theorem BH{off:Nat}{x:bZ}(h:cT E wk ctx s2 row dst nx (.fieldAddr off x) K=some r):dI ρ B B' s2 s (.fieldAddr off x) row dst p K r:=by
 simp[cT]at h;split at h;.rename_i hx;obtain⟨hv,u,hu,e⟩:=aW cg hx;exact .ptr hm ht hB hv hu (λ_ _=>by simp only[cq.run,e]) h
 .rename_i hx;have e:x.ev s.slots=_:=aW cg hx;exact .fJ hm ht hB (λ_ _=>by simp only[cq.run,e]) h
 grind
omit hm ht hB cg in theorem tL:∀{n k:Nat}{F:Nat->Option α},Pc n k F=some r->k<n/\F k=some r|0,_,_,h=>by cases h|n+1,k,F,h=>by unfold Pc at h;cases hb:Nat.beq k n with|true=>simp_all|false=>rw[hb]at h;obtain⟨h1,h2⟩:=tL h<;>grind
theorem Dn{n sz:Nat}{x i:bZ}(h:cT E wk ctx s2 row dst nx (.j0 n sz x i) K=some r):dI ρ B B' s2 s (.j0 n sz x i) row dst p K r:=by
 simp[cT]at h;obtain⟨kd,k,hi,h0,h⟩:=lg h;have hk:=iO (aW cg hi) h0;split at h;.rename_i hx;obtain⟨hlt,h⟩:=tL h;obtain⟨hv,u,hu,e⟩:=aW cg hx;exact .ptr hm ht hB hv hu (λ_ _=>by simp only[cq.run,hk,Option.bind_some,e,if_pos hlt]) h
 .rename_i hx;obtain⟨hlt,h⟩:=tL h;have e:x.ev s.slots=_:=aW cg hx;exact .fJ hm ht hB (λ_ _=>by simp only[cq.run,hk,Option.bind_some,e,if_pos hlt]) h
 grind
theorem IX{n sz:Nat}{agg:Bool}{x i:bZ}(h:cT E wk ctx s2 row dst nx (.qd n sz agg x i) K=some r):dI ρ B B' s2 s (.qd n sz agg x i) row dst p K r:=by
 simp[cT]at h;obtain⟨kd,k,hi,h0,h⟩:=lg h;have hk:=iO (aW cg hi) h0;split at h
 .rename_i cs hx;obtain⟨hlt,h⟩:=tL h;split at h;.rename_i v h1 h2;have h1:=Nat.le_of_ble_eq_true h1;obtain⟨aJ,e1,r1⟩:=aW cg hx;obtain⟨a,g1,g2⟩:=BE h2 ((r1.drop (k.toNat*sz)).take sz);refine .pure hm ht hB (λ_ _=>?_) g2 h;simp[cq.run,hk,Option.bind_some,e1];rw[if_pos ⟨hlt,by rw[<-r1.length];exact h1⟩,g1]<;>grind
  grind
 grind
omit hm ht hB cg in theorem sD{β:Type}{l:List β}{i:Int}{x:β}(h:idx l i=some x):0<=i/\l[i.toNat]?=some x:=by grind[idx]
omit hm ht hB cg in theorem IY{i:Int}{n:Nat}(h:fP i n=true):0<=i/\i.toNat<n:=by simpa[fP]using h
theorem BI{sz:Nat}{x i:bZ}(h:cT E wk ctx s2 row dst nx (.indexAddr sz x i) K=some r):dI ρ B B' s2 s (.indexAddr sz x i) row dst p K r:=by
 obtain⟨kd,n,hi,h⟩:=tJ h;have hi:=aW cg hi;split at h
 .rename_i t l o hx;split at h
  .rename_i hz;have hz:=Nat.eq_of_beq_eq_true hz;obtain⟨e,he,h⟩:=bind_some h;obtain⟨h0,he⟩:=sD he;have hn:=iO hi h0;have hg:(bf t l)[n.toNat]?=some (eX t e):=by rw[BF,he];rfl
   have hx:=(gI (m:=s.mem) (aW cg hx)).2.1;refine .fJ hm ht hB (t:=t) (x:=e) (off:=0) (λ_ _=>?_) h;rcases hx with e1|⟨o',e1⟩;.simp[cq.run,hn,Option.bind_some,e1,hg,ez,hz,if_true]
   .simp[cq.run,hn,Option.bind_some,e1,hg,ez,hz,if_true]
  grind
 .rename_i lv sl ai t hx;split at h;.rename_i hz;have hz:=Nat.eq_of_beq_eq_true hz;obtain⟨r',hr,h⟩:=az h;obtain⟨h1,h⟩:=cl h;obtain⟨h0,h1⟩:=IY h1;have hn:=iO hi h0;obtain⟨hv,u,k,hu,e1,hk⟩:=aW cg hx;refine .ptr hm ht hB hv hu (λ_ _=>?_) h;simp only[cq.run,hn,Option.bind_some,e1]<;>grind
  grind
 .rename_i lv sl ai t off len hx;split at h;.rename_i hz;have hz:=Nat.eq_of_beq_eq_true hz;obtain⟨h1,h⟩:=cl h;obtain⟨h0,h1⟩:=IY h1;have hn:=iO hi h0;obtain⟨hv,u,hu,e1⟩:=aW cg hx;refine .ptr hm ht hB hv hu (λ_ _=>?_) h;simp only[cq.run,hn,Option.bind_some,e1]<;>grind
  grind
 grind
theorem IZ{x i:bZ}(h:cT E wk ctx s2 row dst nx (.qe x i) K=some r):dI ρ B B' s2 s (.qe x i) row dst p K r:=by
 obtain⟨kd,n,hi,h⟩:=tJ h;have hi:=aW cg hi;split at h;.rename_i b hx;obtain⟨c,hc,h⟩:=bind_some h;obtain⟨h0,hc⟩:=sD hc;have hn:=iO hi h0;have e:x.ev s.slots=_:=aW cg hx;refine .int hm ht hB (λ_ _=>?_) h;simp[cq.run,hn,Option.bind_some,e,hc,lY]
 grind
omit hm ht hB in theorem pS{β:Type}{x:Option bZ}{K:Option Nat->Option β}{r:β}(h:uF x s2 K=some r):∃n,(∀d,fq x s.slots d=some (n.getD d))/\(n.isSome=x.isSome)/\K n=some r:=by unfold uF at h;cases x with|none=>exact⟨none,λ_=>rfl,rfl,h⟩|some o=>obtain⟨kd,n,hv,h0,h⟩:=lg h;exact⟨some n.toNat,λ_=>by simp[fq,iO (aW cg hv) h0],rfl,h⟩
omit hm ht hB cg in theorem iP{n:Nat}{lo hi:Option Nat}(h:mG n lo hi=true):lo.getD 0<=hi.getD n/\hi.getD n<=n:=by unfold mG at h<;>grind
omit hm ht hB cg in theorem BJ{β:Type}{l:List β}{lo hi:Option Nat}(h:mG l.length lo hi=true):ov l lo hi=(l.drop (lo.getD 0)).take (hi.getD l.length-lo.getD 0):=by unfold ov;cases lo<;>cases hi<;>simp_all;.rw[List.take_of_length_le (by simp)]
omit hm ht hB cg in theorem xI{t:Ty}{l:List t.den}{lo hi:Option Nat}(h:mG l.length lo hi=true):bf t (ov l lo hi)=((bf t l).drop (lo.getD 0)).take (hi.getD (bf t l).length-lo.getD 0):=by rw[BJ h]<;>simp_all[mG,Ty.den,ov,bf]
omit hm ht hB cg in theorem Pp{sz:Nat}{x:Cell}{a:AV}{lo hi mx:Option Nat}{K:Cell->Option α}(h:Lm s2.mem sz x lo hi mx K=some r)(hx:RC ρ B s2.mem x a)(l h' k:Nat)(hl:l=lo.getD 0)(hh:∀n,hi=some n->h'=n)(hk:∀n,mx=some n->k=n):∃a' c,eU sz a l (hi.map λ_=>h') (mx.map λ_=>k)=some a'/\RC ρ B s2.mem c a'/\K c=some r:=by
 have ehi:hi.map (λ_=>h')=hi:=by cases hi with|none=>rfl|some n=>grind
 have emx:mx.map (λ_=>k)=mx:=by cases mx with|none=>rfl|some n=>grind
 rw[ehi,emx];subst hl;unfold Lm at h;split at h
 .rename_i t l o;split at h
  .rename_i hz;have hz:=Nat.eq_of_beq_eq_true hz;have hall:(bf t l).all (λe=>e.length==sz)=true:=by rw[<-hz];exact gx t l
   split at h
   .obtain⟨hp,h⟩:=cl h;have hp':=iP hp;have he:=xI (t:=t) hp;rw[aY]at he;have c1:lo.getD 0<=hi.getD (bf t l).length/\hi.getD (bf t l).length<=(bf t l).length/\(bf t l).all (λe=>e.length==sz)=true:=by rw[aY]<;>grind
    have aoA:∀{o:Ow},(o=.bA\/o=.d)->RC ρ B s2.mem (.sl t (ov l lo hi) o) (.d (.sl ((bf t l).drop (lo.getD 0)|>.take (hi.getD (bf t l).length-lo.getD 0)))):=by intro o ho;rw[aY,<-he];rcases ho with rfl|rfl<;>exact .inl rfl
    have dat:eU sz (.d (.sl (bf t l))) (lo.getD 0) hi none=some (.d (.sl ((bf t l).drop (lo.getD 0)|>.take (hi.getD (bf t l).length-lo.getD 0)))):=by simp only[eU]<;>grind
    have own:∀o',o'≠.bA->∃a',eU sz (.own (bf t l) o') (lo.getD 0) hi none=some a'/\RC ρ B s2.mem (.sl t (ov l lo hi) .d) a':=by intro o' ho';cases o' with
     |bA=>grind|full=>
      simp only[eU];rw[if_pos c1];split;.rename_i e;refine⟨_,rfl,.inr ⟨.full,by simp,?_⟩⟩;rw[he,show hi.getD l.length=l.length from by rw[aY]at e;exact e];rw[List.take_of_length_le (by simp[aY])]
      grind|cB v z=>simp only[eU]<;>grind
    split at h
    .rcases hx with rfl|⟨o',rfl⟩;.grind
     .by_cases ho':o'=.bA;.subst ho';refine⟨_,_,by simp only[eU];rw[if_pos c1],?_,h⟩;refine .inr ⟨.bA,?_⟩;rw[he,aY]
      .obtain⟨a',g1,g2⟩:=own o' ho';refine⟨a',_,g1,?_,h⟩;rcases g2 with rfl|⟨o2,_,rfl⟩;.exact .inl rfl
       .exact .inr ⟨_,rfl⟩
    .split at h
     .cases hx;refine⟨.own ((bf t l).drop (lo.getD 0)) .full,_,?_,?_,h⟩;.simp only[eU]<;>grind
      .show _=_;rw[he];rw[List.take_of_length_le (by simp[aY])]
     .cases hx;obtain⟨a',g1,g2⟩:=own .full (by simp)<;>grind
    .rename_i alQ aqc;rcases(gI (m:=[]) hx).2.2 (λe=>alQ e)with rfl|⟨o',ho',rfl⟩;.grind
     .obtain⟨a',g1,g2⟩:=own o' ho'<;>grind
   .rename_i mm;split at h;.cases h
    .cases h
    .rename_i hi' hne;obtain⟨hp,h⟩:=cl h;rw[Bool.and_eq_true]at hp;obtain⟨hp,hmm⟩:=hp;have hmm:=Nat.eq_of_beq_eq_true hmm;have hp':=iP hp;have he:=xI (t:=t) hp;simp[Option.getD_some]at hp' he;have c1:lo.getD 0<=hi'/\hi'=mm/\hi'<=(bf t l).length/\(bf t l).all (λe=>e.length==sz)=true:=by rw[aY];exact⟨hp'.1,hmm,hp'.2,hall⟩
     refine⟨.own ((bf t l).drop (lo.getD 0)|>.take (hi'-lo.getD 0)) .full,_,?_,?_,h⟩
     .rcases(gI (m:=[]) hx).2.2 (λe=>hne e)with rfl|⟨o',ho',rfl⟩;.simp only[eU,Option.getD_some];rw[if_pos c1]
      .cases o' with|bA=>exact(ho' rfl).elim|_=>simp only[eU,Option.getD_some];rw[if_pos c1]
     .show _=_;rw[he]
  grind
 .rename_i f;split at h
  .obtain⟨hp,h⟩:=cl h;have hp':=iP hp;have h0:hi.getD 0=0:=by omega
   have l0:lo.getD 0=0:=by omega
   cases f with|true=>cases hx;refine⟨.own [] .full,.nil true,?_,rfl,h⟩;simp[eU,h0,l0]|false=>
    rcases hx with rfl|⟨o,ho,rfl⟩;.exact⟨.d (.sl []),.nil false,by simp[eU,h0,l0],.inl rfl,h⟩
    .cases o with|bA=>grind|full=>exact⟨.own [] .full,.nil false,by simp[eU,h0,l0],.inr ⟨.full,by simp,rfl⟩,h⟩|cB v z=>exact⟨.d (.sl []),.nil false,by simp[eU,h0,l0],.inl rfl,h⟩
  grind
 .rename_i lv sl ai t;cases hz:Nat.beq t.size sz with|false=>grind|true=>
  split at h;.have hz:=Nat.eq_of_beq_eq_true hz;obtain⟨r',hr,h⟩:=az h;obtain⟨hp,h⟩:=cl h;have hp':=iP hp;obtain⟨hv,u,n,hu,rfl,hn⟩:=hx;have hn:=hn r' hr;refine⟨_,.jz lv sl ai t (zY lo) (hi.getD r'.l.length-zY lo),?_,⟨hv,u,hu,rfl,λr2 hr2=>by rw[hr]at hr2;injection hr2 with hr2;subst hr2;have h1:=hp'.1;have h2:=hp'.2;simp only[zY]at h1 h2⊢;omega⟩,h⟩;simp only[eU,zY]<;>grind
  grind
 .rename_i lv sl ai t off len;cases hz:Nat.beq t.size sz with|false=>grind|true=>
  split at h;.have hz:=Nat.eq_of_beq_eq_true hz;obtain⟨hp,h⟩:=cl h;have hp':=iP hp;obtain⟨hv,u,hu,rfl,hlen⟩:=hx;refine⟨_,.jz lv sl ai t (off+zY lo) (hi.getD len-zY lo),?_,⟨hv,u,hu,rfl,λr2 hr2=>by have h0:=hlen r2 hr2;have h1:=hp'.1;have h2:=hp'.2;simp only[zY]at h1 h2⊢;omega⟩,h⟩;simp only[eU,zY]<;>grind
  grind
 grind
theorem I0{x:bZ}{lo hi:Option bZ}(h:cT E wk ctx s2 row dst nx (.qf x lo hi) K=some r):dI ρ B B' s2 s (.qf x lo hi) row dst p K r:=by
 simp[cT]at h;split at h;.rename_i b hx;obtain⟨l,el,il,h⟩:=pS cg h;obtain⟨h',eh,ih,h⟩:=pS cg h;obtain⟨hp,h⟩:=cl h;have hp':=iP hp;have e:x.ev s.slots=_:=aW cg hx;refine .str hm ht hB (λ_ _=>?_) h;simp[cq.run,e,el,eh,Gq];rw[if_pos hp',Lt,BJ hp];rfl
 grind
theorem Gr{x:bZ}{i:Nat}(h:cT E wk ctx s2 row dst nx (.extract x i) K=some r):dI ρ B B' s2 s (.extract x i) row dst p K r:=by
 simp[cT]at h;split at h
 .rename_i vs hx;split at h
  .rename_i a cs hi;obtain⟨v,hv,h⟩:=az h;obtain⟨aJ,e1,r1⟩:=aW cg hx;obtain⟨y,g1,g2⟩:=r1.get _ _ hi;have:RV ρ B s2.mem v y:=by cases a with|true=>obtain⟨as',rfl,g3⟩:=g2;cases hv;exact⟨as',rfl,g3⟩|false=>obtain⟨c,rfl,g3⟩:=g2;cases hv;exact g3
   exact .pure hm ht hB (λ_ _=>by simp only[cq.run,e1,g1,Option.bind_some]) this h
  grind
 grind
theorem Sv{x:bZ}(h:cT E wk ctx s2 row dst nx (.len x) K=some r):dI ρ B B' s2 s (.len x) row dst p K r:=by
 obtain⟨c,hx,h⟩:=cv h;have hx:=aW cg hx;split at h;.refine .int hm ht hB (λ_ _=>?_) h;rcases(gI (m:=s.mem) hx).2.1with e|⟨o',e⟩<;>(simp only[cq.run,e,aY];rfl)
 .refine .int hm ht hB (λ_ _=>?_) h;rcases(gq (m:=s.mem) hx).2with e|⟨o',_,e⟩<;>(simp only[cq.run,e,List.length_nil];rfl)
 .obtain⟨r',hr,h⟩:=az h;obtain⟨hv,u,n,hu,e,hn⟩:=hx;have hn:=hn r' hr;subst hn;exact .int hm ht hB (λ_ _=>by simp only[cq.run,e];rfl) h
 .obtain⟨hv,u,hu,e⟩:=hx;exact .int hm ht hB (λ_ _=>by simp only[cq.run,e];rfl) h
 grind
theorem Pq{x:bZ}(h:cT E wk ctx s2 row dst nx (.HR x) K=some r):dI ρ B B' s2 s (.HR x) row dst p K r:=by
 obtain⟨c,hx,h⟩:=cv h;have hx:=aW cg hx;split at h;.have e:x.ev s.slots=.own [] .full:=hx;exact .int hm ht hB (λ_ _=>by simp only[cq.run,e,List.length_nil];rfl) h
 .have e:x.ev s.slots=.own (bf _ _) .full:=hx;exact .int hm ht hB (λ_ _=>by simp only[cq.run,e,aY];rfl) h
 grind
theorem Pr{x:bZ}(h:cT E wk ctx s2 row dst nx (.Fy x) K=some r):dI ρ B B' s2 s (.Fy x) row dst p K r:=by
 simp[cT]at h;split at h;.rename_i b hx;have e:x.ev s.slots=_:=aW cg hx;exact .int hm ht hB (λ_ _=>by simp only[cq.run,e,Gq];rfl) h
 grind
omit cg in theorem Pt{n:Nat}(h:cT E wk ctx s2 row dst nx (.Db n) K=some r):dI ρ B B' s2 s (.Db n) row dst p K r:=by exact .int hm ht hB (λ_ _=>rfl) h
theorem I1{n sz:Nat}{x:bZ}(h:cT E wk ctx s2 row dst nx (.sliceB n sz x) K=some r):dI ρ B B' s2 s (.sliceB n sz x) row dst p K r:=by
 obtain⟨c,hc,h⟩:=cv h;have hc:=aW cg hc;split at h
 .rename_i lv sl ai i off _;split at h;.rename_i hi;obtain⟨hv,u,hu,e⟩:=hc;refine .pure (a:=.ff lv sl u off n sz) hm ht hB (λ_ _=>?_) (show RV ρ B s2.mem (.c (.ff lv sl ai off n sz)) (.ff lv sl u off n sz)from⟨hv,u,hu,rfl⟩) h;simp[cq.run,e,hi]
  grind
 grind
theorem Pu{x y:bZ}(h:cT E wk ctx s2 row dst nx (.Fz x y) K=some r):dI ρ B B' s2 s (.Fz x y) row dst p K r:=by
 simp[cT]at h;split at h
 .rename_i k a k' b hx hy;split at h;.subst_vars;have e1:=sC (aW cg hx);have e2:=sC (aW cg hy);exact .int hm ht hB (λ_ _=>by simp only[cq.run,e1,e2,if_true,lY]) h
  grind
 grind
theorem Pv{x y:bZ}(h:cT E wk ctx s2 row dst nx (.FA x y) K=some r):dI ρ B B' s2 s (.FA x y) row dst p K r:=by
 simp[cT]at h;split at h
 .rename_i k a k' b hx hy;split at h;.subst_vars;have e1:=sC (aW cg hx);have e2:=sC (aW cg hy);exact .int hm ht hB (λ_ _=>by simp only[cq.run,e1,e2,if_true,lY]) h
  grind
 grind
omit hm ht hB cg in theorem za{m:List (Tr E2)}:∀{vs:List V2}{aJ:List AV}{cs:List Cell},Bs vs=some cs->aC (RV ρ B m) vs aJ->aC (RC ρ B m) cs aJ/\aJ.all lP=true
 |[],[],cs,h,_=>by cases h;exact⟨trivial,rfl⟩|v::vs,a::aJ,cs,h,hv=>by cases v with|c x=>obtain⟨cs',h1,rfl⟩:=aN h;obtain⟨g1,g2⟩:=za h1 hv.2;exact⟨⟨hv.1,g1⟩,by simp[(RC.cell hv.1).2.1,g2]⟩|_=>cases h
 |[],_::_,_,_,h=>h.elim|_::_,[],_,_,h=>h.elim
theorem Dp{f:Nat}{cap:List bZ}(h:cT E wk ctx s2 row dst nx (.makeFunc f cap) K=some r):dI ρ B B' s2 s (.makeFunc f cap) row dst p K r:=by obtain⟨cs,hc,h⟩:=az h;obtain⟨vs,h1,h2⟩:=aQ hc;obtain⟨g1,g2⟩:=za h2 (oB cg h1);exact .pure hm ht hB (λ_ _=>by simp only[cq.run,g2,if_true]) (v:=.gm f cs) ⟨_,rfl,g1⟩ h
end
end Go.Sym
namespace Go.Sym
open Go Go.bI
section
variable{α:Type}{ρ:aZ}{B B':Nat}{s2:S2}{s:St}{op:cq}{row dst p nx:Nat}{K:gC->Option α}{r:α}{E:aq}{wk:Wk}{ctx:Nat}
theorem oC:∀(a b:List (Nat×Nat×Option E2))(m:List (Tr E2)),fo m (a++b)=fo (fo m a) b|[],_,_=>rfl|(lv,sl,e)::r,b,m=>by simp[List.cons_append,fo,oC r b]
theorem rq{m:List (Tr E2)}{lv sl cG dF ai:Nat}{r:SL}(h:rowOf (Bo m lv sl none) cG dF ai=some r):rowOf m cG dF ai=some r:=by have:=cC h;rw[jS]at this<;>simp_all[iD,Bo,rowOf]
theorem me:∀{ks:List (Nat×Nat)}{m:List (Tr E2)}{lv sl ai:Nat}{r:SL},rowOf (fo m (kj ks)) lv sl ai=some r->rowOf m lv sl ai=some r|[],_,_,_,_,_,h=>h|(a,b)::ks,m,_,_,_,_,h=>rq (me (ks:=ks) (m:=Bo m a b none) h)
theorem qz{m:List (Tr E2)}{ks:List (Nat×Nat)}:eE B m (fo m (kj ks)):=λ_ _ _ r _ h=>⟨r,me h,rfl⟩
def acw(B:Nat)(m:List (Tr E2))(lv sl:Nat):E2->Prop|.box _ _=>True|.row ai _ l=>B<=ai\/∃r,rowOf m lv sl ai=some r/\r.l.length=l.length|.set _ _=>True
theorem dW{m:List (Tr E2)}{ks:List (Nat×Nat)}{lv sl:Nat}{e:E2}(h:acw B m lv sl e):eE B m (fo m (kj ks++[(lv,sl,some e)])):=by
 intro cG dF ai r' hv hr;rw[oC]at hr;simp[fo]at hr;have:=cC hr;rw[jS]at this;split at this;.simp_all;rcases h with h|⟨r,h1,h2⟩<;>grind
 .exact⟨r',me (gw.2 this),rfl⟩
theorem iQ{mf:List (Tr E2)}:∀{m:List (Tr bC)}{ks:List (Nat×Nat)},aC (Pk ρ B mf) (kj ks) (dS m ks)|_,[]=>trivial|m,k::ks=>⟨⟨rfl,rfl,λ_ h=>by cases h⟩,iQ (m:=m) (ks:=ks)⟩
theorem dX{mf:List (Tr E2)}{lv sl:Nat}{e2:E2}{e:bC}(h:RE ρ B mf e2 e):aC (Pk ρ B mf) [(lv,sl,some e2)] [(lv,sl,some e)]:=⟨⟨rfl,rfl,λx hx=>by simp_all⟩,trivial⟩
theorem Es{mf:List (Tr E2)}:∀{Gp:List (Nat×Nat×Option E2)}{us:List (Nat×Nat×Option bC)},aC (Pk ρ B mf) Gp us->aR ρ (Gp.map λu=>bL u.1 u.2.1) (us.map λu=>bL u.1 u.2.1)|[],[],_=>aR.nil|(a,b,c)::r2,(a',b',c')::r,h=>by obtain⟨⟨h1,h2,_⟩,h4⟩:=h;subst h1 h2;exact aR.iN _ _ (Es h4)|[],_::_,h=>h.elim|_::_,[],h=>h.elim
theorem aR.BK{a b:List (Nat×Nat×Nat)}{v u:Nat}(hu:ρ v=some u)(h:aR ρ a b):aR ρ (jX v::a) (jX u::b):=by
 intro x hx;rcases List.mem_cons.1 hx with rfl|hx;.simp_all[aR,aZ,KR,jX]
 .obtain⟨y,h1,h2⟩:=h x hx<;>grind
theorem aR.skip{a b:List (Nat×Nat×Nat)}{k:Nat×Nat×Nat}(h:aR ρ a b):aR ρ (k::a) b:=λx hx=>by obtain⟨y,h1,h2⟩:=h x hx<;>grind
theorem nM.fN(hm:MR ρ B s2.mem s.mem)(ht:TR ρ B s2.aG s.aG)(hB:B<=B'){Gp:List (Nat×Nat×Option E2)}{us:List (Nat×Nat×Option bC)}{v:V2}{a:AV}{Sn rd:List (Nat×Nat×Nat)}(hst:eE B s2.mem (fo s2.mem Gp))(hu:aC (Pk ρ B' (fo s2.mem Gp)) Gp us)(hv:RV ρ B' (fo s2.mem Gp) v a)(hr:aR ρ Sn rd):nM ρ B B' s2 s {val:=v,cX:=Gp,cB:=[],rd:=Sn} {val:=a,cX:=us,cB:=[],rd:=rd}:=⟨hv,hm.cX hB hst hu,ht.up hB,hst,hr,by exact(Es hu).append aR.nil⟩
theorem mg{m:List (Tr E2)}:RV ρ B m (.iF []) jH:=⟨[],rfl,trivial⟩
variable(hm:MR ρ B s2.mem s.mem)(ht:TR ρ B s2.aG s.aG)(cg:uJ ρ B s2.mem s2.slots s.slots)(hB:B<=nx)(fI:ρ nx=some p)
include hm ht hB fI
theorem Et{cs:List Cell}{aJ:List AV}(hc:aC (RC ρ B s2.mem) cs aJ)(hrun:∀call sh,op.run call sh s row dst p=some (.bX {val:=.ptr (s.mem.length-1) dst p 0 0,cX:=[(s.mem.length-1,dst,some (.box p aJ))],cB:=[],rd:=[]}))(h:K (.bX {val:=.c (.ptr (s2.mem.length-1) dst nx 0 0),cX:=[(s2.mem.length-1,dst,some (.box nx cs))],cB:=[],rd:=[]})=some r):dI ρ B (nx+1) s2 s op row dst p K r:=by have hst:eE B s2.mem (fo s2.mem [(s2.mem.length-1,dst,some (.box nx cs))]):=dW (ks:=[]) (e:=.box nx cs) trivial;rw[hm.len]at h hst;refine⟨_,_,hrun,.fN hm ht (by omega) hst (dX ⟨by omega,p,aJ,fI,rfl,hc.mono λ_ _=>RC.move hst (by omega) λ_ _=>rfl⟩) (v:=.c (.ptr (s.mem.length-1) dst nx 0 0)) ⟨by omega,p,fI,rfl⟩ aR.nil,h⟩
theorem Lx{z:List AV}(h:cT E wk ctx s2 row dst nx (.alloc z) K=some r):dI ρ B (nx+1) s2 s (.alloc z) row dst p K r:=by obtain⟨cs,hc,h⟩:=az h;exact Et hm ht hB fI (vX hc) (λ_ _=>rfl) h
include cg in theorem Sw{x:bZ}(h:cT E wk ctx s2 row dst nx (.box x) K=some r):dI ρ B (nx+1) s2 s (.box x) row dst p K r:=by obtain⟨cs,hc,h⟩:=az h;obtain⟨v,hv,h1⟩:=aQ hc;obtain⟨aJ,g1,g2⟩:=vY h1 (aW cg hv);exact Et hm ht hB fI g2 (λ_ _=>by simp only[cq.run,g1,Option.map_some]) h
omit fI hB ht in theorem I2{sz:Nat}{pc:Cell}{a:AV}{K:List Cell->Option α}(h:NF s2.mem sz pc K=some r)(hp:RC ρ B s2.mem pc a):∃cs aJ,qY s.mem sz a=some aJ/\aC (RC ρ B s2.mem) cs aJ/\K cs=some r:=by
 unfold NF at h;split at h
 .rename_i lv sl ai i off;obtain⟨hv,u,hu,rfl⟩:=hp;split at h
  .rename_i v cs he;split at h;.rename_i hb;simp only[Bool.and_eq_true]at hb;obtain⟨⟨hv1,hi⟩,hl⟩:=hb;have hv1:=Nat.eq_of_beq_eq_true hv1;have hi:=Nat.eq_of_beq_eq_true hi;obtain⟨e,g1,_,u',aJ,g2,rfl,g3⟩:=hm.eV _ _ _ he;simp_all;refine⟨_,(aJ.drop off).take sz,?_,(g3.drop off).take sz,h⟩;simp only[qY,g1,sB];rw[if_pos (by rw[<-g3.length];exact hl)]
   grind
  .rename_i v t l he;split at h
   .rename_i hb;simp only[Bool.and_eq_true]at hb;obtain⟨hv1,hl⟩:=hb;have hv1:=Nat.eq_of_beq_eq_true hv1;obtain⟨x,hx,h⟩:=bind_some h;obtain⟨e,g1,_,u',g2,rfl⟩:=hm.eV _ _ _ he;simp_all;refine⟨_,(((eX t x).map .d).drop off).take sz,?_,((ld t x).drop off).take sz,h⟩;have:(bf t l)[i]?=some (eX t x):=by rw[BF,hx];rfl
    simp only[qY,g1,sB,this];rw[if_pos (by rw[ez];exact hl)]<;>simp_all
   grind
  .cases h
  grind
 .rename_i t x off;split at h;.rename_i hl;have hl:=Nat.le_of_ble_eq_true hl;have e:a=_:=hp;refine⟨_,(((eX t x).map .d).drop off).take sz,?_,((ld t x).drop off).take sz,h⟩;rw[e];simp only[qY];rw[if_pos (by rw[ez];exact hl)]<;>simp_all
  grind
 grind
omit fI in include cg in theorem Pw{sz:Nat}{agg:Bool}{x:bZ}(h:cT E wk ctx s2 row dst nx (.load sz agg x) K=some r):dI ρ B (nx+1) s2 s (.load sz agg x) row dst p K r:=by obtain⟨pc,hx,h⟩:=cv h;have hx:=aW cg hx;obtain⟨cs,aJ,g1,g2,h⟩:=I2 hm h hx;obtain⟨v,hv,h⟩:=az h;obtain⟨a,g3,g4⟩:=BE hv g2;exact⟨_,_,λ_ _=>by simp only[cq.run,g1,g3,Option.bind_some,Option.map_some],.xG hm ht (by omega) g4 (tK hx),h⟩
omit hm ht hB fI in theorem we{ks:List (Nat×Nat)}{lv sl:Nat}(h:Bt ks lv sl=false):¬(lv,sl)∈ks:=by
 intro hk;have:Bt ks lv sl=true:=by simp_all[Bt]
 grind
omit hm ht hB fI in theorem oW:∀(t:Ty)(x:t.den),ck (iK t x)=some (eX t x)|.val,v=>by cases v;simp[iK,ck,mO,eX,Li,qc.kind,qc.int,qc.text,qc.list,qc.cut,bf,pP]|.int _,_=>rfl|.bool,_=>rfl|.str,_=>rfl|.sl _,_=>rfl|.unit,_=>rfl|.prod a b,x=>lU (oW a x.1) (oW b x.2)|.sum _ _,_=>rfl
omit hm ht hB fI in theorem oX:∀{cs:List Cell}{ds:List D},ck cs=some ds->ds.length=cs.length|[],ds,h=>by cases h;rfl|c::r,ds,h=>by obtain⟨x,xs,h1,h2,rfl⟩:=gF h;simp[oX h2]
omit hm ht hB fI in theorem sE:∀{cs:List Cell}{ds:List D}(n:Nat),ck cs=some ds->ck (cs.take n)=some (ds.take n)|_,_,0,_=>by simp[ck]|[],ds,n+1,h=>by cases h;rfl|c::r,ds,n+1,h=>by obtain⟨x,xs,h1,h2,rfl⟩:=gF h;simp[List.take_succ_cons,ck,h1,sE n h2]
omit hm ht hB fI in theorem sF:∀{cs:List Cell}{ds:List D}(n:Nat),ck cs=some ds->ck (cs.drop n)=some (ds.drop n)|_,_,0,h=>by grind|[],ds,n+1,h=>by cases h;rfl|c::r,ds,n+1,h=>by obtain⟨x,xs,h1,h2,rfl⟩:=gF h;simpa using sF n h2
omit hm ht hB fI in theorem Dq{cs new:List Cell}{ds ds':List D}(h:ck cs=some ds)(h':ck new=some ds')(off:Nat):ck (bI.splice cs off new)=some (bI.splice ds off ds'):=by unfold bI.splice;rw[oX h'];exact lU (lU (sE off h) h') (sF _ h)
omit fI in theorem Px{sz:Nat}{pc:Cell}{new:List Cell}{a v:AV}{aJ:List AV}(h:Ll s2.mem sz pc new K=some r)(hp:RC ρ B s2.mem pc a)(hv:cellsOf v=some aJ)(hn:aC (RC ρ B s2.mem) new aJ):∃E e,qj s.mem sz a v=some e/\nM ρ B (nx+1) s2 s E e/\K (.bX E)=some r:=by
 unfold Ll at h;split at h
 .rename_i lv sl ai i off hz;have hz:=Nat.eq_of_beq_eq_true hz;rw[hn.length]at hz;obtain⟨De,u,hu,rfl⟩:=hp;split at h
  .rename_i vv cs he;split at h;.rename_i hb;simp only[Bool.and_eq_true]at hb;obtain⟨⟨hv1,hi⟩,hl⟩:=hb;have hv1:=Nat.eq_of_beq_eq_true hv1;have hi:=Nat.eq_of_beq_eq_true hi;have hl:=Nat.le_of_ble_eq_true hl;subst hv1 hi;obtain⟨e,g1,_,u',bs,g2,rfl,g3⟩:=hm.eV _ _ _ he;rw[hu]at g2;cases g2;have hst:eE B s2.mem (fo s2.mem [(lv,sl,some (.box vv (bI.splice cs off new)))]):=dW (ks:=[]) (e:=.box _ _) trivial;refine⟨_,_,?_,.fN hm ht (B':=nx+1) (by omega) hst (dX (e:=.box u (bI.splice bs off aJ)) ⟨by omega,u,_,hu,rfl,(xH g3 hn off).mono λ_ _=>RC.move hst (by omega) λ_ _=>rfl⟩) mg (aR.iN lv sl aR.nil),h⟩;simp only[qj,hv,g1,sB];rw[if_pos hz,if_pos (by rw[<-g3.length];exact hl)]
   grind
  .rename_i vv t l he;split at h
   .rename_i new' ks hb hf;simp only[Bool.and_eq_true]at hb;obtain⟨hv1,hl⟩:=hb;have hv1:=Nat.eq_of_beq_eq_true hv1;have hl:=Nat.le_of_ble_eq_true hl;subst hv1;split at h;.cases h
    .rename_i hk;obtain⟨x,hx,h⟩:=bind_some h;obtain⟨y,hy,h⟩:=az h;obtain⟨e,g1,_,u',g2,rfl⟩:=hm.eV _ _ _ he;rw[hu]at g2;cases g2;obtain⟨ds,g3,g4⟩:=Lr hm hf hn;have hy:=pQ hy (Dq (oW t x) g4 off);have hrow:rowOf s2.mem lv sl vv=some ⟨t,l⟩:=gw.2 he;have hst:eE B s2.mem (fo s2.mem (kj ks++[(lv,sl,some (.row vv t (l.set i y)))])):=dW (.inr ⟨_,hrow,by simp⟩);refine⟨_,_,?_,.fN hm ht (B':=nx+1) (by omega) hst ((iQ (m:=s.mem)).append (dX (e:=.row u (bf t (l.set i y))) ⟨by omega,u,hu,rfl⟩)) mg (aR.iN lv sl (aR.iG ks)),h⟩;have hg:(bf t l)[i]?=some (eX t x):=by rw[BF,hx];rfl
     simp only[qj,hv,g1,sB,hg,g3];rw[if_pos hz,if_pos ⟨by rw[ez];exact hl,we hk⟩,hy];simp[bf,List.map_set]
   grind
  .cases h
  grind
 grind
omit fI in include cg in theorem Lz{sz:Nat}{x v:bZ}(h:cT E wk ctx s2 row dst nx (.store sz x v) K=some r):dI ρ B (nx+1) s2 s (.store sz x v) row dst p K r:=by obtain⟨pc,hx,h⟩:=cv h;obtain⟨new,hn,h⟩:=az h;obtain⟨w,hw,h1⟩:=aQ hn;obtain⟨aJ,g1,g2⟩:=vY h1 (aW cg hw);obtain⟨E',e,h2,h3,h4⟩:=Px hm ht hB h (aW cg hx) g1 g2;exact⟨E',e,λ_ _=>by simp only[cq.run,h2,Option.map_some],h3,h4⟩
end
end Go.Sym
