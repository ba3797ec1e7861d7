/- A part of the proof: SymE, SymF. -/
import Derived.Test.YtgkllgjmfpjeoaaGreatDoorSymD
set_option linter.unusedVariables false
set_option linter.unusedSimpArgs false
namespace Go.Sym
open Go Go.bJ
section
variable{α:Type}{ρ:bt}{B B':Nat}{s2:S2}{s:St}{op:cj}{row dst p nx:Nat}{K:gF->Option α}{r:α}{E:ak}{wk:Wk}{ctx:Nat}
theorem Ob(x y:List UInt8):(⟨x.toArray⟩:ByteArray)++⟨y.toArray⟩=⟨(x++y).toArray⟩:=by apply ByteArray.ext;simp
theorem FH(x:List UInt8):(⟨x.toArray⟩:ByteArray).size=x.length:=by simp[ByteArray.size]
theorem Kt(x:List UInt8)(a b:Nat):(⟨x.toArray⟩:ByteArray).extract a b=⟨((x.drop a).take (b-a)).toArray⟩:=by apply ByteArray.ext;simp_all
theorem VS{x y:List UInt8}{Q8:BinOp}{K:Cell->Option α}(h:Z5 Q8 x y K=some r):∃v c,JP Q8 ⟨x.toArray⟩ ⟨y.toArray⟩=some v/\K c=some r/\∀(m:List (Tr E2)),RC ρ B m c (.d (.sc v)):=by
 unfold Z5 at h;split at h
 .obtain⟨h1,h⟩:=cg h;refine⟨_,_,?_,h,λ_=>rfl⟩;have:¬((x.length+y.length:Nat):Int)>IntKind.i64.max:=by simpa using h1
  simp only[JP,FH,Ob];rw[if_neg this]
 all_goals first|(refine⟨_,_,?_,h,λ_=>rfl⟩;simp[JP,ByteArray.toList_eq];done)|cases h
theorem VT{x y:Cell}{a b:AV}{Q8:BinOp}{m:List (Tr E2)}{K:Cell->Option α}(h:Z6 Q8 x y K=some r)(hx:RC ρ B m x a)(hy:RC ρ B m y b):∃v c,Qf Q8 a b=some v/\K c=some r/\RC ρ B m c (.d (.sc v)):=by
 unfold Z6 at h;split at h;.cases hx;cases hy;obtain⟨v,c,h1,h2,h3⟩:=VQ (ρ:=ρ) (B:=B) h;exact⟨v,c,h1,h2,h3 m⟩
 .cases hx;cases hy;obtain⟨v,c,h1,h2,h3⟩:=VS (ρ:=ρ) (B:=B) h;exact⟨v,c,h1,h2,h3 m⟩
 grind
theorem Q9{kd:Nat}{x y:Cell}{a b:AV}{m:List (Tr E2)}{t:Bool}(h:QU kd x y=some t)(hx:RC ρ B m x a)(hy:RC ρ B m y b):GQ kd a b=some t:=by
 unfold QU at h;split at h;.split at h<;>simp_all[RC,bt,GQ]
 .split at h;.split at h<;>simp_all[RC,bt,GQ]
  grind
 .split at h;.cases h
  .cases h
  .rename_i x y n _ _;cases hx;cases hy;have:((⟨x.toArray⟩:ByteArray)==⟨y.toArray⟩)=(x==y):=by rw[Bool.eq_iff_iff];show(x.toArray==y.toArray)=true↔_;simp
   unfold GQ<;>grind
 grind
theorem DT{xs ys:List Cell}{aL bs:List AV}{m:List (Tr E2)}(hx:aC (RC ρ B m) xs aL)(hy:aC (RC ρ B m) ys bs):∀{l:List (Nat×Nat)}{t:Bool},FA xs ys l=some t->lS aL bs l=some t
 |[],t,h=>h|o::l,t,h=>by
  simp[FA]at h;split at h;.rename_i x y b' h1 h2 h3;obtain⟨b,h4,rfl⟩:=aN h;obtain⟨a,g1,g2⟩:=hx.get _ _ h1;obtain⟨a',g3,g4⟩:=hy.get _ _ h2;simp[lS,g1,g3,Q9 h4 g2 g4];cases b with|true=>simpa using DT hx hy h3|false=>rfl
  grind
theorem aae{x:Cell}{a:AV}{m:List (Tr E2)}{uop:UnOp}{K:Cell->Option α}(h:unK uop x K=some r)(hx:RC ρ B m x a):∃v c,unA uop a=some v/\K c=some r/\RC ρ B m c (.d (.sc v)):=by
 unfold unK at h;split at h
 .split at h;.cases hx;exact⟨_,_,rfl,h,rfl⟩
  grind
 .split at h;.cases hx;exact⟨_,_,rfl,h,rfl⟩
  .cases hx;exact⟨_,_,by simp[unA,C8],h,rfl⟩
  grind
 grind
section
variable(hm:MR ρ B s2.mem s.mem)(ht:TR ρ B s2.aI s.aI)(hB:B<=B')
include hm ht hB
theorem dI.int{k:IntKind}{n:Int}(hrun:∀call sh,op.run call sh s row dst p=fH.pure (.d (.sc (.int k n))))(hK:K (dN (.int k n))=some r):dI ρ B B' s2 s op row dst p K r:=.pure hm ht hB hrun (v:=.c (.int k n)) rfl hK
theorem dI.str{x:List UInt8}(hrun:∀call sh,op.run call sh s row dst p=fH.pure (.d (.sc (.string ⟨x.toArray⟩))))(hK:K (dN (.str x))=some r):dI ρ B B' s2 s op row dst p K r:=.pure hm ht hB hrun (v:=.c (.str x)) rfl hK
theorem dI.fK{t:Ty}{x:t.den}{off:Nat}(hrun:∀call sh,op.run call sh s row dst p=fH.pure (.fK (eY t x) off))(hK:K (dN (.fK t x off))=some r):dI ρ B B' s2 s op row dst p K r:=.pure hm ht hB hrun (v:=.c (.fK t x off)) rfl hK
theorem dI.ptr{lv sl ah u i off:Nat}(hv:ah<B)(hu:ρ ah=some u)(hrun:∀call sh,op.run call sh s row dst p=fH.pure (.ptr lv sl u i off))(hK:K (dN (.ptr lv sl ah i off))=some r):dI ρ B B' s2 s op row dst p K r:=.pure hm ht hB hrun (v:=.c (.ptr lv sl ah i off)) ⟨hv,u,hu,rfl⟩ hK
end
variable(hm:MR ρ B s2.mem s.mem)(ht:TR ρ B s2.aI s.aI)(bX:ur ρ B s2.mem s2.slots s.slots)(hB:B<=B')
include hm ht hB bX
theorem Ra{Q8:BinOp}{x y:bT}(h:cQ E wk ctx s2 row dst nx (.bin Q8 x y) K=some r):dI ρ B B' s2 s (.bin Q8 x y) row dst p K r:=by obtain⟨a,ha,h⟩:=cu h;obtain⟨b,hb,h⟩:=cu h;obtain⟨v,c,h1,h2,h3⟩:=VT h (aW bX ha) (aW bX hb);exact .pure hm ht hB (λ_ _=>by simp only[cj.run,h1,Option.bind_some,lT]) (v:=.c c) h3 h2
theorem Rb{neg:Bool}{x y:bT}(h:cQ E wk ctx s2 row dst nx (.U4 neg x y) K=some r):dI ρ B B' s2 s (.U4 neg x y) row dst p K r:=by obtain⟨a,ha,h⟩:=qi h;obtain⟨b,hb,h⟩:=qi h;have h1:=qj (aW bX ha);have h2:=qj (aW bX hb);refine .pure hm ht hB (a:=.d (.sc (.bool (if neg then !(a==b)else a==b)))) (λ_ _=>by simp only[cj.run,h1,h2,lT]) (v:=.c _) ?_ h;cases neg<;>rfl
theorem Ku{neg:Bool}{x:bT}(h:cQ E wk ctx s2 row dst nx (.xY neg x) K=some r):dI ρ B B' s2 s (.xY neg x) row dst p K r:=by
 simp[cQ]at h;split at h;.rename_i b hx;have h1:x.ev s.slots=_:=aW bX hx;cases neg with|true=>refine .pure hm ht hB (a:=.d (.sc (.bool b))) (λ_ _=>by cases b<;>(simp only[cj.run,h1,lT]<;>try rfl)) (v:=.c _) ?_ h;rfl|false=>refine .pure hm ht hB (a:=.d (.sc (.bool !b))) (λ_ _=>by cases b<;>(simp only[cj.run,h1,lT]<;>try rfl)) (v:=.c _) ?_ h;rfl
 grind
theorem HU{lo n sz:Nat}{x:bT}(h:cQ E wk ctx s2 row dst nx (.q8 lo n sz x) K=some r):dI ρ B B' s2 s (.q8 lo n sz x) row dst p K r:=by
 simp[cQ]at h;split at h
 .rename_i lv sl ah i off hx;split at h;.rename_i hc;obtain⟨hv,u,hu,h1⟩:=aW bX hx;exact .pure hm ht hB (a:=.fe lv sl u (off+lo*sz) (n-lo) sz) (λ_ _=>by simp only[cj.run,h1,hc]) (v:=.c (.fe lv sl ah (off+lo*sz) (n-lo) sz)) ⟨hv,u,hu,rfl⟩ h
  grind
 grind
theorem Rc{neg:Bool}{sz:Nat}{l:List (Nat×Nat)}{x y:bT}(h:cQ E wk ctx s2 row dst nx (.U5 neg sz l x y) K=some r):dI ρ B B' s2 s (.U5 neg sz l x y) row dst p K r:=by
 simp[cQ]at h;split at h
 .rename_i xs ys hx hy;split at h
  .rename_i b h1 h2;obtain⟨aL,e1,r1⟩:=aW bX hx;obtain⟨bs,e2,r2⟩:=aW bX hy;have l1:aL.length=sz:=by rw[<-r1.length]<;>simp_all
   have l2:bs.length=sz:=by rw[<-r2.length]<;>simp_all
   refine .pure hm ht hB (a:=.d (.sc (.bool (if neg then !b else b)))) (λ_ _=>by simp only[cj.run,e1,e2];rw[if_neg (by simp[l1,l2]),DT r1 r2 h2];rfl) (v:=.c _) ?_ h;cases neg<;>rfl
  grind
 grind
theorem VU{uop:UnOp}{x:bT}(h:cQ E wk ctx s2 row dst nx (.un uop x) K=some r):dI ρ B B' s2 s (.un uop x) row dst p K r:=by obtain⟨a,ha,h⟩:=cu h;obtain⟨v,c,h1,h2,h3⟩:=aae h (aW bX ha);exact .pure hm ht hB (λ_ _=>by simp only[cj.run,h1,Option.bind_some,lT]) (v:=.c c) h3 h2
theorem Oc{k:IntKind}{x:bT}(h:cQ E wk ctx s2 row dst nx (.conv k x) K=some r):dI ρ B B' s2 s (.conv k x) row dst p K r:=by obtain⟨kd,n,ha,h⟩:=tg h;have e:=rS (aW bX ha);exact .int hm ht hB (λ_ _=>by simp only[cj.run,e,ri,Option.bind_some,lT]) h
theorem Kv{off sz:Nat}{agg:Bool}{x:bT}(h:cQ E wk ctx s2 row dst nx (.field off sz agg x) K=some r):dI ρ B B' s2 s (.field off sz agg x) row dst p K r:=by
 simp[cQ]at h;split at h
 .rename_i cs hx;split at h;.rename_i v h1 h2;have h1:=Nat.le_of_ble_eq_true h1;obtain⟨aL,e1,r1⟩:=aW bX hx;obtain⟨a,g1,g2⟩:=A5 h2 ((r1.drop off).take sz);refine .pure hm ht hB (λ_ _=>?_) g2 h;simp[cj.run,e1];rw[if_pos (by rw[<-r1.length];exact h1),g1];rfl
  grind
 grind
theorem A8{off:Nat}{x:bT}(h:cQ E wk ctx s2 row dst nx (.fieldAddr off x) K=some r):dI ρ B B' s2 s (.fieldAddr off x) row dst p K r:=by
 simp[cQ]at h;split at h;.rename_i hx;obtain⟨hv,u,hu,e⟩:=aW bX hx;exact .ptr hm ht hB hv hu (λ_ _=>by simp only[cj.run,e]) h
 .rename_i hx;have e:x.ev s.slots=_:=aW bX hx;exact .fK hm ht hB (λ_ _=>by simp only[cj.run,e]) h
 grind
omit hm ht hB bX in theorem tj:∀{n k:Nat}{F:Nat->Option α},N3 n k F=some r->k<n/\F k=some r|0,_,_,h=>by cases h|n+1,k,F,h=>by unfold N3 at h;cases hb:Nat.beq k n with|true=>simp_all|false=>rw[hb]at h;obtain⟨h1,h2⟩:=tj h<;>grind
theorem CR{n sz:Nat}{x i:bT}(h:cQ E wk ctx s2 row dst nx (.jY n sz x i) K=some r):dI ρ B B' s2 s (.jY n sz x i) row dst p K r:=by
 simp[cQ]at h;obtain⟨kd,k,hi,h0,h⟩:=kY h;have hk:=iL (aW bX hi) h0;split at h;.rename_i hx;obtain⟨hlt,h⟩:=tj h;obtain⟨hv,u,hu,e⟩:=aW bX hx;exact .ptr hm ht hB hv hu (λ_ _=>by simp only[cj.run,hk,Option.bind_some,e,if_pos hlt]) h
 .rename_i hx;obtain⟨hlt,h⟩:=tj h;have e:x.ev s.slots=_:=aW bX hx;exact .fK hm ht hB (λ_ _=>by simp only[cj.run,hk,Option.bind_some,e,if_pos hlt]) h
 grind
theorem HV{n sz:Nat}{agg:Bool}{x i:bT}(h:cQ E wk ctx s2 row dst nx (.pY n sz agg x i) K=some r):dI ρ B B' s2 s (.pY n sz agg x i) row dst p K r:=by
 simp[cQ]at h;obtain⟨kd,k,hi,h0,h⟩:=kY h;have hk:=iL (aW bX hi) h0;split at h
 .rename_i cs hx;obtain⟨hlt,h⟩:=tj h;split at h;.rename_i v h1 h2;have h1:=Nat.le_of_ble_eq_true h1;obtain⟨aL,e1,r1⟩:=aW bX hx;obtain⟨a,g1,g2⟩:=A5 h2 ((r1.drop (k.toNat*sz)).take sz);refine .pure hm ht hB (λ_ _=>?_) g2 h;simp[cj.run,hk,Option.bind_some,e1];rw[if_pos ⟨hlt,by rw[<-r1.length];exact h1⟩,g1]<;>grind
  grind
 grind
omit hm ht hB bX in theorem rT{β:Type}{l:List β}{i:Int}{x:β}(h:idx l i=some x):0<=i/\l[i.toNat]?=some x:=by grind[idx]
omit hm ht hB bX in theorem HW{i:Int}{n:Nat}(h:fP i n=true):0<=i/\i.toNat<n:=by simpa[fP]using h
theorem A9{sz:Nat}{x i:bT}(h:cQ E wk ctx s2 row dst nx (.indexAddr sz x i) K=some r):dI ρ B B' s2 s (.indexAddr sz x i) row dst p K r:=by
 obtain⟨kd,n,hi,h⟩:=tg h;have hi:=aW bX hi;split at h
 .rename_i t l o hx;split at h
  .rename_i hz;have hz:=Nat.eq_of_beq_eq_true hz;obtain⟨e,he,h⟩:=bind_some h;obtain⟨h0,he⟩:=rT he;have hn:=iL hi h0;have hg:(bf t l)[n.toNat]?=some (eY t e):=by rw[A6,he];rfl
   have hx:=(iA (m:=s.mem) (aW bX hx)).2.1;refine .fK hm ht hB (t:=t) (x:=e) (off:=0) (λ_ _=>?_) h;rcases hx with e1|⟨o',e1⟩;.simp[cj.run,hn,Option.bind_some,e1,hg,eu,hz,if_true]
   .simp[cj.run,hn,Option.bind_some,e1,hg,eu,hz,if_true]
  grind
 .rename_i lv sl ah t hx;split at h;.rename_i hz;have hz:=Nat.eq_of_beq_eq_true hz;obtain⟨r',hr,h⟩:=aA h;obtain⟨h1,h⟩:=cg h;obtain⟨h0,h1⟩:=HW h1;have hn:=iL hi h0;obtain⟨hv,u,k,hu,e1,hk⟩:=aW bX hx;refine .ptr hm ht hB hv hu (λ_ _=>?_) h;simp only[cj.run,hn,Option.bind_some,e1]<;>grind
  grind
 .rename_i lv sl ah t off len hx;split at h;.rename_i hz;have hz:=Nat.eq_of_beq_eq_true hz;obtain⟨h1,h⟩:=cg h;obtain⟨h0,h1⟩:=HW h1;have hn:=iL hi h0;obtain⟨hv,u,hu,e1⟩:=aW bX hx;refine .ptr hm ht hB hv hu (λ_ _=>?_) h;simp only[cj.run,hn,Option.bind_some,e1]<;>grind
  grind
 grind
theorem HX{x i:bT}(h:cQ E wk ctx s2 row dst nx (.pZ x i) K=some r):dI ρ B B' s2 s (.pZ x i) row dst p K r:=by
 obtain⟨kd,n,hi,h⟩:=tg h;have hi:=aW bX hi;split at h;.rename_i b hx;obtain⟨c,hc,h⟩:=bind_some h;obtain⟨h0,hc⟩:=rT hc;have hn:=iL hi h0;have e:x.ev s.slots=_:=aW bX hx;refine .int hm ht hB (λ_ _=>?_) h;simp[cj.run,hn,Option.bind_some,e,hc,lT]
 grind
omit hm ht hB in theorem pJ{β:Type}{x:Option bT}{K:Option Nat->Option β}{r:β}(h:uk x s2 K=some r):∃n,(∀d,fq x s.slots d=some (n.getD d))/\(n.isSome=x.isSome)/\K n=some r:=by unfold uk at h;cases x with|none=>exact⟨none,λ_=>rfl,rfl,h⟩|some o=>obtain⟨kd,n,hv,h0,h⟩:=kY h;exact⟨some n.toNat,λ_=>by simp[fq,iL (aW bX hv) h0],rfl,h⟩
omit hm ht hB bX in theorem iM{n:Nat}{lo hi:Option Nat}(h:mE n lo hi=true):lo.getD 0<=hi.getD n/\hi.getD n<=n:=by unfold mE at h<;>grind
omit hm ht hB bX in theorem Ba{β:Type}{l:List β}{lo hi:Option Nat}(h:mE l.length lo hi=true):n9 l lo hi=(l.drop (lo.getD 0)).take (hi.getD l.length-lo.getD 0):=by unfold n9;cases lo<;>cases hi<;>simp_all;.rw[List.take_of_length_le (by simp)]
omit hm ht hB bX in theorem xh{t:Ty}{l:List t.den}{lo hi:Option Nat}(h:mE l.length lo hi=true):bf t (n9 l lo hi)=((bf t l).drop (lo.getD 0)).take (hi.getD (bf t l).length-lo.getD 0):=by rw[Ba h]<;>simp_all[mE,Ty.den,n9,bf]
omit hm ht hB bX in theorem Od{sz:Nat}{x:Cell}{a:AV}{lo hi mx:Option Nat}{K:Cell->Option α}(h:Km s2.mem sz x lo hi mx K=some r)(hx:RC ρ B s2.mem x a)(l h' k:Nat)(hl:l=lo.getD 0)(hh:∀n,hi=some n->h'=n)(hk:∀n,mx=some n->k=n):∃a' c,eW sz a l (hi.map λ_=>h') (mx.map λ_=>k)=some a'/\RC ρ B s2.mem c a'/\K c=some r:=by
 have ehi:hi.map (λ_=>h')=hi:=by cases hi with|none=>rfl|some n=>grind
 have emx:mx.map (λ_=>k)=mx:=by cases mx with|none=>rfl|some n=>grind
 rw[ehi,emx];subst hl;unfold Km at h;split at h
 .rename_i t l o;split at h
  .rename_i hz;have hz:=Nat.eq_of_beq_eq_true hz;have hall:(bf t l).all (λe=>e.length==sz)=true:=by rw[<-hz];exact gw t l
   split at h
   .obtain⟨hp,h⟩:=cg h;have hp':=iM hp;have he:=xh (t:=t) hp;rw[aY]at he;have c1:lo.getD 0<=hi.getD (bf t l).length/\hi.getD (bf t l).length<=(bf t l).length/\(bf t l).all (λe=>e.length==sz)=true:=by rw[aY]<;>grind
    have amL:∀{o:Ow},(o=.bC\/o=.d)->RC ρ B s2.mem (.sl t (n9 l lo hi) o) (.d (.sl ((bf t l).drop (lo.getD 0)|>.take (hi.getD (bf t l).length-lo.getD 0)))):=by intro o ho;rw[aY,<-he];rcases ho with rfl|rfl<;>exact .inl rfl
    have dat:eW sz (.d (.sl (bf t l))) (lo.getD 0) hi none=some (.d (.sl ((bf t l).drop (lo.getD 0)|>.take (hi.getD (bf t l).length-lo.getD 0)))):=by simp only[eW]<;>grind
    have own:∀o',o'≠.bC->∃a',eW sz (.own (bf t l) o') (lo.getD 0) hi none=some a'/\RC ρ B s2.mem (.sl t (n9 l lo hi) .d) a':=by intro o' ho';cases o' with
     |bC=>grind|full=>
      simp only[eW];rw[if_pos c1];split;.rename_i e;refine⟨_,rfl,.inr ⟨.full,by simp,?_⟩⟩;rw[he,show hi.getD l.length=l.length from by rw[aY]at e;exact e];rw[List.take_of_length_le (by simp[aY])]
      grind|cD v z=>simp only[eW]<;>grind
    split at h
    .rcases hx with rfl|⟨o',rfl⟩;.grind
     .by_cases ho':o'=.bC;.subst ho';refine⟨_,_,by simp only[eW];rw[if_pos c1],?_,h⟩;refine .inr ⟨.bC,?_⟩;rw[he,aY]
      .obtain⟨a',g1,g2⟩:=own o' ho';refine⟨a',_,g1,?_,h⟩;rcases g2 with rfl|⟨o2,_,rfl⟩;.exact .inl rfl
       .exact .inr ⟨_,rfl⟩
    .split at h
     .cases hx;refine⟨.own ((bf t l).drop (lo.getD 0)) .full,_,?_,?_,h⟩;.simp only[eW]<;>grind
      .show _=_;rw[he];rw[List.take_of_length_le (by simp[aY])]
     .cases hx;obtain⟨a',g1,g2⟩:=own .full (by simp)<;>grind
    .rename_i ai7 apM;rcases(iA (m:=[]) hx).2.2 (λe=>ai7 e)with rfl|⟨o',ho',rfl⟩;.grind
     .obtain⟨a',g1,g2⟩:=own o' ho'<;>grind
   .rename_i mm;split at h;.cases h
    .cases h
    .rename_i hi' hne;obtain⟨hp,h⟩:=cg h;rw[Bool.and_eq_true]at hp;obtain⟨hp,ZS⟩:=hp;have ZS:=Nat.eq_of_beq_eq_true ZS;have hp':=iM hp;have he:=xh (t:=t) hp;simp[Option.getD_some]at hp' he;have c1:lo.getD 0<=hi'/\hi'=mm/\hi'<=(bf t l).length/\(bf t l).all (λe=>e.length==sz)=true:=by rw[aY];exact⟨hp'.1,ZS,hp'.2,hall⟩
     refine⟨.own ((bf t l).drop (lo.getD 0)|>.take (hi'-lo.getD 0)) .full,_,?_,?_,h⟩
     .rcases(iA (m:=[]) hx).2.2 (λe=>hne e)with rfl|⟨o',ho',rfl⟩;.simp only[eW,Option.getD_some];rw[if_pos c1]
      .cases o' with|bC=>exact(ho' rfl).elim|_=>simp only[eW,Option.getD_some];rw[if_pos c1]
     .show _=_;rw[he]
  grind
 .rename_i f;split at h
  .obtain⟨hp,h⟩:=cg h;have hp':=iM hp;have h0:hi.getD 0=0:=by omega
   have l0:lo.getD 0=0:=by omega
   cases f with|true=>cases hx;refine⟨.own [] .full,.nil true,?_,rfl,h⟩;simp[eW,h0,l0]|false=>
    rcases hx with rfl|⟨o,ho,rfl⟩;.exact⟨.d (.sl []),.nil false,by simp[eW,h0,l0],.inl rfl,h⟩
    .cases o with|bC=>grind|full=>exact⟨.own [] .full,.nil false,by simp[eW,h0,l0],.inr ⟨.full,by simp,rfl⟩,h⟩|cD v z=>exact⟨.d (.sl []),.nil false,by simp[eW,h0,l0],.inl rfl,h⟩
  grind
 .rename_i lv sl ah t;cases hz:Nat.beq t.size sz with|false=>grind|true=>
  split at h;.have hz:=Nat.eq_of_beq_eq_true hz;obtain⟨r',hr,h⟩:=aA h;obtain⟨hp,h⟩:=cg h;have hp':=iM hp;obtain⟨hv,u,n,hu,rfl,hn⟩:=hx;have hn:=hn r' hr;refine⟨_,.jx lv sl ah t (zy lo) (hi.getD r'.l.length-zy lo),?_,⟨hv,u,hu,rfl,λr2 hr2=>by rw[hr]at hr2;injection hr2 with hr2;subst hr2;have h1:=hp'.1;have h2:=hp'.2;simp only[zy]at h1 h2⊢;omega⟩,h⟩;simp only[eW,zy]<;>grind
  grind
 .rename_i lv sl ah t off len;cases hz:Nat.beq t.size sz with|false=>grind|true=>
  split at h;.have hz:=Nat.eq_of_beq_eq_true hz;obtain⟨hp,h⟩:=cg h;have hp':=iM hp;obtain⟨hv,u,hu,rfl,hlen⟩:=hx;refine⟨_,.jx lv sl ah t (off+zy lo) (hi.getD len-zy lo),?_,⟨hv,u,hu,rfl,λr2 hr2=>by have h0:=hlen r2 hr2;have h1:=hp'.1;have h2:=hp'.2;simp only[zy]at h1 h2⊢;omega⟩,h⟩;simp only[eW,zy]<;>grind
  grind
 grind
theorem HY{x:bT}{lo hi:Option bT}(h:cQ E wk ctx s2 row dst nx (.p4 x lo hi) K=some r):dI ρ B B' s2 s (.p4 x lo hi) row dst p K r:=by
 simp[cQ]at h;split at h;.rename_i b hx;obtain⟨l,el,il,h⟩:=pJ bX h;obtain⟨h',eh,ih,h⟩:=pJ bX h;obtain⟨hp,h⟩:=cg h;have hp':=iM hp;have e:x.ev s.slots=_:=aW bX hx;refine .str hm ht hB (λ_ _=>?_) h;simp[cj.run,e,el,eh,FH];rw[if_pos hp',Kt,Ba hp];rfl
 grind
theorem FI{x:bT}{i:Nat}(h:cQ E wk ctx s2 row dst nx (.extract x i) K=some r):dI ρ B B' s2 s (.extract x i) row dst p K r:=by
 simp[cQ]at h;split at h
 .rename_i vs hx;split at h
  .rename_i a cs hi;obtain⟨v,hv,h⟩:=aA h;obtain⟨aL,e1,r1⟩:=aW bX hx;obtain⟨y,g1,g2⟩:=r1.get _ _ hi;have:RV ρ B s2.mem v y:=by cases a with|true=>obtain⟨as',rfl,g3⟩:=g2;cases hv;exact⟨as',rfl,g3⟩|false=>obtain⟨c,rfl,g3⟩:=g2;cases hv;exact g3
   exact .pure hm ht hB (λ_ _=>by simp only[cj.run,e1,g1,Option.bind_some]) this h
  grind
 grind
theorem Re{x:bT}(h:cQ E wk ctx s2 row dst nx (.len x) K=some r):dI ρ B B' s2 s (.len x) row dst p K r:=by
 obtain⟨c,hx,h⟩:=cu h;have hx:=aW bX hx;split at h;.refine .int hm ht hB (λ_ _=>?_) h;rcases(iA (m:=s.mem) hx).2.1with e|⟨o',e⟩<;>(simp only[cj.run,e,aY];rfl)
 .refine .int hm ht hB (λ_ _=>?_) h;rcases(gH (m:=s.mem) hx).2with e|⟨o',_,e⟩<;>(simp only[cj.run,e,List.length_nil];rfl)
 .obtain⟨r',hr,h⟩:=aA h;obtain⟨hv,u,n,hu,e,hn⟩:=hx;have hn:=hn r' hr;subst hn;exact .int hm ht hB (λ_ _=>by simp only[cj.run,e];rfl) h
 .obtain⟨hv,u,hu,e⟩:=hx;exact .int hm ht hB (λ_ _=>by simp only[cj.run,e];rfl) h
 grind
theorem Oe{x:bT}(h:cQ E wk ctx s2 row dst nx (.GN x) K=some r):dI ρ B B' s2 s (.GN x) row dst p K r:=by
 obtain⟨c,hx,h⟩:=cu h;have hx:=aW bX hx;split at h;.have e:x.ev s.slots=.own [] .full:=hx;exact .int hm ht hB (λ_ _=>by simp only[cj.run,e,List.length_nil];rfl) h
 .have e:x.ev s.slots=.own (bf _ _) .full:=hx;exact .int hm ht hB (λ_ _=>by simp only[cj.run,e,aY];rfl) h
 grind
theorem Of{x:bT}(h:cQ E wk ctx s2 row dst nx (.EU x) K=some r):dI ρ B B' s2 s (.EU x) row dst p K r:=by
 simp[cQ]at h;split at h;.rename_i b hx;have e:x.ev s.slots=_:=aW bX hx;exact .int hm ht hB (λ_ _=>by simp only[cj.run,e,FH];rfl) h
 grind
omit bX in theorem Og{n:Nat}(h:cQ E wk ctx s2 row dst nx (.CH n) K=some r):dI ρ B B' s2 s (.CH n) row dst p K r:=by exact .int hm ht hB (λ_ _=>rfl) h
theorem HZ{n sz:Nat}{x:bT}(h:cQ E wk ctx s2 row dst nx (.sliceB n sz x) K=some r):dI ρ B B' s2 s (.sliceB n sz x) row dst p K r:=by
 obtain⟨c,hc,h⟩:=cu h;have hc:=aW bX hc;split at h
 .rename_i lv sl ah i off _;split at h;.rename_i hi;obtain⟨hv,u,hu,e⟩:=hc;refine .pure (a:=.fe lv sl u off n sz) hm ht hB (λ_ _=>?_) (show RV ρ B s2.mem (.c (.fe lv sl ah off n sz)) (.fe lv sl u off n sz)from⟨hv,u,hu,rfl⟩) h;simp[cj.run,e,hi]
  grind
 grind
theorem Oh{x y:bT}(h:cQ E wk ctx s2 row dst nx (.EV x y) K=some r):dI ρ B B' s2 s (.EV x y) row dst p K r:=by
 simp[cQ]at h;split at h
 .rename_i k a k' b hx hy;split at h;.subst_vars;have e1:=rS (aW bX hx);have e2:=rS (aW bX hy);exact .int hm ht hB (λ_ _=>by simp only[cj.run,e1,e2,if_true,lT]) h
  grind
 grind
theorem Oi{x y:bT}(h:cQ E wk ctx s2 row dst nx (.EW x y) K=some r):dI ρ B B' s2 s (.EW x y) row dst p K r:=by
 simp[cQ]at h;split at h
 .rename_i k a k' b hx hy;split at h;.subst_vars;have e1:=rS (aW bX hx);have e2:=rS (aW bX hy);exact .int hm ht hB (λ_ _=>by simp only[cj.run,e1,e2,if_true,lT]) h
  grind
 grind
omit hm ht hB bX in theorem yG{m:List (Tr E2)}:∀{vs:List V2}{aL:List AV}{cs:List Cell},AQ vs=some cs->aC (RV ρ B m) vs aL->aC (RC ρ B m) cs aL/\aL.all lI=true
 |[],[],cs,h,_=>by cases h;exact⟨trivial,rfl⟩|v::vs,a::aL,cs,h,hv=>by cases v with|c x=>obtain⟨cs',h1,rfl⟩:=aN h;obtain⟨g1,g2⟩:=yG h1 hv.2;exact⟨⟨hv.1,g1⟩,by simp[(RC.cell hv.1).2.1,g2]⟩|_=>cases h
 |[],_::_,_,_,h=>h.elim|_::_,[],_,_,h=>h.elim
theorem CS{f:Nat}{cap:List bT}(h:cQ E wk ctx s2 row dst nx (.makeFunc f cap) K=some r):dI ρ B B' s2 s (.makeFunc f cap) row dst p K r:=by obtain⟨cs,hc,h⟩:=aA h;obtain⟨vs,h1,h2⟩:=aR hc;obtain⟨g1,g2⟩:=yG h2 (od bX h1);exact .pure hm ht hB (λ_ _=>by simp only[cj.run,g2,if_true]) (v:=.gp f cs) ⟨_,rfl,g1⟩ h
end
end Go.Sym
namespace Go.Sym
open Go Go.bJ
section
variable{α:Type}{ρ:bt}{B B':Nat}{s2:S2}{s:St}{op:cj}{row dst p nx:Nat}{K:gF->Option α}{r:α}{E:ak}{wk:Wk}{ctx:Nat}
theorem oe:∀(a b:List (Nat×Nat×Option E2))(m:List (Tr E2)),fU m (a++b)=fU (fU m a) b|[],_,_=>rfl|(lv,sl,e)::r,b,m=>by simp[List.cons_append,fU,oe r b]
theorem qR{m:List (Tr E2)}{lv sl cL dU ah:Nat}{r:SL}(h:rowOf (AM m lv sl none) cL dU ah=some r):rowOf m cL dU ah=some r:=by have:=cA h;rw[jU]at this<;>simp_all[ji,AM,rowOf]
theorem l7:∀{ks:List (Nat×Nat)}{m:List (Tr E2)}{lv sl ah:Nat}{r:SL},rowOf (fU m (kf ks)) lv sl ah=some r->rowOf m lv sl ah=some r|[],_,_,_,_,_,h=>h|(a,b)::ks,m,_,_,_,_,h=>qR (l7 (ks:=ks) (m:=AM m a b none) h)
theorem qk{m:List (Tr E2)}{ks:List (Nat×Nat)}:eZ B m (fU m (kf ks)):=λ_ _ _ r _ h=>⟨r,l7 h,rfl⟩
def aaf(B:Nat)(m:List (Tr E2))(lv sl:Nat):E2->Prop|.box _ _=>True|.row ah _ l=>B<=ah\/∃r,rowOf m lv sl ah=some r/\r.l.length=l.length|.set _ _=>True
theorem eM{m:List (Tr E2)}{ks:List (Nat×Nat)}{lv sl:Nat}{e:E2}(h:aaf B m lv sl e):eZ B m (fU m (kf ks++[(lv,sl,some e)])):=by
 intro cL dU ah r' hv hr;rw[oe]at hr;simp[fU]at hr;have:=cA hr;rw[jU]at this;split at this;.simp_all;rcases h with h|⟨r,h1,h2⟩<;>grind
 .exact⟨r',l7 (gv.2 this),rfl⟩
theorem iN{mf:List (Tr E2)}:∀{m:List (Tr bB)}{ks:List (Nat×Nat)},aC (N9 ρ B mf) (kf ks) (dV m ks)|_,[]=>trivial|m,k::ks=>⟨⟨rfl,rfl,λ_ h=>by cases h⟩,iN (m:=m) (ks:=ks)⟩
theorem eN{mf:List (Tr E2)}{lv sl:Nat}{e2:E2}{e:bB}(h:RE ρ B mf e2 e):aC (N9 ρ B mf) [(lv,sl,some e2)] [(lv,sl,some e)]:=⟨⟨rfl,rfl,λx hx=>by simp_all⟩,trivial⟩
theorem DU{mf:List (Tr E2)}:∀{FG:List (Nat×Nat×Option E2)}{us:List (Nat×Nat×Option bB)},aC (N9 ρ B mf) FG us->aS ρ (FG.map λu=>cq u.1 u.2.1) (us.map λu=>cq u.1 u.2.1)|[],[],_=>aS.nil|(a,b,c)::r2,(a',b',c')::r,h=>by obtain⟨⟨h1,h2,_⟩,h4⟩:=h;subst h1 h2;exact aS.js _ _ (DU h4)|[],_::_,h=>h.elim|_::_,[],h=>h.elim
theorem aS.Bb{a b:List (Nat×Nat×Nat)}{v u:Nat}(hu:ρ v=some u)(h:aS ρ a b):aS ρ (jW v::a) (jW u::b):=by
 intro x hx;rcases List.mem_cons.1 hx with rfl|hx;.simp_all[aS,bt,KR,jW]
 .obtain⟨y,h1,h2⟩:=h x hx<;>grind
theorem aS.skip{a b:List (Nat×Nat×Nat)}{k:Nat×Nat×Nat}(h:aS ρ a b):aS ρ (k::a) b:=λx hx=>by obtain⟨y,h1,h2⟩:=h x hx<;>grind
theorem nG.gm(hm:MR ρ B s2.mem s.mem)(ht:TR ρ B s2.aI s.aI)(hB:B<=B'){FG:List (Nat×Nat×Option E2)}{us:List (Nat×Nat×Option bB)}{v:V2}{a:AV}{Q7 rd:List (Nat×Nat×Nat)}(hst:eZ B s2.mem (fU s2.mem FG))(hu:aC (N9 ρ B' (fU s2.mem FG)) FG us)(hv:RV ρ B' (fU s2.mem FG) v a)(hr:aS ρ Q7 rd):nG ρ B B' s2 s {val:=v,cV:=FG,cD:=[],rd:=Q7} {val:=a,cV:=us,cD:=[],rd:=rd}:=⟨hv,hm.cV hB hst hu,ht.up hB,hst,hr,by exact(DU hu).append aS.nil⟩
theorem l8{m:List (Tr E2)}:RV ρ B m (.iY []) jF:=⟨[],rfl,trivial⟩
variable(hm:MR ρ B s2.mem s.mem)(ht:TR ρ B s2.aI s.aI)(bX:ur ρ B s2.mem s2.slots s.slots)(hB:B<=nx)(fk:ρ nx=some p)
include hm ht hB fk
theorem DV{cs:List Cell}{aL:List AV}(hc:aC (RC ρ B s2.mem) cs aL)(hrun:∀call sh,op.run call sh s row dst p=some (.bW {val:=.ptr (s.mem.length-1) dst p 0 0,cV:=[(s.mem.length-1,dst,some (.box p aL))],cD:=[],rd:=[]}))(h:K (.bW {val:=.c (.ptr (s2.mem.length-1) dst nx 0 0),cV:=[(s2.mem.length-1,dst,some (.box nx cs))],cD:=[],rd:=[]})=some r):dI ρ B (nx+1) s2 s op row dst p K r:=by have hst:eZ B s2.mem (fU s2.mem [(s2.mem.length-1,dst,some (.box nx cs))]):=eM (ks:=[]) (e:=.box nx cs) trivial;rw[hm.len]at h hst;refine⟨_,_,hrun,.gm hm ht (by omega) hst (eN ⟨by omega,p,aL,fk,rfl,hc.mono λ_ _=>RC.move hst (by omega) λ_ _=>rfl⟩) (v:=.c (.ptr (s.mem.length-1) dst nx 0 0)) ⟨by omega,p,fk,rfl⟩ aS.nil,h⟩
theorem Kw{z:List AV}(h:cQ E wk ctx s2 row dst nx (.alloc z) K=some r):dI ρ B (nx+1) s2 s (.alloc z) row dst p K r:=by obtain⟨cs,hc,h⟩:=aA h;exact DV hm ht hB fk (vG hc) (λ_ _=>rfl) h
include bX in theorem Rf{x:bT}(h:cQ E wk ctx s2 row dst nx (.box x) K=some r):dI ρ B (nx+1) s2 s (.box x) row dst p K r:=by obtain⟨cs,hc,h⟩:=aA h;obtain⟨v,hv,h1⟩:=aR hc;obtain⟨aL,g1,g2⟩:=vH h1 (aW bX hv);exact DV hm ht hB fk g2 (λ_ _=>by simp only[cj.run,g1,Option.map_some]) h
omit fk hB ht in theorem H6{sz:Nat}{pc:Cell}{a:AV}{K:List Cell->Option α}(h:Mu s2.mem sz pc K=some r)(hp:RC ρ B s2.mem pc a):∃cs aL,qN s.mem sz a=some aL/\aC (RC ρ B s2.mem) cs aL/\K cs=some r:=by
 unfold Mu at h;split at h
 .rename_i lv sl ah i off;obtain⟨hv,u,hu,rfl⟩:=hp;split at h
  .rename_i v cs he;split at h;.rename_i hb;simp only[Bool.and_eq_true]at hb;obtain⟨⟨hv1,hi⟩,hl⟩:=hb;have hv1:=Nat.eq_of_beq_eq_true hv1;have hi:=Nat.eq_of_beq_eq_true hi;obtain⟨e,g1,_,u',aL,g2,rfl,g3⟩:=hm.fN _ _ _ he;simp_all;refine⟨_,(aL.drop off).take sz,?_,(g3.drop off).take sz,h⟩;simp only[qN,g1,rR];rw[if_pos (by rw[<-g3.length];exact hl)]
   grind
  .rename_i v t l he;split at h
   .rename_i hb;simp only[Bool.and_eq_true]at hb;obtain⟨hv1,hl⟩:=hb;have hv1:=Nat.eq_of_beq_eq_true hv1;obtain⟨x,hx,h⟩:=bind_some h;obtain⟨e,g1,_,u',g2,rfl⟩:=hm.fN _ _ _ he;simp_all;refine⟨_,(((eY t x).map .d).drop off).take sz,?_,((kX t x).drop off).take sz,h⟩;have:(bf t l)[i]?=some (eY t x):=by rw[A6,hx];rfl
    simp only[qN,g1,rR,this];rw[if_pos (by rw[eu];exact hl)]<;>simp_all
   grind
  .cases h
  grind
 .rename_i t x off;split at h;.rename_i hl;have hl:=Nat.le_of_ble_eq_true hl;have e:a=_:=hp;refine⟨_,(((eY t x).map .d).drop off).take sz,?_,((kX t x).drop off).take sz,h⟩;rw[e];simp only[qN];rw[if_pos (by rw[eu];exact hl)]<;>simp_all
  grind
 grind
omit fk in include bX in theorem Oj{sz:Nat}{agg:Bool}{x:bT}(h:cQ E wk ctx s2 row dst nx (.load sz agg x) K=some r):dI ρ B (nx+1) s2 s (.load sz agg x) row dst p K r:=by obtain⟨pc,hx,h⟩:=cu h;have hx:=aW bX hx;obtain⟨cs,aL,g1,g2,h⟩:=H6 hm h hx;obtain⟨v,hv,h⟩:=aA h;obtain⟨a,g3,g4⟩:=A5 hv g2;exact⟨_,_,λ_ _=>by simp only[cj.run,g1,g3,Option.bind_some,Option.map_some],.xe hm ht (by omega) g4 (th hx),h⟩
omit hm ht hB fk in theorem vJ{ks:List (Nat×Nat)}{lv sl:Nat}(h:AR ks lv sl=false):¬(lv,sl)∈ks:=by
 intro hk;have:AR ks lv sl=true:=by simp_all[AR]
 grind
omit hm ht hB fk in theorem oP:∀(t:Ty)(x:t.den),cc (iI t x)=some (eY t x)|.val,v=>by cases v;simp[iI,cc,nF,eY,Kj,pX.kind,pX.int,pX.text,pX.list,pX.cut,bf,pG]|.int _,_=>rfl|.bool,_=>rfl|.str,_=>rfl|.sl _,_=>rfl|.unit,_=>rfl|.prod a b,x=>lP (oP a x.1) (oP b x.2)|.sum _ _,_=>rfl
omit hm ht hB fk in theorem oQ:∀{cs:List Cell}{ds:List D},cc cs=some ds->ds.length=cs.length|[],ds,h=>by cases h;rfl|c::r,ds,h=>by obtain⟨x,xs,h1,h2,rfl⟩:=gA h;simp[oQ h2]
omit hm ht hB fk in theorem rU:∀{cs:List Cell}{ds:List D}(n:Nat),cc cs=some ds->cc (cs.take n)=some (ds.take n)|_,_,0,_=>by simp[cc]|[],ds,n+1,h=>by cases h;rfl|c::r,ds,n+1,h=>by obtain⟨x,xs,h1,h2,rfl⟩:=gA h;simp[List.take_succ_cons,cc,h1,rU n h2]
omit hm ht hB fk in theorem rV:∀{cs:List Cell}{ds:List D}(n:Nat),cc cs=some ds->cc (cs.drop n)=some (ds.drop n)|_,_,0,h=>by grind|[],ds,n+1,h=>by cases h;rfl|c::r,ds,n+1,h=>by obtain⟨x,xs,h1,h2,rfl⟩:=gA h;simpa using rV n h2
omit hm ht hB fk in theorem CT{cs new:List Cell}{ds ds':List D}(h:cc cs=some ds)(h':cc new=some ds')(off:Nat):cc (bJ.splice cs off new)=some (bJ.splice ds off ds'):=by unfold bJ.splice;rw[oQ h'];exact lP (lP (rU off h) h') (rV _ h)
omit fk in theorem Ol{sz:Nat}{pc:Cell}{new:List Cell}{a v:AV}{aL:List AV}(h:Kl s2.mem sz pc new K=some r)(hp:RC ρ B s2.mem pc a)(hv:cellsOf v=some aL)(hn:aC (RC ρ B s2.mem) new aL):∃E e,p8 s.mem sz a v=some e/\nG ρ B (nx+1) s2 s E e/\K (.bW E)=some r:=by
 unfold Kl at h;split at h
 .rename_i lv sl ah i off hz;have hz:=Nat.eq_of_beq_eq_true hz;rw[hn.length]at hz;obtain⟨CK,u,hu,rfl⟩:=hp;split at h
  .rename_i vv cs he;split at h;.rename_i hb;simp only[Bool.and_eq_true]at hb;obtain⟨⟨hv1,hi⟩,hl⟩:=hb;have hv1:=Nat.eq_of_beq_eq_true hv1;have hi:=Nat.eq_of_beq_eq_true hi;have hl:=Nat.le_of_ble_eq_true hl;subst hv1 hi;obtain⟨e,g1,_,u',bs,g2,rfl,g3⟩:=hm.fN _ _ _ he;rw[hu]at g2;cases g2;have hst:eZ B s2.mem (fU s2.mem [(lv,sl,some (.box vv (bJ.splice cs off new)))]):=eM (ks:=[]) (e:=.box _ _) trivial;refine⟨_,_,?_,.gm hm ht (B':=nx+1) (by omega) hst (eN (e:=.box u (bJ.splice bs off aL)) ⟨by omega,u,_,hu,rfl,(xg g3 hn off).mono λ_ _=>RC.move hst (by omega) λ_ _=>rfl⟩) l8 (aS.js lv sl aS.nil),h⟩;simp only[p8,hv,g1,rR];rw[if_pos hz,if_pos (by rw[<-g3.length];exact hl)]
   grind
  .rename_i vv t l he;split at h
   .rename_i new' ks hb hf;simp only[Bool.and_eq_true]at hb;obtain⟨hv1,hl⟩:=hb;have hv1:=Nat.eq_of_beq_eq_true hv1;have hl:=Nat.le_of_ble_eq_true hl;subst hv1;split at h;.cases h
    .rename_i hk;obtain⟨x,hx,h⟩:=bind_some h;obtain⟨y,hy,h⟩:=aA h;obtain⟨e,g1,_,u',g2,rfl⟩:=hm.fN _ _ _ he;rw[hu]at g2;cases g2;obtain⟨ds,g3,g4⟩:=Kr hm hf hn;have hy:=pH hy (CT (oP t x) g4 off);have hrow:rowOf s2.mem lv sl vv=some ⟨t,l⟩:=gv.2 he;have hst:eZ B s2.mem (fU s2.mem (kf ks++[(lv,sl,some (.row vv t (l.set i y)))])):=eM (.inr ⟨_,hrow,by simp⟩);refine⟨_,_,?_,.gm hm ht (B':=nx+1) (by omega) hst ((iN (m:=s.mem)).append (eN (e:=.row u (bf t (l.set i y))) ⟨by omega,u,hu,rfl⟩)) l8 (aS.js lv sl (aS.iE ks)),h⟩;have hg:(bf t l)[i]?=some (eY t x):=by rw[A6,hx];rfl
     simp only[p8,hv,g1,rR,hg,g3];rw[if_pos hz,if_pos ⟨by rw[eu];exact hl,vJ hk⟩,hy];simp[bf,List.map_set]
   grind
  .cases h
  grind
 grind
omit fk in include bX in theorem Kx{sz:Nat}{x v:bT}(h:cQ E wk ctx s2 row dst nx (.store sz x v) K=some r):dI ρ B (nx+1) s2 s (.store sz x v) row dst p K r:=by obtain⟨pc,hx,h⟩:=cu h;obtain⟨new,hn,h⟩:=aA h;obtain⟨w,hw,h1⟩:=aR hn;obtain⟨aL,g1,g2⟩:=vH h1 (aW bX hw);obtain⟨E',e,h2,h3,h4⟩:=Ol hm ht hB h (aW bX hx) g1 g2;exact⟨E',e,λ_ _=>by simp only[cj.run,h2,Option.map_some],h3,h4⟩
end
end Go.Sym
