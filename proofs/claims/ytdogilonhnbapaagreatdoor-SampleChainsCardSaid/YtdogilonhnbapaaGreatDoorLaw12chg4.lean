/- The checker: the scratch behind an instruction. -/
import Derived.Test.YtdogilonhnbapaaGreatDoorLaw12chg3
set_option linter.unusedVariables false
set_option linter.unusedSimpArgs false
namespace Go.Proofs.YtdogilonhnbapaaGreatDoor
open Go Go.bI Go.Sym
open Classical
noncomputable def EP(x:List Ex):Prop:=∀i:Int,0<=i->i<x.length->1<=(iY x i).1
theorem Kh{C:Int}(hC:1000<=C){x:List Ex}(hx:EX C x)(hp:EP x):∀(fs:List Field)(s a:Int),0<=s->AL a->(∀f,f∈fs->0<=f.2/\f.2<x.length)->(1<=s\/fs≠[])->1<=(jl C x s a fs).2.1
 |[],s,a,_,_,_,h=>by
  rcases h with h|h;.exact h
  grind|f::r,s,a,h0,ha,hf,_=>by obtain⟨b1,b2⟩:=hf f List.mem_cons_self;have h1:=hp f.2 b1 b2;obtain⟨e1,e2,e3⟩:=hx.get (by omega) f.2;have hu:=uk e1 h0;exact Kh hC hx hp r _ _ (by omega) (ha.max e1) (λg hg=>hf g (List.mem_cons_of_mem _ hg)) (.inl (by omega))
theorem QO{C:Int}(hC:1000<=C)(h8:C%8=0){out:List Ex}(ho:EX C out)(hp:EP out){n i:Nat}{t:aB}(hi:i=out.length)(ht:cK n i t):1<=(oK C out t).1:=by
 unfold oK;unfold cK at ht;split;.omega
 .split;.omega
  .split;.omega
   .split;.rename_i h1 h3 h7 h6;rw[if_neg (by omega),if_neg (by omega),if_pos h6]at ht;obtain⟨⟨a1,a2⟩,⟨b1,b2⟩,_⟩:=ht;have:=hp t.2.1 a1 (by omega);have:1<=t.2.2.1*(iY out t.2.1).1:=Int.le_trans (by omega) (Int.mul_le_mul b1 this (by omega) (by omega):(1:Int)*1<=_)<;>grind
    .split;.rename_i h1 h3 h7 h6 h5;rw[if_neg (by omega),if_neg (by omega),if_neg h6,if_pos h5]at ht;obtain⟨_,_,⟨b1,b2⟩,_,hf⟩:=ht;obtain⟨c1,c2,_⟩:=qJ (C:=C) (by omega) ho t.2.2.2 0 1 (by omega) (by omega) (.inl rfl);have h:=Kh hC ho hp t.2.2.2 0 1 (by omega) (.inl rfl) (λf hm=>by have:=hf f hm;omega) (.inr (λe=>by rw[e]at b1;simp at b1));have hu:=uk c2 c1.1<;>grind
     omega
theorem CS{C:Int}(hC:1000<=C)(h8:C%8=0){l:List aB}(ht:x4 l):∀i,i<=l.length->EP (cA C l i)
 |0,_=>λj h0 h1=>by simp[cA]at h1;omega|i+1,hi=>λj h0 h1=>by
  rw[cA,CC,ga];rw[ga]at h1;split;.exact CS hC h8 ht i (by omega) j h0 (by rw[ga];omega)
  .rw[if_pos (by omega)];exact QO hC h8 (qK hC h8 ht i (by omega)) (CS hC h8 ht i (by omega)) (n:=l.length) (i:=i) (by rw[ga]) (ht i (by omega))
section
variable{ts:List aB}{xs:List (List UInt8)}{fs:List Func}
theorem fF.size(h:fF ts xs fs){t:Int}(ht:0<=t/\t<ts.length):iY (exs ts) t=iY (cA 1000000 ts ts.length) t/\1<=(iY (exs ts) t).1/\(iY (exs ts) t).1<=256:=by
 obtain⟨n,rfl⟩:=Int.eq_ofNat_of_zero_le ht.1;have hT:=h.DC.1;have h1:=h.DC.2.2.2.1 n (by omega);refine⟨?_,CS (by omega) (by omega) hT.2.1 ts.length (Nat.le_refl _) n (by omega) (by rw[ga];omega),h1⟩;rcases wN hT.2.1 ts.length (Nat.le_refl _) (n:Int)with⟨hr|hr,hq⟩;.exact Prod.ext hr hq
 .have:(iY (exs ts) (n:Int)).1=(iY (cA 1048576 ts ts.length) (n:Int)).1:=rfl;omega
theorem fF.wide(h:fF ts xs fs){t:Int}(ht:0<=t/\t<ts.length):8<=wide ts t/\Go.Proofs.YtdogilonhnbapaaGreatDoor.wide ts t<=263:=by obtain⟨_,h1,h2⟩:=h.size ht;have:=up8 h1;unfold Go.Proofs.YtdogilonhnbapaaGreatDoor.wide;omega
theorem Ke.n7(h:fF ts xs fs):∀{s:List Int},Ke ts s->8*(s.length:Int)<=n7 ts s/\Go.Proofs.YtdogilonhnbapaaGreatDoor.n7 ts s<=263*(s.length:Int)|[],_=>by simp[Go.Proofs.YtdogilonhnbapaaGreatDoor.n7]|t::s,hs=>by have h1:=h.wide (hs t List.mem_cons_self);have h2:=Ke.n7 h (s:=s) λx hx=>hs x (List.mem_cons_of_mem _ hx);simp[Go.Proofs.YtdogilonhnbapaaGreatDoor.n7,List.length_cons];omega
theorem Ke.take{s:List Int}(h:Ke ts s)(n:Nat):Ke ts (s.take n):=λt ht=>h t (List.mem_of_mem_take ht)
theorem afx{N:Nat}{n:Int}(h:0<=n/\n<=4000000):P9 N n=some (up 8 n,0):=by have e:=u0 (a:=8) (s:=n) (.inr rfl) h;rw[bp (n:=n+8) (by omega),show n+8-1=n+7by omega,bp (n:=(8:Int)-1) (by decide)]at e;rw[P9.eq_1,bE (show¬n<0 by omega)]<;>grind
theorem Vi{N:Nat}{n:Int}(h:0<=n/\n<=4000000):Ql N n=some (up 8 n):=by rw[Ql.eq_1,Hi (.inr rfl) h];rfl
theorem Ki{s:List Int}{i:Nat}{t:Int}(h:s[i]?=some t):n7 ts (s.take (i+1))=n7 ts (s.take i)+wide ts t:=by rw[take_succ h,Oq];simp[n7]
theorem Hy{N:Nat}(hN:1300<N)(hv:fF ts xs fs)(f:Func){s:List Int}(hs:Ke ts s)(hl:s.length<=1000):L7 N (ts,xs,fs,f.1,f.2.1,f.2.2.1,f.2.2.2.1,f.2.2.2.2.1,f.2.2.2.2.2.1,f.2.2.2.2.2.2,s)=some (n7 ts s,0):=by obtain⟨z,hz,he⟩:=dY (l:=s) (g:=λv:Int=>(.inr v:(Int×Int)⊕Int)) (Inv:=λi v=>v=n7 ts (s.take i)) (Lf:=λk i v=>f116.bg N k (v,s,(s.length:Int),i,ts,xs,fs,f.1,f.2.1,f.2.2.1,f.2.2.2.1,f.2.2.2.2.1,f.2.2.2.2.2.1,f.2.2.2.2.2.2)) (λk v _=>by simp only[f116.bg.eq_2,aL,ak]) (λk i t v ht hI=>by
 have hi:=aA ht;have hm:=hs t (aS ht);obtain⟨_,z1,z2⟩:=hv.size hm;obtain⟨w1,w2⟩:=hv.wide hm;obtain⟨y1,y2⟩:=(hs.take i).n7 hv;have OR:(s.take i).length<=1000:=by rw[List.length_take];omega
 refine⟨v+wide ts t,by rw[hI,Ki ht],?_⟩;simp only[f116.bg.eq_2,aI hi,au,aD ht,Option.bind_some,Oh hN hv.fit.1.1 hv.DC.1 hm,if_pos z2,JR,ak,afx (N:=N) (n:=(iY (exs ts) t).1) (by omega),aj (show i<9223372036854775807by omega)];rw[show up 8 (iY (exs ts) t).1=wide ts t from rfl,bp (by omega)]) (k:=N) (s:=0) (by simp[n7]) (by omega);rw[L7.eq_1,he,hz,List.take_length];rfl
theorem MT{N:Nat}(hN:1300<N)(hv:fF ts xs fs){s:List Int}(hs:Ke ts s)(hl:s.length<=1000):F77 N (ts,xs,fs,s)=some (n7 ts s):=by obtain⟨z,hz,he⟩:=dY (l:=s) (g:=λv:Int=>v) (Inv:=λi v=>v=n7 ts (s.take i)) (Lf:=λk i v=>f77.dB N k (s,(cA 1000000 ts ts.length).map (·.1),v,i)) (λk v _=>by simp only[f77.dB.eq_2,aL,ak]) (λk i t v ht hI=>by
 have hi:=aA ht;have hm:=hs t (aS ht);obtain⟨z0,z1,z2⟩:=hv.size hm;obtain⟨w1,w2⟩:=hv.wide hm;obtain⟨y1,y2⟩:=(hs.take i).n7 hv;have OR:(s.take i).length<=1000:=by rw[List.length_take];omega
 have hx:idx ((cA 1000000 ts ts.length).map (·.1)) t=some (iY (exs ts) t).1:=by rw[z0];exact wM (g:=λe:Ex=>e.1) (tQ (by rw[ga];exact hm))
 refine⟨v+wide ts t,by rw[hI,Ki ht],?_⟩;simp only[f77.dB.eq_2,aI hi,au,aD ht,Option.bind_some,hx,Vi (N:=N) (n:=(iY (exs ts) t).1) (by omega),aj (show i<9223372036854775807by omega)];rw[show up 8 (iY (exs ts) t).1=wide ts t from rfl,bp (by omega)]) (k:=N) (s:=0) (by simp[n7]) (by omega);rw[F77.eq_1,J0 (by omega) hv.fit.1.1.1 hv.DC.1.2.1,Option.bind_some,he,hz,List.take_length];rfl
theorem CT{N:Nat}{l m:List Int}(hl:l.length<N)(hb:l.length<9223372036854775807):Mq N (l,m)=some (decide (l=m)):=by
 rw[Mq.eq_1,tw];by_cases h:l.length=m.length;.have key:=oH (l:=l) (m:=m) (a:=(.inr ():Bool⊕Unit)) (b:=.inl false) (Lf:=λk i=>f138.aU N k (l,m,i)) h (λk=>by simp only[f138.aU.eq_2,aL,ak]) (λk i x y _ _ h1 h2=>by
  simp only[f138.aU.eq_2,aI (aA h1),au,aD h1,aD h2,Option.bind_some,aj (show i<9223372036854775807by have:=aA h1;omega)];by_cases hxy:x=y;.subst hxy;simp
  .rw[if_neg hxy,show(x !=y)=true by simp[bne,hxy]];rfl) N hl;grind
 .rw[decide_eq_false h,decide_eq_false (λe=>h (by rw[e]))];rfl
theorem QS{N:Nat}{l m:List Int}(hl:l.length<N)(hb:l.length<9223372036854775807):Qb N (l,m)=some (decide (l=m)):=by
 rw[Qb.eq_1,tw];by_cases h:l.length=m.length;.have key:=oH (l:=l) (m:=m) (a:=(.inr ():Bool⊕Unit)) (b:=.inl false) (Lf:=λk i=>f115.aU N k (l,m,(l.length:Int),i)) h (λk=>by simp only[f115.aU.eq_2,aL,ak]) (λk i x y _ _ h1 h2=>by
  simp only[f115.aU.eq_2,aI (aA h1),au,aD h1,aD h2,Option.bind_some,aj (show i<9223372036854775807by have:=aA h1;omega)];by_cases hxy:x=y;.subst hxy;simp
  .rw[if_neg hxy,show(x !=y)=true by simp[bne,hxy]];rfl) N hl;grind
 .rw[decide_eq_false h,decide_eq_false (λe=>h (by rw[e]))];rfl
theorem CU(hv:fF ts xs fs){x:Instr}(hn:called x<fs.length)(h0:0<=called x):∃g,idx fs (called x)=some g/\takes (eo fs) x=(g.2.2.2.1.take g.2.1.toNat).map (·.2)/\eB ts.length g/\((takes (eo fs) x).length:Int)=g.2.1/\(takes (eo fs) x).length<=16:=by
 obtain⟨g,g1,g2,g3⟩:=CP (fs:=fs) ⟨h0,hn⟩;have hg:=hv.get g2;have ht:takes (eo fs) x=(g.2.2.2.1.take g.2.1.toNat).map (·.2):=by unfold takes;rw[if_pos h0,g3];rfl
 have hp:=hg.2.2.2.1;have Qz:=hg.2.1<;>grind
theorem qR{x:Instr}(h:¬0<=called x):takes (eo fs) x=[]:=by unfold takes<;>grind
theorem Vj{x:Instr}(h:x.1=24):called x=-1:=by unfold called<;>grind
theorem MU{a b:Nat}(ha:a<=10000000)(hb:b<=10000000):av ((a:Int)-(b:Int))=(a:Int)-(b:Int):=bp (by omega)
theorem afy(hv:fF ts xs fs){sl:List Field}(hr:nY sl ts.length){x:Instr}(hc:dL x=true)(hn:jV xs.length (eo fs) sl x){s s':List Int}(hs:Ke ts s)(h:Hu ts (eo fs) sl x s=some s'):Ke ts s'/\s'.length<=512:=by
 obtain⟨t,h1,h2⟩:=Option.bind_eq_some_iff.1 h;split at h2;case isFalse=>cases h2
 cases Option.some.inj h2;have ho:Ke ts s':=by
  unfold rest at h1;split at h1
  .rename_i C8;cases Option.some.inj h1;intro y hy;rcases List.mem_append.1 hy with hy|hy;.exact hs y hy
   .rw[List.mem_singleton.1 hy];obtain⟨s1,_,_⟩:=iz hc (p:=114) (q:=45) (r:=45) (by rw[C8];rfl);obtain⟨b0,b1⟩:=s1 (.inr rfl);exact oZ hr ⟨b0,hn.1 _ b1⟩
  .split at h1;.cases Option.some.inj h1;exact hs.take _
   grind
 have:=(ho.n7 hv).1<;>grind
theorem ajL{N:Nat}(hN:1300<N)(hv:fF ts xs fs){f:Func}(hr:nY f.2.2.2.1 ts.length){x:Instr}(hc:dL x=true)(hn:jV xs.length (eo fs) f.2.2.2.1 x){s:List Int}(hs:Ke ts s)(hl:s.length<=600):∃r b,Dt N (ts,xs,fs,f.1,f.2.1,f.2.2.1,f.2.2.2.1,f.2.2.2.2.1,f.2.2.2.2.2.1,f.2.2.2.2.2.2,x.1,x.2.1,x.2.2.1,x.2.2.2,s)=some (r,b)/\Hu ts (eo fs) f.2.2.2.1 x s=if b=true then some r else none:=by
 have hcl:=hn.2.1;rw[ng]at hcl;have fin:∀t:List Int,(if n7 ts t<=4096then some t else none)=if decide (n7 ts t<=4096)=true then some t else none:=λt=>by by_cases h:n7 ts t<=4096<;>simp[h]
 by_cases C8:x.1=24
 .obtain⟨s1,_,_⟩:=iz hc (p:=114) (q:=45) (r:=45) (by rw[C8];rfl);obtain⟨b0,b1⟩:=s1 (.inr rfl);have hT:=oZ hr ⟨b0,hn.1 _ b1⟩;have ho:Ke ts (s++[fc f.2.2.2.1 x.2.1]):=λy hy=>by
   rcases List.mem_append.1 hy with hy|hy;.exact hs y hy
   .rw[List.mem_singleton.1 hy];exact hT
  have hlen:(s++[fc f.2.2.2.1 x.2.1]).length<=1000:=by grind
  refine⟨s++[fc f.2.2.2.1 x.2.1],decide (n7 ts (s++[fc f.2.2.2.1 x.2.1])<=4096),?_,?_⟩;.have ajM:ah9 N s=some s:=rfl;rw[Dt.eq_1];simp[show(x.1==(24:Int))=true by simpa using C8,au,ajM,abF,Option.bind_some,ah (show s.length+1<=10000000by omega) (show 8<=1000by omega),af,wU,Vj C8,show decide ((-1:Int)>=0)=false from rfl,ak,Hy hN hv f ho hlen,show((0:Int)==0)=true from rfl]
  .unfold Hu rest<;>grind
 .have afz:(x.1==(24:Int))=false:=by grind
  by_cases h0:0<=called x
  .obtain⟨g,g1,g2,g3,g4,g5⟩:=CU hv hcl h0;by_cases hle:(takes (eo fs) x).length<=s.length
   .have hwi:av ((s.length:Int)-g.2.1)=((s.length-(takes (eo fs) x).length:Nat):Int):=by rw[<-g4,MU (by omega) (by omega)];omega
    have hdl:(s.drop (s.length-(takes (eo fs) x).length)).length=(takes (eo fs) x).length:=by grind
    have key:=fZ (l:=s.drop (s.length-(takes (eo fs) x).length)) (g:=λ_:Unit=>(.inr (s,((s.length-(takes (eo fs) x).length:Nat):Int),ts,xs,fs,f.1,f.2.1,f.2.2.1,f.2.2.2.1,f.2.2.2.2.1,f.2.2.2.2.2.1,f.2.2.2.2.2.2):Bool⊕_)) (Out:=λr=>s.drop (s.length-(takes (eo fs) x).length)≠takes (eo fs) x/\r=.inl false) (Inv:=λi _=>∀j,j<i->(s.drop (s.length-(takes (eo fs) x).length))[j]?=(takes (eo fs) x)[j]?) (Lf:=λk i _=>f113.nU N k (s,((s.length-(takes (eo fs) x).length:Nat):Int),s.drop (s.length-(takes (eo fs) x).length),((s.drop (s.length-(takes (eo fs) x).length)).length:Int),i,ts,xs,fs,f.1,f.2.1,f.2.2.1,f.2.2.2.1,f.2.2.2.2.1,f.2.2.2.2.2.1,f.2.2.2.2.2.2,g.1,g.2.1,g.2.2.1,g.2.2.2.1,g.2.2.2.2.1,g.2.2.2.2.2.1,g.2.2.2.2.2.2)) (λk _ _=>by simp only[f113.nU.eq_2,aL,ak]) (λk i y _ hy hI=>by
      have hi:=aA hy;have hit:i<(takes (eo fs) x).length:=by omega
      have hp:=g3.2.2.2.1;have hig:i<g.2.2.2.1.length:=by omega
      have hgi:=List.getElem?_eq_getElem hig;have hti:(takes (eo fs) x)[i]?=some (g.2.2.2.1[i]).2:=by rw[g2,List.getElem?_map,List.getElem?_take,if_pos (by omega),hgi];rfl
      simp only[f113.nU.eq_2,aI hi,au,aD hy,aD hgi,Option.bind_some,aj (show i<9223372036854775807by omega)];by_cases he:(g.2.2.2.1[i]).2=y
      .refine .inr ⟨(),λj hj=>?_,by rw[show((g.2.2.2.1[i]).2!=y)=false by simp[he],ak]⟩;by_cases hji:j=i;.subst hji;rw[hy,hti,he]
       .exact hI j (by omega)
      .exact .inl ⟨_,⟨λe=>he (by rw[e,hti]at hy;exact Option.some.inj hy),rfl⟩,by rw[show((g.2.2.2.1[i]).2!=y)=true by simp[bne,he],au]⟩) (k:=N) (s:=()) (λj hj=>by omega) (by omega);have hpre:Dt N (ts,xs,fs,f.1,f.2.1,f.2.2.1,f.2.2.2.1,f.2.2.2.2.1,f.2.2.2.2.2.1,f.2.2.2.2.2.2,x.1,x.2.1,x.2.2.1,x.2.2.2,s)=some (if s.drop (s.length-(takes (eo fs) x).length)=takes (eo fs) x then(s.take (s.length-(takes (eo fs) x).length),decide (n7 ts (s.take (s.length-(takes (eo fs) x).length))<=4096))else([],false)):=by
     rw[Dt.eq_1];simp only[afz,ak,Option.bind_some,wU,bJ (show called x>=0from h0),au,g1,hwi,bE (show¬((s.length-(takes (eo fs) x).length:Nat):Int)<0 by omega),bJ (show(0:Int)<=((s.length-(takes (eo fs) x).length:Nat):Int)by omega),Int.toNat_natCast,bJ (show s.length-(takes (eo fs) x).length<=s.length by omega),af];rcases key with⟨r,⟨k1,rfl⟩,k2⟩|⟨_,k1,k2⟩;.grind
     .have he:s.drop (s.length-(takes (eo fs) x).length)=takes (eo fs) x:=by apply List.ext_getElem?;grind
      have hlen:(s.take (s.length-(takes (eo fs) x).length)).length<=1000:=by grind
      simp only[k2,Option.bind_some,if_pos he,Int.toNat_natCast,bJ (show(0:Int)<=((s.length-(takes (eo fs) x).length:Nat):Int)by omega),bJ (show s.length-(takes (eo fs) x).length<=s.length by omega),af,Hy hN hv f (hs.take _) hlen,show((0:Int)==0)=true from rfl,au]
    by_cases he:s.drop (s.length-(takes (eo fs) x).length)=takes (eo fs) x;.rw[if_pos he]at hpre;refine⟨_,_,hpre,?_⟩;unfold Hu rest;rw[if_neg C8,if_pos ⟨hle,he⟩,Option.bind_some];exact fin _
    .rw[if_neg he]at hpre;refine⟨_,_,hpre,?_⟩;unfold Hu rest;rw[if_neg C8,if_neg (λh=>he h.2)];rfl
   .refine⟨[],false,?_,?_⟩
    .have hwi:av ((s.length:Int)-g.2.1)=(s.length:Int)-g.2.1:=by rw[<-g4,MU (by omega) (by omega)]
     rw[Dt.eq_1];simp[afz,ak,Option.bind_some,wU,bJ (show called x>=0from h0),au,g1,hwi,bJ (show(s.length:Int)-g.2.1<0 by omega)]
    .unfold Hu rest<;>grind
  .refine⟨s,decide (n7 ts s<=4096),?_,?_⟩;.rw[Dt.eq_1];simp[afz,ak,Option.bind_some,wU,bE (show¬called x>=0from h0),Hy hN hv f hs (show s.length<=1000by omega),show((0:Int)==0)=true from rfl,au]
   .unfold Hu rest;rw[if_neg C8,qR h0,if_pos ⟨by simp,by simp⟩,Option.bind_some];simp only[List.length_nil,Nat.sub_zero,List.take_length];exact fin _
theorem Zq{N:Nat}(hN:1300<N)(hv:fF ts xs fs){f:Func}{i:Int}(hf:idx fs i=some f){x:Instr}(hcl:called x<fs.length):Qk N (ts,xs,fs,i,x.1,x.2.1,x.2.2.1,x.2.2.2)=some (if x.1=24then([],fc f.2.2.2.1 x.2.1)else(takes (eo fs) x,-1)):=by
 rw[Qk.eq_1];by_cases C8:x.1=24;.rw[show(x.1==(24:Int))=true by simpa using C8,abG N hf,if_pos C8];rfl
 .rw[show(x.1==(24:Int))=false by simpa using C8,ak,Ou,Option.bind_some,if_neg C8];by_cases h0:0<=called x;.obtain⟨g,g1,g2,g3,g4,g5⟩:=CU hv hcl h0;rw[bJ (show called x>=0from h0)];have key:=kI (n:=(takes (eo fs) x).length) (Lf:=λk j=>f188.Cn N k ((takes (eo fs) x).take j.toNat,called x,j,ts,xs,fs)) (g:=λ_=>some (takes (eo fs) x)) (λk=>by simp only[f188.Cn.eq_2,g1,Option.bind_some];rw[bE (show¬(((takes (eo fs) x).length:Nat):Int)<g.2.1by omega),ak,Int.toNat_natCast,List.take_length]) (λk j hj ih=>by
   have hp:=g3.2.2.2.1;have hjg:j<g.2.2.2.1.length:=by omega
   have hgj:=List.getElem?_eq_getElem hjg;have htj:(takes (eo fs) x)[j]?=some (g.2.2.2.1[j]).2:=by rw[g2,List.getElem?_map,List.getElem?_take,if_pos (by omega),hgj];rfl
   have hlen:((takes (eo fs) x).take j).length<=16:=by rw[List.length_take];omega
   simp only[Int.toNat_natCast]at ih⊢;simp only[f188.Cn.eq_2,g1,Option.bind_some,bJ (show(j:Int)<g.2.1by omega),au,aD hgj,ah (show((takes (eo fs) x).take j).length+1<=10000000by omega) (show 8<=1000by omega),af,aj (show j<9223372036854775807by omega)];rw[<-ih,take_succ htj]) N 0 (by omega) (by omega);grind
  .rw[bE (show¬called x>=0from h0),ak,qR h0]
theorem afA{N:Nat}(hN:1300<N)(hv:fF ts xs fs){f:Func}{i:Int}(hf:idx fs i=some f)(hr:nY f.2.2.2.1 ts.length){x:Instr}(hc:dL x=true)(hn:jV xs.length (eo fs) f.2.2.2.1 x){s:List Int}(hs:Ke ts s)(hl:s.length<=600):∃r b,Qm N (ts,xs,fs,i,x.1,x.2.1,x.2.2.1,x.2.2.2,s)=some (r,b)/\Hu ts (eo fs) f.2.2.2.1 x s=if b=true then some r else none:=by
 have hcl:=hn.2.1;rw[ng]at hcl;have fin:∀t:List Int,(if n7 ts t<=4096then some t else none)=if decide (n7 ts t<=4096)=true then some t else none:=λt=>by by_cases h:n7 ts t<=4096<;>simp[h]
 rw[Qm.eq_1,Zq hN hv hf hcl,Option.bind_some];by_cases C8:x.1=24
 .obtain⟨s1,_,_⟩:=iz hc (p:=114) (q:=45) (r:=45) (by rw[C8];rfl);obtain⟨b0,b1⟩:=s1 (.inr rfl);have hT:=oZ hr ⟨b0,hn.1 _ b1⟩;have ho:Ke ts (s++[fc f.2.2.2.1 x.2.1]):=λy hy=>by
   rcases List.mem_append.1 hy with hy|hy;.exact hs y hy
   .rw[List.mem_singleton.1 hy];exact hT
  have hlen:(s++[fc f.2.2.2.1 x.2.1]).length<=1000:=by grind
  have hwi:av ((s.length:Int)-((([]:List Int).length:Nat):Int))=((s.length:Nat):Int):=by rw[bp (by simp;omega)];simp
  refine⟨s++[fc f.2.2.2.1 x.2.1],decide (n7 ts (s++[fc f.2.2.2.1 x.2.1])<=4096),?_,?_⟩;.simp only[if_pos C8,hwi,bE (show¬((s.length:Nat):Int)<0 by omega),ak,bJ (show(0:Int)<=((s.length:Nat):Int)by omega),Int.toNat_natCast,bJ (Nat.le_refl s.length),af,List.drop_length,CT (N:=N) (l:=[]) (m:=[]) (by grind) (by simp),decide_true,Option.bind_some,Bool.not_true,List.take_length,List.nil_append,ah (show 0+s.length<=10000000by omega) (show 8<=1000by omega),ah (show s.length+1<=10000000by omega) (show 8<=1000by omega),bJ (show fc f.2.2.2.1 x.2.1>=0from hT.1),au,MT hN hv ho hlen]
  .unfold Hu rest<;>grind
 .have Qz:(takes (eo fs) x).length<=16:=by
   by_cases h0:0<=called x;.obtain⟨_,_,_,_,_,g5⟩:=CU hv hcl h0<;>omega
   .rw[qR h0];simp
  have hwi:av ((s.length:Int)-((takes (eo fs) x).length:Int))=(s.length:Int)-((takes (eo fs) x).length:Int):=MU (by omega) (by omega);simp only[if_neg C8,hwi];by_cases hle:(takes (eo fs) x).length<=s.length
  .have e:(s.length:Int)-((takes (eo fs) x).length:Int)=((s.length-(takes (eo fs) x).length:Nat):Int):=by omega
   have hlen:(s.take (s.length-(takes (eo fs) x).length)).length<=1000:=by grind
   have hdl:(s.drop (s.length-(takes (eo fs) x).length)).length<=1000:=by grind
   simp only[e,bE (show¬((s.length-(takes (eo fs) x).length:Nat):Int)<0 by omega),ak,bJ (show(0:Int)<=((s.length-(takes (eo fs) x).length:Nat):Int)by omega),Int.toNat_natCast,bJ (show s.length-(takes (eo fs) x).length<=s.length by omega),af,CT (N:=N) (l:=s.drop (s.length-(takes (eo fs) x).length)) (m:=takes (eo fs) x) (by omega) (by omega),Option.bind_some];by_cases he:s.drop (s.length-(takes (eo fs) x).length)=takes (eo fs) x
   .refine⟨s.take (s.length-(takes (eo fs) x).length),decide (n7 ts (s.take (s.length-(takes (eo fs) x).length))<=4096),?_,?_⟩;.simp only[bJ he,Bool.not_true,ak,List.nil_append,ah (show 0+(s.take (s.length-(takes (eo fs) x).length)).length<=10000000by omega) (show 8<=1000by omega),af,show decide ((-1:Int)>=0)=false from rfl,MT hN hv (hs.take _) hlen,Option.bind_some]
    .unfold Hu rest<;>grind
   .refine⟨[],false,by simp only[bE he,Bool.not_false,au],?_⟩;unfold Hu rest<;>grind
  .refine⟨[],false,by simp only[bJ (show(s.length:Int)-((takes (eo fs) x).length:Int)<0 by omega),au,Option.bind_some],?_⟩;unfold Hu rest<;>grind
end
end Go.Proofs.YtdogilonhnbapaaGreatDoor
