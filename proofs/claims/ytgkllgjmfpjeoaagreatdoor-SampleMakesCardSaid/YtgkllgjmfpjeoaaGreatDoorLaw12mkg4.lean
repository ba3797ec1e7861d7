/- The checker: the scratch behind an instruction. -/
import Derived.Test.YtgkllgjmfpjeoaaGreatDoorLaw12mkg3
set_option linter.unusedVariables false
set_option linter.unusedSimpArgs false
namespace Go.Proofs.YtgkllgjmfpjeoaaGreatDoor
open Go Go.bJ Go.Sym
open Classical
noncomputable def EP(x:List Ex):Prop:=∀i:Int,0<=i->i<x.length->1<=(iV x i).1
theorem Jw{C:Int}(hC:1000<=C){x:List Ex}(hx:EX C x)(hp:EP x):∀(fs:List Field)(s a:Int),0<=s->AL a->(∀f,f∈fs->0<=f.2/\f.2<x.length)->(1<=s\/fs≠[])->1<=(jk C x s a fs).2.1
 |[],s,a,_,_,_,h=>by
  rcases h with h|h;.exact h
  grind|f::r,s,a,h0,ha,hf,_=>by obtain⟨b1,b2⟩:=hf f List.mem_cons_self;have h1:=hp f.2 b1 b2;obtain⟨e1,e2,e3⟩:=hx.get (by omega) f.2;have hu:=tT e1 h0;exact Jw hC hx hp r _ _ (by omega) (ha.max e1) (λg hg=>hf g (List.mem_cons_of_mem _ hg)) (.inl (by omega))
theorem Px{C:Int}(hC:1000<=C)(h8:C%8=0){out:List Ex}(ho:EX C out)(hp:EP out){n i:Nat}{t:aB}(hi:i=out.length)(ht:cK n i t):1<=(oA C out t).1:=by
 unfold oA;unfold cK at ht;split;.omega
 .split;.omega
  .split;.omega
   .split;.rename_i h1 h3 h7 h6;rw[if_neg (by omega),if_neg (by omega),if_pos h6]at ht;obtain⟨⟨a1,a2⟩,⟨b1,b2⟩,_⟩:=ht;have:=hp t.2.1 a1 (by omega);have:1<=t.2.2.1*(iV out t.2.1).1:=Int.le_trans (by omega) (Int.mul_le_mul b1 this (by omega) (by omega):(1:Int)*1<=_)<;>grind
    .split;.rename_i h1 h3 h7 h6 h5;rw[if_neg (by omega),if_neg (by omega),if_neg h6,if_pos h5]at ht;obtain⟨_,_,⟨b1,b2⟩,_,hf⟩:=ht;obtain⟨c1,c2,_⟩:=qx (C:=C) (by omega) ho t.2.2.2 0 1 (by omega) (by omega) (.inl rfl);have h:=Jw hC ho hp t.2.2.2 0 1 (by omega) (.inl rfl) (λf hm=>by have:=hf f hm;omega) (.inr (λe=>by rw[e]at b1;simp at b1));have hu:=tT c2 c1.1<;>grind
     omega
theorem Co{C:Int}(hC:1000<=C)(h8:C%8=0){l:List aB}(ht:xJ l):∀i,i<=l.length->EP (cy C l i)
 |0,_=>λj h0 h1=>by simp[cy]at h1;omega|i+1,hi=>λj h0 h1=>by
  rw[cy,B6,ga];rw[ga]at h1;split;.exact Co hC h8 ht i (by omega) j h0 (by rw[ga];omega)
  .rw[if_pos (by omega)];exact Px hC h8 (qy hC h8 ht i (by omega)) (Co hC h8 ht i (by omega)) (n:=l.length) (i:=i) (by rw[ga]) (ht i (by omega))
section
variable{ts:List aB}{xs:List (List UInt8)}{fs:List Func}
theorem fE.size(h:fE ts xs fs){t:Int}(ht:0<=t/\t<ts.length):iV (exs ts) t=iV (cy 1000000 ts ts.length) t/\1<=(iV (exs ts) t).1/\(iV (exs ts) t).1<=256:=by
 obtain⟨n,rfl⟩:=Int.eq_ofNat_of_zero_le ht.1;have hT:=h.C5.1;have h1:=h.C5.2.2.2.1 n (by omega);refine⟨?_,Co (by omega) (by omega) hT.2.1 ts.length (Nat.le_refl _) n (by omega) (by rw[ga];omega),h1⟩;rcases wm hT.2.1 ts.length (Nat.le_refl _) (n:Int)with⟨hr|hr,hq⟩;.exact Prod.ext hr hq
 .have:(iV (exs ts) (n:Int)).1=(iV (cy 1048576 ts ts.length) (n:Int)).1:=rfl;omega
theorem fE.wide(h:fE ts xs fs){t:Int}(ht:0<=t/\t<ts.length):8<=wide ts t/\Go.Proofs.YtgkllgjmfpjeoaaGreatDoor.wide ts t<=263:=by obtain⟨_,h1,h2⟩:=h.size ht;have:=up8 h1;unfold Go.Proofs.YtgkllgjmfpjeoaaGreatDoor.wide;omega
theorem Jt.nS(h:fE ts xs fs):∀{s:List Int},Jt ts s->8*(s.length:Int)<=nS ts s/\Go.Proofs.YtgkllgjmfpjeoaaGreatDoor.nS ts s<=263*(s.length:Int)|[],_=>by simp[Go.Proofs.YtgkllgjmfpjeoaaGreatDoor.nS]|t::s,hs=>by have h1:=h.wide (hs t List.mem_cons_self);have h2:=Jt.nS h (s:=s) λx hx=>hs x (List.mem_cons_of_mem _ hx);simp[Go.Proofs.YtgkllgjmfpjeoaaGreatDoor.nS,List.length_cons];omega
theorem Jt.take{s:List Int}(h:Jt ts s)(n:Nat):Jt ts (s.take n):=λt ht=>h t (List.mem_of_mem_take ht)
theorem acp{N:Nat}{n:Int}(h:0<=n/\n<=4000000):SA N n=some (up 8 n,0):=by have e:=uL (a:=8) (s:=n) (.inr rfl) h;rw[bn (n:=n+8) (by omega),show n+8-1=n+7by omega,bn (n:=(8:Int)-1) (by decide)]at e;rw[SA.eq_1,bE (show¬n<0 by omega)]<;>grind
theorem Uv{N:Nat}{n:Int}(h:0<=n/\n<=4000000):Tn N n=some (up 8 n):=by rw[Tn.eq_1,Gq (.inr rfl) h];rfl
theorem Jx{s:List Int}{i:Nat}{t:Int}(h:s[i]?=some t):nS ts (s.take (i+1))=nS ts (s.take i)+wide ts t:=by rw[take_succ h,Ni];simp[nS]
theorem GA{N:Nat}(hN:1300<N)(hv:fE ts xs fs)(f:Func){s:List Int}(hs:Jt ts s)(hl:s.length<=1000):OQ N (ts,xs,fs,f.1,f.2.1,f.2.2.1,f.2.2.2.1,f.2.2.2.2.1,f.2.2.2.2.2.1,f.2.2.2.2.2.2,s)=some (nS ts s,0):=by obtain⟨z,hz,he⟩:=eS (l:=s) (g:=λv:Int=>(.inr v:(Int×Int)⊕Int)) (Inv:=λi v=>v=nS ts (s.take i)) (Lf:=λk i v=>f119.bx N k (v,s,(s.length:Int),i,ts,xs,fs,f.1,f.2.1,f.2.2.1,f.2.2.2.1,f.2.2.2.2.1,f.2.2.2.2.2.1,f.2.2.2.2.2.2)) (λk v _=>by simp only[f119.bx.eq_2,aM,aq]) (λk i t v ht hI=>by
 have hi:=az ht;have hm:=hs t (aU ht);obtain⟨_,z1,z2⟩:=hv.size hm;obtain⟨w1,w2⟩:=hv.wide hm;obtain⟨y1,y2⟩:=(hs.take i).nS hv;have NJ:(s.take i).length<=1000:=by rw[List.length_take];omega
 refine⟨v+wide ts t,by rw[hI,Jx ht],?_⟩;simp only[f119.bx.eq_2,aJ hi,au,aE ht,Option.bind_some,M9 hN hv.fit.1.1 hv.C5.1 hm,if_pos z2,I4,aq,acp (N:=N) (n:=(iV (exs ts) t).1) (by omega),aj (show i<9223372036854775807by omega)];rw[show up 8 (iV (exs ts) t).1=wide ts t from rfl,bn (by omega)]) (k:=N) (s:=0) (by simp[nS]) (by omega);rw[OQ.eq_1,he,hz,List.take_length];rfl
theorem LK{N:Nat}(hN:1300<N)(hv:fE ts xs fs){s:List Int}(hs:Jt ts s)(hl:s.length<=1000):F81 N (ts,xs,fs,s)=some (nS ts s):=by obtain⟨z,hz,he⟩:=eS (l:=s) (g:=λv:Int=>v) (Inv:=λi v=>v=nS ts (s.take i)) (Lf:=λk i v=>f81.dB N k (s,(cy 1000000 ts ts.length).map (·.1),v,i)) (λk v _=>by simp only[f81.dB.eq_2,aM,aq]) (λk i t v ht hI=>by
 have hi:=az ht;have hm:=hs t (aU ht);obtain⟨z0,z1,z2⟩:=hv.size hm;obtain⟨w1,w2⟩:=hv.wide hm;obtain⟨y1,y2⟩:=(hs.take i).nS hv;have NJ:(s.take i).length<=1000:=by rw[List.length_take];omega
 have hx:idx ((cy 1000000 ts ts.length).map (·.1)) t=some (iV (exs ts) t).1:=by rw[z0];exact wj (g:=λe:Ex=>e.1) (tA (by rw[ga];exact hm))
 refine⟨v+wide ts t,by rw[hI,Jx ht],?_⟩;simp only[f81.dB.eq_2,aJ hi,au,aE ht,Option.bind_some,hx,Uv (N:=N) (n:=(iV (exs ts) t).1) (by omega),aj (show i<9223372036854775807by omega)];rw[show up 8 (iV (exs ts) t).1=wide ts t from rfl,bn (by omega)]) (k:=N) (s:=0) (by simp[nS]) (by omega);rw[F81.eq_1,Jd (by omega) hv.fit.1.1.1 hv.C5.1.2.1,Option.bind_some,he,hz,List.take_length];rfl
theorem wB{N:Nat}{l m:List Int}(hl:l.length<N)(hb:l.length<9223372036854775807):WC N (l,m)=some (decide (l=m)):=by
 rw[WC.eq_1,sQ];by_cases h:l.length=m.length;.have key:=ot (l:=l) (m:=m) (a:=(.inr ():Bool⊕Unit)) (b:=.inl false) (Lf:=λk i=>f18.aT N k (l,m,i)) h (λk=>by simp only[f18.aT.eq_2,aM,aq]) (λk i x y _ _ h1 h2=>by
  simp only[f18.aT.eq_2,aJ (az h1),au,aE h1,aE h2,Option.bind_some,aj (show i<9223372036854775807by have:=az h1;omega)];by_cases hxy:x=y;.subst hxy;simp
  .rw[if_neg hxy,show(x !=y)=true by simp[bne,hxy]];rfl) N hl;grind
 .rw[decide_eq_false h,decide_eq_false (λe=>h (by rw[e]))];rfl
theorem Py{N:Nat}{l m:List Int}(hl:l.length<N)(hb:l.length<9223372036854775807):SG N (l,m)=some (decide (l=m)):=by
 rw[SG.eq_1,sQ];by_cases h:l.length=m.length;.have key:=ot (l:=l) (m:=m) (a:=(.inr ():Bool⊕Unit)) (b:=.inl false) (Lf:=λk i=>f118.aT N k (l,m,(l.length:Int),i)) h (λk=>by simp only[f118.aT.eq_2,aM,aq]) (λk i x y _ _ h1 h2=>by
  simp only[f118.aT.eq_2,aJ (az h1),au,aE h1,aE h2,Option.bind_some,aj (show i<9223372036854775807by have:=az h1;omega)];by_cases hxy:x=y;.subst hxy;simp
  .rw[if_neg hxy,show(x !=y)=true by simp[bne,hxy]];rfl) N hl;grind
 .rw[decide_eq_false h,decide_eq_false (λe=>h (by rw[e]))];rfl
theorem Cp(hv:fE ts xs fs){x:Instr}(hn:called x<fs.length)(h0:0<=called x):∃g,idx fs (called x)=some g/\takes (eL fs) x=(g.2.2.2.1.take g.2.1.toNat).map (·.2)/\eA ts.length g/\((takes (eL fs) x).length:Int)=g.2.1/\(takes (eL fs) x).length<=16:=by
 obtain⟨g,g1,g2,g3⟩:=Ck (fs:=fs) ⟨h0,hn⟩;have hg:=hv.get g2;have ht:takes (eL fs) x=(g.2.2.2.1.take g.2.1.toNat).map (·.2):=by unfold takes;rw[if_pos h0,g3];rfl
 have hp:=hg.2.2.2.1;have Pg:=hg.2.1<;>grind
theorem uO{x:Instr}(h:¬0<=called x):takes (eL fs) x=[]:=by unfold takes<;>grind
theorem Uw{x:Instr}(h:x.1=24):called x=-1:=by unfold called<;>grind
theorem LL{a b:Nat}(ha:a<=10000000)(hb:b<=10000000):av ((a:Int)-(b:Int))=(a:Int)-(b:Int):=bn (by omega)
theorem acq(hv:fE ts xs fs){sl:List Field}(hr:nO sl ts.length){x:Instr}(hc:dD x=true)(hn:kJ xs.length (eL fs) sl x){s s':List Int}(hs:Jt ts s)(h:GL ts (eL fs) sl x s=some s'):Jt ts s'/\s'.length<=512:=by
 obtain⟨t,h1,h2⟩:=Option.bind_eq_some_iff.1 h;split at h2;case isFalse=>cases h2
 cases Option.some.inj h2;have ho:Jt ts s':=by
  unfold rest at h1;split at h1
  .rename_i CC;cases Option.some.inj h1;intro y hy;rcases List.mem_append.1 hy with hy|hy;.exact hs y hy
   .rw[List.mem_singleton.1 hy];obtain⟨s1,_,_⟩:=iz hc (p:=114) (q:=45) (r:=45) (by rw[CC];rfl);obtain⟨b0,b1⟩:=s1 (.inr rfl);exact oS hr ⟨b0,hn.1 _ b1⟩
  .split at h1;.cases Option.some.inj h1;exact hs.take _
   grind
 have:=(ho.nS hv).1<;>grind
theorem ahK{N:Nat}(hN:1300<N)(hv:fE ts xs fs){f:Func}(hr:nO f.2.2.2.1 ts.length){x:Instr}(hc:dD x=true)(hn:kJ xs.length (eL fs) f.2.2.2.1 x){s:List Int}(hs:Jt ts s)(hl:s.length<=600):∃r b,Gf N (ts,xs,fs,f.1,f.2.1,f.2.2.1,f.2.2.2.1,f.2.2.2.2.1,f.2.2.2.2.2.1,f.2.2.2.2.2.2,x.1,x.2.1,x.2.2.1,x.2.2.2,s)=some (r,b)/\GL ts (eL fs) f.2.2.2.1 x s=if b=true then some r else none:=by
 have hcl:=hn.2.1;rw[oG]at hcl;have fin:∀t:List Int,(if nS ts t<=4096then some t else none)=if decide (nS ts t<=4096)=true then some t else none:=λt=>by by_cases h:nS ts t<=4096<;>simp[h]
 by_cases CC:x.1=24
 .obtain⟨s1,_,_⟩:=iz hc (p:=114) (q:=45) (r:=45) (by rw[CC];rfl);obtain⟨b0,b1⟩:=s1 (.inr rfl);have hT:=oS hr ⟨b0,hn.1 _ b1⟩;have ho:Jt ts (s++[eT f.2.2.2.1 x.2.1]):=λy hy=>by
   rcases List.mem_append.1 hy with hy|hy;.exact hs y hy
   .rw[List.mem_singleton.1 hy];exact hT
  have hlen:(s++[eT f.2.2.2.1 x.2.1]).length<=1000:=by grind
  refine⟨s++[eT f.2.2.2.1 x.2.1],decide (nS ts (s++[eT f.2.2.2.1 x.2.1])<=4096),?_,?_⟩;.have ahL:afK N s=some s:=rfl;rw[Gf.eq_1];simp[show(x.1==(24:Int))=true by simpa using CC,au,ahL,Zu,Option.bind_some,af (show s.length+1<=10000000by omega) (show 8<=1000by omega),ai,wA,Uw CC,show decide ((-1:Int)>=0)=false from rfl,aq,GA hN hv f ho hlen,show((0:Int)==0)=true from rfl]
  .unfold GL rest<;>grind
 .have acr:(x.1==(24:Int))=false:=by grind
  by_cases h0:0<=called x
  .obtain⟨g,g1,g2,g3,g4,g5⟩:=Cp hv hcl h0;by_cases hle:(takes (eL fs) x).length<=s.length
   .have hwi:av ((s.length:Int)-g.2.1)=((s.length-(takes (eL fs) x).length:Nat):Int):=by rw[<-g4,LL (by omega) (by omega)];omega
    have hdl:(s.drop (s.length-(takes (eL fs) x).length)).length=(takes (eL fs) x).length:=by grind
    have key:=fZ (l:=s.drop (s.length-(takes (eL fs) x).length)) (g:=λ_:Unit=>(.inr (s,((s.length-(takes (eL fs) x).length:Nat):Int),ts,xs,fs,f.1,f.2.1,f.2.2.1,f.2.2.2.1,f.2.2.2.2.1,f.2.2.2.2.2.1,f.2.2.2.2.2.2):Bool⊕_)) (Out:=λr=>s.drop (s.length-(takes (eL fs) x).length)≠takes (eL fs) x/\r=.inl false) (Inv:=λi _=>∀j,j<i->(s.drop (s.length-(takes (eL fs) x).length))[j]?=(takes (eL fs) x)[j]?) (Lf:=λk i _=>f116.nL N k (s,((s.length-(takes (eL fs) x).length:Nat):Int),s.drop (s.length-(takes (eL fs) x).length),((s.drop (s.length-(takes (eL fs) x).length)).length:Int),i,ts,xs,fs,f.1,f.2.1,f.2.2.1,f.2.2.2.1,f.2.2.2.2.1,f.2.2.2.2.2.1,f.2.2.2.2.2.2,g.1,g.2.1,g.2.2.1,g.2.2.2.1,g.2.2.2.2.1,g.2.2.2.2.2.1,g.2.2.2.2.2.2)) (λk _ _=>by simp only[f116.nL.eq_2,aM,aq]) (λk i y _ hy hI=>by
      have hi:=az hy;have hit:i<(takes (eL fs) x).length:=by omega
      have hp:=g3.2.2.2.1;have hig:i<g.2.2.2.1.length:=by omega
      have hgi:=List.getElem?_eq_getElem hig;have hti:(takes (eL fs) x)[i]?=some (g.2.2.2.1[i]).2:=by rw[g2,List.getElem?_map,List.getElem?_take,if_pos (by omega),hgi];rfl
      simp only[f116.nL.eq_2,aJ hi,au,aE hy,aE hgi,Option.bind_some,aj (show i<9223372036854775807by omega)];by_cases he:(g.2.2.2.1[i]).2=y
      .refine .inr ⟨(),λj hj=>?_,by rw[show((g.2.2.2.1[i]).2!=y)=false by simp[he],aq]⟩;by_cases hji:j=i;.subst hji;rw[hy,hti,he]
       .exact hI j (by omega)
      .exact .inl ⟨_,⟨λe=>he (by rw[e,hti]at hy;exact Option.some.inj hy),rfl⟩,by rw[show((g.2.2.2.1[i]).2!=y)=true by simp[bne,he],au]⟩) (k:=N) (s:=()) (λj hj=>by omega) (by omega);have hpre:Gf N (ts,xs,fs,f.1,f.2.1,f.2.2.1,f.2.2.2.1,f.2.2.2.2.1,f.2.2.2.2.2.1,f.2.2.2.2.2.2,x.1,x.2.1,x.2.2.1,x.2.2.2,s)=some (if s.drop (s.length-(takes (eL fs) x).length)=takes (eL fs) x then(s.take (s.length-(takes (eL fs) x).length),decide (nS ts (s.take (s.length-(takes (eL fs) x).length))<=4096))else([],false)):=by
     rw[Gf.eq_1];simp only[acr,aq,Option.bind_some,wA,bI (show called x>=0from h0),au,g1,hwi,bE (show¬((s.length-(takes (eL fs) x).length:Nat):Int)<0 by omega),bI (show(0:Int)<=((s.length-(takes (eL fs) x).length:Nat):Int)by omega),Int.toNat_natCast,bI (show s.length-(takes (eL fs) x).length<=s.length by omega),ai];rcases key with⟨r,⟨k1,rfl⟩,k2⟩|⟨_,k1,k2⟩;.grind
     .have he:s.drop (s.length-(takes (eL fs) x).length)=takes (eL fs) x:=by apply List.ext_getElem?;grind
      have hlen:(s.take (s.length-(takes (eL fs) x).length)).length<=1000:=by grind
      simp only[k2,Option.bind_some,if_pos he,Int.toNat_natCast,bI (show(0:Int)<=((s.length-(takes (eL fs) x).length:Nat):Int)by omega),bI (show s.length-(takes (eL fs) x).length<=s.length by omega),ai,GA hN hv f (hs.take _) hlen,show((0:Int)==0)=true from rfl,au]
    by_cases he:s.drop (s.length-(takes (eL fs) x).length)=takes (eL fs) x;.rw[if_pos he]at hpre;refine⟨_,_,hpre,?_⟩;unfold GL rest;rw[if_neg CC,if_pos ⟨hle,he⟩,Option.bind_some];exact fin _
    .rw[if_neg he]at hpre;refine⟨_,_,hpre,?_⟩;unfold GL rest;rw[if_neg CC,if_neg (λh=>he h.2)];rfl
   .refine⟨[],false,?_,?_⟩
    .have hwi:av ((s.length:Int)-g.2.1)=(s.length:Int)-g.2.1:=by rw[<-g4,LL (by omega) (by omega)]
     rw[Gf.eq_1];simp[acr,aq,Option.bind_some,wA,bI (show called x>=0from h0),au,g1,hwi,bI (show(s.length:Int)-g.2.1<0 by omega)]
    .unfold GL rest<;>grind
  .refine⟨s,decide (nS ts s<=4096),?_,?_⟩;.rw[Gf.eq_1];simp[acr,aq,Option.bind_some,wA,bE (show¬called x>=0from h0),GA hN hv f hs (show s.length<=1000by omega),show((0:Int)==0)=true from rfl,au]
   .unfold GL rest;rw[if_neg CC,uO h0,if_pos ⟨by simp,by simp⟩,Option.bind_some];simp only[List.length_nil,Nat.sub_zero,List.take_length];exact fin _
theorem Xe{N:Nat}(hN:1300<N)(hv:fE ts xs fs){f:Func}{i:Int}(hf:idx fs i=some f){x:Instr}(hcl:called x<fs.length):Tm N (ts,xs,fs,i,x.1,x.2.1,x.2.2.1,x.2.2.2)=some (if x.1=24then([],eT f.2.2.2.1 x.2.1)else(takes (eL fs) x,-1)):=by
 rw[Tm.eq_1];by_cases CC:x.1=24;.rw[show(x.1==(24:Int))=true by simpa using CC,Zv N hf,if_pos CC];rfl
 .rw[show(x.1==(24:Int))=false by simpa using CC,aq,Nj,Option.bind_some,if_neg CC];by_cases h0:0<=called x;.obtain⟨g,g1,g2,g3,g4,g5⟩:=Cp hv hcl h0;rw[bI (show called x>=0from h0)];have key:=kE (n:=(takes (eL fs) x).length) (Lf:=λk j=>f193.BQ N k ((takes (eL fs) x).take j.toNat,called x,j,ts,xs,fs)) (g:=λ_=>some (takes (eL fs) x)) (λk=>by simp only[f193.BQ.eq_2,g1,Option.bind_some];rw[bE (show¬(((takes (eL fs) x).length:Nat):Int)<g.2.1by omega),aq,Int.toNat_natCast,List.take_length]) (λk j hj ih=>by
   have hp:=g3.2.2.2.1;have hjg:j<g.2.2.2.1.length:=by omega
   have hgj:=List.getElem?_eq_getElem hjg;have htj:(takes (eL fs) x)[j]?=some (g.2.2.2.1[j]).2:=by rw[g2,List.getElem?_map,List.getElem?_take,if_pos (by omega),hgj];rfl
   have hlen:((takes (eL fs) x).take j).length<=16:=by rw[List.length_take];omega
   simp only[Int.toNat_natCast]at ih⊢;simp only[f193.BQ.eq_2,g1,Option.bind_some,bI (show(j:Int)<g.2.1by omega),au,aE hgj,af (show((takes (eL fs) x).take j).length+1<=10000000by omega) (show 8<=1000by omega),ai,aj (show j<9223372036854775807by omega)];rw[<-ih,take_succ htj]) N 0 (by omega) (by omega);grind
  .rw[bE (show¬called x>=0from h0),aq,uO h0]
theorem acs{N:Nat}(hN:1300<N)(hv:fE ts xs fs){f:Func}{i:Int}(hf:idx fs i=some f)(hr:nO f.2.2.2.1 ts.length){x:Instr}(hc:dD x=true)(hn:kJ xs.length (eL fs) f.2.2.2.1 x){s:List Int}(hs:Jt ts s)(hl:s.length<=600):∃r b,To N (ts,xs,fs,i,x.1,x.2.1,x.2.2.1,x.2.2.2,s)=some (r,b)/\GL ts (eL fs) f.2.2.2.1 x s=if b=true then some r else none:=by
 have hcl:=hn.2.1;rw[oG]at hcl;have fin:∀t:List Int,(if nS ts t<=4096then some t else none)=if decide (nS ts t<=4096)=true then some t else none:=λt=>by by_cases h:nS ts t<=4096<;>simp[h]
 rw[To.eq_1,Xe hN hv hf hcl,Option.bind_some];by_cases CC:x.1=24
 .obtain⟨s1,_,_⟩:=iz hc (p:=114) (q:=45) (r:=45) (by rw[CC];rfl);obtain⟨b0,b1⟩:=s1 (.inr rfl);have hT:=oS hr ⟨b0,hn.1 _ b1⟩;have ho:Jt ts (s++[eT f.2.2.2.1 x.2.1]):=λy hy=>by
   rcases List.mem_append.1 hy with hy|hy;.exact hs y hy
   .rw[List.mem_singleton.1 hy];exact hT
  have hlen:(s++[eT f.2.2.2.1 x.2.1]).length<=1000:=by grind
  have hwi:av ((s.length:Int)-((([]:List Int).length:Nat):Int))=((s.length:Nat):Int):=by rw[bn (by simp;omega)];simp
  refine⟨s++[eT f.2.2.2.1 x.2.1],decide (nS ts (s++[eT f.2.2.2.1 x.2.1])<=4096),?_,?_⟩;.simp only[if_pos CC,hwi,bE (show¬((s.length:Nat):Int)<0 by omega),aq,bI (show(0:Int)<=((s.length:Nat):Int)by omega),Int.toNat_natCast,bI (Nat.le_refl s.length),ai,List.drop_length,wB (N:=N) (l:=[]) (m:=[]) (by grind) (by simp),decide_true,Option.bind_some,Bool.not_true,List.take_length,List.nil_append,af (show 0+s.length<=10000000by omega) (show 8<=1000by omega),af (show s.length+1<=10000000by omega) (show 8<=1000by omega),bI (show eT f.2.2.2.1 x.2.1>=0from hT.1),au,LK hN hv ho hlen]
  .unfold GL rest<;>grind
 .have Pg:(takes (eL fs) x).length<=16:=by
   by_cases h0:0<=called x;.obtain⟨_,_,_,_,_,g5⟩:=Cp hv hcl h0<;>omega
   .rw[uO h0];simp
  have hwi:av ((s.length:Int)-((takes (eL fs) x).length:Int))=(s.length:Int)-((takes (eL fs) x).length:Int):=LL (by omega) (by omega);simp only[if_neg CC,hwi];by_cases hle:(takes (eL fs) x).length<=s.length
  .have e:(s.length:Int)-((takes (eL fs) x).length:Int)=((s.length-(takes (eL fs) x).length:Nat):Int):=by omega
   have hlen:(s.take (s.length-(takes (eL fs) x).length)).length<=1000:=by grind
   have hdl:(s.drop (s.length-(takes (eL fs) x).length)).length<=1000:=by grind
   simp only[e,bE (show¬((s.length-(takes (eL fs) x).length:Nat):Int)<0 by omega),aq,bI (show(0:Int)<=((s.length-(takes (eL fs) x).length:Nat):Int)by omega),Int.toNat_natCast,bI (show s.length-(takes (eL fs) x).length<=s.length by omega),ai,wB (N:=N) (l:=s.drop (s.length-(takes (eL fs) x).length)) (m:=takes (eL fs) x) (by omega) (by omega),Option.bind_some];by_cases he:s.drop (s.length-(takes (eL fs) x).length)=takes (eL fs) x
   .refine⟨s.take (s.length-(takes (eL fs) x).length),decide (nS ts (s.take (s.length-(takes (eL fs) x).length))<=4096),?_,?_⟩;.simp only[bI he,Bool.not_true,aq,List.nil_append,af (show 0+(s.take (s.length-(takes (eL fs) x).length)).length<=10000000by omega) (show 8<=1000by omega),ai,show decide ((-1:Int)>=0)=false from rfl,LK hN hv (hs.take _) hlen,Option.bind_some]
    .unfold GL rest<;>grind
   .refine⟨[],false,by simp only[bE he,Bool.not_false,au],?_⟩;unfold GL rest<;>grind
  .refine⟨[],false,by simp only[bI (show(s.length:Int)-((takes (eL fs) x).length:Int)<0 by omega),au,Option.bind_some],?_⟩;unfold GL rest<;>grind
end
end Go.Proofs.YtgkllgjmfpjeoaaGreatDoor
