/- The checker: the scratch behind an instruction. -/
import Derived.Test.YtkdilffhbejjaaaGreatLaw21tg3
set_option linter.unusedVariables false
set_option linter.unusedSimpArgs false
namespace Go.Proofs.YtkdilffhbejjaaaGreat
open Go Go.bM Go.Sym
open Classical
noncomputable def EP(x:List Ex):Prop:=∀i:Int,0<=i->i<x.length->1<=(fC x i).1
theorem Kr{C:Int}(hC:1000<=C){x:List Ex}(hx:EX C x)(hp:EP x):∀(fs:List Field)(s a:Int),0<=s->AL a->(∀f,f∈fs->0<=f.2/\f.2<x.length)->(1<=s\/fs≠[])->1<=(fQ C x s a fs).2.1
 |[],s,a,_,_,_,h=>by
  rcases h with h|h;.exact h
  grind|f::r,s,a,h0,ha,hf,_=>by obtain⟨b1,b2⟩:=hf f cb;have h1:=hp f.2 b1 b2;obtain⟨e1,e2,e3⟩:=hx.get (by omega) f.2;have hu:=oK e1 h0;exact Kr hC hx hp r _ _ (by omega) (ha.max e1) (λg hg=>hf g (dl _ hg)) (.inl (by omega))
theorem Qy{C:Int}(hC:1000<=C)(h8:C%8=0){out:List Ex}(ho:EX C out)(hp:EP out){n i:Nat}{t:aA}(hi:i=out.length)(ht:cU n i t):1<=(pF C out t).1:=by
 unfold pF;unfold cU at ht;split;.omega
 .split;.omega
  .split;.omega
   .split;.rename_i h1 h3 h7 h6;rw[be (by omega),be (by omega),bb h6]at ht;obtain⟨⟨a1,a2⟩,⟨b1,b2⟩,_⟩:=ht;have:=hp t.2.1 a1 (by omega);have:1<=t.2.2.1*(fC out t.2.1).1:=xf (by omega) (sf b1 this (by omega) (by omega):(1:Int)*1<=_)<;>grind
    .split;.rename_i h1 h3 h7 h6 h5;rw[be (by omega),be (by omega),be h6,bb h5]at ht;obtain⟨_,_,⟨b1,b2⟩,_,hf⟩:=ht;obtain⟨c1,c2,_⟩:=pE (C:=C) (by omega) ho t.2.2.2 0 1 (by omega) (by omega) (.inl rfl);have h:=Kr hC ho hp t.2.2.2 0 1 (by omega) (.inl rfl) (λf hm=>by have:=hf f hm;omega) (.inr (λe=>by rw[e]at b1;simp at b1));have hu:=oK c2 c1.1<;>grind
     omega
theorem Dw{C:Int}(hC:1000<=C)(h8:C%8=0){l:List aA}(ht:yw l):∀i,i<=l.length->EP (cE C l i)
 |0,_=>λj h0 h1=>by simp[cE]at h1;omega|i+1,hi=>λj h0 h1=>by
  rw[cE,Dc,ff];rw[ff]at h1;split;.exact Dw hC h8 ht i (by omega) j h0 (by rw[ff];omega)
  .rw[bb (by omega)];exact Qy hC h8 (ke hC h8 ht i (by omega)) (Dw hC h8 ht i (by omega)) (n:=l.length) (i:=i) (by rw[ff]) (ht i (by omega))
section
variable{ts:List aA}{xs:List (List UInt8)}{fs:List Func}
theorem gS.size(h:gS ts xs fs){t:Int}(ht:0<=t/\t<ts.length):fC (exs ts) t=fC (cE 1000000 ts ts.length) t/\1<=(fC (exs ts) t).1/\(fC (exs ts) t).1<=256:=by
 obtain⟨n,rfl⟩:=du ht.1;have hT:=h.HB.1;have h1:=h.HB.2.2.2.1 n (by omega);refine⟨?_,Dw (by omega) (by omega) hT.2.1 ts.length (bc _) n (by omega) (by rw[ff];omega),h1⟩;rcases tN hT.2.1 ts.length (bc _) (n:Int)with⟨hr|hr,hq⟩;.exact Prod.ext hr hq
 .have:(fC (exs ts) (n:Int)).1=(fC (cE 1048576 ts ts.length) (n:Int)).1:=rfl;omega
theorem gS.wide(h:gS ts xs fs){t:Int}(ht:0<=t/\t<ts.length):8<=wide ts t/\Go.Proofs.YtkdilffhbejjaaaGreat.wide ts t<=263:=by obtain⟨_,h1,h2⟩:=h.size ht;have:=up8 h1;unfold Go.Proofs.YtkdilffhbejjaaaGreat.wide;omega
theorem Km.oN(h:gS ts xs fs):∀{s:List Int},Km ts s->8*(s.length:Int)<=oN ts s/\Go.Proofs.YtkdilffhbejjaaaGreat.oN ts s<=263*(s.length:Int)|[],_=>by simp[Go.Proofs.YtkdilffhbejjaaaGreat.oN]|t::s,hs=>by have h1:=h.wide (hs t cb);have h2:=Km.oN h (s:=s) λx hx=>hs x (dl _ hx);simp[Go.Proofs.YtkdilffhbejjaaaGreat.oN,eQ];omega
theorem Km.take{s:List Int}(h:Km ts s)(n:Nat):Km ts (s.take n):=λt ht=>h t (kh ht)
theorem aeM{N:Nat}{n:Int}(h:0<=n/\n<=4000000):F93 N n=some (up 8 n,0):=by have e:=rC (a:=8) (s:=n) (.inr rfl) h;rw[aI (n:=n+8) (by omega),show n+8-1=n+7by omega,aI (n:=(8:Int)-1) (by decide)]at e;rw[F93.eq_1,aM (show¬n<0 by omega)]<;>grind
theorem Wx{N:Nat}{n:Int}(h:0<=n/\n<=4000000):F76 N n=some (up 8 n):=by rw[F76.eq_1,A1 (.inr rfl) h];rfl
theorem Ks{s:List Int}{i:Nat}{t:Int}(h:s[i]?=some t):oN ts (s.take (i+1))=oN ts (s.take i)+wide ts t:=by rw[take_succ h,N9];simp[oN]
theorem HD{N:Nat}(hN:1300<N)(hv:gS ts xs fs)(f:Func){s:List Int}(hs:Km ts s)(hl:s.length<=1000):Pz N (ts,xs,fs,f.1,f.2.1,f.2.2.1,f.2.2.2.1,f.2.2.2.2.1,f.2.2.2.2.2.1,f.2.2.2.2.2.2,s)=some (oN ts s,0):=by obtain⟨z,hz,he⟩:=fO (l:=s) (g:=λv:Int=>(.inr v:(Int×Int)⊕Int)) (Inv:=λi v=>v=oN ts (s.take i)) (Lf:=λk i v=>f152.bz N k (v,s,(s.length:Int),i,ts,xs,fs,f.1,f.2.1,f.2.2.1,f.2.2.2.1,f.2.2.2.2.1,f.2.2.2.2.2.1,f.2.2.2.2.2.2)) (λk v _=>by simp only[f152.bz.eq_2,aJ,af]) (λk i t v ht hI=>by
 have hi:=aC ht;have hm:=hs t (aU ht);obtain⟨_,z1,z2⟩:=hv.size hm;obtain⟨w1,w2⟩:=hv.wide hm;obtain⟨y1,y2⟩:=(hs.take i).oN hv;have Oy:(s.take i).length<=1000:=by rw[lr];omega
 refine⟨v+wide ts t,by rw[hI,Ks ht],?_⟩;simp only[f152.bz.eq_2,aG hi,aq,aD ht,ae,NY hN hv.fit.1.1 hv.HB.1 hm,bb z2,gR,af,aeM (N:=N) (n:=(fC (exs ts) t).1) (by omega),ai (show i<9223372036854775807by omega)];rw[show up 8 (fC (exs ts) t).1=wide ts t from rfl,aI (by omega)]) (k:=N) (s:=0) (by simp[oN]) (by omega);rw[Pz.eq_1,he,hz,fi];rfl
theorem MJ{N:Nat}(hN:1300<N)(hv:gS ts xs fs){s:List Int}(hs:Km ts s)(hl:s.length<=1000):Mb N (ts,xs,fs,s)=some (oN ts s):=by obtain⟨z,hz,he⟩:=fO (l:=s) (g:=λv:Int=>v) (Inv:=λi v=>v=oN ts (s.take i)) (Lf:=λk i v=>f183.cW N k (s,(cE 1000000 ts ts.length).map (·.1),v,i)) (λk v _=>by simp only[f183.cW.eq_2,aJ,af]) (λk i t v ht hI=>by
 have hi:=aC ht;have hm:=hs t (aU ht);obtain⟨z0,z1,z2⟩:=hv.size hm;obtain⟨w1,w2⟩:=hv.wide hm;obtain⟨y1,y2⟩:=(hs.take i).oN hv;have Oy:(s.take i).length<=1000:=by rw[lr];omega
 have hx:idx ((cE 1000000 ts ts.length).map (·.1)) t=some (fC (exs ts) t).1:=by rw[z0];exact xe (g:=λe:Ex=>e.1) (rD (by rw[ff];exact hm))
 refine⟨v+wide ts t,by rw[hI,Ks ht],?_⟩;simp only[f183.cW.eq_2,aG hi,aq,aD ht,ae,hx,Wx (N:=N) (n:=(fC (exs ts) t).1) (by omega),ai (show i<9223372036854775807by omega)];rw[show up 8 (fC (exs ts) t).1=wide ts t from rfl,aI (by omega)]) (k:=N) (s:=0) (by simp[oN]) (by omega);rw[Mb.eq_1,Db (by omega) hv.fit.1.1.1 hv.HB.1.2.1,ae,he,hz,fi];rfl
theorem Dx{N:Nat}{l m:List Int}(hl:l.length<N)(hb:l.length<9223372036854775807):PW N (l,m)=some (decide (l=m)):=by
 rw[PW.eq_1,Dg];by_cases h:l.length=m.length;.have key:=uk (l:=l) (m:=m) (a:=(.inr ():Bool⊕Unit)) (b:=.inl false) (Lf:=λk i=>f213.aP N k (l,m,i)) h (λk=>by simp only[f213.aP.eq_2,aJ,af]) (λk i x y _ _ h1 h2=>by
  simp only[f213.aP.eq_2,aG (aC h1),aq,aD h1,aD h2,ae,ai (show i<9223372036854775807by have:=aC h1;omega)];by_cases hxy:x=y;.subst hxy;simp
  .rw[be hxy,show(x !=y)=true by simp[bne,hxy]];rfl) N hl;grind
 .rw[bv h,bv (λe=>h (by rw[e]))];rfl
theorem Qz{N:Nat}{l m:List Int}(hl:l.length<N)(hb:l.length<9223372036854775807):TH N (l,m)=some (decide (l=m)):=by
 rw[TH.eq_1,Dg];by_cases h:l.length=m.length;.have key:=uk (l:=l) (m:=m) (a:=(.inr ():Bool⊕Unit)) (b:=.inl false) (Lf:=λk i=>f151.aP N k (l,m,(l.length:Int),i)) h (λk=>by simp only[f151.aP.eq_2,aJ,af]) (λk i x y _ _ h1 h2=>by
  simp only[f151.aP.eq_2,aG (aC h1),aq,aD h1,aD h2,ae,ai (show i<9223372036854775807by have:=aC h1;omega)];by_cases hxy:x=y;.subst hxy;simp
  .rw[be hxy,show(x !=y)=true by simp[bne,hxy]];rfl) N hl;grind
 .rw[bv h,bv (λe=>h (by rw[e]))];rfl
theorem Dy(hv:gS ts xs fs){x:Instr}(hn:called x<fs.length)(h0:0<=called x):∃g,idx fs (called x)=some g/\takes (fD fs) x=(g.2.2.2.1.take g.2.1.toNat).map (·.2)/\eX ts.length g/\((takes (fD fs) x).length:Int)=g.2.1/\(takes (fD fs) x).length<=16:=by
 obtain⟨g,g1,g2,g3⟩:=Dt (fs:=fs) ⟨h0,hn⟩;have hg:=hv.get g2;have ht:takes (fD fs) x=(g.2.2.2.1.take g.2.1.toNat).map (·.2):=by unfold takes;rw[bb h0,g3];rfl
 have hp:=hg.2.2.2.1;have D4:=hg.2.1<;>grind
theorem vC{x:Instr}(h:¬0<=called x):takes (fD fs) x=[]:=by unfold takes<;>grind
theorem Wy{x:Instr}(h:x.1=24):called x=-1:=by unfold called<;>grind
theorem MK{a b:Nat}(ha:a<=10000000)(hb:b<=10000000):av ((a:Int)-(b:Int))=(a:Int)-(b:Int):=aI (by omega)
theorem aeN(hv:gS ts xs fs){sl:List Field}(hr:jW sl ts.length){x:Instr}(hc:eA x=true)(hn:nB xs.length (fD fs) sl x){s s':List Int}(hs:Km ts s)(h:Qv ts (fD fs) sl x s=some s'):Km ts s'/\s'.length<=512:=by
 obtain⟨t,h1,h2⟩:=kb.1 h;split at h2;case isFalse=>cases h2
 cases fb h2;have ho:Km ts s':=by
  unfold rest at h1;split at h1
  .rename_i DJ;cases fb h1;intro y hy;rcases bj.1 hy with hy|hy;.exact hs y hy
   .rw[bo.1 hy];obtain⟨s1,_,_⟩:=iV hc (p:=114) (q:=45) (r:=45) (by rw[DJ];rfl);obtain⟨b0,b1⟩:=s1 (.inr rfl);exact pV hr ⟨b0,hn.1 _ b1⟩
  .split at h1;.cases fb h1;exact hs.take _
   grind
 have:=(ho.oN hv).1<;>grind
theorem alm{N:Nat}(hN:1300<N)(hv:gS ts xs fs){f:Func}(hr:jW f.2.2.2.1 ts.length){x:Instr}(hc:eA x=true)(hn:nB xs.length (fD fs) f.2.2.2.1 x){s:List Int}(hs:Km ts s)(hl:s.length<=600):∃r b,Hf N (ts,xs,fs,f.1,f.2.1,f.2.2.1,f.2.2.2.1,f.2.2.2.2.1,f.2.2.2.2.2.1,f.2.2.2.2.2.2,x.1,x.2.1,x.2.2.1,x.2.2.2,s)=some (r,b)/\Qv ts (fD fs) f.2.2.2.1 x s=if b=true then some r else none:=by
 have nM:=hn.2.1;rw[pJ]at nM;have fin:∀t:List Int,(if oN ts t<=4096then some t else none)=if decide (oN ts t<=4096)=true then some t else none:=λt=>by by_cases h:oN ts t<=4096<;>simp[h]
 by_cases DJ:x.1=24
 .obtain⟨s1,_,_⟩:=iV hc (p:=114) (q:=45) (r:=45) (by rw[DJ];rfl);obtain⟨b0,b1⟩:=s1 (.inr rfl);have hT:=pV hr ⟨b0,hn.1 _ b1⟩;have ho:Km ts (s++[fh f.2.2.2.1 x.2.1]):=λy hy=>by
   rcases bj.1 hy with hy|hy;.exact hs y hy
   .rw[bo.1 hy];exact hT
  have hlen:(s++[fh f.2.2.2.1 x.2.1]).length<=1000:=by grind
  refine⟨s++[fh f.2.2.2.1 x.2.1],decide (oN ts (s++[fh f.2.2.2.1 x.2.1])<=4096),?_,?_⟩;.have aln:ah7 N s=some s:=rfl;rw[Hf.eq_1];simp[show(x.1==(24:Int))=true by simpa using DJ,aq,aln,aa7,ae,ak (show s.length+1<=10000000by omega) (show 8<=1000by omega),aj,xq,Wy DJ,show decide ((-1:Int)>=0)=false from rfl,af,HD hN hv f ho hlen,show((0:Int)==0)=true from rfl]
  .unfold Qv rest<;>grind
 .have aeO:(x.1==(24:Int))=false:=by grind
  by_cases h0:0<=called x
  .obtain⟨g,g1,g2,g3,g4,g5⟩:=Dy hv nM h0;by_cases hle:(takes (fD fs) x).length<=s.length
   .have hwi:av ((s.length:Int)-g.2.1)=((s.length-(takes (fD fs) x).length:Nat):Int):=by rw[<-g4,MK (by omega) (by omega)];omega
    have hdl:(s.drop (s.length-(takes (fD fs) x).length)).length=(takes (fD fs) x).length:=by grind
    have key:=de (l:=s.drop (s.length-(takes (fD fs) x).length)) (g:=λ_:Unit=>(.inr (s,((s.length-(takes (fD fs) x).length:Nat):Int),ts,xs,fs,f.1,f.2.1,f.2.2.1,f.2.2.2.1,f.2.2.2.2.1,f.2.2.2.2.2.1,f.2.2.2.2.2.2):Bool⊕_)) (Out:=λr=>s.drop (s.length-(takes (fD fs) x).length)≠takes (fD fs) x/\r=.inl false) (Inv:=λi _=>∀j,j<i->(s.drop (s.length-(takes (fD fs) x).length))[j]?=(takes (fD fs) x)[j]?) (Lf:=λk i _=>f149.oF N k (s,((s.length-(takes (fD fs) x).length:Nat):Int),s.drop (s.length-(takes (fD fs) x).length),((s.drop (s.length-(takes (fD fs) x).length)).length:Int),i,ts,xs,fs,f.1,f.2.1,f.2.2.1,f.2.2.2.1,f.2.2.2.2.1,f.2.2.2.2.2.1,f.2.2.2.2.2.2,g.1,g.2.1,g.2.2.1,g.2.2.2.1,g.2.2.2.2.1,g.2.2.2.2.2.1,g.2.2.2.2.2.2)) (λk _ _=>by simp only[f149.oF.eq_2,aJ,af]) (λk i y _ hy hI=>by
      have hi:=aC hy;have hit:i<(takes (fD fs) x).length:=by omega
      have hp:=g3.2.2.2.1;have hig:i<g.2.2.2.1.length:=by omega
      have hgi:=al hig;have hti:(takes (fD fs) x)[i]?=some (g.2.2.2.1[i]).2:=by rw[g2,eJ,fx,bb (by omega),hgi];rfl
      simp only[f149.oF.eq_2,aG hi,aq,aD hy,aD hgi,ae,ai (show i<9223372036854775807by omega)];by_cases he:(g.2.2.2.1[i]).2=y
      .refine .inr ⟨(),λj hj=>?_,by rw[show((g.2.2.2.1[i]).2!=y)=false by simp[he],af]⟩;by_cases hji:j=i;.subst hji;rw[hy,hti,he]
       .exact hI j (by omega)
      .exact .inl ⟨_,⟨λe=>he (by rw[e,hti]at hy;exact fb hy),rfl⟩,by rw[show((g.2.2.2.1[i]).2!=y)=true by simp[bne,he],aq]⟩) (k:=N) (s:=()) (λj hj=>by omega) (by omega);have hpre:Hf N (ts,xs,fs,f.1,f.2.1,f.2.2.1,f.2.2.2.1,f.2.2.2.2.1,f.2.2.2.2.2.1,f.2.2.2.2.2.2,x.1,x.2.1,x.2.2.1,x.2.2.2,s)=some (if s.drop (s.length-(takes (fD fs) x).length)=takes (fD fs) x then(s.take (s.length-(takes (fD fs) x).length),decide (oN ts (s.take (s.length-(takes (fD fs) x).length))<=4096))else([],false)):=by
     rw[Hf.eq_1];simp only[aeO,af,ae,xq,aS (show called x>=0from h0),aq,g1,hwi,aM (show¬((s.length-(takes (fD fs) x).length:Nat):Int)<0 by omega),aS (show(0:Int)<=((s.length-(takes (fD fs) x).length:Nat):Int)by omega),bd,aS (show s.length-(takes (fD fs) x).length<=s.length by omega),aj];rcases key with⟨r,⟨k1,rfl⟩,k2⟩|⟨_,k1,k2⟩;.grind
     .have he:s.drop (s.length-(takes (fD fs) x).length)=takes (fD fs) x:=by apply la;grind
      have hlen:(s.take (s.length-(takes (fD fs) x).length)).length<=1000:=by grind
      simp only[k2,ae,bb he,bd,aS (show(0:Int)<=((s.length-(takes (fD fs) x).length:Nat):Int)by omega),aS (show s.length-(takes (fD fs) x).length<=s.length by omega),aj,HD hN hv f (hs.take _) hlen,show((0:Int)==0)=true from rfl,aq]
    by_cases he:s.drop (s.length-(takes (fD fs) x).length)=takes (fD fs) x;.rw[bb he]at hpre;refine⟨_,_,hpre,?_⟩;unfold Qv rest;rw[be DJ,bb ⟨hle,he⟩,ae];exact fin _
    .rw[be he]at hpre;refine⟨_,_,hpre,?_⟩;unfold Qv rest;rw[be DJ,be (λh=>he h.2)];rfl
   .refine⟨[],false,?_,?_⟩
    .have hwi:av ((s.length:Int)-g.2.1)=(s.length:Int)-g.2.1:=by rw[<-g4,MK (by omega) (by omega)]
     rw[Hf.eq_1];simp[aeO,af,ae,xq,aS (show called x>=0from h0),aq,g1,hwi,aS (show(s.length:Int)-g.2.1<0 by omega)]
    .unfold Qv rest<;>grind
  .refine⟨s,decide (oN ts s<=4096),?_,?_⟩;.rw[Hf.eq_1];simp[aeO,af,ae,xq,aM (show¬called x>=0from h0),HD hN hv f hs (show s.length<=1000by omega),show((0:Int)==0)=true from rfl,aq]
   .unfold Qv rest;rw[be DJ,vC h0,bb ⟨by simp,by simp⟩,ae];simp only[lL,wy,fi];exact fin _
theorem Zg{N:Nat}(hN:1300<N)(hv:gS ts xs fs){f:Func}{i:Int}(hf:idx fs i=some f){x:Instr}(nM:called x<fs.length):UO N (ts,xs,fs,i,x.1,x.2.1,x.2.2.1,x.2.2.2)=some (if x.1=24then([],fh f.2.2.2.1 x.2.1)else(takes (fD fs) x,-1)):=by
 rw[UO.eq_1];by_cases DJ:x.1=24;.rw[show(x.1==(24:Int))=true by simpa using DJ,aa8 N hf,bb DJ];rfl
 .rw[show(x.1==(24:Int))=false by simpa using DJ,af,Oa,ae,be DJ];by_cases h0:0<=called x;.obtain⟨g,g1,g2,g3,g4,g5⟩:=Dy hv nM h0;rw[aS (show called x>=0from h0)];have key:=jP (n:=(takes (fD fs) x).length) (Lf:=λk j=>f232.CT N k ((takes (fD fs) x).take j.toNat,called x,j,ts,xs,fs)) (g:=λ_=>some (takes (fD fs) x)) (λk=>by simp only[f232.CT.eq_2,g1,ae];rw[aM (show¬(((takes (fD fs) x).length:Nat):Int)<g.2.1by omega),af,bd,fi]) (λk j hj ih=>by
   have hp:=g3.2.2.2.1;have hjg:j<g.2.2.2.1.length:=by omega
   have hgj:=al hjg;have htj:(takes (fD fs) x)[j]?=some (g.2.2.2.1[j]).2:=by rw[g2,eJ,fx,bb (by omega),hgj];rfl
   have hlen:((takes (fD fs) x).take j).length<=16:=by rw[lr];omega
   simp only[bd]at ih⊢;simp only[f232.CT.eq_2,g1,ae,aS (show(j:Int)<g.2.1by omega),aq,aD hgj,ak (show((takes (fD fs) x).take j).length+1<=10000000by omega) (show 8<=1000by omega),aj,ai (show j<9223372036854775807by omega)];rw[<-ih,take_succ htj]) N 0 (by omega) (by omega);grind
  .rw[aM (show¬called x>=0from h0),af,vC h0]
theorem aeP{N:Nat}(hN:1300<N)(hv:gS ts xs fs){f:Func}{i:Int}(hf:idx fs i=some f)(hr:jW f.2.2.2.1 ts.length){x:Instr}(hc:eA x=true)(hn:nB xs.length (fD fs) f.2.2.2.1 x){s:List Int}(hs:Km ts s)(hl:s.length<=600):∃r b,UR N (ts,xs,fs,i,x.1,x.2.1,x.2.2.1,x.2.2.2,s)=some (r,b)/\Qv ts (fD fs) f.2.2.2.1 x s=if b=true then some r else none:=by
 have nM:=hn.2.1;rw[pJ]at nM;have fin:∀t:List Int,(if oN ts t<=4096then some t else none)=if decide (oN ts t<=4096)=true then some t else none:=λt=>by by_cases h:oN ts t<=4096<;>simp[h]
 rw[UR.eq_1,Zg hN hv hf nM,ae];by_cases DJ:x.1=24
 .obtain⟨s1,_,_⟩:=iV hc (p:=114) (q:=45) (r:=45) (by rw[DJ];rfl);obtain⟨b0,b1⟩:=s1 (.inr rfl);have hT:=pV hr ⟨b0,hn.1 _ b1⟩;have ho:Km ts (s++[fh f.2.2.2.1 x.2.1]):=λy hy=>by
   rcases bj.1 hy with hy|hy;.exact hs y hy
   .rw[bo.1 hy];exact hT
  have hlen:(s++[fh f.2.2.2.1 x.2.1]).length<=1000:=by grind
  have hwi:av ((s.length:Int)-((([]:List Int).length:Nat):Int))=((s.length:Nat):Int):=by rw[aI (by simp;omega)];simp
  refine⟨s++[fh f.2.2.2.1 x.2.1],decide (oN ts (s++[fh f.2.2.2.1 x.2.1])<=4096),?_,?_⟩;.simp only[bb DJ,hwi,aM (show¬((s.length:Nat):Int)<0 by omega),af,aS (show(0:Int)<=((s.length:Nat):Int)by omega),bd,aS (bc s.length),aj,rf,Dx (N:=N) (l:=[]) (m:=[]) (by grind) (by simp),nl,ae,da,fi,gc,ak (show 0+s.length<=10000000by omega) (show 8<=1000by omega),ak (show s.length+1<=10000000by omega) (show 8<=1000by omega),aS (show fh f.2.2.2.1 x.2.1>=0from hT.1),aq,MJ hN hv ho hlen]
  .unfold Qv rest<;>grind
 .have D4:(takes (fD fs) x).length<=16:=by
   by_cases h0:0<=called x;.obtain⟨_,_,_,_,_,g5⟩:=Dy hv nM h0<;>omega
   .rw[vC h0];simp
  have hwi:av ((s.length:Int)-((takes (fD fs) x).length:Int))=(s.length:Int)-((takes (fD fs) x).length:Int):=MK (by omega) (by omega);simp only[be DJ,hwi];by_cases hle:(takes (fD fs) x).length<=s.length
  .have e:(s.length:Int)-((takes (fD fs) x).length:Int)=((s.length-(takes (fD fs) x).length:Nat):Int):=by omega
   have hlen:(s.take (s.length-(takes (fD fs) x).length)).length<=1000:=by grind
   have hdl:(s.drop (s.length-(takes (fD fs) x).length)).length<=1000:=by grind
   simp only[e,aM (show¬((s.length-(takes (fD fs) x).length:Nat):Int)<0 by omega),af,aS (show(0:Int)<=((s.length-(takes (fD fs) x).length:Nat):Int)by omega),bd,aS (show s.length-(takes (fD fs) x).length<=s.length by omega),aj,Dx (N:=N) (l:=s.drop (s.length-(takes (fD fs) x).length)) (m:=takes (fD fs) x) (by omega) (by omega),ae];by_cases he:s.drop (s.length-(takes (fD fs) x).length)=takes (fD fs) x
   .refine⟨s.take (s.length-(takes (fD fs) x).length),decide (oN ts (s.take (s.length-(takes (fD fs) x).length))<=4096),?_,?_⟩;.simp only[aS he,da,af,gc,ak (show 0+(s.take (s.length-(takes (fD fs) x).length)).length<=10000000by omega) (show 8<=1000by omega),aj,show decide ((-1:Int)>=0)=false from rfl,MJ hN hv (hs.take _) hlen,ae]
    .unfold Qv rest<;>grind
   .refine⟨[],false,by simp only[aM he,ge,aq],?_⟩;unfold Qv rest<;>grind
  .refine⟨[],false,by simp only[aS (show(s.length:Int)-((takes (fD fs) x).length:Int)<0 by omega),aq,ae],?_⟩;unfold Qv rest<;>grind
end
end Go.Proofs.YtkdilffhbejjaaaGreat
