/- A part of the proof: Law21tut4, Law21tut5, Law21tut6, Law21tut7. -/
import Derived.Test.YtkdilffhbejjaaaGreatLaw21tut3
set_option linter.unusedVariables false
set_option linter.unusedSimpArgs false
namespace Go.Proofs.YtkdilffhbejjaaaGreat
open Go Go.bM Go.Sym
open Classical
section
variable{N:Nat}{ts:List aA}{xs:List (List UInt8)}{fs:List Func}
noncomputable def rgn(s:Region):Prop:=u64 s.1/\HP s.2
theorem KA{g:Nat}(hg:g<16){l:List Int}:gG (16777216*((g:Int)+1)) l↔l.length%8=0/\l.length<=4096:=by unfold gG;omega
noncomputable def KB(lim:Int)(g:Nat)(s:Region)(x:dY):Prop:=s.1=16777216*((g:Int)+1)/\s.1+s.2.length=x.2.2.1/\(s.2.length:Int)<=lim/\s.2.length%8=0
theorem aqp(hN:14000000<N)(hm:iQ ts xs fs)(hc:jD ts xs fs=0){st:List Region}{rs:List dY}(hs:∀s,s∈st->rgn s)(hr:∀x,x∈rs->Zm x)(hl:st.length=rs.length)(D4:rs.length<=16){kl:Int}(hk:kl<=4096)(sl hp gl hb sp:Int)(bs:List Int):∃r:Int,(r=0\/r=8)/\((f18.cQ N N (st,(st.length:Int),0,ts,xs,fs,sl,kl,hp,gl,hb,bs,st,rs,sp))=some (if r=0then .inr ()else .inl 8))/\f21.gw N N (0,ts,xs,fs,sl,kl,hp,gl,hb,bs,st,rs,sp)=some (if r=0then .inr ()else .inl 8)/\(r=0->∀(g:Nat)s x,st[g]?=some s->rs[g]?=some x->KB kl g s x/\(x.1≠3->∃y W,QV N (s.1,s.2,ts,xs,fs,x.2.1)=some (y::W,0)/\QX N (s.1,s.2,ts,xs,fs,x.2.1)=some (y::W,0)/\yO fs x.2.1.toNat y)):=by
 have key:∀(n g k:Nat),g+n=st.length->n<k->(∀(j:Nat)s x,j<g->st[j]?=some s->rs[j]?=some x->KB kl j s x/\(x.1≠3->∃y W,QV N (s.1,s.2,ts,xs,fs,x.2.1)=some (y::W,0)/\QX N (s.1,s.2,ts,xs,fs,x.2.1)=some (y::W,0)/\yO fs x.2.1.toNat y))->∃r:Int,(r=0\/r=8)/\((f18.cQ N k (st,(st.length:Int),(g:Int),ts,xs,fs,sl,kl,hp,gl,hb,bs,st,rs,sp))=some (if r=0then .inr ()else .inl 8))/\f21.gw N k ((g:Int),ts,xs,fs,sl,kl,hp,gl,hb,bs,st,rs,sp)=some (if r=0then .inr ()else .inl 8)/\(r=0->∀(g:Nat)s x,st[g]?=some s->rs[g]?=some x->KB kl g s x/\(x.1≠3->∃y W,QV N (s.1,s.2,ts,xs,fs,x.2.1)=some (y::W,0)/\QX N (s.1,s.2,ts,xs,fs,x.2.1)=some (y::W,0)/\yO fs x.2.1.toNat y)):=by
  intro n;induction n with|zero=>
   intro g k h1 h2 hI;obtain⟨k,rfl⟩:∃q,k=q+1:=⟨k-1,by omega⟩;refine⟨0,.inl rfl,?_,?_,λ_ j s x h3 h4=>hI j s x (by have:=aC h3;omega) h3 h4⟩;.rw[f18.cQ.eq_2,aM (show¬(g:Int)<(st.length:Int)by omega),af,bb rfl]
   .rw[f21.gw.eq_2,aM (show¬(g:Int)<(st.length:Int)by omega),af,bb rfl]|succ n ih=>
   intro g k h1 h2 hI;obtain⟨k,rfl⟩:∃q,k=q+1:=⟨k-1,by omega⟩;obtain⟨s,es⟩:=mA (l:=st) (i:=g) (by omega);obtain⟨x,ex⟩:=mA (l:=rs) (i:=g) (by omega);have xZ:=hs s (aU es);have hxr:=hr x (aU ex);obtain⟨sb,cZ⟩:=s;obtain⟨x1,x2,x3,x4,x5,x6⟩:=x;obtain⟨⟨pX,uP⟩,Ij⟩:=xZ;obtain⟨⟨hc1,pY⟩,⟨hp1,hp2⟩,_⟩:=hxr;simp only at pX uP Ij hc1 pY hp1 hp2;have hbase:aL (16777216*aL (av ((g:Int)+1)))=16777216*((g:Int)+1):=by rw[aI (by omega),aR (n:=(g:Int)+1) (by omega),aR (by omega)]
   rw[f18.cQ.eq_2,f21.gw.eq_2,aS (show(g:Int)<(st.length:Int)by omega)];simp only[aq,aD es,aD ex,ae,hbase,Od (show g<=100by omega)];by_cases hst:KB kl g (sb,cZ) (x1,x2,x3,x4,x5,x6)
   .obtain⟨c1,c2,c3,c4⟩:=id hst;simp only at c1 c2 c3 c4;have hsk:gG sb cZ:=by rw[c1];exact(KA (by omega)).2 ⟨c4,by omega⟩
    have e1:aL (sb+aL (cZ.length:Int))=sb+cZ.length:=by rw[aR (n:=(cZ.length:Int)) (by omega),aR (by omega)]
    rw[e1,Di (show 1300<N by omega) ⟨pX,uP⟩,aS hsk,r8 c1,r8 c2,aM (show¬(cZ.length:Int)>kl by omega),Oc,r8 (show(cZ.length:Int)%8=0 by omega)];simp only[af,ae,da];by_cases c5:x1=3
    .rw[qB c5,aq,aq,ai (by omega)];exact ih (g+1) k (by omega) (by omega) λj s y h3 h4 h5=>by
      by_cases e:j=g;.subst e;rw[es]at h4;rw[ex]at h5;cases fb h4;cases fb h5;exact⟨hst,λh=>absurd c5 h⟩
      .exact hI j s y (by omega) h4 h5
    .rw[tU c5,af,af];obtain⟨a,rfl⟩:=du hc1;rcases alv (N:=N) (by omega) hm hc ⟨pX,uP⟩ hsk Ij (a:=a) (by omega)with⟨y,W,w1,w2,w3⟩|⟨e,e',e0,e0',w1,w2⟩
     .rw[w1,w2];simp only[ae,gR,af];rw[ai (by omega)];exact ih (g+1) k (by omega) (by omega) λj s y' h3 h4 h5=>by
       by_cases e:j=g;.subst e;rw[es]at h4;rw[ex]at h5;cases fb h4;cases fb h5;exact⟨hst,λ_=>⟨y,W,w1,w2,by simpa using w3⟩⟩
       .exact hI j s y' (by omega) h4 h5
     .rw[w1,w2];simp only[ae,pW e0,pW e0',aq];exact⟨8,.inr rfl,rfl,rfl,λh=>absurd h (by decide)⟩
   .refine⟨8,.inr rfl,?_,?_,λh=>absurd h (by decide)⟩
    .by_cases c1:sb=16777216*((g:Int)+1)
     .by_cases aeH:cZ.length>100000;.rw[r8 c1,af];have:decide ((cZ.length:Int)>kl)=true:=aS (by omega);rw[this];cases(aL (sb+aL (cZ.length:Int))!=x3)<;>rfl
      have e1:aL (sb+aL (cZ.length:Int))=sb+cZ.length:=by rw[aR (n:=(cZ.length:Int)) (by omega),aR (by omega)]
      rw[r8 c1,af,e1];by_cases c2:sb+cZ.length=x3
      .rw[r8 c2,af];by_cases c3:(cZ.length:Int)>kl;.rw[aS c3];rfl
       .rw[aM c3,af,Oc,pW (show(cZ.length:Int)%8≠0fromλh=>hst ⟨c1,c2,by simp only;omega,by simp only;omega⟩)];rfl
      .rw[pW c2];rfl
     .rw[pW c1];rfl
    .by_cases c1:sb=16777216*((g:Int)+1)
     .rw[r8 c1,af,Di (show 1300<N by omega) ⟨pX,uP⟩];by_cases hsk:gG sb cZ
      .have aly:=hsk;rw[c1]at aly;obtain⟨k1,k2⟩:=(KA (by omega)).1 aly;have e1:aL (sb+aL (cZ.length:Int))=sb+cZ.length:=by rw[aR (n:=(cZ.length:Int)) (by omega),aR (by omega)]
       rw[aS hsk,ae,da,af,e1];by_cases c2:sb+cZ.length=x3;.rw[r8 c2,af,aS (show(cZ.length:Int)>kl by false_or_by_contra;rename_i h;exact hst ⟨c1,c2,by simp only;omega,k1⟩)];rfl
       .rw[pW c2];rfl
      .rw[aM hsk];rfl
     .rw[pW c1];rfl
 have:=key st.length 0 N (by omega) (by omega) (λj s x hj=>by omega);exact this
theorem ae3(hN:14000000<N)(hm:iQ ts xs fs){st:List Region}{rs:List dY}(hs:∀s,s∈st->rgn s)(hr:∀x,x∈rs->Zm x)(sl kl hp gl hb sp:Int){bs:List Int}:(F18 N (ts,xs,fs,sl,kl,hp,gl,hb,bs,st,rs,sp)=some 8/\F21 N (ts,xs,fs,sl,kl,hp,gl,hb,bs,st,rs,sp)=some 8)\/(F18 N (ts,xs,fs,sl,kl,hp,gl,hb,bs,st,rs,sp)=some 0/\F21 N (ts,xs,fs,sl,kl,hp,gl,hb,bs,st,rs,sp)=some 0/\jD ts xs fs=0/\dy hb bs/\RVs rs/\st.length=rs.length/\∀(g:Nat)s x,st[g]?=some s->rs[g]?=some x->KB kl g s x/\(x.1≠3->∃y W,QV N (s.1,s.2,ts,xs,fs,x.2.1)=some (y::W,0)/\QX N (s.1,s.2,ts,xs,fs,x.2.1)=some (y::W,0)/\yO fs x.2.1.toNat y)):=by
 rw[F18.eq_1,F21.eq_1,aeZ hN hm,aeV hN hm,Zl (by omega),limited (by omega),A5,Zn (by omega) hr,Zo (by omega) hr];obtain⟨q0,hq0⟩:=DB (N:=N) hb bs;rw[hq0];simp only[ae];by_cases c1:MP ts xs fs=0;rotate_left;.rw[pW c1];exact .inl ⟨rfl,rfl⟩
 rw[r8 c1,af];by_cases c2:DD sl kl hp gl;rotate_left;.rw[be c2,aM c2];exact .inl ⟨rfl,rfl⟩
 rw[bb c2,aS c2,gR,af,da,af];by_cases c3:sp<0;.rw[aS c3];exact .inl ⟨rfl,rfl⟩
 rw[aM c3,af];by_cases c4:sp>sl;.rw[aS c4];exact .inl ⟨rfl,rfl⟩
 rw[aM c4];simp only[af,ae];by_cases c5:dy hb bs;rotate_left;.rw[be c5,aM c5];exact .inl ⟨rfl,rfl⟩
 rw[bb c5,aS c5,gR,af,da,af];by_cases c6:(bs.length:Int)>hp;.rw[aS c6];exact .inl ⟨rfl,rfl⟩
 rw[aM c6];simp only[af,ae];by_cases c7:RVs rs;rotate_left;.rw[be c7];exact .inl ⟨rfl,rfl⟩
 rw[bb c7,gR];simp only[af];by_cases c8:(rs.length:Int)>gl;.rw[aS c8];exact .inl ⟨rfl,rfl⟩
 rw[aM c8];simp only[af,ae];by_cases c9:st.length=rs.length;rotate_left;.rw[pW (show(st.length:Int)≠(rs.length:Int)by omega)];exact .inl ⟨rfl,rfl⟩
 rw[r8 (show(st.length:Int)=(rs.length:Int)by omega)];simp only[af];have hc:=QI c1;have hF:=(yB hc).1;obtain⟨⟨l1,l2⟩,⟨l3,l4⟩,⟨l5,l6⟩,l7,l8⟩:=c2;obtain⟨h,rfl⟩:=du l5;have ht:=MS (N:=N) (by omega) hF.2.1 hF.2.2.2.2.1 (lim:=h) (by omega);have fin:∀b:Bool,b=false->((some (!b):Option Bool)=some true):=λb e=>by rw[e];rfl
 generalize WN h xs []=t at ht;cases t with|none=>obtain⟨⟨q1,t1⟩,q2,q3,t2⟩:=ht;rw[t1,t2];exact .inl ⟨rfl,rfl⟩|some b=>
  obtain⟨pX,⟨q1,t1⟩,q2,t2⟩:=ht;rw[t1,t2];simp only[ae,gR,af,QH];by_cases c10:(b.length:Int)>(bs.length:Int);.rw[aS c10,show vD bs b=false by unfold vD;rw[aM (show¬b.length<=bs.length by omega)];rfl];exact .inl ⟨rfl,rfl⟩
  rw[aM c10,af,aS (show(0:Int)<=(b.length:Int)by omega),aj,bd,aS (show b.length<=bs.length by omega),aj,BEq.comm (a:=b.map _),show(((bs.take b.length).map λ(n:Int)=>UInt8.ofNat n.toNat)==(b.map λ(n:Int)=>UInt8.ofNat n.toNat))=vD bs b by unfold vD;rw[aS (show b.length<=bs.length by omega)];rfl];cases vD bs b with|false=>exact .inl ⟨rfl,rfl⟩|true=>
   simp only[da,af];obtain⟨r,r0,r1,r2,r3⟩:=aqp hN hm hc hs hr c9 c7.1.2 l4 sl (h:Int) gl hb sp bs;rw[r1,r2];rcases r0 with rfl|rfl;.exact .inr ⟨rfl,rfl,hc,c5,c7,c9,r3 rfl⟩
   .exact .inl ⟨rfl,rfl⟩
end
end Go.Proofs.YtkdilffhbejjaaaGreat
namespace Go.Proofs.YtkdilffhbejjaaaGreat
open Go Go.bM Go.Sym
open Classical
section
variable{N:Nat}
noncomputable def xA(l:List Int)(a:Int):Int×Int×Int×Bool×Int×Int:=if 65536<=a/\a-65536+40<=l.length/\a%8=0then if fV l ((a-65536).toNat+16)>=32\/fV l ((a-65536).toNat+24)>1\/(fV l ((a-65536).toNat+24)=0/\fV l ((a-65536).toNat+32)≠0)then(0,0,0,false,0,12)else(fV l (a-65536).toNat,fV l ((a-65536).toNat+8),fV l ((a-65536).toNat+16),fV l ((a-65536).toNat+24)==1,fV l ((a-65536).toNat+32),0)else(0,0,0,false,0,16)
theorem DE{l:List Int}(h:dy 65536 l):uK 65536 l:=by obtain⟨h1,h2,h3⟩:=h;exact⟨by omega,by omega,by omega,by omega⟩
theorem alz(hN:1300<N){l:List Int}(h:dy 65536 l)(hb:HP l){a:Int}(ha:u64 a):F26 N (65536,l,a)=some (xA l a):=by
 have hr:=DE h;obtain⟨q,hq⟩:=DB (N:=N) 65536 l;have hh:=Mz (N:=N) hr ha (n:=40) (by omega);rw[show((40:Nat):Int)=40from rfl]at hh;have h3:=h.2.2;rw[F26.eq_1,hq,bb h,hh];simp only[ae,gR,af];rw[N5 ha];unfold xA;by_cases hc:65536<=a/\a-65536+40<=l.length
 .rw[aS hc,da,af,ae];by_cases h8:a%8=0
  .rw[aS h8,da,af,bb ⟨hc.1,hc.2,h8⟩];obtain⟨o,ho⟩:=du (show 0<=a-65536by omega);have l0:=mG (N:=N) hN hr hb (o:=o) (by omega);have l1:=mG (N:=N) hN hr hb (o:=o+8) (by omega);have l2:=mG (N:=N) hN hr hb (o:=o+16) (by omega);have l3:=mG (N:=N) hN hr hb (o:=o+24) (by omega);have l4:=mG (N:=N) hN hr hb (o:=o+32) (by omega);have q0:aL (a+0)=65536+(o:Int):=by rw[aR (by omega)];omega
   have q1:aL (a+8)=65536+((o+8:Nat):Int):=by rw[aR (by omega)];omega
   have q2:aL (a+16)=65536+((o+16:Nat):Int):=by rw[aR (by omega)];omega
   have q3:aL (a+24)=65536+((o+24:Nat):Int):=by rw[aR (by omega)];omega
   have q4:aL (a+32)=65536+((o+32:Nat):Int):=by rw[aR (by omega)];omega
   rw[ho,bd,q0,q1,q2,q3,q4,l0,l1,l2,l3,l4];simp[ae];have w2:=j5 hb (o+16);generalize fV l (o+16)=f at w2⊢;generalize fV l (o+24)=g;generalize fV l (o+32)=r;have ec:(bif decide (f>=32)then some true else bif decide (g>1)then some true else bif g==0then some (r !=0)else some false)=some (decide (f>=32\/g>1\/(g=0/\r≠0))):=by rw[fP,dg,dg];congr 1;grind
   rw[ec,ae];by_cases hx:f>=32\/g>1\/(g=0/\r≠0);.grind
   .rw[aM hx,be hx,af,aI (by omega)]
  grind
 grind
theorem alA(hN:1300<N){l:List Int}(h:dy 65536 l)(hb:HP l){a:Int}(ha:u64 a):F29 N (65536,l,a)=some (xA l a):=by
 have hr:=DE h;have hh:=aa6 (N:=N) hr ha (n:=40) (by omega);rw[show((40:Nat):Int)=40from rfl]at hh;have h3:=h.2.2;rw[F29.eq_1,A5,aS h,ae,da,af,N5 ha,hh];simp only[ae];unfold xA;by_cases h8:a%8=0
 .rw[aS h8,da,af];by_cases hc:65536<=a/\a-65536+40<=l.length
  .rw[aS hc,ae,da,af,bb ⟨hc.1,hc.2,h8⟩];obtain⟨o,ho⟩:=du (show 0<=a-65536by omega);have e0:a=65536+(o:Int):=by omega
   have l0:=nA (N:=N) hN hr hb (o:=o) (by omega);have l1:=nA (N:=N) hN hr hb (o:=o+8) (by omega);have l2:=nA (N:=N) hN hr hb (o:=o+16) (by omega);have l3:=nA (N:=N) hN hr hb (o:=o+24) (by omega);have l4:=nA (N:=N) hN hr hb (o:=o+32) (by omega);have q1:aL (a+8)=65536+((o+8:Nat):Int):=by rw[aR (by omega)];omega
   have q2:aL (a+16)=65536+((o+16:Nat):Int):=by rw[aR (by omega)];omega
   have q3:aL (a+24)=65536+((o+24:Nat):Int):=by rw[aR (by omega)];omega
   have q4:aL (a+32)=65536+((o+32:Nat):Int):=by rw[aR (by omega)];omega
   rw[ho,bd,q1,q2,q3,q4,e0,l0,l1,l2,l3,l4];simp[ae];have w2:=j5 hb (o+16);have w3:=j5 hb (o+24);have w4:=j5 hb (o+32);generalize fV l (o+16)=f at w2⊢;generalize fV l (o+24)=g at w3⊢;generalize fV l (o+32)=r at w4⊢;have ec:(bif decide (f>=32)then some true else bif g !=0then(bif g !=1then some true else bif g==0then some (decide (r>0))else some false)else bif g==0then some (decide (r>0))else some false)=some (decide (f>=32\/g>1\/(g=0/\r≠0))):=by
    by_cases k1:f>=32;.grind
    .rw[aM k1];by_cases k2:g=0;.rw[r8 k2,qB k2];show some (decide (r>0))=_;congr 1;grind
     .rw[pW k2,tU k2];by_cases k3:g=1;.grind
      .rw[pW k3,aS (show f>=32\/g>1\/(g=0/\r≠0)by omega)];rfl
   rw[ec,ae];by_cases hx:f>=32\/g>1\/(g=0/\r≠0);.grind
   .rw[aM hx,be hx,af,aI (by omega)]
  grind
 grind
theorem MT{l:List Int}{a:Int}(hb:HP l)(h:(xA l a).2.2.2.2.2=0):65536<=a/\a-65536+40<=l.length/\u64 (xA l a).1:=by
 unfold xA at h⊢;split at h
 .rename_i hc;split at h;.grind
  .rename_i hd;rw[bb hc,be hd];exact⟨hc.1,hc.2.1,j5 hb _⟩
 grind
theorem QJ(hN:1300<N){l:List Int}(h:dy 65536 l)(hb:HP l):∀(k:Nat)(a:Int)(c:List lY),u64 a->(a<100000->a<k)->0<k->(c.length:Int)+(if a<100000then a else 100000)<=200000->(∃L,f14.cI N k (a,c,65536,l)=some (.inr L)/\f16.cI N k (c,a,65536,l)=some (.inr L))\/∃e,e≠0/\f14.cI N k (a,c,65536,l)=some (.inl e)/\f16.cI N k (c,a,65536,l)=some (.inl e):=by intro k;induction k with|zero=>omega|succ k ih=>
  intro a c h1 h2 h3 h4;rw[f14.cI.eq_2,f16.cI.eq_2];by_cases h0:a=0;.simp_all
  rw[pW h0,aq,alz hN h hb h1,alA hN h hb h1];simp[ae];by_cases c0:(xA l a).2.2.2.2.2=0
  .obtain⟨d1,d2,d3⟩:=MT hb c0;have hl:=h.2.2;rw[c0,gR,af];by_cases c1:(xA l a).1>=a;.simp_all
   .rw[aM c1,af,af,ak (by omega) (by omega),aj];exact ih _ _ d3 (λ_=>by omega) (by omega) (by rw[bb (by omega),ba];simp;omega)
  .rw[pW c0]<;>simp_all
theorem lists(hN:200000<N){l:List Int}(h:dy 65536 l)(hb:HP l){a:Int}(ha:u64 a):(∃L,F14 N (65536,l,a)=some (L,0)/\F16 N (65536,l,a)=some (L,0))\/∃e,e≠0/\F14 N (65536,l,a)=some ([],e)/\F16 N (65536,l,a)=some ([],e):=by obtain⟨q,hq⟩:=DB (N:=N) 65536 l;rw[F14.eq_1,F16.eq_1,hq,bb h,A5,aS h];rcases QJ (N:=N) (by omega) h hb N a [] ha (λh=>by omega) (by omega) (by split<;>simp<;>omega)with⟨L,h1,h2⟩|⟨e,h0,h1,h2⟩<;>simp_all
end
end Go.Proofs.YtkdilffhbejjaaaGreat
namespace Go.Proofs.YtkdilffhbejjaaaGreat
open Go Go.bM Go.Sym
open Classical
section
variable{N:Nat}{ts:List aA}{xs:List (List UInt8)}{fs:List Func}
theorem Zp(hN:1300<N)(ht:N0 ts fs)(sl kl hp gl hb sp:Int)(bs:List Int)(st:List Region)(rs:List dY):F4 N (ts,xs,fs,sl,kl,hp,gl,hb,bs,st,rs,sp)=some true\/(F4 N (ts,xs,fs,sl,kl,hp,gl,hb,bs,st,rs,sp)=some false/\iQ ts xs fs/\bs.length<=4200/\st.length<=20/\rs.length<=20/\∀s,s∈st->s.2.length<=4200):=by
 rw[F4.eq_1];rcases V5 (N:=N) (xs:=xs) hN ht with h|⟨h,hm⟩;.rw[h];exact .inl rfl
 rw[h];simp only[ae,af];by_cases c1:(bs.length:Int)>4200;.rw[aS c1];exact .inl rfl
 rw[aM c1,af];by_cases c2:(st.length:Int)>20;.rw[aS c2];exact .inl rfl
 rw[aM c2,af];by_cases c3:(rs.length:Int)>20;.rw[aS c3];exact .inl rfl
 rw[aM c3,ae,af];rcases de (l:=st) (g:=λ_:Unit=>(.inr ():Bool⊕Unit)) (Out:=λr=>r=.inl true) (Inv:=λi _=>∀(j:Nat)s,j<i->st[j]?=some s->s.2.length<=4200) (Lf:=λk i _=>f4.aP N k (i,ts,xs,fs,sl,kl,hp,gl,hb,bs,st,rs,sp)) (λk _ _=>by simp only[f4.aP.eq_2,aJ,af]) (λk i s _ hx hI=>by
  have hi:=aC hx;simp only[f4.aP.eq_2,aG hi,aq,aD hx,ae,ai (show i<9223372036854775807by omega)];by_cases hv:(s.2.length:Int)>4200;.exact .inl ⟨_,rfl,by rw[aS hv];rfl⟩
  .exact .inr ⟨(),λj y hj hy=>by
   by_cases e:j=i;.subst e;rw[hx]at hy;rw[<-fb hy];omega
   .exact hI j y (by omega) hy,by rw[aM hv];rfl⟩) (k:=N) (s:=()) (λj x hj=>by omega) (by omega)with⟨r,rfl,h4⟩|⟨_,h3,h4⟩;.rw[h4];exact .inl rfl
 .rw[h4];exact .inr ⟨rfl,hm,by omega,by omega,by omega,λs hs=>by obtain⟨j,hj⟩:=List.getElem?_of_mem hs;exact h3 j s (aC hj) hj⟩
theorem KC(hN:1300<N)(sl kl hp gl hb sp:Int){bs:List Int}{st:List Region}{rs:List dY}(h1:bs.length<=4200)(h2:st.length<=20)(h3:rs.length<=20)(h4:∀s,s∈st->s.2.length<=4200):∃r,F20 N (ts,xs,fs,sl,kl,hp,gl,hb,bs,st,rs,sp)=some r:=by have key:=jP (n:=st.length) (Lf:=λk i=>f20.cW N k ((st.length:Int),i,ts,xs,fs,sl,kl,hp,gl,hb,bs,rs,sp,st,0,0,0,0,0,0)) (g:=λ_=>some (ts,xs,fs,sl,kl,hp,gl,hb,bs,rs,sp,st,0,0,0,0,0,0)) (λk=>by simp only[f20.cW.eq_2,aJ,af]) (λk i hi ih=>by have hx:=al hi;have hb:=h4 _ (f2 hi);simp only[f20.cW.eq_2,aG hi,aq,cl hi,aj,bd,hx,ae,ak (show(st[i]).2.length<=10000000by omega) (show 1<=1000by omega),ai (show i<9223372036854775807by omega)];rw[<-ih,CY hx]) N 0 (by omega) (by omega);simp at key;rw[F20.eq_1,ak (by omega) (by omega),aj,ak (by omega) (by omega),aj,key,ae,ak (by simp only;omega) (by omega),aj]<;>grind
theorem asks(hN:14000000<N)(hm:iQ ts xs fs){st:List Region}{rs:List dY}(hs:∀s,s∈st->rgn s)(hr:∀x,x∈rs->Zm x)(sl kl hp gl hb sp:Int){bs:List Int}(g:Int):(∃e,e≠0/\F10 N (ts,xs,fs,sl,kl,hp,gl,hb,bs,st,rs,sp,g)=some e/\YC N (ts,xs,fs,sl,kl,hp,gl,hb,bs,st,rs,sp,g)=some e)\/(F10 N (ts,xs,fs,sl,kl,hp,gl,hb,bs,st,rs,sp,g)=some 0/\YC N (ts,xs,fs,sl,kl,hp,gl,hb,bs,st,rs,sp,g)=some 0/\jD ts xs fs=0/\dy hb bs/\∃s x y W,idx st g=some s/\idx rs g=some x/\x∈rs/\QV N (s.1,s.2,ts,xs,fs,x.2.1)=some (y::W,0)/\QX N (s.1,s.2,ts,xs,fs,x.2.1)=some (y::W,0)/\yO fs x.2.1.toNat y):=by
 rw[F10.eq_1,YC.eq_1];rcases ae3 (N:=N) hN hm hs hr sl kl hp gl hb sp (bs:=bs)with⟨h1,h2⟩|⟨h1,h2,h3,h4,h5,h6,h7⟩;.rw[h1,h2];exact .inl ⟨8,by decide,rfl,rfl⟩
 rw[h1,h2];simp only[ae,gR,af];by_cases c1:g<0;.rw[aS c1];exact .inl ⟨2,by decide,rfl,rfl⟩
 rw[aM c1,af];by_cases c2:g>=(rs.length:Int);.rw[aS c2];exact .inl ⟨2,by decide,rfl,rfl⟩
 rw[aM c2,af];obtain⟨g,rfl⟩:=du (show 0<=g by omega);obtain⟨x,ex⟩:=mA (l:=rs) (i:=g) (by omega);obtain⟨s,es⟩:=mA (l:=st) (i:=g) (by omega);rw[aD ex,ae,ae];by_cases c3:x.1=3;.rw[qB c3];exact .inl ⟨2,by decide,rfl,rfl⟩
 rw[tU c3];obtain⟨y,W,w1,w2,w3⟩:=(h7 g s x es ex).2 c3;exact .inr ⟨rfl,rfl,h3,h4,s,x,y,W,aD es,rfl,aU ex,w1,w2,w3⟩
theorem WR(hN:14000000<N)(ht:N0 ts fs){st:List Region}{rs:List dY}(hs:∀s,s∈st->rgn s)(hr:∀x,x∈rs->Zm x)(sl kl hp gl hb sp:Int){bs:List Int}(Ij:HP bs)(g:Int):F3 N (ts,xs,fs,sl,kl,hp,gl,hb,bs,st,rs,sp,g)=some true:=by
 rw[F3.eq_1];rcases Zp (N:=N) (xs:=xs) (by omega) ht sl kl hp gl hb sp bs st rs with h|⟨h,hm,b1,b2,b3,b4⟩;.grind
 rw[h,ae,af,F5.eq_1,F6.eq_1,F7.eq_1,F8.eq_1];rcases asks (N:=N) hN hm hs hr sl kl hp gl hb sp (bs:=bs) g with⟨e,e0,h1,h2⟩|⟨h1,h2,h3,h4,s,x,y,W,i1,i2,hx,w1,w2,w3,w4,w5⟩;.grind
 .obtain⟨c,hc⟩:=KC (N:=N) (ts:=ts) (xs:=xs) (fs:=fs) (by omega) sl kl hp gl hb sp b1 b2 b3 b4;have a1:=w3.1;have a2:=w3.2.1;have a3:=w3.2.2;have j1:idx fs y.2.1=some (gj fs (x.2.1.toNat/256-1)):=by rw[w4];exact xj (by omega)
  obtain⟨z,hz⟩:=mA a3;have j2:idx (gj fs (x.2.1.toNat/256-1)).2.2.2.2.1 y.2.2.1=some z:=by rw[w5];exact aD hz
  have hbase:=h4.1;subst hbase;have hu:=(hr x hx).2.2.1;rw[h1,h2];simp[ae,gR,af,i1,i2,w1,w2,hc,show idx (y::W) 0=some y from rfl,j1,j2];rcases lists (N:=N) (by omega) h4 Ij hu with⟨L,l1,l2⟩|⟨e,e0,l1,l2⟩;.rw[l1,l2];simp[ae,gR,af,ur (DE h4),i9,Bool.and_self,aq]
  grind
end
end Go.Proofs.YtkdilffhbejjaaaGreat
namespace Go.Proofs.YtkdilffhbejjaaaGreat
open Go Go.bM Go.Sym
open Classical
theorem ae4{l:List Region}(h:(Ty.sl aX).ok l):∀s,s∈l->rgn s:=λs hs=>by have h1:=h.2 s hs;exact⟨h1.1,Kd h1.2⟩
theorem ae5{l:List dY}(h:(Ty.sl ju).ok l):∀s,s∈l->Zm s:=λs hs=>by have h1:=h.2 s hs;exact⟨h1.2.1,h1.2.2.1,h1.2.2.2.1,h1.2.2.2.2.1⟩
theorem WS:∀x,okL (ki [(36,true,eV),(3,false,(.int .i64))]) x->F3 20000000 x=some true:=by intro x h;obtain⟨h1,h⟩:=lD h;obtain⟨_,h⟩:=lD h;obtain⟨h3,h⟩:=lD h;obtain⟨_,h⟩:=lD h;obtain⟨_,h⟩:=lD h;obtain⟨_,h⟩:=lD h;obtain⟨_,h⟩:=lD h;obtain⟨_,h⟩:=lD h;obtain⟨h9,h⟩:=lD h;obtain⟨WZ,h⟩:=lD h;obtain⟨h11,h⟩:=lD h;obtain⟨ts,xs,fs,sl,kl,hp,gl,hb,bs,st,rs,sp,g⟩:=x;exact WR (N:=20000000) (by omega) (Wh h1 h3) (ae4 WZ) (ae5 h11) sl kl hp gl hb sp (Kd h9) g
end Go.Proofs.YtkdilffhbejjaaaGreat
