/- A part of the proof: Law21tp, Law21tr, Law21ts, Law21tt. -/
import Derived.Test.YtkdilffhbejjaaaGreatLaw21to
import Derived.Test.YtkdilffhbejjaaaGreatTab21t
set_option linter.unusedVariables false
set_option linter.unusedSimpArgs false
namespace Go.Proofs.YtkdilffhbejjaaaGreat
open Go Go.bM Go.Sym
open Classical
theorem lD{d:fS}{r:List fS}(h:ZX (d::r)):d.t.ok d.v/\ZX r:=SF.1 h
theorem Wh{ts:List aA}{fs:List Func}(h1:(Ty.sl bI).ok ts)(h3:(Ty.sl dK).ok fs):N0 ts fs:=by
 refine⟨λt ht=>(h1.2 t ht).2.2.1,λf hf=>?_⟩;obtain⟨_,_,g3,_,g5,g6,g7⟩:=h3.2 f hf;refine⟨g3,λx hx=>?_,λx hx=>?_,λx hx=>?_⟩;.have:=g5.2 x hx;exact⟨this.2.1,this.2.2.1,this.2.2.2⟩
 .exact(g6.2 x hx).2
 .exact(g7.2 x hx).2
end Go.Proofs.YtkdilffhbejjaaaGreat
namespace Go.Proofs.YtkdilffhbejjaaaGreat
open Go Go.bM Go.Sym
open Classical
noncomputable def YV(l:List Int)(o:Nat)(bs:List Int):List Int:=l.take o++(bs++l.drop (o+bs.length))
noncomputable def wb(v k:Nat):Int:=((v/256^k%256:Nat):Int)
noncomputable def Wi(v:Nat):List Int:=(List.range 8).map (wb v)
section
variable{N:Nat}{ts:List aA}{xs:List (List UInt8)}{fs:List Func}
noncomputable def ak9(l:List Int)(v w r:Nat):List Int:=YV (YV (YV l 0 (Wi v)) 8 (Wi w)) 16 (Wi r)
noncomputable def szF(ts:List aA)(f:Field):Nat:=(fC (exs ts) f.2).1.toNat
noncomputable def aa3(ts:List aA)(f:Field):Nat:=(up 8 (fC (exs ts) f.2).1).toNat
noncomputable def aa4(ts:List aA):List Field->Nat|[]=>0|f::r=>aa3 ts f+aa4 ts r
noncomputable def aa5(ts:List aA)(A:List Int):Nat->List Field->List Int->List Int->List Int|_,[],own,_=>own|i,f::r,own,args=>aa5 ts A (i+1) r (YV own (24+(A.getD i 0).toNat) (args.take (szF ts f))) (args.drop (aa3 ts f))
theorem Wj{x:List Ex}(hx:EX 1048576 x):∀(fs:List Field)(s a:Int),0<=s->s+fs.length*263<=10000->(∀f,f∈fs->(fC x f.2).1<=256)->s<=(fQ 1048576 x s a fs).2.1/\∀(i:Nat)f,fs[i]?=some f->0<=(fQ 1048576 x s a fs).1.getD i 0/\(fQ 1048576 x s a fs).1.getD i 0+(fC x f.2).1<=(fQ 1048576 x s a fs).2.1|[],s,a,_,_,_=>⟨vx _,λi f h=>by simp at h⟩|f::r,s,a,h0,hs,hf=>by obtain⟨e1,e2,e3⟩:=hx.get (by omega) f.2;have ap6:=hf f (cb ..);have hu:=oK e1 h0;simp at hs;obtain⟨g1,g2⟩:=Wj hx r (up (fC x f.2).2 s+(fC x f.2).1) (max a (fC x f.2).2) (by omega) (by omega) (λg hg=>hf g (dl _ hg));simp only[fQ]<;>grind
end
end Go.Proofs.YtkdilffhbejjaaaGreat
namespace Go.Proofs.YtkdilffhbejjaaaGreat
open Go Go.bM Go.Sym
open Classical
noncomputable def gG(b:Int)(l:List Int):Prop:=b%16777216=0/\1<=b/16777216/\b/16777216<=16/\l.length%8=0/\l.length<=4096
noncomputable def iM(m r:Int):Prop:=m<=3/\(r≠0↔2<=m)
noncomputable def u64(v:Int):Prop:=0<=v/\v<=18446744073709551615
noncomputable def HP(l:List Int):Prop:=∀x,x∈l->0<=x/\x<=255
section
variable{N:Nat}{ts:List aA}{xs:List (List UInt8)}{fs:List Func}
theorem Ai{b:Int}{l:List Int}(hb:u64 b):F35 N (b,l)=some (if gG b l then 0 else 8):=by
 have e0:Int.tmod (l.length:Int) 8=((l.length%8:Nat):Int):=by grind
 obtain⟨h0,h1⟩:=hb;rw[F35.eq_1,nW h0,AU h0,aR (by omega),e0];by_cases c1:b%16777216=0
 .rw[show(b%16777216!=0)=false by simpa using c1,af];by_cases c2:b/16777216<1;.rw[aS c2,be λh=>by have:=h.2.1;omega];rfl
  .rw[aM c2,af];by_cases c3:b/16777216>16;.rw[aS c3,be λh=>by have:=h.2.2.1;omega];rfl
   .rw[aM c3,af];by_cases c4:l.length%8=0
    .rw[show(((l.length%8:Nat):Int)!=0)=false by simp;omega,af];by_cases c5:(l.length:Int)>4096;.rw[aS c5,be λh=>by have:=h.2.2.2.2;omega];rfl
     .rw[aM c5,bb ⟨c1,by omega,by omega,c4,by omega⟩];rfl
    .rw[show(((l.length%8:Nat):Int)!=0)=true by simp;omega,be λh=>c4 h.2.2.2.1];rfl
 .rw[show(b%16777216!=0)=true by simpa using c1,be λh=>c1 h.1];rfl
theorem Di(hN:1300<N){b:Int}{l:List Int}(hb:u64 b):F48 N (b,l)=some (decide (gG b l)):=by
 have e0:Int.tmod (l.length:Int) 8=((l.length%8:Nat):Int):=by grind
 have key:∀(m g:Nat)(k:Nat),g+m=17->1<=g->m<k->(∀q:Int,1<=q->q<(g:Int)->b≠16777216*q)->(f48.gM N k ((g:Int),b,l)=some (.inl (decide (gG b l)))\/(f48.gM N k ((g:Int),b,l)=some (.inr ())/\¬gG b l)):=by intro m;induction m with|zero=>intro g k hg _ hk hn;obtain⟨k,rfl⟩:∃m,k=m+1:=⟨k-1,by omega⟩;right;refine⟨by rw[f48.gM.eq_2,aM (show¬(g:Int)<=16by omega),af],λh=>?_⟩;obtain⟨a1,a2,a3,_⟩:=h<;>grind|succ m ih=>
   intro g k hg h1 hk hn;obtain⟨k,rfl⟩:∃m,k=m+1:=⟨k-1,by omega⟩;rw[f48.gM.eq_2,aS (show(g:Int)<=16by omega),aq,aR (n:=16777216*(g:Int)) (by omega),aR (n:=(g:Int)+1) (by omega)];by_cases hc:b=16777216*(g:Int)
   .left;rw[show(b==16777216*(g:Int))=true by simpa using hc,aq,e0];by_cases c4:l.length%8=0;.rw[show(((l.length%8:Nat):Int)==0)=true by simp;omega,aq,ae];congr 2;rw[ka];exact⟨λh=>⟨by omega,by omega,by omega,c4,by omega⟩,λh=>by have:=h.2.2.2.2;omega⟩
    .rw[show(((l.length%8:Nat):Int)==0)=false by simp;omega,af,ae,aM (show¬gG b l fromλh=>c4 h.2.2.2.1)]
   .rw[show(b==16777216*(g:Int))=false by simpa using hc];exact ih (g+1) k (by omega) (by omega) (by omega) λq q1 q2=>by
     by_cases e:q=(g:Int);.rw[e];exact hc
     .exact hn q q1 (by omega)
 rw[F48.eq_1];rcases key 16 1 N (by omega) (by omega) (by omega) (λq q1 q2=>by omega)with h|⟨h,h'⟩<;>grind
theorem Qn{m r:Int}:F69 N (m,r)=some (decide (iM m r)):=by
 rw[F69.eq_1];by_cases c:m<=3
 .rw[aS c,aq];by_cases c1:r=0<;>by_cases c2:2<=m;.rw[aM (show¬iM m r fromλh=>h.2.2 c2 c1),show(r !=0)=false by simpa using c1,aS (show m>=2by omega)];rfl
  .rw[aS (show iM m r from⟨c,λh=>absurd c1 h,λh=>absurd h c2⟩),show(r !=0)=false by simpa using c1,aM (show¬m>=2by omega)];rfl
  .rw[aS (show iM m r from⟨c,λ_=>c2,λ_=>c1⟩),show(r !=0)=true by simpa using c1,aS (show m>=2by omega)];rfl
  .rw[aM (show¬iM m r fromλh=>c2 (h.2.1 c1)),show(r !=0)=true by simpa using c1,aM (show¬m>=2by omega)];rfl
 .rw[aM c,aM (show¬iM m r fromλh=>c h.1)];rfl
theorem Qo{m r:Int}(hm:0<=m)(hr:0<=r):F53 N (m,r)=some (decide (iM m r)):=by
 have hq:∀k:Int,m≠k->(m==k)=false:=λk h=>by simpa using h
 have h4:m=0\/m=1\/m=2\/m=3\/3<m:=by omega
 rw[F53.eq_1];by_cases c1:r=0
 .subst c1;rcases h4 with rfl|rfl|rfl|rfl|h;.rw[aS (show iM 0 0from⟨by decide,by decide⟩)];rfl
  .rw[aS (show iM 1 0from⟨by decide,by decide⟩)];rfl
  .rw[aM (show¬iM 2 0fromλh=>absurd (h.2.2 (by decide)) (by decide))];rfl
  .rw[aM (show¬iM 3 0fromλh=>absurd (h.2.2 (by decide)) (by decide))];rfl
  .rw[hq 0 (by omega),hq 1 (by omega),hq 2 (by omega),hq 3 (by omega),aM (show¬iM m 0fromλh'=>by have:=h'.1;omega)];rfl
 .have hp:(r==0)=false:=by grind
  rw[hp,aS (show r>0 by omega)];rcases h4 with rfl|rfl|rfl|rfl|h;.rw[aM (show¬iM 0 r fromλh=>absurd (h.2.1 c1) (by decide))];rfl
  .rw[aM (show¬iM 1 r fromλh=>absurd (h.2.1 c1) (by decide))];rfl
  .rw[aS (show iM 2 r from⟨by decide,λ_=>by decide,λ_=>c1⟩)];rfl
  .rw[aS (show iM 3 r from⟨by decide,λ_=>by decide,λ_=>c1⟩)];rfl
  .rw[hq 0 (by omega),hq 1 (by omega),hq 2 (by omega),hq 3 (by omega),aM (show¬iM m r fromλh'=>by have:=h'.1;omega)];rfl
noncomputable def Kc(fs:List Func)(n:Nat):List Field:=(gj fs n).2.2.2.1.take (gj fs n).2.1.toNat
noncomputable def aeD(ts:List aA)(fs:List Func)(n back mode rec:Nat)(args:List Int):List Int:=aa5 ts (lay ts (gj fs n).2.2.2.1).1 0 (Kc fs n) (ak9 (List.replicate (24+uJ ts (gj fs n).2.2.2.1).toNat 0) back mode rec) args
noncomputable def aul(b:Int)(l:List Int)(ts:List aA)(xs:List (List UInt8))(fs:List Func)(f:Int)(back mode rec:Nat)(args:List Int)(limit:Int):Int×List Int×Int×Int:=if gG b l then if jD ts xs fs=0then if 0<=f/\f<fs.length/\iM mode rec/\0<=limit/\limit<=4096/\args.length=aa4 ts (Kc fs f.toNat)then if(l.length:Int)+(24+uJ ts (gj fs f.toNat).2.2.2.1)>limit then(0,[],0,18)else(b,l++aeD ts fs f.toNat back mode rec args,b+l.length,0)else(0,[],0,2)else(0,[],0,jD ts xs fs)else(0,[],0,8)
end
end Go.Proofs.YtkdilffhbejjaaaGreat
namespace Go.Proofs.YtkdilffhbejjaaaGreat
open Go Go.bM Go.Sym
open Classical
noncomputable def fV(l:List Int)(o:Nat):Int:=l.getD o 0+256*l.getD (o+1) 0+65536*l.getD (o+2) 0+16777216*l.getD (o+3) 0+4294967296*l.getD (o+4) 0+1099511627776*l.getD (o+5) 0+281474976710656*l.getD (o+6) 0+72057594037927936*l.getD (o+7) 0
theorem dn{l:List Int}(hb:HP l)(i:Nat):0<=l.getD i 0/\l.getD i 0<=255:=by rw[ci];cases e:l[i]?with|none=>grind|some x=>exact hb x (aU e)
theorem j5{l:List Int}(hb:HP l)(o:Nat):0<=fV l o/\fV l o<=18446744073709551615:=by have:=dn hb o;have:=dn hb (o+1);have:=dn hb (o+2);have:=dn hb (o+3);have:=dn hb (o+4);have:=dn hb (o+5);have:=dn hb (o+6);have:=dn hb (o+7);unfold fV;omega
theorem Wl{v x:Int}(hv:0<=v/\v<72057594037927936)(hx:0<=x/\x<=255):Ct .u64 (aL (v*256)) (aL x)=v*256+x:=by
 obtain⟨a,rfl⟩:=du hv.1;obtain⟨i,rfl⟩:=du hx.1;rw[aR (by omega),aR (by omega),show(a:Int)*256=((256*a:Nat):Int)by omega];unfold Ct;have e:(BitVec.ofInt IntKind.u64.bits ((256*a:Nat):Int)|||BitVec.ofInt IntKind.u64.bits (i:Int)).toNat=256*a+i:=by show(BitVec.ofInt 64 ((256*a:Nat):Int)|||BitVec.ofInt 64 (i:Int)).toNat=_;rw[mt,mt,BitVec.toNat_or,nb,nb,pt (by omega),pt (by omega),aeA a i (by omega)]
 refine(aR (by omega)).trans ?_;omega
section
variable{N:Nat}{ts:List aA}{xs:List (List UInt8)}{fs:List Func}
theorem Qp(hN:1300<N){l:List Int}(hb:HP l){o:Nat}(ho:o+8<=l.length)(hl:l.length<=100000)(b:Int):f56.mq N N ((o:Int),0,7,b,l)=some (fV l o):=by
 have ix:∀j:Nat,j<8->idx l (av ((o:Int)+(j:Int)))=some (l.getD (o+j) 0):=λj hj=>by rw[Vw (by omega)];exact cq _ (by omega)
 have b0:=dn hb o;have b1:=dn hb (o+1);have b2:=dn hb (o+2);have b3:=dn hb (o+3);have b4:=dn hb (o+4);have b5:=dn hb (o+5);have b6:=dn hb (o+6);have b7:=dn hb (o+7);have step:∀(k j:Nat)(v:Int),j<8->0<=v/\v<72057594037927936->f56.mq N (k+1) ((o:Int),v,(j:Int),b,l)=f56.mq N k ((o:Int),v*256+l.getD (o+j) 0,(j:Int)-1,b,l):=λk j v hj hv=>by rw[f56.mq.eq_2,aS (show(j:Int)>=0 by omega),aq,ix j hj,ae,Wl hv (dn hb _),aI (by omega)]
 obtain⟨k,hk⟩:∃k,N=k+9:=⟨N-9,by omega⟩;have key:f56.mq N (k+9) ((o:Int),0,7,b,l)=some (fV l o):=by rw[show(7:Int)=((7:Nat):Int)from rfl,step _ 7 _ (by omega) (by omega),show((7:Nat):Int)-1=((6:Nat):Int)from rfl,step _ 6 _ (by omega) (by omega),show((6:Nat):Int)-1=((5:Nat):Int)from rfl,step _ 5 _ (by omega) (by omega),show((5:Nat):Int)-1=((4:Nat):Int)from rfl,step _ 4 _ (by omega) (by omega),show((4:Nat):Int)-1=((3:Nat):Int)from rfl,step _ 3 _ (by omega) (by omega),show((3:Nat):Int)-1=((2:Nat):Int)from rfl,step _ 2 _ (by omega) (by omega),show((2:Nat):Int)-1=((1:Nat):Int)from rfl,step _ 1 _ (by omega) (by omega),show((1:Nat):Int)-1=((0:Nat):Int)from rfl,step _ 0 _ (by omega) (by omega),f56.mq.eq_2,show decide (((0:Nat):Int)-1>=0)=false from rfl,af];congr 1;unfold fV;simp only[fa];omega
 rw[<-hk]at key;exact key
noncomputable def uK(b:Int)(l:List Int):Prop:=8<=b/\b<=1099511627776/\b%8=0/\l.length<=20000
theorem FH{b:Int}{l:List Int}(h:gG b l):uK b l:=by obtain⟨h1,h2,h3,h4,h5⟩:=h;exact⟨by omega,by omega,by omega,by omega⟩
theorem ur{b:Int}{l:List Int}(h:uK b l):F15 N (b,l)=some 0:=by obtain⟨h1,h2,h3,h4⟩:=h;rw[F15.eq_1,F27.eq_1,aS (show b>=8by omega),aq,aS h2,aq,nW (by omega),show(b%8==0)=true by simpa using h3,ae,ae,da,af,aM (show¬(l.length:Int)>20000by omega)];rfl
theorem Dj{b:Int}{l:List Int}(h:uK b l){a:Int}(ha:u64 a){n:Nat}(hn:n<=100):∃i,F77 N (b,l,a,(n:Int))=some (i,decide (b<=a/\a-b+n<=l.length))/\(b<=a/\a-b+n<=l.length->i=a-b):=by
 obtain⟨h1,h2,h3,h4⟩:=h;obtain⟨a1,a2⟩:=ha;rw[F77.eq_1];by_cases c1:a<b;.exact⟨0,by rw[aS c1,aM (show¬(b<=a/\a-b+n<=l.length)by omega)];rfl,by omega⟩
 .rw[aM c1,af,aR (n:=a-b) (by omega),aR (n:=(l.length:Int)) (by omega),ae];by_cases c2:a-b>(l.length:Int);.exact⟨0,by rw[aS c2,aM (show¬(b<=a/\a-b+n<=l.length)by omega)];rfl,by omega⟩
  .rw[aM c2,af,aI (n:=a-b) (by omega),aI (by omega)];refine⟨a-b,?_,λ_=>rfl⟩<;>grind
theorem Mz{b:Int}{l:List Int}(h:uK b l){a:Int}(ha:u64 a){n:Nat}(hn:n<=100):F55 N (b,l,a,(n:Int))=some (decide (b<=a/\a-b+n<=l.length),0):=by obtain⟨i,e,_⟩:=Dj (N:=N) h ha hn;rw[F55.eq_1,ur h,ae,gR,aM (show¬(n:Int)<0 by omega),af,e];rfl
theorem mG(hN:1300<N){b:Int}{l:List Int}(h:uK b l)(hb:HP l){o:Nat}(ho:o+8<=l.length):QU N (b,l,b+o,8)=some (fV l o,0):=by obtain⟨i,e,hi⟩:=Dj (N:=N) h (a:=b+o) ⟨by have:=h.1;omega,by have:=h.2.1;have:=h.2.2.2;omega⟩ (n:=8) (by omega);have hi:=hi (by omega);rw[show b+(o:Int)-b=(o:Int)by omega]at hi;subst hi;rw[aS (show b<=b+(o:Int)/\b+(o:Int)-b+((8:Nat):Int)<=(l.length:Int)by omega),show((8:Nat):Int)=8from rfl]at e;rw[QU.eq_1,F78.eq_1,ur h,ae,gR,af,show((8:Int)!=1)=true from rfl,aq,show((8:Int)!=8)=false from rfl,ae,af,e,ae];rw[da,af,ae];rw[gR,show av ((8:Int)-1)=7from rfl,Qp hN hb ho (by have:=h.2.2.2;omega)];rfl
theorem aa6{b:Int}{l:List Int}(h:uK b l){a:Int}(ha:u64 a){n:Nat}(hn:n<=100):F51 N (b,l,a,(n:Int))=some (decide (b<=a/\a-b+n<=l.length)):=by
 obtain⟨h1,h2,h3,h4⟩:=h;rw[F51.eq_1,aM (show¬(n:Int)>20000by omega),af,ae];by_cases c:a>2199023255552;.rw[aS c,aM (show¬(b<=a/\a-b+n<=l.length)by omega)];rfl
 .rw[aM c,af];by_cases c2:a>=b;.rw[aS c2,aq,aR (n:=(n:Int)) (by omega),aR (n:=a+n) (by omega),aR (n:=(l.length:Int)) (by omega),aR (by omega),ae]<;>grind
  grind
theorem nA(hN:1300<N){b:Int}{l:List Int}(h:uK b l)(hb:HP l){o:Nat}(ho:o+8<=l.length):QW N (b,l,b+o,8)=some (fV l o):=by
 obtain⟨h1,h2,h3,h4⟩:=h;have b0:=dn hb o;have b1:=dn hb (o+1);have b2:=dn hb (o+2);have b3:=dn hb (o+3);have b4:=dn hb (o+4);have b5:=dn hb (o+5);have b6:=dn hb (o+6);have b7:=dn hb (o+7);have ix:∀j:Nat,j<8->idx l (aL (aL (b+(o:Int)-b)+aL (j:Int)))=some (l.getD (o+j) 0):=λj hj=>by rw[show b+(o:Int)-b=(o:Int)by omega,aR (n:=(o:Int)) (by omega),aR (n:=(j:Int)) (by omega),aR (by omega),show(o:Int)+(j:Int)=((o+j:Nat):Int)by omega];exact cq _ (by omega)
 have step:∀(k j:Nat)(v p:Int),j<8->0<=v->0<=p->v+p*l.getD (o+j) 0<=18446744073709551615->0<=p*l.getD (o+j) 0->f52.bz N (k+1) (b+o,8,v,p,(j:Int),b,l)=f52.bz N k (b+o,8,v+p*l.getD (o+j) 0,aL (p*256),((j+1:Nat):Int),b,l):=λk j v p hj h1 h2 h3 h4=>by rw[f52.bz.eq_2,aS (show(j:Int)<8by omega),aq,ix j hj,ae,aR (n:=l.getD (o+j) 0) (by have:=dn hb (o+j);omega),aR (n:=p*_) (by omega),aR (by omega),ai (by omega)]
 obtain⟨k,hk⟩:∃k,N=k+9:=⟨N-9,by omega⟩;have key:f52.bz N (k+9) (b+o,8,0,1,0,b,l)=some (fV l o):=by rw[show f52.bz N (k+9) (b+(o:Int),8,0,1,0,b,l)=f52.bz N (k+8+1) (b+(o:Int),8,0,1,((0:Nat):Int),b,l)from rfl];rw[step _ 0 0 1 (by omega) (by omega) (by omega) (by simp only[fa];omega) (by simp only[fa];omega),show aL ((1:Int)*256)=256from rfl,step _ 1 _ 256 (by omega) (by simp only[fa];omega) (by omega) (by simp only[fa];omega) (by omega),show aL ((256:Int)*256)=65536from rfl,step _ 2 _ 65536 (by omega) (by simp only[fa];omega) (by omega) (by simp only[fa];omega) (by omega),show aL ((65536:Int)*256)=16777216from rfl,step _ 3 _ 16777216 (by omega) (by simp only[fa];omega) (by omega) (by simp only[fa];omega) (by omega),show aL ((16777216:Int)*256)=4294967296from rfl,step _ 4 _ 4294967296 (by omega) (by simp only[fa];omega) (by omega) (by simp only[fa];omega) (by omega),show aL ((4294967296:Int)*256)=1099511627776from rfl,step _ 5 _ 1099511627776 (by omega) (by simp only[fa];omega) (by omega) (by simp only[fa];omega) (by omega),show aL ((1099511627776:Int)*256)=281474976710656from rfl,step _ 6 _ 281474976710656 (by omega) (by simp only[fa];omega) (by omega) (by simp only[fa];omega) (by omega),show aL ((281474976710656:Int)*256)=72057594037927936from rfl,step _ 7 _ 72057594037927936 (by omega) (by simp only[fa];omega) (by omega) (by simp only[fa];omega) (by omega),f52.bz.eq_2,show decide (((7+1:Nat):Int)<8)=false from rfl,af];congr 1;unfold fV;simp only[fa];omega
 rw[<-hk]at key;rw[QW.eq_1,key];rfl
noncomputable def rX(b:Int)(l:List Int)(a:Int):Int×Int×Int×Int:=if gG b l then if b<=a/\a-b+24<=l.length/\a%8=0then if iM (fV l ((a-b).toNat+8)) (fV l ((a-b).toNat+16))then(fV l (a-b).toNat,fV l ((a-b).toNat+8),fV l ((a-b).toNat+16),0)else(0,0,0,12)else(0,0,0,16)else(0,0,0,8)
theorem N5{a:Int}(ha:u64 a):(Int.tmod a 8!=0)=!decide (a%8=0):=by grind
theorem YW(hN:1300<N){b:Int}{l:List Int}(YX:u64 b)(hb:HP l){a:Int}(ha:u64 a):F39 N (b,l,a)=some (rX b l a):=by
 rw[F39.eq_1,Ai YX,ae,rX];by_cases hs:gG b l
 .have hr:=FH hs;have hh:=Mz (N:=N) hr ha (n:=24) (by omega);rw[show((24:Nat):Int)=24from rfl]at hh;rw[bb hs,bb hs,gR,af,hh,ae];rw[N5 ha];by_cases hc:b<=a/\a-b+24<=l.length
  .rw[aS hc,da,af,ae];by_cases h8:a%8=0
   .rw[aS h8,da,bb ⟨hc.1,hc.2,h8⟩];obtain⟨o,ho⟩:=du (show 0<=a-b by omega);have e0:a=b+(o:Int):=by omega
    have hl4:=hs.2.2.2.2;have ap7:=hs.2.2.1;have pX:=hs.2.1;rw[ho,bd];have l0:=mG (N:=N) hN hr hb (o:=o) (by omega);have l1:=mG (N:=N) hN hr hb (o:=o+8) (by omega);have l2:=mG (N:=N) hN hr hb (o:=o+16) (by omega);have q1:aL (a+8)=b+((o+8:Nat):Int):=by rw[aR (by omega)];omega
    have q2:aL (a+16)=b+((o+16:Nat):Int):=by rw[aR (by omega)];omega
    rw[q1,q2,e0,l0,ae,l1,ae,l2,ae];rw[Qn,ae]<;>grind
   grind
  grind
 grind
theorem Wm(hN:1300<N){b:Int}{l:List Int}(YX:u64 b)(hb:HP l){a:Int}(ha:u64 a):F24 N (b,l,a)=some (rX b l a):=by
 rw[F24.eq_1,Di hN YX,ae,rX];by_cases hs:gG b l
 .have hr:=FH hs;have hin:=aa6 (N:=N) hr ha (n:=24) (by omega);rw[show((24:Nat):Int)=24from rfl]at hin;rw[bb hs,aS hs,da,af,N5 ha,hin,ae];by_cases h8:a%8=0
  .rw[aS h8,da,af,ae];by_cases hc:b<=a/\a-b+24<=l.length
   .rw[aS hc,da,bb ⟨hc.1,hc.2,h8⟩];obtain⟨o,ho⟩:=du (show 0<=a-b by omega);have e0:a=b+(o:Int):=by omega
    have hl4:=hs.2.2.2.2;have ap7:=hs.2.2.1;have pX:=hs.2.1;rw[ho,bd];have l0:=nA (N:=N) hN hr hb (o:=o) (by omega);have l1:=nA (N:=N) hN hr hb (o:=o+8) (by omega);have l2:=nA (N:=N) hN hr hb (o:=o+16) (by omega);have q1:aL (a+8)=b+((o+8:Nat):Int):=by rw[aR (by omega)];omega
    have q2:aL (a+16)=b+((o+16:Nat):Int):=by rw[aR (by omega)];omega
    rw[q1,q2,e0,l0,ae,l1,ae,l2,ae,Qo (j5 hb _).1 (j5 hb _).1,ae]<;>grind
   grind
  grind
 grind
noncomputable def awE(b:Int)(l:List Int)(a:Int):Int×List Int×Int×Int:=if(rX b l a).2.2.2=0then(b,l.take (a-b).toNat,(rX b l a).1,0)else(0,[],0,(rX b l a).2.2.2)
end
theorem Kd{l:List Int}(h:(Ty.sl (.int .u8)).ok l):HP l:=λx hx=>h.2 x hx
end Go.Proofs.YtkdilffhbejjaaaGreat
