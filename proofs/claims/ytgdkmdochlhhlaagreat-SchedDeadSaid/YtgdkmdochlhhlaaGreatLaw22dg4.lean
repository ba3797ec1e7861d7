/- Parts of the proof. -/
import Derived.Test.YtgdkmdochlhhlaaGreatLaw22dp
set_option linter.unusedVariables false
set_option linter.unusedSimpArgs false
set_option linter.defProp false
noncomputable section
namespace Go.Proofs.YtgdkmdochlhhlaaGreat
open Go Go.bL Go.Sym
open Classical
def acj(l:List Int)(o:Nat)(bs:List Int):List Int:=l.take o++(bs++l.drop (o+bs.length))
def wb(v k:Nat):Int:=((v/256^k%256:Nat):Int)
def Zg(v:Nat):List Int:=(List.range 8).map (wb v)
section
variable{N:Nat}{ts:List aB}{xs:List (List UInt8)}{fs:List Func}
def ap7(l:List Int)(v w r:Nat):List Int:=acj (acj (acj l 0 (Zg v)) 8 (Zg w)) 16 (Zg r)
def szF(ts:List aB)(f:Field):Nat:=(fJ (exs ts) f.2).1.toNat
def aey(ts:List aB)(f:Field):Nat:=(up 8 (fJ (exs ts) f.2).1).toNat
def aez(ts:List aB):List Field->Nat|[]=>0|f::r=>aey ts f+aez ts r
def aeA(ts:List aB)(A:List Int):Nat->List Field->List Int->List Int->List Int|_,[],own,_=>own|i,f::r,own,args=>aeA ts A (i+1) r (acj own (24+(A.getD i 0).toNat) (args.take (szF ts f))) (args.drop (aey ts f))
def Zh{x:List Ex}(hx:EX 1048576 x):∀(fs:List Field)(s a:Int),0<=s->s+fs.length*263<=10000->(∀f,f∈fs->(fJ x f.2).1<=256)->s<=(gy 1048576 x s a fs).2.1/\∀(i:Nat)f,fs[i]?=some f->0<=(gy 1048576 x s a fs).1.getD i 0/\(gy 1048576 x s a fs).1.getD i 0+(fJ x f.2).1<=(gy 1048576 x s a fs).2.1
 |[],s,a,_,_,_=>⟨ww _,λi f h=>by simp at h⟩|f::r,s,a,h0,hs,hf=>by
  obtain⟨e1,e2,e3⟩:=hx.get (by omega) f.2;have av4:=hf f (cb ..);have hu:=pX e1 h0;rw[fa]at hs;obtain⟨g1,g2⟩:=Zh hx r (up (fJ x f.2).2 s+(fJ x f.2).1) (max a (fJ x f.2).2) (by omega) (by omega) (λg hg=>hf g (db _ hg));simp only[gy];rw[show min 1048576 (up (fJ x f.2).2 s+(fJ x f.2).1)=up (fJ x f.2).2 s+(fJ x f.2).1by omega]
  refine⟨by omega,λi g hg=>?_⟩;cases i with|zero=>
   have:f=g:=by simpa using hg
   subst this;show 0<=up (fJ x f.2).2 s/\up (fJ x f.2).2 s+(fJ x f.2).1<=_;omega|succ i=>exact g2 i g (by simpa using hg)
end
def gU(b:Int)(l:List Int):Prop:=b%16777216=0/\1<=b/16777216/\b/16777216<=16/\l.length%8=0/\l.length<=4096
def ji(m r:Int):Prop:=m<=3/\(r≠0↔2<=m)
def u64(v:Int):Prop:=0<=v/\v<=18446744073709551615
def TN(l:List Int):Prop:=∀x,x∈l->0<=x/\x<=255
section
variable{N:Nat}{ts:List aB}{xs:List (List UInt8)}{fs:List Func}
def BK{b:Int}{l:List Int}(hb:u64 b):F96 N (b,l)=some (if gU b l then 0 else 8):=by
 have e0:Int.tmod (l.length:Int) 8=((l.length%8:Nat):Int):=by grind
 obtain⟨h0,h1⟩:=hb;rw[F96.eq_1,oK h0,Cn h0,aZ (by omega),e0];by_cases c1:b%16777216=0
 .rw[show(b%16777216!=0)=false by simpa using c1,af];by_cases c2:b/16777216<1;.rw[aT c2,bi λh=>by have:=h.2.1;omega];rfl
  .rw[aM c2,af];by_cases c3:b/16777216>16;.rw[aT c3,bi λh=>by have:=h.2.2.1;omega];rfl
   .rw[aM c3,af];by_cases c4:l.length%8=0
    .rw[show(((l.length%8:Nat):Int)!=0)=false by simp;omega,af];by_cases c5:(l.length:Int)>4096;.rw[aT c5,bi λh=>by have:=h.2.2.2.2;omega];rfl
     .rw[aM c5,ba ⟨c1,by omega,by omega,c4,by omega⟩];rfl
    .rw[show(((l.length%8:Nat):Int)!=0)=true by simp;omega,bi λh=>c4 h.2.2.2.1];rfl
 .rw[show(b%16777216!=0)=true by simpa using c1,bi λh=>c1 h.1];rfl
def EK(hN:1300<N){b:Int}{l:List Int}(hb:u64 b):F23 N (b,l)=some (decide (gU b l)):=by
 have e0:Int.tmod (l.length:Int) 8=((l.length%8:Nat):Int):=by grind
 have key:∀(m g:Nat)(k:Nat),g+m=17->1<=g->m<k->(∀q:Int,1<=q->q<(g:Int)->b≠16777216*q)->(D5 N k ((g:Int),b,l)=some (.inl (decide (gU b l)))\/(D5 N k ((g:Int),b,l)=some (.inr ())/\¬gU b l)):=by intro m;induction m with|zero=>intro g k hg _ hk hn;obtain⟨k,rfl⟩:∃m,k=m+1:=⟨k-1,by omega⟩;right;refine⟨by rw[D5.eq_2,aM (show¬(g:Int)<=16by omega),af],λh=>?_⟩;obtain⟨a1,a2,a3,_⟩:=h<;>grind|succ m ih=>
   intro g k hg h1 hk hn;obtain⟨k,rfl⟩:∃m,k=m+1:=⟨k-1,by omega⟩;rw[D5.eq_2,aT (show(g:Int)<=16by omega),au,aZ (n:=16777216*(g:Int)) (by omega),aZ (n:=(g:Int)+1) (by omega)];by_cases hc:b=16777216*(g:Int)
   .left;rw[show(b==16777216*(g:Int))=true by simpa using hc,au,e0];by_cases c4:l.length%8=0;.rw[show(((l.length%8:Nat):Int)==0)=true by simp;omega,au,ae];congr 2;rw[ka];exact⟨λh=>⟨by omega,by omega,by omega,c4,by omega⟩,λh=>by have:=h.2.2.2.2;omega⟩
    .rw[show(((l.length%8:Nat):Int)==0)=false by simp;omega,af,ae,aM (show¬gU b l fromλh=>c4 h.2.2.2.1)]
   .rw[show(b==16777216*(g:Int))=false by simpa using hc];exact ih (g+1) k (by omega) (by omega) (by omega) λq q1 q2=>by
     by_cases e:q=(g:Int);.rw[e];exact hc
     .exact hn q q1 (by omega)
 rw[F23.eq_1];rcases key 16 1 N (by omega) (by omega) (by omega) (λq q1 q2=>by omega)with h|⟨h,h'⟩<;>grind
def Tc{m r:Int}:YA N (m,r)=some (decide (ji m r)):=by
 rw[YA.eq_1];by_cases c:m<=3
 .rw[aT c,au];by_cases c1:r=0<;>by_cases c2:2<=m;.rw[aM (show¬ji m r fromλh=>h.2.2 c2 c1),show(r !=0)=false by simpa using c1,aT (show m>=2by omega)];rfl
  .rw[aT (show ji m r from⟨c,λh=>absurd c1 h,λh=>absurd h c2⟩),show(r !=0)=false by simpa using c1,aM (show¬m>=2by omega)];rfl
  .rw[aT (show ji m r from⟨c,λ_=>c2,λ_=>c1⟩),show(r !=0)=true by simpa using c1,aT (show m>=2by omega)];rfl
  .rw[aM (show¬ji m r fromλh=>c2 (h.2.1 c1)),show(r !=0)=true by simpa using c1,aM (show¬m>=2by omega)];rfl
 .rw[aM c,aM (show¬ji m r fromλh=>c h.1)];rfl
def Td{m r:Int}(hm:0<=m)(hr:0<=r):F88 N (m,r)=some (decide (ji m r)):=by
 have hq:∀k:Int,m≠k->(m==k)=false:=λk h=>by simpa using h
 have h4:m=0\/m=1\/m=2\/m=3\/3<m:=by omega
 rw[F88.eq_1];by_cases c1:r=0
 .subst c1;rcases h4 with rfl|rfl|rfl|rfl|h;.rw[aT (show ji 0 0from⟨by decide,by decide⟩)];rfl
  .rw[aT (show ji 1 0from⟨by decide,by decide⟩)];rfl
  .rw[aM (show¬ji 2 0fromλh=>absurd (h.2.2 (by decide)) (by decide))];rfl
  .rw[aM (show¬ji 3 0fromλh=>absurd (h.2.2 (by decide)) (by decide))];rfl
  .rw[hq 0 (by omega),hq 1 (by omega),hq 2 (by omega),hq 3 (by omega),aM (show¬ji m 0fromλh'=>by have:=h'.1;omega)];rfl
 .have hp:(r==0)=false:=by grind
  rw[hp,aT (show r>0 by omega)];rcases h4 with rfl|rfl|rfl|rfl|h;.rw[aM (show¬ji 0 r fromλh=>absurd (h.2.1 c1) (by decide))];rfl
  .rw[aM (show¬ji 1 r fromλh=>absurd (h.2.1 c1) (by decide))];rfl
  .rw[aT (show ji 2 r from⟨by decide,λ_=>by decide,λ_=>c1⟩)];rfl
  .rw[aT (show ji 3 r from⟨by decide,λ_=>by decide,λ_=>c1⟩)];rfl
  .rw[hq 0 (by omega),hq 1 (by omega),hq 2 (by omega),hq 3 (by omega),aM (show¬ji m r fromλh'=>by have:=h'.1;omega)];rfl
def My(fs:List Func)(n:Nat):List Field:=(gW fs n).2.2.2.1.take (gW fs n).2.1.toNat
def aih(ts:List aB)(fs:List Func)(n back mode rec:Nat)(args:List Int):List Int:=aeA ts (lay ts (gW fs n).2.2.2.1).1 0 (My fs n) (ap7 (List.replicate (24+vX ts (gW fs n).2.2.2.1).toNat 0) back mode rec) args
def azL(b:Int)(l:List Int)(ts:List aB)(xs:List (List UInt8))(fs:List Func)(f:Int)(back mode rec:Nat)(args:List Int)(limit:Int):Int×List Int×Int×Int:=if gU b l then if j0 ts xs fs=0then if 0<=f/\f<fs.length/\ji mode rec/\0<=limit/\limit<=4096/\args.length=aez ts (My fs f.toNat)then if(l.length:Int)+(24+vX ts (gW fs f.toNat).2.2.2.1)>limit then(0,[],0,18)else(b,l++aih ts fs f.toNat back mode rec args,b+l.length,0)else(0,[],0,2)else(0,[],0,j0 ts xs fs)else(0,[],0,8)
end
def pZ(l:List Int)(o:Nat):Int:=l.getD o 0+256*l.getD (o+1) 0+65536*l.getD (o+2) 0+16777216*l.getD (o+3) 0+4294967296*l.getD (o+4) 0+1099511627776*l.getD (o+5) 0+281474976710656*l.getD (o+6) 0+72057594037927936*l.getD (o+7) 0
def dR{l:List Int}(hb:TN l)(i:Nat):0<=l.getD i 0/\l.getD i 0<=255:=by rw[da];cases e:l[i]?with|none=>grind|some x=>exact hb x (aX e)
def vb{l:List Int}(hb:TN l)(o:Nat):0<=pZ l o/\pZ l o<=18446744073709551615:=by have:=dR hb o;have:=dR hb (o+1);have:=dR hb (o+2);have:=dR hb (o+3);have:=dR hb (o+4);have:=dR hb (o+5);have:=dR hb (o+6);have:=dR hb (o+7);unfold pZ;omega
def Zi{v x:Int}(hv:0<=v/\v<72057594037927936)(hx:0<=x/\x<=255):DW .u64 (aS (v*256)) (aS x)=v*256+x:=by
 obtain⟨a,rfl⟩:=dT hv.1;obtain⟨i,rfl⟩:=dT hx.1;rw[aZ (by omega),aZ (by omega),show(a:Int)*256=((256*a:Nat):Int)by omega];unfold DW;have e:(BitVec.ofInt IntKind.u64.bits ((256*a:Nat):Int)|||BitVec.ofInt IntKind.u64.bits (i:Int)).toNat=256*a+i:=by show(BitVec.ofInt 64 ((256*a:Nat):Int)|||BitVec.ofInt 64 (i:Int)).toNat=_;rw[nz,nz,BitVec.toNat_or,ph,ph,qr (by omega),qr (by omega),aid a i (by omega)]
 refine(aZ (by omega)).trans ?_;omega
section
variable{N:Nat}{ts:List aB}{xs:List (List UInt8)}{fs:List Func}
def Te(hN:1300<N){l:List Int}(hb:TN l){o:Nat}(ho:o+8<=l.length)(hl:l.length<=100000)(b:Int):jg N N ((o:Int),0,7,b,l)=some (pZ l o):=by
 have ix:∀j:Nat,j<8->idx l (av ((o:Int)+(j:Int)))=some (l.getD (o+j) 0):=λj hj=>by rw[YG (by omega)];exact cE _ (by omega)
 have b0:=dR hb o;have b1:=dR hb (o+1);have b2:=dR hb (o+2);have b3:=dR hb (o+3);have b4:=dR hb (o+4);have b5:=dR hb (o+5);have b6:=dR hb (o+6);have b7:=dR hb (o+7);have step:∀(k j:Nat)(v:Int),j<8->0<=v/\v<72057594037927936->jg N (k+1) ((o:Int),v,(j:Int),b,l)=jg N k ((o:Int),v*256+l.getD (o+j) 0,(j:Int)-1,b,l):=λk j v hj hv=>by rw[jg.eq_2,aT (show(j:Int)>=0 by omega),au,ix j hj,ae,Zi hv (dR hb _),aQ (by omega)]
 obtain⟨k,hk⟩:∃k,N=k+9:=⟨N-9,by omega⟩;have key:jg N (k+9) ((o:Int),0,7,b,l)=some (pZ l o):=by rw[show(7:Int)=((7:Nat):Int)from rfl,step _ 7 _ (by omega) (by omega),show((7:Nat):Int)-1=((6:Nat):Int)from rfl,step _ 6 _ (by omega) (by omega),show((6:Nat):Int)-1=((5:Nat):Int)from rfl,step _ 5 _ (by omega) (by omega),show((5:Nat):Int)-1=((4:Nat):Int)from rfl,step _ 4 _ (by omega) (by omega),show((4:Nat):Int)-1=((3:Nat):Int)from rfl,step _ 3 _ (by omega) (by omega),show((3:Nat):Int)-1=((2:Nat):Int)from rfl,step _ 2 _ (by omega) (by omega),show((2:Nat):Int)-1=((1:Nat):Int)from rfl,step _ 1 _ (by omega) (by omega),show((1:Nat):Int)-1=((0:Nat):Int)from rfl,step _ 0 _ (by omega) (by omega),jg.eq_2,show decide (((0:Nat):Int)-1>=0)=false from rfl,af];congr 1;unfold pZ;simp only[fb];omega
 rw[<-hk]at key;exact key
def yV(b:Int)(l:List Int):Prop:=8<=b/\b<=1099511627776/\b%8=0/\l.length<=20000
def HI{b:Int}{l:List Int}(h:gU b l):yV b l:=by obtain⟨h1,h2,h3,h4,h5⟩:=h;exact⟨by omega,by omega,by omega,by omega⟩
def Ak{b:Int}{l:List Int}(h:yV b l):OR N (b,l)=some 0:=by obtain⟨h1,h2,h3,h4⟩:=h;rw[OR.eq_1,abT.eq_1,aT (show b>=8by omega),au,aT h2,au,oK (by omega),show(b%8==0)=true by simpa using h3,ae,ae,dj,af,aM (show¬(l.length:Int)>20000by omega)];rfl
def EL{b:Int}{l:List Int}(h:yV b l){a:Int}(ha:u64 a){n:Nat}(hn:n<=20000):∃i,OS N (b,l,a,(n:Int))=some (i,decide (b<=a/\a-b+n<=l.length))/\(b<=a/\a-b+n<=l.length->i=a-b):=by
 obtain⟨h1,h2,h3,h4⟩:=h;obtain⟨a1,a2⟩:=ha;rw[OS.eq_1];by_cases c1:a<b;.exact⟨0,by rw[aT c1,aM (show¬(b<=a/\a-b+n<=l.length)by omega)];rfl,by omega⟩
 .rw[aM c1,af,aZ (n:=a-b) (by omega),aZ (n:=(l.length:Int)) (by omega),ae];by_cases c2:a-b>(l.length:Int);.exact⟨0,by rw[aT c2,aM (show¬(b<=a/\a-b+n<=l.length)by omega)];rfl,by omega⟩
  .rw[aM c2,af,aQ (n:=a-b) (by omega),aQ (by omega)];refine⟨a-b,?_,λ_=>rfl⟩;congr 2;rw[ka];omega
def Zj{b:Int}{l:List Int}(h:yV b l){a:Int}(ha:u64 a){n:Nat}(hn:n<=20000):SP N (b,l,a,(n:Int))=some (decide (b<=a/\a-b+n<=l.length),0):=by obtain⟨i,e,_⟩:=EL (N:=N) h ha hn;rw[SP.eq_1,Ak h,ae,gT,af,aM (show¬(n:Int)<0 by omega),af,e];rfl
def xD(hN:1300<N){b:Int}{l:List Int}(h:yV b l)(hb:TN l){o:Nat}(ho:o+8<=l.length):OT N (b,l,b+o,8)=some (pZ l o,0):=by obtain⟨i,e,hi⟩:=EL (N:=N) h (a:=b+o) ⟨by have:=h.1;omega,by have:=h.2.1;have:=h.2.2.2;omega⟩ (n:=8) (by omega);have hi:=hi (by omega);rw[show b+(o:Int)-b=(o:Int)by omega]at hi;subst hi;rw[aT (show b<=b+(o:Int)/\b+(o:Int)-b+((8:Nat):Int)<=(l.length:Int)by omega),show((8:Nat):Int)=8from rfl]at e;rw[OT.eq_1,abU.eq_1,Ak h,ae,gT,af,show((8:Int)!=1)=true from rfl,au,show((8:Int)!=8)=false from rfl,ae,af,e,ae];rw[dj,af,ae];rw[gT,show av ((8:Int)-1)=7from rfl,Te hN hb ho (by have:=h.2.2.2;omega)];rfl
def ap8{b:Int}{l:List Int}(h:yV b l){a:Int}(ha:u64 a){n:Nat}(hn:n<=20000):F86 N (b,l,a,(n:Int))=some (decide (b<=a/\a-b+n<=l.length)):=by
 obtain⟨h1,h2,h3,h4⟩:=h;obtain⟨a1,a2⟩:=ha;rw[F86.eq_1,aM (show¬(n:Int)>20000by omega),af,ae];by_cases c:a>2199023255552;.rw[aT c,aM (show¬(b<=a/\a-b+n<=l.length)by omega)];rfl
 .rw[aM c,af];by_cases c2:a>=b;.rw[aT c2,au,aZ (n:=(n:Int)) (by omega),aZ (n:=a+n) (by omega),aZ (n:=(l.length:Int)) (by omega),aZ (by omega),ae];congr 1;rw[ka];omega
  .rw[aM c2,aM (show¬(b<=a/\a-b+n<=l.length)by omega)];rfl
def EM(hN:1300<N){b:Int}{l:List Int}(h:yV b l)(hb:TN l){o:Nat}(ho:o+8<=l.length):F87 N (b,l,b+o,8)=some (pZ l o):=by
 obtain⟨h1,h2,h3,h4⟩:=h;have b0:=dR hb o;have b1:=dR hb (o+1);have b2:=dR hb (o+2);have b3:=dR hb (o+3);have b4:=dR hb (o+4);have b5:=dR hb (o+5);have b6:=dR hb (o+6);have b7:=dR hb (o+7);have ix:∀j:Nat,j<8->idx l (aS (aS (b+(o:Int)-b)+aS (j:Int)))=some (l.getD (o+j) 0):=λj hj=>by rw[show b+(o:Int)-b=(o:Int)by omega,aZ (n:=(o:Int)) (by omega),aZ (n:=(j:Int)) (by omega),aZ (by omega),show(o:Int)+(j:Int)=((o+j:Nat):Int)by omega];exact cE _ (by omega)
 have step:∀(k j:Nat)(v p:Int),j<8->0<=v->0<=p->v+p*l.getD (o+j) 0<=18446744073709551615->0<=p*l.getD (o+j) 0->iY N (k+1) (b+o,8,v,p,(j:Int),b,l)=iY N k (b+o,8,v+p*l.getD (o+j) 0,aS (p*256),((j+1:Nat):Int),b,l):=λk j v p hj h1 h2 h3 h4=>by rw[iY.eq_2,aT (show(j:Int)<8by omega),au,ix j hj,ae,aZ (n:=l.getD (o+j) 0) (by have:=dR hb (o+j);omega),aZ (n:=p*_) (by omega),aZ (by omega),ai (by omega)]
 obtain⟨k,hk⟩:∃k,N=k+9:=⟨N-9,by omega⟩;have key:iY N (k+9) (b+o,8,0,1,0,b,l)=some (pZ l o):=by rw[show iY N (k+9) (b+(o:Int),8,0,1,0,b,l)=iY N (k+8+1) (b+(o:Int),8,0,1,((0:Nat):Int),b,l)from rfl];rw[step _ 0 0 1 (by omega) (by omega) (by omega) (by simp only[fb];omega) (by simp only[fb];omega),show aS ((1:Int)*256)=256from rfl,step _ 1 _ 256 (by omega) (by simp only[fb];omega) (by omega) (by simp only[fb];omega) (by omega),show aS ((256:Int)*256)=65536from rfl,step _ 2 _ 65536 (by omega) (by simp only[fb];omega) (by omega) (by simp only[fb];omega) (by omega),show aS ((65536:Int)*256)=16777216from rfl,step _ 3 _ 16777216 (by omega) (by simp only[fb];omega) (by omega) (by simp only[fb];omega) (by omega),show aS ((16777216:Int)*256)=4294967296from rfl,step _ 4 _ 4294967296 (by omega) (by simp only[fb];omega) (by omega) (by simp only[fb];omega) (by omega),show aS ((4294967296:Int)*256)=1099511627776from rfl,step _ 5 _ 1099511627776 (by omega) (by simp only[fb];omega) (by omega) (by simp only[fb];omega) (by omega),show aS ((1099511627776:Int)*256)=281474976710656from rfl,step _ 6 _ 281474976710656 (by omega) (by simp only[fb];omega) (by omega) (by simp only[fb];omega) (by omega),show aS ((281474976710656:Int)*256)=72057594037927936from rfl,step _ 7 _ 72057594037927936 (by omega) (by simp only[fb];omega) (by omega) (by simp only[fb];omega) (by omega),iY.eq_2,show decide (((7+1:Nat):Int)<8)=false from rfl,af];congr 1;unfold pZ;simp only[fb];omega
 rw[<-hk]at key;rw[F87.eq_1,key];rfl
def tu(b:Int)(l:List Int)(a:Int):Int×Int×Int×Int:=if gU b l then if b<=a/\a-b+24<=l.length/\a%8=0then if ji (pZ l ((a-b).toNat+8)) (pZ l ((a-b).toNat+16))then(pZ l (a-b).toNat,pZ l ((a-b).toNat+8),pZ l ((a-b).toNat+16),0)else(0,0,0,12)else(0,0,0,16)else(0,0,0,8)
def aeB{a:Int}(ha:u64 a):(Int.tmod a 8!=0)=!decide (a%8=0):=by grind
def ack(hN:1300<N){b:Int}{l:List Int}(hbu:u64 b)(hb:TN l){a:Int}(ha:u64 a):YB N (b,l,a)=some (tu b l a):=by
 rw[YB.eq_1,BK hbu,ae,tu];by_cases hs:gU b l
 .have hr:=HI hs;have hh:=Zj (N:=N) hr ha (n:=24) (by omega);rw[show((24:Nat):Int)=24from rfl]at hh;rw[ba hs,ba hs,gT,af,hh,ae];rw[aeB ha];by_cases hc:b<=a/\a-b+24<=l.length
  .rw[aT hc,dj,af,ae];by_cases h8:a%8=0
   .rw[aT h8,dj,ba ⟨hc.1,hc.2,h8⟩];obtain⟨o,ho⟩:=dT (show 0<=a-b by omega);have e0:a=b+(o:Int):=by omega
    have hl4:=hs.2.2.2.2;have av5:=hs.2.2.1;have p6:=hs.2.1;rw[ho,bd];have l0:=xD (N:=N) hN hr hb (o:=o) (by omega);have l1:=xD (N:=N) hN hr hb (o:=o+8) (by omega);have l2:=xD (N:=N) hN hr hb (o:=o+16) (by omega);have q1:aS (a+8)=b+((o+8:Nat):Int):=by rw[aZ (by omega)];omega
    have q2:aS (a+16)=b+((o+16:Nat):Int):=by rw[aZ (by omega)];omega
    rw[q1,q2,e0,l0,ae,l1,ae,l2,ae];rw[Tc,ae]<;>grind
   grind
  grind
 grind
def Zk(hN:1300<N){b:Int}{l:List Int}(hbu:u64 b)(hb:TN l){a:Int}(ha:u64 a):F49 N (b,l,a)=some (tu b l a):=by
 rw[F49.eq_1,EK hN hbu,ae,tu];by_cases hs:gU b l
 .have hr:=HI hs;have hin:=ap8 (N:=N) hr ha (n:=24) (by omega);rw[show((24:Nat):Int)=24from rfl]at hin;rw[ba hs,aT hs,dj,af,aeB ha,hin,ae];by_cases h8:a%8=0
  .rw[aT h8,dj,af,ae];by_cases hc:b<=a/\a-b+24<=l.length
   .rw[aT hc,dj,ba ⟨hc.1,hc.2,h8⟩];obtain⟨o,ho⟩:=dT (show 0<=a-b by omega);have e0:a=b+(o:Int):=by omega
    have hl4:=hs.2.2.2.2;have av5:=hs.2.2.1;have p6:=hs.2.1;rw[ho,bd];have l0:=EM (N:=N) hN hr hb (o:=o) (by omega);have l1:=EM (N:=N) hN hr hb (o:=o+8) (by omega);have l2:=EM (N:=N) hN hr hb (o:=o+16) (by omega);have q1:aS (a+8)=b+((o+8:Nat):Int):=by rw[aZ (by omega)];omega
    have q2:aS (a+16)=b+((o+16:Nat):Int):=by rw[aZ (by omega)];omega
    rw[q1,q2,e0,l0,ae,l1,ae,l2,ae,Td (vb hb _).1 (vb hb _).1,ae]<;>grind
   grind
  grind
 grind
def aCb(b:Int)(l:List Int)(a:Int):Int×List Int×Int×Int:=if(tu b l a).2.2.2=0then(b,l.take (a-b).toNat,(tu b l a).1,0)else(0,[],0,(tu b l a).2.2.2)
end
def Zl{l:List Int}(h:(Ty.sl (.int .u8)).ok l):TN l:=λx hx=>h.2 x hx
end Go.Proofs.YtgdkmdochlhhlaaGreat
namespace Go.Proofs.YtgdkmdochlhhlaaGreat
open Go Go.bL Go.Sym
def ng(c:UInt8)(v:Int):Bool:=(U c).2.2.1&&decide (v>=0)
def qL(c:UInt8)(v:Int):Bool:=(U c).2.2.2&&decide (v>=0)
def one(b:Bool)(v:Int):List Int:=bif b then[v]else[]
def bw(f:UInt8->Int->Bool)(x:Instr):List Int:=match yL x.1with|some (a,b,c)=>(one (f a x.2.1) x.2.1++one (f b x.2.2.1) x.2.2.1)++one (f c x.2.2.2) x.2.2.2|none=>[]
def Pc(N:Nat)(x:Instr):OO N (x.1,x.2.1,x.2.2.1,x.2.2.2)=some (bif e8 x then(bw ng x,bw qL x,0)else([],[],8)):=by have h:=xe N x.1;rw[OO.eq_1,vB,h];unfold bw;cases hc:e8 x with|false=>rfl|true=>simp only[au,ae,LZ.eq_1];cases hs:yL x.1with|none=>simp[e8,hs]at hc|some s=>obtain⟨a,b,c⟩:=s;simp only[gE,ae,ng,qL];cases((U a).2.2.1&&decide (x.2.1>=0))<;>cases((U a).2.2.2&&decide (x.2.1>=0))<;>cases((U b).2.2.1&&decide (x.2.2.1>=0))<;>cases((U b).2.2.2&&decide (x.2.2.1>=0))<;>cases((U c).2.2.1&&decide (x.2.2.2>=0))<;>cases((U c).2.2.2&&decide (x.2.2.2>=0))<;>rfl
def Zm{c:UInt8}{v:Int}(hc:mj c=true):(bif((c.toNat:Int)==114)then some (decide (v>=0))else bif((c.toNat:Int)==101)then some (decide (v>=0))else some false:Option Bool)=some (ng c v):=by
 have h:c=119\/c=114\/c=110\/c=116\/c=99\/c=98\/c=102\/c=105\/c=103\/c=101\/c=45:=by simpa[mj]using hc
 rcases h with rfl|rfl|rfl|rfl|rfl|rfl|rfl|rfl|rfl|rfl|rfl<;>rfl
def Zn{c:UInt8}{v:Int}(hc:mj c=true):(bif((c.toNat:Int)==119)then some (decide (v>=0))else bif((c.toNat:Int)==103)then some (decide (v>=0))else some false:Option Bool)=some (qL c v):=by
 have h:c=119\/c=114\/c=110\/c=116\/c=99\/c=98\/c=102\/c=105\/c=103\/c=101\/c=45:=by simpa[mj]using hc
 rcases h with rfl|rfl|rfl|rfl|rfl|rfl|rfl|rfl|rfl|rfl|rfl<;>rfl
def Mz(n:Int)(x:Instr):Bool:=(x.1==22&&decide (x.2.1>=n))||(x.1==23&&decide (x.2.2.1>=n))
def Pd(n:Int)(x:Instr):Bool:=!e8 x||Mz n x
def Zo(x:Instr):Bool:=x.1==(34:Int)&&(x.2.1==(-1:Int)&&(x.2.2.1==(0:Int)&&(x.2.2.2==(0:Int)&&true)))
def BL(l:List Instr):Instr:=l.getD (l.length-1) (0,0,0,0)
def ko(l:List Instr):Bool:=decide (1<=l.length)&&(decide (l.length<=200)&&(!(l.any (Pd (l.length:Int)))&&Zo (BL l)))
def MA{l:List Instr}(h:1<=l.length)(h2:l.length<=9223372036854775807):idx l (av ((l.length:Int)-1))=some (BL l):=by
 have e:av ((l.length:Int)-1)=((l.length-1:Nat):Int):=by rw[aQ (by omega)];omega
 rw[e];refine aE ?_;simp only[BL,da]<;>grind
def QS(x:Instr)(n:Int):(bif(x.1==(22:Int))then(bif(decide (x.2.1>=n))then some true else(bif(x.1==(23:Int))then some (decide (x.2.2.1>=n))else some false))else(bif(x.1==(23:Int))then some (decide (x.2.2.1>=n))else some false))=some (Mz n x):=by unfold Mz<;>grind
def Pe{N:Nat}{l:List Instr}(hN:210<N)(hl:l.length<=9223372036854775807):OM N l=some (bif ko l then 0 else 8):=by
 rw[OM.eq_1];unfold ko;by_cases h1:1<=l.length
 .rw[show((l.length:Int)==0)=false by simp;intro h;simp[h]at h1,af,bo h1];by_cases h2:l.length<=200;.rw[show decide ((l.length:Int)>200)=false by simp;omega,af,bo h2,f8,MA h1 hl];show(bif !(Zo (BL l))then _ else _)=_;cases Zo (BL l)with|false=>simp|true=>have key:=Mb (l:=l) (a:=(.inr ():Int⊕Unit)) (b:=.inl 8) (p:=Pd (l.length:Int)) (Lf:=λk i=>LE N k ((l.length:Int),l,(l.length:Int),i)) (λk=>by simp only[LE.eq_2,aO,af]) (λk i x hx hi=>by simp only[LE.eq_2,aN (aC hi),au,aE hi,ae,vB,QS,ai (show i<9223372036854775807by have:=aC hi;omega)];cases h1:e8 x<;>cases h2:Mz (l.length:Int) x<;>simp[Pd,h1,h2]) N (by omega);grind
  grind
 grind
structure VC(l:List Instr):Prop where
 pos:1<=l.length
 le:l.length<=200aK:∀(i:Nat)x,l[i]?=some x->e8 x=true
 jmp:∀(i:Nat)x,l[i]?=some x->x.1=22->0<=x.2.1/\x.2.1<l.length
 br:∀(i:Nat)x,l[i]?=some x->x.1=23->0<=x.2.2.1/\x.2.2.1<l.length
 last:∀x,l[l.length-1]?=some x->x.1=34
def ap9{x:Instr}(h:e8 x=true)(hx:x.1=22):0<=x.2.1:=by have e:yL 22=some (105,45,45):=rfl;simp[e8,hx,e,fits,al,dk]at h;exact h.1.1
def aqa{x:Instr}(h:e8 x=true)(hx:x.1=23):0<=x.2.2.1:=by have e:yL 23=some (114,105,45):=rfl;simp[e8,hx,e,fits,al,dk]at h;exact h.2.1.1
def yW{l:List Instr}(h:ko l=true):VC l:=by
 simp only[ko,al,dk,d7,sd]at h;obtain⟨h1,h2,h3,h4⟩:=h;have hb:∀(i:Nat)x,l[i]?=some x->e8 x=true/\Mz (l.length:Int) x=false:=λi x hi=>by have:=h3 x (eQ hi);simp only[Pd,ge,d7,sT,Bool.not_eq_false,rb]at this;exact this
 refine⟨h1,h2,λi x hi=>(hb i x hi).1,λi x hi hx=>⟨ap9 (hb i x hi).1 hx,?_⟩,λi x hi hx=>⟨aqa (hb i x hi).1 hx,?_⟩,λx hi=>?_⟩;.have:=(hb i x hi).2;simp only[Mz,hx,jp]at this<;>grind
 .have:=(hb i x hi).2;simp only[Mz,hx,jp]at this<;>grind
 .have e:BL l=x:=by simp only[BL,da,hi];rfl
  rw[e]at h4;simp only[Zo,al,lw]at h4<;>grind
def cN(l:List Nat):List Int:=List.map (λn:Nat=>(n:Int)) l
def nx(l:List Instr)(i:Nat):List Nat:=match l[i]?with|none=>[]|some x=>if x.1=34\/x.1=28\/x.1=30then[]else if x.1=22then[x.2.1.toNat]else if x.1=23then if x.2.2.1.toNat=i+1then[i+1]else[min (i+1) x.2.2.1.toNat,max (i+1) x.2.2.1.toNat]else[i+1]
def BM{l:List Instr}(h:VC l){i k:Nat}(hk:k∈nx l i):k<l.length:=by
 unfold nx at hk;split at hk;.cases hk
 .rename_i x hi;have hlt:=aC hi;have hs:x.1≠34->i+1<l.length:=λhx=>by
   by_cases h1:i=l.length-1;.subst h1;exact absurd (h.last x hi) hx
   .omega
  split at hk;.cases hk
  .subst_vars;split at hk;.rename_i h22;have:=h.jmp i x hi h22<;>grind
   .split at hk;.rename_i h23;have:=h.br i x hi h23<;>grind
    grind
def sN(l:List Instr)(i:Nat):(nx l i).length<=2:=by unfold nx<;>grind
def acn(x:Instr):((x.1==(34:Int))||((x.1==(28:Int))||(x.1==(30:Int))))=decide (x.1=34\/x.1=28\/x.1=30):=by grind
def Zp(a b:Nat):min (a:Int) (b:Int)=((min a b:Nat):Int):=by omega
def Zq(a b:Nat):max (a:Int) (b:Int)=((max a b:Nat):Int):=by omega
def Zr{l:List Instr}(h:VC l){i:Nat}(hi:i<l.length):(Option.bind (idx l (i:Int)) λx0=>(Option.bind ((bif(x0.1==(34:Int))then some true else(Option.bind ((bif(x0.1==(28:Int))then some true else some (x0.1==(30:Int)))) λb1=>some b1))) λb2=>(bif b2 then some []else(bif(x0.1==(22:Int))then some [x0.2.1]else(bif(x0.1==(23:Int))then(bif(x0.2.2.1==(av ((i:Int)+(1:Int))))then some [(av ((i:Int)+(1:Int)))]else some [(min (av ((i:Int)+(1:Int))) x0.2.2.1),(max (av ((i:Int)+(1:Int))) x0.2.2.1)])else some [(av ((i:Int)+(1:Int)))])))))=some (cN (nx l i)):=by
 have e1:=aw hi;generalize l[i]=x at e1;have hle:=h.le;have e2:av ((i:Int)+1)=((i+1:Nat):Int):=ai (by omega);rw[aE e1];simp only[ae,dL,e2,acn,nx,e1];by_cases h1:x.1=34\/x.1=28\/x.1=30;.simp[h1,cN]
 .rw[bv h1,af,bi h1];by_cases h2:x.1=22;.have:=h.jmp i x e1 h2;simp[h2,ib,au,jn,cN,f2,lx,rm this.1]
  .rw[show(x.1==(22:Int))=false by simpa using h2,bi h2];by_cases h3:x.1=23
   .have:=h.br i x e1 h3;have hq:x.2.2.1=((x.2.2.1.toNat:Nat):Int):=by omega
    simp only[h3,ib,au,jn];by_cases h4:x.2.2.1.toNat=i+1;.rw[hq,h4];simp[cN]
    .rw[bi h4,show(x.2.2.1==((i+1:Nat):Int))=false by simp;omega,af];generalize x.2.2.1.toNat=b at hq;rw[hq,Zp,Zq];rfl
   .rw[show(x.1==(23:Int))=false by simpa using h3,bi h3];rfl
def aqb(a b:Int):j5 (j4 [a,b])=if b=a then[a]else[min a b,max a b]:=by simp only[j4,CD]<;>grind[j4,j5]
def Pf{N:Nat}{l:List Instr}(h:VC l){i:Nat}(hi:i<l.length):ON N (l,(i:Int))=some (cN (nx l i)):=by rw[<-Zr h hi,ON.eq_1];congr 1;funext x;congr 1;funext b;cases b with|true=>rfl|false=>
 have hlen:∀q:Int,decide ((j4 [av ((i:Int)+1),q]).length<4611686018427387904)=true:=λq=>by simp only[j4,CD];cases decide (av ((i:Int)+1)<=q)<;>rfl
 rw[hlen];simp[aqb];by_cases h4:x.2.2.1=av ((i:Int)+1);.simp_all[j4,av,aK]
 .rw[bi h4,show(x.2.2.1==av ((i:Int)+1))=false by simpa using h4];rfl
open Classical
def yX{σ β:Type}{Lf:Nat->σ->List Nat->Option β}{Inv:σ->List Nat->Prop}{μ:σ->Nat}{g:σ->β}(h0:∀k s,Inv s []->Lf (k+1) s []=some (g s))(hs:∀k s o i,Inv s (o++[i])->∃s' p,Inv s' (o++p)/\μ s'+p.length<=μ s/\Lf (k+1) s (o++[i])=Lf k s' (o++p)):∀k s o,Inv s o->μ s+o.length<k->∃s',Inv s' []/\Lf k s o=some (g s')
 |0,_,_,_,h=>by omega|k+1,s,o,hI,hk=>by
  rcases List.eq_nil_or_concat o with rfl|⟨o',i,ho⟩;.grind
  .simp at ho;subst ho;simp at hk;obtain⟨s',p,h1,h2,h3⟩:=hs k s o' i hI;obtain⟨s'',h4,h5⟩:=yX h0 hs k s' (o'++p) h1 (by simp only[bb];omega)<;>grind
def rounds{σ β:Type}{Lf:Nat->Bool->σ->Option β}{Inv FM:σ->Prop}{μ:σ->Nat}{g:σ->β}(h0:∀k s,Inv s->FM s->Lf (k+1) false s=some (g s))(hs:∀k s,Inv s->∃s' c,Inv s'/\(c=false->FM s')/\(c=true->μ s'<μ s)/\Lf (k+1) true s=Lf k c s'):∀k s,Inv s->μ s+1<k->∃s',Inv s'/\FM s'/\Lf k true s=some (g s')|0,_,_,h=>by omega|k+1,s,hI,hk=>by obtain⟨s',c,h1,h2,h3,h4⟩:=hs k s hI;cases c with|false=>obtain⟨k',rfl⟩:∃q,k=q+1:=⟨k-1,by omega⟩<;>grind|true=>obtain⟨s'',h5,h6,h7⟩:=rounds h0 hs k s' h1 (by have:=h3 rfl;omega)<;>grind
inductive Reach(l:List Instr):Nat->Prop where|zero:Reach l 0|step{i k:Nat}:Reach l i->k∈nx l i->Reach l k
def Reach.lt{l:List Instr}(h:VC l){i:Nat}(hi:Reach l i):i<l.length:=by cases hi with|zero=>exact h.pos|step _ hk=>exact BM h hk
abbrev T(b:List Bool)(k:Nat):Prop:=b[k]?=some true
def fk{b:List Bool}{i k:Nat}(hi:i<b.length):T (b.set i true) k↔k=i\/T b k:=by grind
def gq(b:List Bool):Nat:=b.countP λx=>!x
def ve{b:List Bool}{i:Nat}(h:b[i]?=some false):gq (b.set i true)+1=gq b:=by induction b generalizing i with|nil=>simp at h|cons x r ih=>cases i with|zero=>simp at h;subst h;simp[gq]|succ i=>have:=ih h;simp[gq,List.set_cons_succ,List.countP_cons]at this⊢;omega
def sO(b:List Bool):gq b<=b.length:=List.countP_le_length
def Al{l:List Nat}{i:Nat}{x:Int}(h:(cN l)[i]?=some x):∃k,l[i]?=some k/\x=(k:Int):=by simp only[cN,fi,fg]at h<;>grind
def FN{b:List Bool}{i:Nat}(h:T b i):b.set i true=b:=Mc h
def MB{b:List Bool}{i:Nat}(h:i<b.length):b[i]?=some true\/b[i]?=some false:=by simp_all
structure Tf(l:List Instr)(s:List Bool):Prop where
 len:s.length=l.length
 zero:T s 0reach:∀i,T s i->Reach l i
structure InP(l:List Instr)(s:List Bool)(o:List Nat):Prop where
 base:Tf l s
 yX:∀k∈o,T s k
 shut:∀i,T s i->i∈o\/∀k∈nx l i,T s k
def T.lt{b:List Bool}{k:Nat}(h:T b k):k<b.length:=aC h
def vD(a b:List Nat):cN (a++b)=cN a++cN b:=by simp[cN]
def bR(a:List Nat):(cN a).length=a.length:=by simp[cN]
def FO{N:Nat}{l:List Instr}(hv:VC l)(hN:500<N){s:List Bool}{o:List Nat}{i:Nat}(h:InP l s (o++[i]))(ho:o.length<=1000000):∃s' p,InP l s' (o++p)/\gq s'+p.length<=gq s/\mO N N (l,(i:Int),cN (nx l i),((cN (nx l i)).length:Int),0,s,cN o)=some (l,s',cN (o++p)):=by
 have hi:T s i:=h.yX i (by simp);have QT:=h.base.reach i hi;obtain⟨⟨s',p⟩,hI,he⟩:=gx (l:=cN (nx l i)) (g:=λq:List Bool×List Nat=>(l,q.1,cN (o++q.2))) (Inv:=λj q=>Tf l q.1/\(∀k∈o++q.2,T q.1 k)/\(∀k,T q.1 k->k∈o++q.2\/k=i\/∀k'∈nx l k,T q.1 k')/\(∀k∈(nx l i).take j,T q.1 k)/\gq q.1+q.2.length<=gq s/\T q.1 i) (Lf:=λk j q=>mO N k (l,(i:Int),cN (nx l i),((cN (nx l i)).length:Int),j,q.1,cN (o++q.2))) (λk q _=>by simp only[mO.eq_2,aO,af]) (λk j x q hx⟨h1,h2,h3,h4,h5,h6⟩=>by
   obtain⟨m,hm,rfl⟩:=Al hx;have hml:=BM hv (aX hm);have tC:m<q.1.length:=by rw[h1.len];exact hml
   have hj:j<9223372036854775807:=by have:=aC hm;have:=sN l i;omega
   have e1:=aw tC;simp only[mO.eq_2,aN (aC hx),au,aE hx,ae,cB tC,aj,bd,ai hj];rcases MB tC with hb|hb
   .refine⟨q,⟨h1,h2,h3,λk' hk'=>?_,h5,h6⟩,?_⟩
    .rw[take_succ hm,bm,ca]at hk';rcases hk' with hk'|rfl;.exact h4 k' hk'
     .exact hb
    .simp only[hb,ae,dj,af,FN hb]
   .refine⟨(q.1.set m true,q.2++[m]),⟨⟨by simp[h1.len],(fk tC).2 (.inr h1.zero),λk' hk'=>?_⟩,λk' hk'=>?_,λk' hk'=>?_,λk' hk'=>?_,?_,(fk tC).2 (.inr h6)⟩,?_⟩
    .rcases(fk tC).1 hk' with rfl|hk';.exact .step QT (aX hm)
     .exact h1.reach k' hk'
    .rw[<-bj,bm,ca]at hk';rcases hk' with hk'|rfl;.exact(fk tC).2 (.inr (h2 k' hk'))
     .exact(fk tC).2 (.inl rfl)
    .rcases(fk tC).1 hk' with rfl|hk';.exact .inl (by simp)
     .rcases h3 k' hk' with h|h|h;.exact .inl (by rw[<-bj];exact dp _ h)
      .exact .inr (.inl h)
      .exact .inr (.inr λk'' av7=>(fk tC).2 (.inr (h k'' av7)))
    .rw[take_succ hm,bm,ca]at hk';rcases hk' with hk'|rfl;.exact(fk tC).2 (.inr (h4 k' hk'))
     .exact(fk tC).2 (.inl rfl)
    .have:=ve hb;simp only[bb,fa,m6];omega
    .have hlen:q.2.length<=s.length:=by have:=sO s;omega
     rw[h.base.len]at hlen;have:=hv.le;have hr:room ((cN (o++q.2)).length+1) 8=true:=ak (by rw[bR,bb];omega) (by omega);simp only[hb,ae,fj,au,hr,aj];rw[<-bj,vD (o++q.2) [m]];rfl) (k:=N) (s:=(s,[])) ⟨h.base,λk hk=>h.yX k (by simp at hk;simp[hk]),λk hk=>by
      rcases h.shut k hk with h'|h'
      .simp at h';rcases h' with h'|h';.exact .inl (by simpa using h')
       .exact .inr (.inl h')
      .exact .inr (.inr h'),λk hk=>by simp at hk,by simp,hi⟩ (by rw[bR];have:=sN l i;omega);obtain⟨h1,h2,h3,h4,h5,h6⟩:=hI;refine⟨s',p,⟨h1,h2,λk hk=>?_⟩,h5,by simpa using he⟩;rcases h3 k hk with h|rfl|h;.grind
 .right;intro k' hk';have:(nx l k).take (cN (nx l k)).length=nx l k:=by rw[bR]<;>grind
  grind
 grind
def eV(l:List Instr):List Bool:=(List.range l.length).map λk=>decide (Reach l k)
def kY{l:List Instr}{k:Nat}(h:k<l.length):(eV l)[k]?=some (decide (Reach l k)):=by simp[eV,h]
def sP(l:List Instr):(eV l).length=l.length:=by simp[eV]
def Zs{l:List Instr}(hv:VC l){k:Nat}:T (eV l) k↔Reach l k:=by
 unfold T;by_cases h:k<l.length;.rw[kY h];simp
 .rw[eI (by rw[sP];omega)];constructor;.grind
  .intro h';exact absurd (h'.lt hv) h
def Tg{l:List Instr}{s:List Bool}(hl:s.length=l.length)(h:∀k,T s k↔Reach l k):s=eV l:=by
 apply lA;intro k;by_cases hk:k<l.length;.rw[kY hk];rcases MB (b:=s) (i:=k) (by omega)with h1|h1<;>grind
 .rw[eI (by omega),eI (by rw[sP];omega)]
def Tf.all{l:List Instr}{s:List Bool}(h:Tf l s)(hs:∀i,T s i->∀k∈nx l i,T s k):s=eV l:=Tg h.len λk=>⟨h.reach k,λhr=>by induction hr with|zero=>exact h.zero|step _ hk ih=>grind⟩
def Am(n:Nat):((List.replicate n false).set 0 true).length=n:=by simp
def kN{n:Nat}(h:1<=n)(k:Nat):T ((List.replicate n false).set 0 true) k↔k=0:=by grind
def An{l:List Instr}(hv:VC l):Tf l ((List.replicate l.length false).set 0 true):=⟨by simp,(kN hv.pos 0).2 rfl,λi hi=>by rw[(kN hv.pos i).1 hi];exact .zero⟩
def vE{n:Nat}(h1:1<=n)(h2:n<=10000000):av ((n:Int)-1)=((n-1:Nat):Int):=by rw[aQ (by omega)];omega
def sQ{α:Type}{n:Nat}(h:1<=n)(x:α):(List.replicate n x)[0]?=some x:=by grind
def Jt{N:Nat}{l:List Instr}(hv:VC l)(hN:500<N):mP N N (l,(List.replicate l.length false).set 0 true,[(0:Int)])=some (eV l):=by
 have hle:=hv.le;obtain⟨s,hI,he⟩:=yX (Inv:=λs o=>InP l s o/\gq s+o.length<=300) (μ:=gq) (g:=λs=>s) (Lf:=λk s o=>mP N k (l,s,cN o)) (λk s _=>by rw[show cN []=[]from rfl,mP.eq_2];rfl) (λk s o i⟨h,hm⟩=>by
   rw[bb,dq]at hm;have hi:T s i:=h.yX i (by simp);have AM:i<l.length:=by rw[<-h.base.len];exact hi.lt
   obtain⟨s',p,h1,h2,h3⟩:=FO hv hN h (by omega);refine⟨s',p,⟨h1,by rw[bb];omega⟩,h2,?_⟩;have hlen:(cN (o++[i])).length=o.length+1:=by simp[cN]
   have e1:av (((o.length+1:Nat):Int)-1)=(o.length:Int):=by rw[aQ (by omega)];omega
   have e2:(cN (o++[i]))[o.length]?=some (i:Int):=by simp[cN]
   have e3:(cN (o++[i])).take o.length=cN o:=by simp[cN]
   simp only[mP.eq_2,hlen,e1,bo (show((o.length+1:Nat):Int)>0 by omega),au,cB (show o.length<o.length+1by omega),aj,bd,e2,ae,show decide ((0:Int)<=(o.length:Int))=true by simp,show decide (o.length<=o.length+1)=true by simp,Pf hv AM,e3,h3]) N ((List.replicate l.length false).set 0 true) [0] ⟨⟨An hv,λk hk=>by simp at hk;subst hk;exact(kN hv.pos 0).2 rfl,λi hi=>.inl (by rw[(kN hv.pos i).1 hi];simp)⟩,by have:=sO ((List.replicate l.length false).set 0 true);rw[Am]at this;simp only[dq];omega⟩ (by have:=sO ((List.replicate l.length false).set 0 true);rw[Am]at this;simp only[dq];omega);rw[show[(0:Int)]=cN [0]from rfl,he];congr 1;exact hI.1.base.all λi hi k hk=>by
  rcases hI.1.shut i hi with h|h;.simp at h
  .exact h k hk
def aii{N:Nat}{l:List Instr}(hN:500<N)(hl:l.length<=9223372036854775807):XG N l=some (if ko l then((eV l).set (l.length-1) true,0)else([],8)):=by rw[XG.eq_1,Pe (by omega) hl];cases h:ko l with|false=>rfl|true=>have hv:=yW h;have h1:=hv.pos;have h2:=hv.le;simp only[au,show((0:Int)!=0)=false from rfl,af,jn,bd,show decide ((0:Int)<=(l.length:Int))=true by simp,aj,bc,pj,f8,ak (show l.length<=10000000by omega) (show 1<=1000by omega),lh,show gB 0 l.length=true from cB (i:=0) h1,show Int.toNat 0=0from rfl,sQ h1,ae,Jt hv hN,sP,vE h1 (by omega),cB (show l.length-1<l.length by omega),kY (show l.length-1<l.length by omega)]
def sub(a b:Nat):Prop:=∀k,a.testBit k=true->b.testBit k=true
def kG(a:Nat):sub a a:=λ_ h=>h
def gH{a b c:Nat}(h:sub a b)(k:sub b c):sub a c:=λi hi=>k i (h i hi)
def yY{a b:Nat}(h:sub a b)(k:sub b a):a=b:=Nat.eq_of_testBit_eq λi=>by
 cases h1:a.testBit i<;>cases h2:b.testBit i;.rfl
 .exact absurd (k i h2) (by rw[h1];decide)
 .exact absurd (h i h1) (by rw[h2];decide)
 .rfl
def BN(a b:Nat):sub a (a|||b):=λk h=>by grind
def yZ(a b:Nat):sub b (a|||b):=λk h=>by grind
def Pg{a b c:Nat}(h:sub a c)(k:sub b c):sub (a|||b) c:=λi hi=>by simp at hi;exact hi.elim (h i) (k i)
def or_mono{a b c d:Nat}(h:sub a c)(k:sub b d):sub (a|||b) (c|||d):=Pg (gH h (BN _ _)) (gH k (yZ _ _))
def sR(a b:Nat):sub (a&&&b) a:=λk h=>by grind
def qM(a b:Nat):sub (a&&&b) b:=λk h=>by grind
def Ju{a b c:Nat}(h:sub a b)(k:sub a c):sub a (b&&&c):=λi hi=>by rw[Nat.testBit_and,h i hi,k i hi];rfl
def zero_sub(a:Nat):sub 0 a:=λk h=>by simp at h
def Ph{a s:Nat}:a<2^s↔sub a (2^s-1):=by
 constructor
 .intro h k hk;rw[Nat.testBit_two_pow_sub_one];rcases ii k s with h1|h1;.grind
  .rw[te (iv h (pm (by omega) h1))]at hk<;>grind
 .intro h;refine Nat.lt_pow_two_of_testBit _ λk hk=>?_;cases hb:a.testBit k with|false=>rfl|true=>have:=h k hb<;>grind
def EN{a s t:Nat}(h:a<2^s)(hs:s<=t):a<2^t:=iv h (pm (by omega) hs)
def EO{a:Nat}(h:a<2^64):IntKind.u64.wrap (a:Int)=(a:Int):=aZ (by omega)
def Cu{a b:Nat}(ha:a<2^64)(hb:b<2^64):DW .u64 (a:Int) (b:Int)=((a|||b:Nat):Int):=by
 unfold DW;have e:(BitVec.ofNat 64 a|||BitVec.ofNat 64 b).toNat=a|||b:=by grind
 show IntKind.u64.wrap (((BitVec.ofNat 64 a|||BitVec.ofNat 64 b).toNat:Nat):Int)=_;rw[e,EO (sa ha hb)]
def ER{a b:Nat}(ha:a<2^64)(hb:b<2^64):vI .u64 (a:Int) (b:Int)=((a&&&b:Nat):Int):=by
 unfold vI;have e:(BitVec.ofNat 64 a&&&BitVec.ofNat 64 b).toNat=a&&&b:=by grind
 show IntKind.u64.wrap (((BitVec.ofNat 64 a&&&BitVec.ofNat 64 b).toNat:Nat):Int)=_;rw[e,EO (Nat.lt_of_le_of_lt Nat.and_le_left ha)]
def aco{s:Int}(h0:0<=s)(h:s<=15):aS ((1:Int)*(2^min (Int.toNat s) 64))=((2^s.toNat:Nat):Int):=by
 rw[rf (by omega),Int.one_mul];have:(2:Int)^s.toNat=((2^s.toNat:Nat):Int):=by simp
 rw[this];exact EO (nn (by omega) (by omega))
def HJ{n:Int}(h0:0<=n)(h:n<=16):aS ((aS ((1:Int)*(2^min (Int.toNat n) 64)))-1)=((2^n.toNat-1:Nat):Int):=by
 rw[rf (by omega),Int.one_mul];have e:(2:Int)^n.toNat=((2^n.toNat:Nat):Int):=by simp
 have h2:2^n.toNat<2^64:=nn (by omega) (by omega);have h3:1<=2^n.toNat:=Nat.one_le_two_pow;rw[e];rw[show aS ((2^n.toNat:Nat):Int)=((2^n.toNat:Nat):Int)from EO h2];have e2:((2^n.toNat:Nat):Int)-1=((2^n.toNat-1:Nat):Int):=by omega
 rw[e2];exact EO (by omega)
def vf(m:Nat)(s:Int):Nat:=m|||2^s.toNat
def gV(m:Nat)(l:List Int):Nat:=l.foldl vf m
def Cv(l:List Int):Prop:=∀s∈l,0<=s/\s<=15
def BO{l:List Int}(h:Cv l):∀{m:Nat},m<2^16->gV m l<2^16:=by unfold gV;induction l with|nil=>grind|cons s r ih=>intro m hm;refine ih (λx hx=>h x (db _ hx)) ?_;have:=h s cb;exact sa hm (nn (by omega) (by omega))
def BP(l:List Int):∀m:Nat,gV m l=m|||gV 0 l:=by unfold gV;induction l with|nil=>simp|cons s r ih=>intro m;rw[wy,wy,ih (vf m s),ih (vf 0 s)];simp[vf,Nat.or_assoc]
def HK{α σ β:Type}{l:List α}{Lf:Nat->Int->σ->Option β}{f:σ->α->σ}{g:σ->β}{Inv:σ->Prop}(h0:∀k s,Lf (k+1) (l.length:Int) s=some (g s))(hs:∀k(i:Nat)x s,l[i]?=some x->Inv s->Inv (f s x)/\Lf (k+1) (i:Int) s=Lf k ((i+1:Nat):Int) (f s x)){k:Nat}{s:σ}(h:Inv s)(hk:l.length<k):Lf k 0 s=some (g (l.foldl f s)):=by obtain⟨s',⟨_,h1⟩,h2⟩:=gx (l:=l) (Lf:=Lf) (g:=g) (Inv:=λi q=>Inv q/\q=(l.take i).foldl f s) (λk s _=>h0 k s) (λk i x q hx⟨h1,h2⟩=>by obtain⟨g1,g2⟩:=hs k i x q hx h1;exact⟨_,⟨g1,by rw[take_succ hx,List.foldl_append,h2];rfl⟩,g2⟩) (k:=k) (s:=s) ⟨h,rfl⟩ hk;grind
def Zt{m:Nat}(hm:m<2^16){s:Int}(h0:0<=s)(h:s<=15):DW .u64 (m:Int) (aS ((1:Int)*(2^min (Int.toNat s) 64)))=((vf m s:Nat):Int):=by rw[aco h0 h,Cu (EN hm (by omega)) (nn (by omega) (by omega))];rfl
def HL{m:Nat}(hm:m<2^16){s:Int}(h:s<=15):vf m s<2^16:=sa hm (nn (by omega) (by omega))
def kZ(f:UInt8->Int->Bool)(x:Instr):(bw f x).length<=3:=by unfold bw one<;>grind
def av8{c:UInt8}(h:(U c).2.2.1=true\/(U c).2.2.2=true):(U c).2.1=15:=by
 unfold U at h⊢;repeat' split
 all_goals simp_all
def p4{x:Instr}(hc:e8 x=true):Cv (bw ng x)/\Cv (bw qL x):=by unfold e8 at hc;unfold bw;cases hs:yL x.1with|none=>grind|some t=>
 rw[hs]at hc;simp at hc;have Zu:∀{k:UInt8}{v s:Int}{q:Bool},fits k v=true->((U k).2.2.1=true\/(U k).2.2.2=true)->s∈one (decide (v>=0)) v->0<=s/\s<=15:=λhf hu hm=>by simp only[fits,al,dk,av8 hu]at hf;unfold one at hm;rename_i v s _;cases h:decide (v>=0)with|false=>rw[h]at hm;cases hm|true=>rw[h]at hm;have:=dv h;simp only[au,ca]at hm;omega
 have azM:∀{k:UInt8}{v s:Int},fits k v=true->s∈one (ng k v) v->0<=s/\s<=15:=λ{k v s}hf hm=>by unfold ng at hm;cases hu:(U k).2.2.1with|false=>rw[hu]at hm;cases hm|true=>rw[hu,f8]at hm;exact Zu (q:=true) hf (.inl hu) hm
 have azN:∀{k:UInt8}{v s:Int},fits k v=true->s∈one (qL k v) v->0<=s/\s<=15:=λ{k v s}hf hm=>by unfold qL at hm;cases hu:(U k).2.2.2with|false=>rw[hu]at hm;cases hm|true=>rw[hu,f8]at hm;exact Zu (q:=true) hf (.inr hu) hm
 constructor;.intro s hm;grind
 .intro s hm;grind
def TO(x:Instr):Nat:=gV 0 (bw qL x)
def usN(x:Instr):Nat:=gV (gV 0 (bw ng x)) (bw qL x)
def aij{x:Instr}(hc:e8 x=true):TO x<2^16:=BO (p4 hc).2 (by omega)
def aqc(x:Instr):sub (TO x) (usN x):=by unfold usN TO;rw[BP (bw qL x) (gV 0 (bw ng x))];exact yZ _ _
def Zv{N:Nat}{l:List Int}(hN:500<N)(hl:l.length<=3)(h:Cv l):SK N l=some ((gV 0 l:Nat):Int):=by rw[SK.eq_1];have:=HK (l:=l) (f:=vf) (g:=λm:Nat=>(m:Int)) (Inv:=λm=>m<2^16) (Lf:=λk i(m:Nat)=>Ok N k ((m:Int),l,(l.length:Int),i)) (λk s=>by simp only[Ok.eq_2,aO,af]) (λk i x s hx hs=>by have hx2:=h x (aX hx);exact⟨HL hs hx2.2,by simp only[Ok.eq_2,aN (aC hx),au,aE hx,ae,show(!decide (x<0))=true by simp;omega,aj,Zt hs hx2.1 hx2.2,ai (show i<9223372036854775807by have:=aC hx;omega)]⟩) (k:=N) (s:=0) (by omega) (by omega);simp at this;rw[this];rfl
def oq(l:List Instr)(most:Nat):Bool:=!(l.any λx=>decide (¬usN x<2^most))
def MC(l:List Instr)(params most:Int):Int:=if most<0\/most>16\/params<0\/params>most then 2 else if oq l most.toNat then 0 else 16
def or4(a b c d:Bool):(bif a then some true else bif b then some true else bif c then some true else some d:Option Bool)=some (a||(b||(c||d))):=by grind
def acp(params most:Int):(decide (most<0)||(decide (most>16)||(decide (params<0)||decide (params>most))))=decide (most<0\/most>16\/params<0\/params>most):=by grind
def B4:Nat->(Nat->Nat)->Nat|0,_=>0|n+1,f=>B4 n f+f n
def Pj{n:Nat}{f g:Nat->Nat}(h:∀k,k<n->f k=g k):B4 n f=B4 n g:=by induction n with|zero=>rfl|succ n ih=>simp only[B4]<;>grind
def ES{n m:Nat}{f g:Nat->Nat}(hm:m<n)(h:∀k,k≠m->f k=g k):B4 n f+g m=B4 n g+f m:=by induction n with|zero=>omega|succ n ih=>
 simp[B4];by_cases he:m=n;.subst he;rw[Pj (f:=f) (g:=g) λk hk=>h k (by omega)];omega
 grind
def QU{n b:Nat}{f:Nat->Nat}(h:∀k,f k<=b):B4 n f<=n*b:=by induction n with|zero=>simp[B4]|succ n ih=>simp only[B4]<;>grind
def O(o:List Nat)(k:Nat):Nat:=o.getD k 0
def QV{o:List Nat}{k:Nat}(h:k<o.length):o[k]?=some (O o k):=by simp only[O,da,aw h];rfl
def gz{o:List Nat}{m v k:Nat}(h:m<o.length):O (o.set m v) k=if k=m then v else O o k:=by simp only[O,da,ns]<;>grind
def ir{o:List Nat}{k:Nat}(h:k<o.length):(cN o)[k]?=some ((O o k:Nat):Int):=by simp[cN,fi,QV h,cf]
def sS(o:List Nat)(m v:Nat):(cN o).set m (v:Int)=cN (o.set m v):=by simp[cN,List.map_set]
def aqd{a b:List Nat}(h:a.length=b.length)(hk:∀k,k<a.length->O a k=O b k):a=b:=by
 apply lA;intro k;by_cases h1:k<a.length;.rw[QV h1,QV (by omega),hk k h1]
 grind
def aqe{o:List Nat}{m:Nat}(h:m<o.length):o.set m (O o m)=o:=Mc (QV h)
def wr(l:List Instr)(i:Nat):Nat:=match l[i]?with|some x=>TO x|none=>0
def Sol(l:List Instr)(P:Nat)(S:Nat->Nat):Prop:=sub (S 0) P/\∀i,Reach l i->∀k∈nx l i,sub (S k) (S i|||wr l i)
structure ET(l:List Instr)(P F:Nat)(G:Nat->Nat):Prop where
 sol:Sol l P G
 Nl:∀k,sub (G k) F
 most:∀S,Sol l P S->∀k,Reach l k->sub (S k) (G k)
def ET.eq{l:List Instr}{P F:Nat}{G H:Nat->Nat}(h:ET l P F G)(hs:Sol l P H)(hm:∀S,Sol l P S->(∀k,sub (S k) F)->∀k,Reach l k->sub (S k) (H k)){k:Nat}(hk:Reach l k):G k=H k:=yY (hm G h.sol h.Nl k hk) (h.most H hs k hk)
structure VM(l:List Instr)(P F p s:Nat):Prop where
 v:VC l
 le:l.length<=200sle:s<=16ps:p<=s
 eP:P=2^p-1
 eF:F=2^s-1us:∀(i:Nat)x,l[i]?=some x->usN x<2^s
def VM.PF{l:List Instr}{P F p s:Nat}(h:VM l P F p s):sub P F:=by rw[h.eF];refine Ph.1 ?_;rw[h.eP];have:2^p<=2^s:=pm (by omega) h.ps<;>grind
def VM.wF{l:List Instr}{P F p s:Nat}(h:VM l P F p s)(i:Nat):sub (wr l i) F:=by
 unfold wr;split;.rename_i x hx;rw[h.eF];exact gH (aqc x) (Ph.1 (h.us i x hx))
 .exact zero_sub _
def VM.lt{l:List Instr}{P F p s a:Nat}(h:VM l P F p s)(ha:sub a F):a<65536:=by rw[h.eF]at ha;exact EN (Ph.2 ha) h.sle
structure Lv(l:List Instr)(P F:Nat)(b:List Bool)(o:List Nat):Prop where
 in1:Tf l b
 len:o.length=l.length
 Nl:∀k,sub (O o k) F
 p0:sub (O o 0) P
 un:∀k,¬T b k->O o k=0vg:∀S,Sol l P S->∀k,T b k->sub (S k) (O o k)
structure LvP(l:List Instr)(P F:Nat)(b:List Bool)(o q:List Nat):Prop where
 lv:Lv l P F b o
 yX:∀k∈q,T b k
 shut:∀i,T b i->i∈q\/∀k∈nx l i,T b k/\sub (O o k) (O o i|||wr l i)
def mu(n:Nat)(b:List Bool)(o:List Nat):Nat:=B4 n λk=>if T b k then O o k else 65536
def aik{n m v:Nat}{b:List Bool}{o:List Nat}(hm:m<n)(hb:b.length=n)(ho:o.length=n)(hf:¬T b m)(hv:v<65536):mu n (b.set m true) (o.set m v)+1<=mu n b o:=by
 have:=ES (n:=n) (m:=m) (f:=λk=>if T (b.set m true) k then O (o.set m v) k else 65536) (g:=λk=>if T b k then O o k else 65536) hm (λk hk=>by
  simp only[gz (show m<o.length by omega),bi hk];by_cases h:T b k;.rw[ba h,ba ((fk (by omega)).2 (.inr h))]
  .rw[bi h,bi λh'=>((fk (by omega)).1 h').elim hk h]);rw[bi hf,ba ((fk (show m<b.length by omega)).2 (.inl rfl):T (b.set m true) m),gz (show m<o.length by omega),ba rfl]at this;unfold mu;omega
def acq{n m v:Nat}{b:List Bool}{o:List Nat}(hm:m<n)(ho:o.length=n)(hf:T b m)(hv:v<O o m):mu n b (o.set m v)+1<=mu n b o:=by have:=ES (n:=n) (m:=m) (f:=λk=>if T b k then O (o.set m v) k else 65536) (g:=λk=>if T b k then O o k else 65536) hm (λk hk=>by simp only[gz (show m<o.length by omega),bi hk]);rw[ba hf,ba hf,gz (show m<o.length by omega),ba rfl]at this;unfold mu;omega
def y7{a b:Nat}(h:a&&&b≠a):a&&&b<a:=Nat.lt_of_le_of_ne Nat.and_le_left h
def MD{N:Nat}{l:List Instr}{P F p s:Nat}(hv:VM l P F p s)(hN:500<N){b:List Bool}{o q:List Nat}{i:Nat}{ws:List Nat}(yo:∀k,O ws k=wr l k)(hwl:ws.length=l.length)(h:LvP l P F b o (q++[i]))(hq:mu l.length b o+q.length<=14000000):∃b' o' r,LvP l P F b' o' (q++r)/\mu l.length b' o'+r.length<=mu l.length b o/\iX N N (l,(i:Int),cN (nx l i),((cN (nx l i)).length:Int),0,(p:Int),b,cN o,cN ws,cN q)=some (l,(p:Int),b',cN o',cN ws,cN (q++r)):=by
 have hi:T b i:=h.yX i (by simp);have QT:=h.lv.in1.reach i hi;have AM:i<l.length:=QT.lt hv.v;have hnl:=sN l i;have Jv:∀{a:Nat},sub a F->a<2^64:=λha=>iv (hv.lt ha) (by omega);obtain⟨⟨b',o',r⟩,hI,he⟩:=gx (l:=cN (nx l i)) (g:=λt:List Bool×List Nat×List Nat=>(l,(p:Int),t.1,cN t.2.1,cN ws,cN (q++t.2.2))) (Inv:=λj t=>Lv l P F t.1 t.2.1/\(∀k∈q++t.2.2,T t.1 k)/\(∀k,T t.1 k->k∈q++t.2.2\/k=i\/∀k'∈nx l k,T t.1 k'/\sub (O t.2.1 k') (O t.2.1 k|||wr l k))/\(∀k∈(nx l i).take j,T t.1 k/\sub (O t.2.1 k) (O o i|||wr l i))/\mu l.length t.1 t.2.1+t.2.2.length<=mu l.length b o/\T t.1 i/\O t.2.1 i=O o i) (Lf:=λk j t=>iX N k (l,(i:Int),cN (nx l i),((cN (nx l i)).length:Int),j,(p:Int),t.1,cN t.2.1,cN ws,cN (q++t.2.2))) (λk t _=>by simp only[iX.eq_2,aO,af]) (λk j x t hx⟨h1,h2,h3,h4,h5,h6,h7⟩=>by
   obtain⟨b1,o1,r1⟩:=t;simp only at h1 h2 h3 h4 h5 h6 h7;obtain⟨m,hm,rfl⟩:=Al hx;have hml:=BM hv.v (aX hm);have hmb:m<b1.length:=by rw[h1.in1.len];exact hml
   have hmo:m<o1.length:=by rw[h1.len];exact hml
   have hio:i<o1.length:=by rw[h1.len];exact AM
   have hiw:i<ws.length:=by rw[hwl];exact AM
   have hj:j<9223372036854775807:=by have:=aC hm;omega
   have hlF:sub (O o1 i|||wr l i) F:=Pg (h1.Nl i) (hv.wF i);have hr:room ((cN (q++r1)).length+1) 8=true:=Qx (by rw[bR,bb];omega) (by rw[bR,bb];omega);simp only[iX.eq_2,aN (aC hm),au,aE hx,ae,show decide ((i:Int)<0)=false by simp,af,bR,cB hio,cB hiw,cB hmb,cB hmo,aj,bd,ir hio,ir hiw,yo,Cu (Jv (h1.Nl i)) (Jv (hv.wF i)),ai hj];have hle:∀k∈(nx l i).take (j+1),k∈(nx l i).take j\/k=m:=λk hk=>by rw[take_succ hm,bm,ca]at hk;exact hk
   rcases MB hmb with hb|hb
   .have hbT:T b1 m:=hb;simp only[hb,ae,dj,af,ir hmo,sS,ER (Jv (h1.Nl m)) (Jv hlF),bR,List.length_set,cB hmo,aj,ir (show m<(o1.set m (O o1 m&&&(O o1 i|||wr l i))).length by simp;exact hmo),gz hmo,jn];by_cases hnew:O o1 m&&&(O o1 i|||wr l i)=O o1 m
    .rw[hnew,aqe hmo];refine⟨(b1,o1,r1),⟨h1,h2,h3,λk hk=>?_,h5,h6,h7⟩,by simp⟩;rcases hle k hk with hk|rfl;.exact h4 k hk
     .refine⟨hbT,?_⟩;have:=qM (O o1 k) (O o1 i|||wr l i);simp only;rw[hnew]at this;rw[<-h7];exact this
    .have hmi:m≠i:=λe=>hnew (by subst e;exact yY (sR _ _) (Ju (kG _) (BN _ _)));have hlt:=y7 hnew;have Iu:∀k,sub (O (o1.set m (O o1 m&&&(O o1 i|||wr l i))) k) (O o1 k):=λk=>by
      rw[gz hmo];split;.rename_i e;subst e;exact sR _ _
      .exact kG _
     refine⟨(b1,o1.set m (O o1 m&&&(O o1 i|||wr l i)),r1++[m]),⟨⟨h1.in1,by simp[h1.len],λk=>gH (Iu k) (h1.Nl k),gH (Iu 0) h1.p0,λk hk=>?_,λS hS k hk=>?_⟩,λk hk=>?_,λk hk=>?_,λk hk=>?_,?_,h6,?_⟩,?_⟩;.rw[gz hmo,bi (λe=>hk (by rw[e];exact hbT))];exact h1.un k hk
     .rw[gz hmo];split;.rename_i e;subst e;exact Ju (h1.vg S hS k hk) (gH (hS.2 i QT k (aX hm)) (or_mono (h1.vg S hS i h6) (kG _)))
      .exact h1.vg S hS k hk
     .simp only at hk;rw[<-bj,bm,ca]at hk;rcases hk with hk|rfl;.exact h2 k hk
      .exact hbT
     .simp only;by_cases hkm:k=m;.subst hkm;exact .inl (by simp)
      .rcases h3 k hk with g|g|g;.exact .inl (by rw[<-bj];exact dp _ g)
       .exact .inr (.inl g)
       .refine .inr (.inr λk' hk'=>⟨(g k' hk').1,?_⟩);rw[gz hmo (k:=k),bi hkm];exact gH (Iu k') (g k' hk').2
     .simp only;rcases hle k hk with hk|rfl;.exact⟨(h4 k hk).1,gH (Iu k) (h4 k hk).2⟩
      .refine⟨hbT,?_⟩;rw[gz hmo,ba rfl,<-h7];exact qM _ _
     .have:=acq (n:=l.length) hml h1.len hbT hlt;simp only[bb,dq];omega
     .simp only;rw[gz hmo,bi (pw hmi)];exact h7
     .rw[show(((O o1 m&&&(O o1 i|||wr l i):Nat):Int)!=((O o1 m:Nat):Int))=true by simp[bne];omega,au,show room ((q++r1).length+1) 8=true by rw[bR]at hr;exact hr,aj,<-bj,vD (q++r1) [m]];rfl
   .have hbF:¬T b1 m:=λe=>by unfold T at e;rw[hb]at e;cases e
    have hmi:m≠i:=λe=>hbF (by rw[e];exact h6);simp only[hb,ae,fj,au,ir hmo,aj,sS,show room ((q++r1).length+1) 8=true by rw[bR]at hr;exact hr];refine⟨(b1.set m true,o1.set m (O o1 i|||wr l i),r1++[m]),⟨⟨⟨by simp[h1.in1.len],(fk hmb).2 (.inr h1.in1.zero),λk hk=>?_⟩,by simp[h1.len],λk=>?_,?_,λk hk=>?_,λS hS k hk=>?_⟩,λk hk=>?_,λk hk=>?_,λk hk=>?_,?_,(fk hmb).2 (.inr h6),?_⟩,?_⟩
    .rcases(fk hmb).1 hk with rfl|hk;.exact .step QT (aX hm)
     .exact h1.in1.reach k hk
    .rw[gz hmo];split;.exact hlF
     .exact h1.Nl k
    .rw[gz hmo,bi (λe=>hbF (by rw[<-e];exact h1.in1.zero))];exact h1.p0
    .rw[gz hmo,bi (λe=>hk ((fk hmb).2 (.inl e)))];exact h1.un k λh'=>hk ((fk hmb).2 (.inr h'))
    .rw[gz hmo];split;.rename_i e;subst e;exact gH (hS.2 i QT k (aX hm)) (or_mono (h1.vg S hS i h6) (kG _))
     .rename_i e;rcases(fk hmb).1 hk with hk|hk;.exact absurd hk e
      .exact h1.vg S hS k hk
    .simp only at hk;rw[<-bj,bm,ca]at hk;rcases hk with hk|rfl;.exact(fk hmb).2 (.inr (h2 k hk))
     .exact(fk hmb).2 (.inl rfl)
    .simp only at hk⊢;rcases(fk hmb).1 hk with rfl|hk;.exact .inl (by simp)
     .rcases h3 k hk with g|g|g;.exact .inl (by rw[<-bj];exact dp _ g)
      .exact .inr (.inl g)
      .refine .inr (.inr λk' hk'=>⟨(fk hmb).2 (.inr (g k' hk').1),?_⟩);rw[gz hmo,gz hmo,bi (λe=>hbF (by rw[<-e];exact(g k' hk').1)),bi (λe=>hbF (by rw[<-e];exact hk))];exact(g k' hk').2
    .simp only;rcases hle k hk with hk|rfl;.refine⟨(fk hmb).2 (.inr (h4 k hk).1),?_⟩;rw[gz hmo,bi (λe=>hbF (by rw[<-e];exact(h4 k hk).1))];exact(h4 k hk).2
     .refine⟨(fk hmb).2 (.inl rfl),?_⟩;rw[gz hmo,ba rfl,h7];exact kG _
    .have:=aik (n:=l.length) hml h1.in1.len h1.len hbF (hv.lt hlF);simp only[bb,dq];omega
    .simp only;rw[gz hmo,bi (pw hmi)];exact h7
    .rw[<-bj,vD (q++r1) [m]];rfl) (k:=N) (s:=(b,o,[])) ⟨h.lv,λk hk=>h.yX k (by simp at hk;simp[hk]),λk hk=>by
   rcases h.shut k hk with h'|h'
   .simp at h';rcases h' with h'|h';.exact .inl (by simpa using h')
    .exact .inr (.inl h')
   .exact .inr (.inr h'),λk hk=>by simp at hk,by simp,hi,rfl⟩ (by rw[bR];omega);obtain⟨h1,h2,h3,h4,h5,h6,h7⟩:=hI;refine⟨b',o',r,⟨h1,h2,λk hk=>?_⟩,h5,by simpa using he⟩;rcases h3 k hk with g|rfl|g;.grind
 .right;intro k' hk';rw[h7];exact h4 k' (by rw[bR,f4];exact hk')
 grind
def aqi{n:Nat}{b:List Bool}{o:List Nat}(h:∀k,O o k<65536):mu n b o<=n*65536:=QU λk=>by grind
def Zw(n k:Nat):O (List.replicate n 0) k=0:=by simp only[O,da,ol]<;>grind
def Zx(n:Nat):List.replicate n (0:Int)=cN (List.replicate n 0):=by simp[cN]
def qt(l:List Instr)(G:Nat->Nat):List Nat:=(List.range l.length).map λk=>if Reach l k/\k≠l.length-1then G k else 0
def Ao(l:List Instr)(G:Nat->Nat):(qt l G).length=l.length:=by simp[qt]
def HM{l:List Instr}{G:Nat->Nat}{k:Nat}(h:k<l.length):O (qt l G) k=if Reach l k/\k≠l.length-1then G k else 0:=by simp[O,da,qt,h]
def ME{l:List Instr}{G:Nat->Nat}{o:List Nat}(hl:o.length=l.length)(h:∀k,k<l.length->O o k=if Reach l k/\k≠l.length-1then G k else 0):o=qt l G:=aqd (by rw[hl,Ao]) λk hk=>by rw[h k (by omega),HM (by omega)]
def Pk{N:Nat}{l:List Instr}{P F p s:Nat}(hv:VM l P F p s)(hN:14000000<N){ws:List Nat}(yo:∀k,O ws k=wr l k)(hwl:ws.length=l.length):∃G o,ET l P F G/\o.length=l.length/\(∀k,k<l.length->O o k=if Reach l k then G k else 0)/\oo N N (l,(p:Int),(List.replicate l.length false).set 0 true,(cN (List.replicate l.length 0)).set 0 (P:Int),cN ws,[(0:Int)])=some (cN o):=by
 have hpos:=hv.v.pos;have hle:=hv.le;have hP:sub P F:=hv.PF;have hO0:∀k,O ((List.replicate l.length 0).set 0 P) k=if k=0then P else 0:=λk=>by rw[gz (by simp;omega),Zw]
 have start:Lv l P F ((List.replicate l.length false).set 0 true) ((List.replicate l.length 0).set 0 P):=⟨An hv.v,by simp,λk=>by
   rw[hO0];split;.exact hP
   .exact zero_sub _,by rw[hO0,ba rfl];exact kG _,λk hk=>by rw[hO0,bi λe=>hk ((kN hpos k).2 e)],λS hS k hk=>by rw[(kN hpos k).1 hk,hO0,ba rfl];exact hS.1⟩;have hmu:∀b o,Lv l P F b o->mu l.length b o<=13200000:=λb o h=>by have:=aqi (n:=l.length) (b:=b) (o:=o) λk=>hv.lt (h.Nl k);omega
 obtain⟨⟨b,o⟩,hI,he⟩:=yX (Inv:=λt q=>LvP l P F t.1 t.2 q/\mu l.length t.1 t.2+q.length<=13200001) (μ:=λt=>mu l.length t.1 t.2) (g:=λt=>cN t.2) (Lf:=λk t q=>oo N k (l,(p:Int),t.1,cN t.2,cN ws,cN q)) (λk t _=>by rw[show cN []=[]from rfl,oo.eq_2];rfl) (λk t q i⟨h,hm⟩=>by
   rw[bb,dq]at hm;have hi:T t.1 i:=h.yX i (by simp);have AM:i<l.length:=by rw[<-h.lv.in1.len];exact hi.lt
   obtain⟨b',o',r,h1,h2,h3⟩:=MD (N:=N) hv (by omega) yo hwl h (by omega);refine⟨(b',o'),r,⟨h1,by rw[bb];simp only;omega⟩,h2,?_⟩;have hlen:(cN (q++[i])).length=q.length+1:=by simp[cN]
   have e1:av (((q.length+1:Nat):Int)-1)=(q.length:Int):=by rw[aQ (by omega)];omega
   have e2:(cN (q++[i]))[q.length]?=some (i:Int):=by simp[cN]
   have e3:(cN (q++[i])).take q.length=cN q:=by simp[cN]
   simp only[oo.eq_2,hlen,e1,bo (show((q.length+1:Nat):Int)>0 by omega),au,cB (show q.length<q.length+1by omega),aj,bd,e2,ae,show decide ((0:Int)<=(q.length:Int))=true by simp,show decide (q.length<=q.length+1)=true by simp,Pf hv.v AM,e3,h3]) N ((List.replicate l.length false).set 0 true,(List.replicate l.length 0).set 0 P) [0] ⟨⟨start,λk hk=>by simp at hk;subst hk;exact(kN hpos 0).2 rfl,λi hi=>.inl (by rw[(kN hpos i).1 hi];simp)⟩,by have:=hmu _ _ start;simp only[dq];omega⟩ (by have:=hmu _ _ start;simp only[dq];omega);obtain⟨⟨h1,h2,h3⟩,_⟩:=hI;have hsh:∀i,T b i->∀k∈nx l i,T b k/\sub (O o k) (O o i|||wr l i):=λi hi=>by
  rcases h3 i hi with g|g;.simp at g
  .exact g
 have hall:=h1.in1.all λi hi k hk=>(hsh i hi k hk).1;have hT:∀k,T b k↔Reach l k:=λk=>by simp only at hall;rw[hall];exact Zs hv.v
 refine⟨O o,o,⟨⟨h1.p0,λi hi k hk=>(hsh i ((hT i).2 hi) k hk).2⟩,h1.Nl,λS hS k hk=>h1.vg S hS k ((hT k).2 hk)⟩,h1.len,λk hk=>?_,by rw[show[(0:Int)]=cN [0]from rfl,sS];exact he⟩;split;.rfl
 .rename_i hn;exact h1.un k λh=>hn ((hT k).1 h)
def fdiv_pow{a s:Nat}(hs:s<=16):(Int.fdiv (a:Int) (2^min (Int.toNat (s:Int)) 64)!=0)=decide (¬a<2^s):=by
 rw[bd,rf (by omega)];have e:(2:Int)^s=((2^s:Nat):Int):=by simp
 have hp:=Nat.one_le_two_pow (n:=s);rw[e,rt _ (Int.natCast_nonneg _),<-Int.natCast_ediv];by_cases h:a<2^s;.rw[Nat.div_eq_of_lt h,bv (not_not.2 h)];rfl
 .rw[bo h];have:a/2^s≠0:=λe=>by
   rw[Nat.div_eq_zero_iff]at e;rcases e with e|e;.omega
   .exact h e
  grind
def Zy{l:List Instr}{i:Nat}{x:Instr}(h:l[i]?=some x):wr l i=TO x:=by simp[wr,h]
def Jw{N:Nat}{l:List Instr}(hv:VC l)(hN:500<N){p s:Nat}(hs:s<=16):if oq l s then∃ws:List Nat,(∀k,O ws k=wr l k)/\ws.length=l.length/\om N N (l,(s:Int),l,(l.length:Int),0,(p:Int),cN (List.replicate l.length 0))=some (.inr (l,(p:Int),cN ws))else om N N (l,(s:Int),l,(l.length:Int),0,(p:Int),cN (List.replicate l.length 0))=some (.inl 16):=by
 have hle:=hv.le;have key:=dM (l:=l) (Out:=λr=>r=.inl 16/\oq l s=false) (g:=λws:List Nat=>(.inr (l,(p:Int),cN ws):Int⊕(List Instr×Int×List Int))) (Inv:=λj ws=>ws.length=l.length/\(∀k,O ws k=if k<j then wr l k else 0)/\∀k x,k<j->l[k]?=some x->usN x<2^s) (Lf:=λk i ws=>om N k (l,(s:Int),l,(l.length:Int),i,(p:Int),cN ws)) (λk ws _=>by simp only[om.eq_2,aO,af]) (λk j x ws hx⟨h1,h2,h3⟩=>by
   have hj:=aC hx;have hc:=hv.aK j x hx;have hw:j<ws.length:=by omega
   have zK:=p4 hc;have e1:(cN ws).set j ((gV 0 (bw qL x):Nat):Int)=cN (ws.set j (TO x)):=sS _ _ _;have yo:j<(ws.set j (TO x)).length:=by simp;exact hw
   have ail:∀{a:Nat},a<2^16->a<2^64:=λh=>EN h (by omega);simp only[om.eq_2,aN hj,au,aE hx,ae,Pc,hc,show((0:Int)!=0)=false from rfl,af,Zv hN (kZ qL x) zK.2,Zv hN (kZ ng x) zK.1,bR,cB hw,aj,bd,ir hw,e1,cB yo,ir yo,gz hw,jn,Cu (ail (BO (m:=0) zK.1 (by omega))) (ail (aij hc)),show(!decide ((s:Int)<0))=true by simp];have hu:gV 0 (bw ng x)|||TO x=usN x:=by rw[usN,BP (bw qL x)];rfl
   rw[hu];have hf:=fdiv_pow (a:=usN x) hs;rw[bd]at hf;simp only[hf];by_cases hsu:usN x<2^s
   .right;rw[bv (not_not.2 hsu),af];refine⟨ws.set j (TO x),⟨by simp[h1],λk=>?_,λk y hk hy=>?_⟩,by rw[ai (by omega)]⟩
    .rw[gz hw,h2];by_cases hk:k=j;.subst hk;rw[ba rfl,ba (by omega),Zy hx]
     .rw[bi hk];by_cases hk2:k<j;.rw[ba hk2,ba (by omega)]
      .rw[bi hk2,bi (by omega)]
    .by_cases hk2:k=j;.subst hk2;rw[hx]at hy;injection hy with hy;subst hy;exact hsu
     .exact h3 k y (by omega) hy
   .left;rw[bo hsu,au];refine⟨_,⟨rfl,?_⟩,rfl⟩;simp only[oq,ll,ml,dk];exact⟨x,aX hx,hsu⟩) (k:=N) (s:=List.replicate l.length 0) ⟨by simp,λk=>by rw[Zw,bi (by omega)],λk x hk=>by omega⟩ (by omega);rcases key with⟨r,⟨h1,h2⟩,h3⟩|⟨ws,⟨h1,h2,h3⟩,h4⟩;.grind
 .have hb:oq l s=true:=by simp only[oq,d7,sd,dk,not_not];intro x hx;obtain⟨i,hi,rfl⟩:=im.1 hx<;>simp_all
  rw[hb];refine⟨ws,λk=>?_,h1,h4⟩;rw[h2];split;.rfl
  .rw[wr,eI (by omega)]
def Zz{N:Nat}{l:List Instr}(hN:14000000<N)(hl:l.length<=9223372036854775807)(Jr:ko l=true->l.length<=200)(params most:Int):if ko l then if MC l params most=0then∃G,VM l (2^params.toNat-1) (2^most.toNat-1) params.toNat most.toNat/\ET l (2^params.toNat-1) (2^most.toNat-1) G/\L8 N (l,params,most)=some (cN (qt l G),0)else L8 N (l,params,most)=some ([],MC l params most)else L8 N (l,params,most)=some ([],8):=by rw[L8.eq_1,Pe (by omega) hl];cases h:ko l with|false=>rfl|true=>
  have hv:=yW h;have h1:=hv.pos;have h2:=Jr h;simp only[au,show((0:Int)!=0)=false from rfl,af,jn,or4,acp,ae];unfold MC;by_cases ha:most<0\/most>16\/params<0\/params>most;.rw[ba ha,bo ha,au,bi (by decide)]
  .rw[bi ha,bv ha,af];simp only[sT,Int.not_lt]at ha;obtain⟨s,rfl⟩:∃s:Nat,most=(s:Int):=⟨most.toNat,by omega⟩;obtain⟨p,rfl⟩:∃p:Nat,params=(p:Int):=⟨params.toNat,by omega⟩;have hs:s<=16:=by omega
   have hps:p<=s:=by omega
   simp only[bd,show decide ((0:Int)<=(l.length:Int))=true by simp,aj,bc,pj,f8,ak (show l.length<=10000000by omega) (show 8<=1000by omega),ak (show l.length<=10000000by omega) (show 1<=1000by omega),Zx];have key:=Jw (N:=N) hv (by omega) (p:=p) hs;by_cases hb:oq l s=true;case neg=>rw[bi hb]at key;rw[bi (show¬(if oq l s=true then(0:Int)else 16)=0 by rw[bi hb];decide),bi hb,key];rfl
   case pos=>
    rw[ba hb]at key;rw[ba (show(if oq l s=true then(0:Int)else 16)=0 by rw[ba hb])];obtain⟨ws,k1,k2,k3⟩:=key;have hVM:VM l (2^p-1) (2^s-1) p s:=⟨hv,h2,hs,hps,rfl,rfl,λi x hx=>by simp only[oq,d7,sd,dk,not_not]at hb;exact hb x (aX hx)⟩;obtain⟨G,o,g1,g2,g3,g4⟩:=Pk hVM hN k1 k2;refine⟨G,hVM,g1,?_⟩;have e0:aS ((aS ((1:Int)*(2^min p 64)))-1)=((2^p-1:Nat):Int):=HJ (n:=(p:Int)) (by omega) (by omega);have ZA:av ((o.length:Int)-1)=((l.length-1:Nat):Int):=by rw[g2];exact vE h1 (by omega)
    simp only[k3,ae,bd,show decide ((0:Int)<=(l.length:Int))=true by simp,aj,bc,pj,f8,ak (show l.length<=10000000by omega) (show 8<=1000by omega),ak (show l.length<=10000000by omega) (show 1<=1000by omega),show(!decide ((p:Int)<0))=true by simp,lh,bR,show gB 0 l.length=true from cB (i:=0) h1,show Int.toNat 0=0from rfl,sQ h1,ir (show 0<(List.replicate l.length 0).length by simp;omega),e0,g4,ZA,cB (show l.length-1<o.length by omega),ir (show l.length-1<o.length by omega)];congr 2;rw[show(0:Int)=((0:Nat):Int)from rfl,sS];congr 1;refine ME (by simp[g2]) λk hk=>?_;rw[gz (by omega)];by_cases hkl:k=l.length-1;.rw[ba hkl,bi (λh'=>h'.2 hkl)]
    .rw[bi hkl,g3 k hk];by_cases hr:Reach l k;.rw[ba hr,ba ⟨hr,hkl⟩]
     .rw[bi hr,bi (λh'=>hr h'.1)]
def xh(N:Nat){x:Instr}(hc:e8 x=true):OG N (x.1,x.2.1,x.2.2.1,x.2.2.2)=some (bw ng x,bw qL x):=by rw[OG.eq_1,uX];unfold bw;cases hs:yL x.1with|none=>simp[e8,hs]at hc|some s=>obtain⟨a,b,c⟩:=s;obtain⟨h1,h2,h3⟩:=OV hs;have e0:idx [a,b,c] 0=some a:=rfl;have e1:idx [a,b,c] 1=some b:=rfl;have e2:idx [a,b,c] 2=some c:=rfl;simp only[ae,LK.eq_1,e0,e1,e2,Zm h1,Zm h2,Zm h3,Zn h1,Zn h2,Zn h3];cases ng a x.2.1<;>cases qL a x.2.1<;>cases ng b x.2.2.1<;>cases qL b x.2.2.1<;>cases ng c x.2.2.2<;>cases qL c x.2.2.2<;>rfl
def Pm{N:Nat}{l:List Instr}(hN:210<N)(hl:l.length<=9223372036854775807)(hx:∀x∈l,okI x):Wa N l=some (bif ko l then 0 else 8):=by
 rw[Wa.eq_1];unfold ko;by_cases h1:1<=l.length
 .rw[show decide ((l.length:Int)<1)=false by simp;omega,af,bo h1,ae];by_cases h2:l.length<=200;.rw[show decide ((l.length:Int)>200)=false by simp;omega,af,bo h2];have key:=Mb (l:=l) (a:=(.inr l:Int⊕List Instr)) (b:=.inl 8) (p:=Pd (l.length:Int)) (Lf:=λk i=>GE N k (l,i)) (λk=>by simp only[GE.eq_2,aO,af]) (λk i x hm hi=>by simp only[GE.eq_2,aN (aC hi),au,aE hi,ae,Er N (hx x hm),QS,ai (show i<9223372036854775807by have:=aC hi;omega)];cases h1:e8 x<;>cases h2:Mz (l.length:Int) x<;>simp[Pd,h1,h2]) N (by omega);rw[key];cases l.any (Pd (l.length:Int))with|true=>rfl|false=>simp only[kx,n3,MA h1 hl,ae];show(bif !(Zo (BL l))then _ else _)=_;grind
  grind
 grind
def Ap{N:Nat}{l:List Instr}(h:VC l){i:Nat}(hi:i<l.length):Sr N (l,(i:Int))=some (cN (nx l i)):=by exact Zr h hi
def Th{N:Nat}{l:List Instr}(hv:VC l)(hN:500<N){c:Bool}{s:List Bool}{i:Nat}(AM:i<l.length)(h:Tf l s):∃s' c',Tf l s'/\(c'=false->c=false/\s'=s/\(T s i->∀k∈nx l i,T s k))/\gq s'<=gq s/\(c'=true->c=true\/gq s'<gq s)/\ja N N (l,c,(i:Int),cN (nx l i),0,s)=some (l,c',(i:Int),s'):=by
 have azQ:=sN l i;rcases MB (b:=s) (i:=i) (by rw[h.len];exact AM)with hb|hb
 .have QT:=h.reach i hb;obtain⟨⟨c',s'⟩,hI,he⟩:=gx (l:=cN (nx l i)) (g:=λq:Bool×List Bool=>(l,q.1,(i:Int),q.2)) (Inv:=λj q=>Tf l q.2/\T q.2 i/\(q.1=false->c=false/\q.2=s/\∀k∈(nx l i).take j,T s k)/\gq q.2<=gq s/\(q.1=true->c=true\/gq q.2<gq s)) (Lf:=λk j q=>ja N k (l,q.1,(i:Int),cN (nx l i),j,q.2)) (λk q _=>by simp only[ja.eq_2,aO,af,ae]) (λk j x q hx⟨h1,h2,h3,h4,h5⟩=>by
    obtain⟨m,hm,rfl⟩:=Al hx;have hml:=BM hv (aX hm);have tC:m<q.2.length:=by rw[h1.len];exact hml
    have hj:j<9223372036854775807:=by have:=aC hm;omega
    have awc:i<q.2.length:=by rw[h1.len];exact AM
    have h2':q.2[i]?=some true:=h2;simp only[ja.eq_2,aN (aC hx),au,aE hx,ae,cB tC,cB awc,aj,bd,ai hj,h2'];rcases MB tC with hb|hb
    .refine⟨q,⟨h1,h2,λhc=>?_,h4,h5⟩,by simp only[hb,ae,dj,af]⟩;obtain⟨g1,g2,g3⟩:=h3 hc;refine⟨g1,g2,λk' hk'=>?_⟩;rw[take_succ hm,bm,ca]at hk';rcases hk' with hk'|rfl;.exact g3 k' hk'
     .rw[<-g2];exact hb
    .refine⟨(true,q.2.set m true),⟨⟨by simp[h1.len],(fk tC).2 (.inr h1.zero),λk' hk'=>?_⟩,(fk tC).2 (.inr h2),(λhc=>by cases hc),?_,λ_=>.inr ?_⟩,by simp only[hb,ae,fj,au]⟩
     .rcases(fk tC).1 hk' with rfl|hk';.exact .step QT (aX hm)
      .exact h1.reach k' hk'
     .have:=ve hb;simp only;omega
     .have:=ve hb;simp only;omega) (k:=N) (s:=(c,s)) ⟨h,hb,λhc=>⟨hc,rfl,λk hk=>by simp at hk⟩,bc _,.inl⟩ (by rw[bR];omega);obtain⟨h1,h2,h3,h4,h5⟩:=hI;refine⟨s',c',h1,λhc=>?_,h4,h5,he⟩;obtain⟨g1,g2,g3⟩:=h3 hc;exact⟨g1,g2,λ_ k hk=>g3 k (by rw[bR,f4];exact hk)⟩
 .refine⟨s,c,h,λhc=>⟨hc,rfl,λh'=>by unfold T at h';rw[hb]at h';cases h'⟩,bc _,.inl,?_⟩;obtain⟨N',rfl⟩:∃q,N=q+1:=⟨N-1,by omega⟩;rw[ja.eq_2];cases hd:decide ((0:Int)<((cN (nx l i)).length:Int))with|false=>rfl|true=>simp[au,cB (show i<s.length by rw[h.len];exact AM),aj,bd,hb,ae,af]
def Ti{N:Nat}{l:List Instr}(hv:VC l)(hN:500<N){s:List Bool}(h:Tf l s):∃s' c,Tf l s'/\(c=false->∀i,T s' i->∀k∈nx l i,T s' k)/\(c=true->gq s'<gq s)/\jK N N (l,false,0,s)=some (l,c,s'):=by
 have hle:=hv.le;obtain⟨⟨c',s'⟩,hI,he⟩:=gx (l:=l) (g:=λq:Bool×List Bool=>(l,q.1,q.2)) (Inv:=λj q=>Tf l q.2/\(q.1=false->q.2=s/\∀i,i<j->T s i->∀k∈nx l i,T s k)/\gq q.2<=gq s/\(q.1=true->gq q.2<gq s)) (Lf:=λk j q=>jK N k (l,q.1,j,q.2)) (λk q _=>by simp only[jK.eq_2,aO,af]) (λk j x q hx⟨h1,h2,h3,h4⟩=>by
   have hj:=aC hx;obtain⟨s',c',g1,g2,g3,g4,g5⟩:=Th hv hN (c:=q.1) hj h1;refine⟨(c',s'),⟨g1,λhc=>?_,by simp only;omega,λhc=>?_⟩,by simp only[jK.eq_2,aN hj,au,Ap hv hj,ae,g5,ai (show j<9223372036854775807by omega)]⟩
   .obtain⟨q1,q2,q3⟩:=g2 hc;obtain⟨q4,q5⟩:=h2 q1;simp only;refine⟨by rw[q2,q4],λi hi=>?_⟩;rw[q4]at q3;by_cases hij:i=j;.subst hij;exact q3
    .exact q5 i (by omega)
   .rcases g4 hc with hc|hc;.have:=h4 hc;simp only at*;omega
    .simp only at*;omega) (k:=N) (s:=(false,s)) ⟨h,λ_=>⟨rfl,λi hi=>by omega⟩,bc _,λhc=>by cases hc⟩ (by omega);obtain⟨h1,h2,h3,h4⟩:=hI;refine⟨s',c',h1,λhc i hi=>?_,h4,he⟩;obtain⟨g1,g2⟩:=h2 hc;cases g1;exact g2 i (by rw[<-h.len];exact hi.lt) hi
def ZB{N:Nat}{l:List Instr}(hv:VC l)(hN:500<N):Ss N l=some (eV l):=by have h1:=hv.pos;have h2:=hv.le;obtain⟨s,g1,g2,g3⟩:=rounds (Inv:=Tf l) (FM:=λs=>∀i,T s i->∀k∈nx l i,T s k) (μ:=gq) (g:=λs=>s) (Lf:=λk c s=>uN N k (l,c,s)) (λk s _ _=>by rw[uN.eq_2];rfl) (λk s h=>by obtain⟨s',c,g1,g2,g3,g4⟩:=Ti hv hN h;exact⟨s',c,g1,g2,g3,by simp only[uN.eq_2,au,g4,ae]⟩) N _ (An hv) (by have:=sO ((List.replicate l.length false).set 0 true);rw[Am]at this;omega);rw[Ss.eq_1];simp only[bd,show decide ((0:Int)<=(l.length:Int))=true by simp,aj,bc,pj,f8,ak (show l.length<=10000000by omega) (show 1<=1000by omega),lh,show gB 0 l.length=true from cB (i:=0) h1,show Int.toNat 0=0from rfl,sQ h1,ae,g3];rw[g1.all g2]
def MF{N:Nat}{n:Int}(h0:0<=n)(h:n<=16):Sz N n=some ((2^n.toNat-1:Nat):Int):=by rw[Sz.eq_1,show(!decide (n<0))=true by simp;omega,aj,HJ h0 h]
def Pn{N:Nat}{x:Instr}(hN:500<N)(hc:e8 x=true):Ww N (x.1,x.2.1,x.2.2.1,x.2.2.2)=some ((TO x:Nat):Int):=by rw[Ww.eq_1,xh N hc,ae];have h:=(p4 hc).2;have hl:=kZ qL x;unfold TO;generalize bw qL x=l at h hl;have:=HK (l:=l) (f:=vf) (g:=λm:Nat=>(m:Int)) (Inv:=λm=>m<2^16) (Lf:=λk i(m:Nat)=>Hd N k (l,(m:Int),i)) (λk s=>by simp only[Hd.eq_2,aO,af]) (λk i x s hx hs=>by have hx2:=h x (aX hx);exact⟨HL hs hx2.2,by simp only[Hd.eq_2,aN (aC hx),au,aE hx,ae,show(!decide (x<0))=true by simp;omega,aj,Zt hs hx2.1 hx2.2,ai (show i<9223372036854775807by have:=aC hx;omega)]⟩) (k:=N) (s:=0) (by omega) (by omega);simp at this;rw[this];rfl
structure Rv(l:List Instr)(P F:Nat)(o:List Nat):Prop where
 len:o.length=l.length
 Nl:∀k,sub (O o k) F
 p0:sub (O o 0) P
 vg:∀S,Sol l P S->(∀k,sub (S k) F)->∀k,Reach l k->sub (S k) (O o k)
def mv(n:Nat)(o:List Nat):Nat:=B4 n (O o)
def acr{n m v:Nat}{o:List Nat}(hm:m<n)(ho:o.length=n)(hv:v<O o m):mv n (o.set m v)+1<=mv n o:=by have:=ES (n:=n) (m:=m) (f:=O (o.set m v)) (g:=O o) hm (λk hk=>by rw[gz (show m<o.length by omega),bi hk]);rw[gz (show m<o.length by omega),ba rfl]at this;unfold mv;omega
def Po{N:Nat}{l:List Instr}{P F p s:Nat}(hv:VM l P F p s)(hN:500<N){c:Bool}{o:List Nat}{i:Nat}(AM:i<l.length)(h:Rv l P F o):∃o' c',Rv l P F o'/\(c'=false->c=false/\o'=o/\(Reach l i->∀k∈nx l i,sub (O o k) (O o i|||wr l i)))/\mv l.length o'<=mv l.length o/\(c'=true->c=true\/mv l.length o'<mv l.length o)/\jc N N (l,eV l,c,(i:Int),cN (nx l i),0,cN o)=some (l,eV l,c',(i:Int),cN o'):=by
 have hnl:=sN l i;have Jv:∀{a:Nat},sub a F->a<2^64:=λha=>iv (hv.lt ha) (by omega);have e1:=aw AM;generalize l[i]=x at e1
 have Tj:idx (eV l) (i:Int)=some (decide (Reach l i)):=aE (kY AM);by_cases QT:Reach l i;.rw[bo QT]at Tj;obtain⟨⟨c',o'⟩,hI,he⟩:=gx (l:=cN (nx l i)) (g:=λq:Bool×List Nat=>(l,eV l,q.1,(i:Int),cN q.2)) (Inv:=λj q=>Rv l P F q.2/\(q.1=false->c=false/\q.2=o/\∀k∈(nx l i).take j,sub (O o k) (O o i|||wr l i))/\mv l.length q.2<=mv l.length o/\(q.1=true->c=true\/mv l.length q.2<mv l.length o)) (Lf:=λk j q=>jc N k (l,eV l,q.1,(i:Int),cN (nx l i),j,cN q.2)) (λk q _=>by simp only[jc.eq_2,aO,af,ae]) (λk j y q hy⟨h1,h2,h3,h4⟩=>by
    obtain⟨c1,o1⟩:=q;simp only at h1 h2 h3 h4;obtain⟨m,hm,rfl⟩:=Al hy;have hml:=BM hv.v (aX hm);have hmo:m<o1.length:=by rw[h1.len];exact hml
    have hio:i<o1.length:=by rw[h1.len];exact AM
    have hj:j<9223372036854775807:=by have:=aC hm;omega
    have hlF:sub (O o1 i|||wr l i) F:=Pg (h1.Nl i) (hv.wF i);have hwx:TO x=wr l i:=(Zy e1).symm;simp only[jc.eq_2,aN (aC hm),au,Tj,aE hy,aE e1,ae,bR,cB hio,cB hmo,aj,bd,ir hio,ir hmo,Pn hN (hv.v.aK i x e1),hwx,Cu (Jv (h1.Nl i)) (Jv (hv.wF i)),ER (Jv (h1.Nl m)) (Jv hlF),ai hj,sS];by_cases hnew:O o1 m&&&(O o1 i|||wr l i)=O o1 m
    .refine⟨(c1,o1),⟨h1,λhc=>?_,h3,h4⟩,by rw[hnew];simp⟩;obtain⟨g1,g2,g3⟩:=h2 hc;refine⟨g1,g2,λk hk=>?_⟩;rw[take_succ hm,bm,ca]at hk;rcases hk with hk|rfl;.exact g3 k hk
     .have:=qM (O o1 k) (O o1 i|||wr l i);rw[hnew,g2]at this;exact this
    .have hlt:=y7 hnew;have CL:=acr (n:=l.length) hml h1.len hlt;have Iu:∀k,sub (O (o1.set m (O o1 m&&&(O o1 i|||wr l i))) k) (O o1 k):=λk=>by
      rw[gz hmo];split;.rename_i e;subst e;exact sR _ _
      .exact kG _
     refine⟨(true,o1.set m (O o1 m&&&(O o1 i|||wr l i))),⟨⟨by simp[h1.len],λk=>gH (Iu k) (h1.Nl k),gH (Iu 0) h1.p0,λS hS hb k hk=>?_⟩,λhc=>(by cases hc),by simp only;omega,λ_=>.inr (by simp only;omega)⟩,?_⟩
     .rw[gz hmo];split;.rename_i e;subst e;exact Ju (h1.vg S hS hb k hk) (gH (hS.2 i QT k (aX hm)) (or_mono (h1.vg S hS hb i QT) (kG _)))
      .exact h1.vg S hS hb k hk
     .rw[show(((O o1 m&&&(O o1 i|||wr l i):Nat):Int)!=((O o1 m:Nat):Int))=true by rw[bne_iff_ne];omega,au]) (k:=N) (s:=(c,o)) ⟨h,λhc=>⟨hc,rfl,λk hk=>by simp at hk⟩,bc _,.inl⟩ (by rw[bR];omega);obtain⟨h1,h2,h3,h4⟩:=hI;refine⟨o',c',h1,λhc=>?_,h3,h4,he⟩;obtain⟨g1,g2,g3⟩:=h2 hc;exact⟨g1,g2,λ_ k hk=>g3 k (by rw[bR,f4];exact hk)⟩
 .rw[bv QT]at Tj;refine⟨o,c,h,λhc=>⟨hc,rfl,λh'=>absurd h' QT⟩,bc _,.inl,?_⟩;obtain⟨N',rfl⟩:∃q,N=q+1:=⟨N-1,by omega⟩;rw[jc.eq_2,Tj]<;>grind
def Pp{N:Nat}{l:List Instr}{P F p s:Nat}(hv:VM l P F p s)(hN:500<N){o:List Nat}(h:Rv l P F o):∃o' c,Rv l P F o'/\(c=false->∀i,Reach l i->∀k∈nx l i,sub (O o' k) (O o' i|||wr l i))/\(c=true->mv l.length o'<mv l.length o)/\kT N N (l,eV l,false,0,cN o)=some (l,eV l,c,cN o'):=by
 have hle:=hv.le;obtain⟨⟨c',o'⟩,hI,he⟩:=gx (l:=l) (g:=λq:Bool×List Nat=>(l,eV l,q.1,cN q.2)) (Inv:=λj q=>Rv l P F q.2/\(q.1=false->q.2=o/\∀i,i<j->Reach l i->∀k∈nx l i,sub (O o k) (O o i|||wr l i))/\mv l.length q.2<=mv l.length o/\(q.1=true->mv l.length q.2<mv l.length o)) (Lf:=λk j q=>kT N k (l,eV l,q.1,j,cN q.2)) (λk q _=>by simp only[kT.eq_2,aO,af]) (λk j x q hx⟨h1,h2,h3,h4⟩=>by
   have hj:=aC hx;obtain⟨o',c',g1,g2,g3,g4,g5⟩:=Po hv hN (c:=q.1) hj h1;refine⟨(c',o'),⟨g1,λhc=>?_,by simp only;omega,λhc=>?_⟩,by simp only[kT.eq_2,aN hj,au,Ap hv.v hj,ae,g5,ai (show j<9223372036854775807by omega)]⟩
   .obtain⟨q1,q2,q3⟩:=g2 hc;obtain⟨q4,q5⟩:=h2 q1;simp only;refine⟨by rw[q2,q4],λi hi=>?_⟩;rw[q4]at q3;by_cases hij:i=j;.subst hij;exact q3
    .exact q5 i (by omega)
   .rcases g4 hc with hc|hc;.have:=h4 hc;simp only at*;omega
    .simp only at*;omega) (k:=N) (s:=(false,o)) ⟨h,λ_=>⟨rfl,λi hi=>by omega⟩,bc _,λhc=>by cases hc⟩ (by omega);obtain⟨h1,h2,h3,h4⟩:=hI;refine⟨o',c',h1,λhc i hi=>?_,h4,he⟩;obtain⟨g1,g2⟩:=h2 hc;cases g1;exact g2 i (hi.lt hv.v) hi
def acs{N:Nat}{l:List Instr}{P F p s:Nat}(hv:VM l P F p s)(hN:14000000<N):∃H,Sol l P H/\(∀S,Sol l P S->(∀k,sub (S k) F)->∀k,Reach l k->sub (S k) (H k))/\LU N (l,(p:Int),(s:Int))=some (cN (qt l H)):=by
 have hpos:=hv.v.pos;have hle:=hv.le;have hs:=hv.sle;have hps:=hv.ps;obtain⟨o1,⟨a1,a2⟩,a3⟩:=gx (l:=l) (g:=λo:List Nat=>(l,(p:Int),eV l,cN o)) (Inv:=λj o=>o.length=l.length/\∀k,O o k=if k<j then F else 0) (Lf:=λk j o=>Hk N k (l,(p:Int),(s:Int),eV l,j,cN o)) (λk q _=>by simp only[Hk.eq_2,aO,af]) (λk j x o hx⟨h1,h2⟩=>by
   have hj:=aC hx;have hjo:j<o.length:=by omega
   have hf:=MF (N:=N) (n:=(s:Int)) (by omega) (by omega);rw[bd,<-hv.eF]at hf;refine⟨o.set j F,⟨by simp[h1],λk=>?_⟩,by simp only[Hk.eq_2,aN hj,au,hf,ae,bR,cB hjo,aj,bd,ir hjo,sS,ai (show j<9223372036854775807by omega)]⟩;rw[gz hjo,h2];by_cases hk:k=j;.subst hk;rw[ba rfl,ba (by omega)]
   .rw[bi hk];by_cases hk2:k<j;.rw[ba hk2,ba (by omega)]
    .rw[bi hk2,bi (by omega)]) (k:=N) (s:=List.replicate l.length 0) ⟨by simp,λk=>by rw[Zw,bi (by omega)]⟩ (by omega);have h0:0<o1.length:=by omega
 have hO:∀k,O (o1.set 0 P) k=if k=0then P else if k<l.length then F else 0:=λk=>by rw[gz h0,a2]
 have start:Rv l P F (o1.set 0 P):=⟨by simp[a1],λk=>by
   rw[hO];split;.exact hv.PF
   .split;.exact kG _
    .exact zero_sub _,by rw[hO,ba rfl];exact kG _,λS hS hb k hk=>by
   rw[hO];split;.rename_i e;subst e;exact hS.1
   .rw[ba (hk.lt hv.v)];exact hb k⟩;obtain⟨o2,b1,b2,b3⟩:=rounds (Inv:=Rv l P F) (FM:=λo=>∀i,Reach l i->∀k∈nx l i,sub (O o k) (O o i|||wr l i)) (μ:=mv l.length) (g:=λo=>(l,eV l,cN o)) (Lf:=λk c o=>uO N k (l,eV l,c,cN o)) (λk o _ _=>by rw[uO.eq_2];rfl) (λk o h=>by obtain⟨o',c,g1,g2,g3,g4⟩:=Pp (N:=N) hv (by omega) h;exact⟨o',c,g1,g2,g3,by simp only[uO.eq_2,au,g4,ae]⟩) N _ start (by have:mv l.length (o1.set 0 P)<=l.length*65536:=QU λk=>Nat.le_of_lt (hv.lt (start.Nl k));omega);refine⟨O o2,⟨b1.p0,b2⟩,b1.vg,?_⟩;obtain⟨o3,⟨c1,c2⟩,c3⟩:=gx (l:=l) (g:=λo:List Nat=>cN o) (Inv:=λj o=>o.length=l.length/\∀k,k<l.length->O o k=if k<j then(if Reach l k/\k≠l.length-1then O o2 k else 0)else O o2 k) (Lf:=λk j o=>uR N k (l,eV l,j,cN o)) (λk q _=>by simp only[uR.eq_2,aO,af]) (λk j x o hx⟨h1,h2⟩=>by
   have hj:=aC hx;have hjo:j<o.length:=by omega
   have Tj:idx (eV l) (j:Int)=some (decide (Reach l j)):=aE (kY hj);have ZA:=vE hpos (show l.length<=10000000by omega);simp only[uR.eq_2,aN hj,au,Tj,ae,ZA,dL,bR,cB hjo,aj,bd,ir hjo,ai (show j<9223372036854775807by omega)];by_cases hr:Reach l j/\j≠l.length-1
   .refine⟨o,⟨h1,λk hk=>?_⟩,?_⟩
    .rw[h2 k hk];by_cases hkj:k=j;.subst hkj;rw[bi (show¬k<k by omega),ba (show k<k+1by omega),ba hr]
     .by_cases hk2:k<j;.rw[ba hk2,ba (show k<j+1by omega)]
      .rw[bi hk2,bi (show¬k<j+1by omega)]
    .rw[bo hr.1,show(((j:Nat):Int)==((l.length-1:Nat):Int))=false by rw[ma];omega];rfl
   .refine⟨o.set j 0,⟨by simp[h1],λk hk=>?_⟩,?_⟩
    .rw[gz hjo];by_cases hkj:k=j;.subst hkj;rw[ba rfl,ba (show k<k+1by omega),bi hr]
     .rw[bi hkj,h2 k hk];by_cases hk2:k<j;.rw[ba hk2,ba (show k<j+1by omega)]
      .rw[bi hk2,bi (show¬k<j+1by omega)]
    .have:(!decide (Reach l j)||(((j:Nat):Int)==((l.length-1:Nat):Int)))=true:=by
      rw[ge];by_cases h1:Reach l j
      .right;rw[lw];by_cases h2:j=l.length-1;.rw[h2]
       .exact absurd ⟨h1,h2⟩ hr
      .left;rw[bv h1];rfl
     rw[this,au,show(0:Int)=((0:Nat):Int)from rfl,sS]) (k:=N) (s:=o2) ⟨b1.len,λk hk=>by rw[bi (by omega)]⟩ (by omega);have hf:=MF (N:=N) (n:=(p:Int)) (by omega) (by omega);rw[bd,<-hv.eP]at hf;have awd:o3=qt l (O o2):=ME c1 λk hk=>by rw[c2 k hk,ba hk]
 rw[LU.eq_1];simp only[ZB hv.v (show 500<N by omega),ae,bd,show decide ((0:Int)<=(l.length:Int))=true by simp,aj,bc,pj,f8,ak (show l.length<=10000000by omega) (show 8<=1000by omega),Zx,a3,hf,bR,show gB 0 o1.length=true from cB (i:=0) h0,show Int.toNat 0=0from rfl,ir h0,sS,b3,c3];rw[awd]
def MG{l:List Instr}{G H:Nat->Nat}(h:∀k,Reach l k->G k=H k):qt l G=qt l H:=by unfold qt<;>grind
def MH{σ β:Type}{Lf:Nat->σ->List Nat->Option β}{Inv:σ->List Nat->Prop}{μ:σ->Nat}{g:σ->β}{Out:β->Prop}(h0:∀k s,Inv s []->Lf (k+1) s []=some (g s))(hs:∀k s o i,Inv s (o++[i])->(∃r,Out r/\Lf (k+1) s (o++[i])=some r)\/∃s' p,Inv s' (o++p)/\μ s'+p.length<=μ s/\Lf (k+1) s (o++[i])=Lf k s' (o++p)):∀k s o,Inv s o->μ s+o.length<k->(∃r,Out r/\Lf k s o=some r)\/∃s',Inv s' []/\Lf k s o=some (g s')
 |0,_,_,_,h=>by omega|k+1,s,o,hI,hk=>by
  rcases List.eq_nil_or_concat o with rfl|⟨o',i,ho⟩;.grind
  .simp at ho;subst ho;simp at hk;rcases hs k s o' i hI with h|⟨s',p,h1,h2,h3⟩;.grind
   .rw[h3];exact MH h0 hs k s' (o'++p) h1 (by simp only[bb];omega)
def EU{σ β:Type}{Lf:Nat->Bool->σ->Option β}{Inv FM:σ->Prop}{μ:σ->Nat}{g:σ->β}{Out:β->Prop}(h0:∀k s,Inv s->FM s->Lf (k+1) false s=some (g s))(hs:∀k s,Inv s->(∃r,Out r/\Lf (k+1) true s=some r)\/∃s' c,Inv s'/\(c=false->FM s')/\(c=true->μ s'<μ s)/\Lf (k+1) true s=Lf k c s'):∀k s,Inv s->μ s+1<k->(∃r,Out r/\Lf k true s=some r)\/∃s',Inv s'/\FM s'/\Lf k true s=some (g s')
 |0,_,_,h=>by omega|k+1,s,hI,hk=>by
  rcases hs k s hI with h|⟨s',c,h1,h2,h3,h4⟩;.grind
  cases c with|false=>obtain⟨k',rfl⟩:∃q,k=q+1:=⟨k-1,by omega⟩<;>grind|true=>rw[h4];exact EU h0 hs k s' h1 (by have:=h3 rfl;omega)
abbrev Sg:=Int×Int×List Field×List Instr
def sg(f:Func):Sg:=(f.2.1,f.2.2.1,f.2.2.2.1,f.2.2.2.2.1)
def Pq(S:List Sg)(i:Int):Sg:=S.getD i.toNat (0,0,[],[])
def fV(sl:List Field)(s:Int):Int:=if 0<=s/\s<sl.length then(fl sl s.toNat).2else-1
def called(x:Instr):Int:=if x.1=25then x.2.2.1else if x.1=26\/x.1=27then x.2.1else-1
def wide(ts:List aB)(t:Int):Int:=up 8 (fJ (exs ts) t).1
def p7(ts:List aB):List Int->Int|[]=>0|t::r=>wide ts t+p7 ts r
def takes(S:List Sg)(x:Instr):List Int:=if 0<=called x then((Pq S (called x)).2.2.1.take (Pq S (called x)).1.toNat).map (·.2)else[]
def rest(S:List Sg)(sl:List Field)(x:Instr)(s:List Int):Option (List Int):=if x.1=24then some (s++[fV sl x.2.1])else if(takes S x).length<=s.length/\s.drop (s.length-(takes S x).length)=takes S x then some (s.take (s.length-(takes S x).length))else none
def Tk(ts:List aB)(S:List Sg)(sl:List Field)(x:Instr)(s:List Int):Option (List Int):=(rest S sl x s).bind λt=>if p7 ts t<=4096then some t else none
def n7(xn:Nat)(S:List Sg)(sl:List Field)(x:Instr):Prop:=(∀s,s∈bw ng x++bw qL x->s<sl.length)/\called x<S.length/\(x.1=2->x.2.2.1<xn)
def kd(ts:List aB)(t:Int):Int:=if t<0then 0 else(ez ts t.toNat).1
def elt(ts:List aB)(t:Int):Int:=(ez ts t.toNat).2.1
abbrev MI(k:Int):Prop:=k=1\/k=2\/k=4
abbrev acv(ts:List aB)(t i of:Int):Prop:=kd ts t=5/\(0<=i/\i<(ez ts t.toNat).2.2.2.length)/\(fl (ez ts t.toNat).2.2.2 i.toNat).2=of
abbrev EV(ts:List aB)(g:Sg):Prop:=g.2.1<0/\(g.1=0\/g.1=1/\MI (kd ts (fl g.2.2.1 0).2))
inductive PS(l:List Instr)(a:Instr->List Int->Option (List Int)):Nat->List Int->Prop where|zero:PS l a 0 []|step{i k:Nat}{x:Instr}{s s':List Int}:PS l a i s->l[i]?=some x->a x s=some s'->k∈nx l i->PS l a k s'
structure vL(l:List Instr)(a:Instr->List Int->Option (List Int)):Prop where
 go:∀i s x,PS l a i s->l[i]?=some x->∃s',a x s=some s'
 one:∀i s s',PS l a i s->PS l a i s'->s=s'
 last:∀s,PS l a (l.length-1) s->s=[]
def HN(l:List Instr)(a:Instr->List Int->Option (List Int))(k:Nat):List Int:=if h:∃s,PS l a k s then h.choose else[]
variable{l:List Instr}{a:Instr->List Int->Option (List Int)}
def PS.lt(hv:VC l){k:Nat}{s:List Int}(h:PS l a k s):k<l.length:=by cases h with|zero=>exact hv.pos|step _ _ _ hk=>exact BM hv hk
structure Kn(l:List Instr)(a:Instr->List Int->Option (List Int))(b:List (List Int))(m:List Bool):Prop where
 lb:b.length=l.length
 lm:m.length=l.length
 zero:T m 0/\b[0]?=some []met:∀k,T m k->∃s,b[k]?=some s/\PS l a k s
 new:∀k,k<l.length->¬T m k->b[k]?=some []
def Aq(l:List Instr)(a:Instr->List Int->Option (List Int))(b:List (List Int))(m:List Bool)(i:Nat):Prop:=∃x s s',l[i]?=some x/\b[i]?=some s/\a x s=some s'/\∀k,k∈nx l i->T m k/\b[k]?=some s'
def Kn.start(hv:VC l):Kn l a (List.replicate l.length []) ((List.replicate l.length false).set 0 true):=by have h1:=hv.pos;refine⟨by simp,by simp,⟨(kN h1 0).2 rfl,sQ h1 []⟩,λk hk=>?_,λk hk _=>by rw[ol,ba hk]⟩;rw[(kN h1 k).1 hk];exact⟨[],sQ h1 [],.zero⟩
def Kn.add{b:List (List Int)}{m:List Bool}(h:Kn l a b m){k:Nat}{s:List Int}(hk:k<l.length)(hn:¬T m k)(hp:PS l a k s):Kn l a (b.set k s) (m.set k true):=by
 have hm:k<m.length:=by rw[h.lm];exact hk
 have h0:(0:Nat)≠k:=λe=>hn (e▸h.zero.1);refine⟨by simp[h.lb],by simp[h.lm],⟨(fk hm).2 (.inr h.zero.1),by rw[ns,bi (pw h0)];exact h.zero.2⟩,λj hj=>?_,λj hj hn=>?_⟩
 .by_cases e:j=k;.subst e;exact⟨s,by simp[h.lb,hk],hp⟩
  .rcases(fk hm).1 hj with h'|h';.grind
   .rw[ns,bi (pw e)];exact h.met j h'
 .have e:j≠k:=λe=>hn ((fk hm).2 (.inl e));rw[ns,bi (pw e)];exact h.new j hj λh'=>hn ((fk hm).2 (.inr h'))
def Grow(b:List (List Int))(m:List Bool)(b':List (List Int))(m':List Bool):Prop:=∀j,T m j->T m' j/\b'[j]?=b[j]?
def Grow.refl(b:List (List Int))(m:List Bool):Grow b m b m:=λ_ h=>⟨h,rfl⟩
def Grow.trans{b b' b'':List (List Int)}{m m' m'':List Bool}(h:Grow b m b' m')(h':Grow b' m' b'' m''):Grow b m b'' m'':=λj hj=>⟨(h' j (h j hj).1).1,by rw[(h' j (h j hj).1).2,(h j hj).2]⟩
def Grow.add{b:List (List Int)}{m:List Bool}{k:Nat}{s:List Int}(hn:¬T m k):Grow b m (b.set k s) (m.set k true):=λj hj=>by grind
def Aq.grow{b b':List (List Int)}{m m':List Bool}{i:Nat}(h:Aq l a b m i)(hi:T m i)(hg:Grow b m b' m'):Aq l a b' m' i:=by obtain⟨x,u,u',h1,h2,h3,h4⟩:=h;refine⟨x,u,u',h1,by rw[(hg i hi).2];exact h2,h3,λk hk=>?_⟩;obtain⟨g1,g2⟩:=h4 k hk;exact⟨(hg k g1).1,by rw[(hg k g1).2];exact g2⟩
def Kn.all{b:List (List Int)}{m:List Bool}(h:Kn l a b m)(hs:∀i,T m i->Aq l a b m i){k:Nat}{s:List Int}(hp:PS l a k s):T m k/\b[k]?=some s:=by induction hp with|zero=>exact h.zero|@step i k x s s' hi hx ha hk ih=>obtain⟨y,u,u',g1,g2,g3,g4⟩:=hs i ih.1<;>grind
def Kn.good{b:List (List Int)}{m:List Bool}(h:Kn l a b m)(hs:∀i,T m i->Aq l a b m i):(∀i s x,PS l a i s->l[i]?=some x->∃s',a x s=some s')/\∀i s s',PS l a i s->PS l a i s'->s=s':=by
 refine⟨λi s x hp hx=>?_,λi s s' h1 h2=>?_⟩;.obtain⟨h1,h2⟩:=h.all hs hp;obtain⟨y,u,u',g1,g2,g3,_⟩:=hs i h1<;>grind
 .have e:=(h.all hs h1).2;rw[(h.all hs h2).2]at e<;>grind
def Kn.get{b:List (List Int)}{m:List Bool}(h:Kn l a b m)(hs:∀i,T m i->Aq l a b m i){k:Nat}(hk:k<l.length):b[k]?=some (HN l a k):=by
 unfold HN;split;.rename_i e;exact(h.all hs e.choose_spec).2
 .rename_i e;refine h.new k hk λhT=>e ?_;obtain⟨s,_,hp⟩:=h.met k hT<;>grind
def Kn.eq{b:List (List Int)}{m:List Bool}(h:Kn l a b m)(hs:∀i,T m i->Aq l a b m i):b=(List.range l.length).map (HN l a):=by
 apply lA;intro k;by_cases hk:k<l.length;.rw[h.get hs hk,fi,rl hk];rfl
 .rw[eI (by rw[h.lb];omega),eI (by simp;omega)]
def vL.HN(h:vL l a){k:Nat}{s:List Int}(hp:PS l a k s):Go.Proofs.YtgdkmdochlhhlaaGreat.HN l a k=s:=by unfold Go.Proofs.YtgdkmdochlhhlaaGreat.HN;rw[dif_pos ⟨s,hp⟩];exact h.one k _ _ (Exists.choose_spec ⟨s,hp⟩) hp
def Kn.ok{b:List (List Int)}{m:List Bool}(h:Kn l a b m)(hv:VC l)(hs:∀i,T m i->Aq l a b m i):vL l a↔Go.Proofs.YtgdkmdochlhhlaaGreat.HN l a (l.length-1)=[]:=by
 have hp:=hv.pos;refine⟨λhk=>?_,λe=>⟨(h.good hs).1,(h.good hs).2,λs hp=>?_⟩⟩
 .unfold Go.Proofs.YtgdkmdochlhhlaaGreat.HN;split;.rename_i e;exact hk.last _ e.choose_spec
  .rfl
 .have e1:=(h.all hs hp).2;rw[h.get hs (by omega),e]at e1;exact(fd e1).symm
def up8{n:Int}(h:1<=n):8<=up 8 n/\up 8 n<=n+7:=by unfold up;omega
def QW(ts:List aB):∀(p q:List Int),p7 ts (p++q)=p7 ts p+p7 ts q|[],q=>by simp[p7]|t::p,q=>by simp[nf,p7,QW ts p q];omega
def MJ(ts:List aB)(s:List Int):Prop:=∀t,t∈s->0<=t/\t<ts.length
end Go.Proofs.YtgdkmdochlhhlaaGreat
namespace Go.Proofs.YtgdkmdochlhhlaaGreat
open Go Go.bL Go.Sym
open Classical
def EW(a b:Int):(a==b)=decide (a=b):=by grind
def bx{α:Type}{c:Bool}{X Y:Option α}{u v:α}(h1:c=true->X=some u)(h2:c=false->Y=some v):(bif c then X else Y)=some (bif c then u else v):=by grind
def qu{l:List aB}{t:Int}(h:0<=t/\t<l.length):idx l t=some (ez l t.toNat):=by have:=cE (l:=l) (i:=t.toNat) ty0 (by omega);rw[rm h.1]at this;exact this
def Ar{l:List Field}{s:Int}(h:0<=s/\s<l.length):idx l s=some (fl l s.toNat):=by have:=cE (l:=l) (i:=s.toNat) ([],0) (by omega);rw[rm h.1]at this;exact this
def Jx(N:Nat)(l:List Field)(s:Int):OP N (l,s)=some (decide (0<=s/\s<l.length)):=by rw[OP.eq_1,gE,ae,t7]
def acw(N:Nat)(l:List (List UInt8))(s:Int):XH N (l,s)=some (decide (0<=s/\s<l.length)):=by rw[XH.eq_1,gE,ae,t7]
def MK{N:Nat}{a:List Int}{b:Int}(ha:a.length<N)(h2:a.length<=1000):XL N (a,b)=some (decide (b∈a)):=by
 rw[XL.eq_1,abR.eq_1];rcases dM (l:=a) (g:=λ_:Unit=>(.inr ():Int⊕Unit)) (Out:=λr=>b∈a/\∃i:Nat,r=.inl (i:Int)) (Inv:=λi _=>∀j,j<i->a[j]?≠some b) (Lf:=λk i _=>M2 N k (a,b,(a.length:Int),i)) (λk s _=>by simp only[M2.eq_2,aO,af]) (λk i x s hx hI=>by
   have hi:=aC hx;simp only[M2.eq_2,aN hi,au,aE hx,ae,ai (show i<9223372036854775807by omega)];by_cases he:b=x;.subst he;exact .inl ⟨_,⟨aX hx,i,rfl⟩,by simp⟩
   .refine .inr ⟨(),λj hj=>?_,by rw[show(b==x)=false by simpa using he,af]⟩;by_cases hji:j=i;.subst hji;rw[hx];exactλe=>he (fd e).symm
    .exact hI j (by omega)) (k:=N) (s:=()) (λj hj=>by omega) ha with⟨r,⟨h1,i,rfl⟩,h3⟩|⟨_,h1,h3⟩;.simp_all
 .rw[h3,aM (show¬b∈a fromλhm=>by obtain⟨i,hi,rfl⟩:=im.1 hm;exact h1 i hi (aw hi))];rfl
structure iE(ts:List aB)(xs:List (List UInt8))(fs:List Func):Prop where
 fit:ig ts xs fs
 Jy:eN ts xs fs
section
variable{ts:List aB}{xs:List (List UInt8)}{fs:List Func}
def iE.fn(h:iE ts xs fs){i:Nat}(hi:i<fs.length):fG ts.length (gW fs i):=by have:=h.Jy.2.2.2.2.2 i hi;unfold Jq at this<;>grind
def iE.get{f:Func}(h:iE ts xs fs){i:Nat}(hi:fs[i]?=some f):fG ts.length f:=by have:=h.fn (aC hi);unfold gW at this<;>grind
def iE.tys(h:iE ts xs fs):ts.length<=32:=h.Jy.1.1
def iE.fns(h:iE ts xs fs):1<=fs.length/\fs.length<=32:=h.Jy.2.2.1
def iE.ty(h:iE ts xs fs){t:Int}(ht:0<=t/\t<ts.length):dm ts.length t.toNat (ez ts t.toNat):=h.Jy.1.2.1 _ (by omega)
def gj(fs:List Func):List Sg:=fs.map sg
def qv(fs:List Func):(gj fs).length=fs.length:=by simp[gj]
def acy{f:Func}{g:Int}(h0:0<=g)(h:fs[g.toNat]?=some f):Pq (gj fs) g=sg f:=by unfold Pq gj<;>grind
def EY{g:Int}(h:0<=g/\g<fs.length):∃f,idx fs g=some f/\fs[g.toNat]?=some f/\Pq (gj fs) g=sg f:=by obtain⟨f,h1,_,h3⟩:=abZ h.1 h.2;exact⟨f,h1,h3,acy h.1 h3⟩
def xj{sl:List Field}(hr:kj sl ts.length)(s:Int):-1<=fV sl s/\fV sl s<ts.length:=by
 unfold fV;split
 .have hm:fl sl s.toNat∈sl:=by unfold fl<;>grind
  have:=hr _ hm;omega
 .omega
def qN{sl:List Field}(hr:kj sl ts.length){s:Int}(hs:0<=s/\s<sl.length):0<=fV sl s/\fV sl s<ts.length:=by
 have h:=xj hr s;refine⟨?_,h.2⟩;unfold fV;rw[ba hs];have hm:fl sl s.toNat∈sl:=by unfold fl<;>grind
 exact(hr _ hm).1
def aeC(N:Nat)(f:Func)(s:Int):L5 N (ts,xs,fs,f.1,f.2.1,f.2.2.1,f.2.2.2.1,f.2.2.2.2.1,f.2.2.2.2.2.1,f.2.2.2.2.2.2,s)=some (fV f.2.2.2.1 s):=by
 rw[L5.eq_1];simp only[Jx,ae];unfold fV;by_cases h:0<=s/\s<f.2.2.2.1.length;.rw[aT h,ba h,dj,Ar h];rfl
 grind
def aeD(N:Nat){f:Func}{i:Int}(hf:idx fs i=some f)(s:Int):LO N (ts,xs,fs,i,s)=some (fV f.2.2.2.1 s):=by
 rw[LO.eq_1];simp[hf,ae,dL];unfold fV;by_cases h:0<=s/\s<f.2.2.2.1.length;.rw[aM (show¬s<0 by omega),aM (show¬s>=(f.2.2.2.1.length:Int)by omega),ba h,At,Ar h];rfl
 grind
def ML(N:Nat){t:Int}(h:-1<=t/\t<ts.length):Jg N (ts,xs,fs,t)=some (kd ts t):=by
 rw[Jg.eq_1];unfold kd;by_cases h0:t<0;.grind
 .rw[aM h0,bi h0,qu (by omega)];rfl
def aeE{t:Int}(h:0<=t):kd ts t=(ez ts t.toNat).1:=by unfold kd<;>grind
def Jz{t:Int}(h:kd ts t≠0):0<=t:=by unfold kd at h<;>grind
def EZ{N:Nat}(hN:1300<N)(f:Func){t:Int}(h:-1<=t/\t<ts.length){K:List Int}(hK:K.length<=10)(h0:¬(0:Int)∈K):mB N (ts,xs,fs,f.1,f.2.1,f.2.2.1,f.2.2.2.1,f.2.2.2.2.1,f.2.2.2.2.2.1,f.2.2.2.2.2.2,t,K)=some (decide (kd ts t∈K)):=by
 rw[mB.eq_1];unfold kd;by_cases ht:t<0;.grind
 .simp[aT (show t>=0 by omega),au,qu (show 0<=t/\t<ts.length by omega),ae,MK (show K.length<N by omega) (show K.length<=1000by omega),bi ht]
def y8(N:Nat)(x:Instr):SG N (x.1,x.2.1,x.2.2.1,x.2.2.2)=some (called x):=by rw[SG.eq_1];unfold called<;>grind
def QX(N:Nat)(x:Instr):Su N (x.1,x.2.1,x.2.2.1,x.2.2.2)=some (called x):=by rw[Su.eq_1];unfold called<;>grind
def jr{x:Instr}(hc:e8 x=true){p q r:UInt8}(hs:yL x.1=some (p,q,r)):(p=119\/p=114->0<=x.2.1/\x.2.1∈bw ng x++bw qL x)/\(q=119\/q=114->0<=x.2.2.1/\x.2.2.1∈bw ng x++bw qL x)/\(r=119\/r=114->0<=x.2.2.2/\x.2.2.2∈bw ng x++bw qL x):=by
 have key:∀(c:UInt8)(v:Int),fits c v=true->c=119\/c=114->0<=v/\(v∈one (ng c v) v\/v∈one (qL c v) v):=λc v h hc=>by
  unfold fits at h;rw[al,dk,dk]at h;rcases hc with rfl|rfl;.have h0:0<=v:=h.1;exact⟨h0,.inr (by unfold qL;rw[aT (show v>=0from h0)];exact ca.2 rfl)⟩
  .have h0:0<=v:=h.1;exact⟨h0,.inl (by unfold ng;rw[aT (show v>=0from h0)];exact ca.2 rfl)⟩
 simp[e8,hs,al]at hc;obtain⟨h1,h2,h3⟩:=hc;simp only[bw,hs,bm]<;>grind
def E0{x:Instr}(hc:e8 x=true):(bw ng x).length+(bw qL x).length<=6/\∀s,s∈bw ng x++bw qL x->0<=s/\s<=15:=by
 have h1:=kZ ng x;have h2:=kZ qL x;refine⟨by omega,λs hs=>?_⟩;rcases bm.1 hs with hs|hs;.exact(p4 hc).1 s hs
 .exact(p4 hc).2 s hs
def aqj{N:Nat}(hN:1300<N)(f:Func){x:Instr}(hc:e8 x=true):XJ N (ts,xs,fs,f.1,f.2.1,f.2.2.1,f.2.2.2.1,f.2.2.2.2.1,f.2.2.2.2.2.1,f.2.2.2.2.2.2,x.1,x.2.1,x.2.2.1,x.2.2.2)=some (if n7 xs.length (gj fs) f.2.2.2.1 x then 0 else 16):=by
 obtain⟨h6,hnn⟩:=E0 hc;have hlen:(bw ng x++bw qL x).length<=6:=by grind
 have key:=gw (l:=bw ng x++bw qL x) (a:=(.inr (ts,xs,fs,f.1,f.2.1,f.2.2.1,f.2.2.2.1,f.2.2.2.2.1,f.2.2.2.2.2.1,f.2.2.2.2.2.2,x.1,x.2.1,x.2.2.1,x.2.2.2):Int⊕_)) (b:=.inl 16) (p:=λs=>!decide (0<=s/\s<f.2.2.2.1.length)) (Lf:=λk i=>LT N k (((bw ng x++bw qL x).length:Int),i,ts,xs,fs,f.1,f.2.1,f.2.2.1,f.2.2.2.1,f.2.2.2.2.1,f.2.2.2.2.2.1,f.2.2.2.2.2.2,x.1,x.2.1,x.2.2.1,x.2.2.2,bw ng x++bw qL x)) (λk _=>by simp only[LT.eq_2,aO,af]) (λk i s hx _=>by have hi:=aC hx;simp only[LT.eq_2,aN hi,au,cB hi,aj,bd,hx,ae,Jx,ai (show i<9223372036854775807by omega)];cases decide (0<=s/\s<(f.2.2.2.1.length:Int))<;>rfl) (k:=N) (by omega);rw[XJ.eq_1,Pc,hc];simp only[au,ae,show((0:Int)!=0)=false from rfl,af,ak (show(bw ng x).length+(bw qL x).length<=10000000by omega) (show 8<=1000by omega),aj,key];unfold n7;rw[qv];by_cases h1:∀s,s∈bw ng x++bw qL x->s<(f.2.2.2.1.length:Int)
 .have hn:¬∃s,s∈bw ng x++bw qL x/\(!decide (0<=s/\s<(f.2.2.2.1.length:Int)))=true:=λ⟨s,hs,h⟩=>by rw[aT ⟨(hnn s hs).1,h1 s hs⟩]at h;cases h
  simp only[bi hn,y8,ae,acw];by_cases h2:called x<(fs.length:Int)
  .rw[aM (show¬called x>=(fs.length:Int)by omega)];by_cases h3:x.1=2
   .have h0:0<=x.2.2.1:=by have e:yL 2=some (119,116,45):=rfl;simp[e8,h3,e,fits,al,dk]at hc;exact hc.2.1.1
    grind
   grind
  grind
 .have hy:∃s,s∈bw ng x++bw qL x/\(!decide (0<=s/\s<(f.2.2.2.1.length:Int)))=true:=by grind
  grind
def aqk{N:Nat}(hN:1300<N){f:Func}{g:Int}(hf:idx fs g=some f){x:Instr}(hc:e8 x=true):Wf N (ts,xs,fs,g,x.1,x.2.1,x.2.2.1,x.2.2.2)=some (decide (n7 xs.length (gj fs) f.2.2.2.1 x)):=by
 obtain⟨h6,hnn⟩:=E0 hc;have hlen:(bw ng x++bw qL x).length<=6:=by grind
 have key:=gw (l:=bw ng x++bw qL x) (a:=(.inr (ts,xs,fs,x.1,x.2.1,x.2.2.1,x.2.2.2):Bool⊕_)) (b:=.inl false) (p:=λs=>decide (s>=(f.2.2.2.1.length:Int))) (Lf:=λk i=>GT N k (g,bw ng x++bw qL x,i,ts,xs,fs,x.1,x.2.1,x.2.2.1,x.2.2.2)) (λk _=>by simp only[GT.eq_2,aO,af]) (λk i s hx _=>by have hi:=aC hx;simp only[GT.eq_2,aN hi,au,aE hx,ae,hf,ai (show i<9223372036854775807by omega)];cases decide (s>=(f.2.2.2.1.length:Int))<;>rfl) (k:=N) (by omega);rw[Wf.eq_1,xh N hc];simp only[ae,i6,m6,kb,ak (show(bw ng x).length<=10000000by omega) (show 8<=1000by omega),ak (show(bw ng x).length+(bw qL x).length<=10000000by omega) (show 8<=1000by omega),aj,key];have hnb:n7 xs.length (gj fs) f.2.2.2.1 x↔(∀s,s∈bw ng x++bw qL x->s<(f.2.2.2.1.length:Int))/\called x<(fs.length:Int)/\(x.1=2->x.2.2.1<(xs.length:Int)):=by unfold n7;rw[qv]
 by_cases h1:∀s,s∈bw ng x++bw qL x->s<(f.2.2.2.1.length:Int)
 .have hn:¬∃s,s∈bw ng x++bw qL x/\decide (s>=(f.2.2.2.1.length:Int))=true:=λ⟨s,hs,h⟩=>by have:=h1 s hs;rw[aM (by omega)]at h;cases h
  simp only[bi hn,QX,ae,zY]<;>grind
 .have hy:∃s,s∈bw ng x++bw qL x/\decide (s>=(f.2.2.2.1.length:Int))=true:=by grind
  grind
end
def MM(ts:List aB)(S:List Sg)(sl:List Field)(re:Int)(x:Instr):Bool:=bif x.1==1||x.1==32then decide (kd ts (fV sl x.2.1)=2)else bif x.1==2then decide (kd ts (fV sl x.2.1)=3)else bif x.1==3||x.1==23then decide (kd ts (fV sl x.2.1)=1)else bif x.1==5then decide (fV sl x.2.1=fV sl x.2.2.1)else bif x.1==6||(x.1==7||(x.1==8||x.1==9))then decide (kd ts (fV sl x.2.1)=2/\kd ts (fV sl x.2.2.1)=2/\kd ts (fV sl x.2.2.2)=2)else bif x.1==10then decide (kd ts (fV sl x.2.1)=1/\kd ts (fV sl x.2.2.1)=2/\kd ts (fV sl x.2.2.2)=2)else bif x.1==11then decide (kd ts (fV sl x.2.1)=1/\fV sl x.2.2.1=fV sl x.2.2.2/\MI (kd ts (fV sl x.2.2.1)))else bif x.1==12then decide (kd ts (fV sl x.2.1)=1/\kd ts (fV sl x.2.2.1)=1)else bif x.1==13then decide (acv ts (fV sl x.2.2.1) x.2.2.2 (fV sl x.2.1))else bif x.1==14then decide (acv ts (fV sl x.2.1) x.2.2.1 (fV sl x.2.2.2))else bif x.1==15then decide (kd ts (fV sl x.2.1)=4)else bif x.1==16then decide (kd ts (fV sl x.2.2.1)=4/\elt ts (fV sl x.2.2.1)=fV sl x.2.1)else bif x.1==17then decide (kd ts (fV sl x.2.1)=4/\elt ts (fV sl x.2.1)=fV sl x.2.2.1)else bif x.1==18then decide (kd ts (fV sl x.2.1)=7/\kd ts (fV sl x.2.2.1)=2)else bif x.1==19then decide ((kd ts (fV sl x.2.2.1)=7\/kd ts (fV sl x.2.2.1)=6)/\elt ts (fV sl x.2.2.1)=fV sl x.2.1/\kd ts (fV sl x.2.2.2)=2)else bif x.1==20then decide ((kd ts (fV sl x.2.1)=7\/kd ts (fV sl x.2.1)=6)/\elt ts (fV sl x.2.1)=fV sl x.2.2.2/\kd ts (fV sl x.2.2.1)=2)else bif x.1==21then decide (kd ts (fV sl x.2.1)=2/\(kd ts (fV sl x.2.2.1)=3\/kd ts (fV sl x.2.2.1)=7\/kd ts (fV sl x.2.2.1)=6))else bif x.1==25then decide (x.2.1<0\/(Pq S x.2.2.1).2.1=fV sl x.2.1)else bif x.1==26||x.1==27then decide (EV ts (Pq S x.2.1))else bif x.1==28then decide (kd ts (fV sl x.2.1)=2\/kd ts (fV sl x.2.1)=1\/kd ts (fV sl x.2.1)=3)else bif x.1==29||x.1==33then decide (kd ts (fV sl x.2.1)=1/\kd ts (fV sl x.2.2.1)=2)else bif x.1==34then decide (x.2.1<0\/re=fV sl x.2.1)else true
def n8{β:Type}{l:List Int}{q:Int->Bool}{r:β}{h:Int->β}{Lf:Nat->Int->Option β}(h0:∀k,Lf (k+1) (l.length:Int)=some r)(hs:∀k(i:Nat)x,l[i]?=some x->x∈l->Lf (k+1) (i:Int)=if q x=true then Lf k ((i+1:Nat):Int)else some (h (i:Int))){N:Nat}(hN:l.length<N):(l.all q=true/\Lf N 0=some r)\/(l.all q=false/\∃i:Nat,Lf N 0=some (h (i:Int))):=by
 rcases dM (l:=l) (g:=λ_:Unit=>r) (Out:=λz=>l.all q=false/\∃i:Nat,z=h (i:Int)) (Inv:=λi _=>∀j x,j<i->l[j]?=some x->q x=true) (Lf:=λk i _=>Lf k i) (λk _ _=>h0 k) (λk i x _ hx hI=>by cases hq:q x with|false=>exact .inl ⟨_,⟨by rw[List.all_eq_false];exact⟨x,aX hx,by rw[hq];exact Bool.false_ne_true⟩,i,rfl⟩,by show Lf _ _=_;rw[hs k i x hx (aX hx),hq];rfl⟩|true=>
  refine .inr ⟨(),λj y hj hy=>?_,by show Lf _ _=_;rw[hs k i x hx (aX hx),hq];rfl⟩;by_cases e:j=i;.subst e;rw[hx]at hy;rw[<-fd hy];exact hq
  .exact hI j y (by omega) hy) (k:=N) (s:=()) (λj x hj=>by omega) hN with⟨z,⟨h1,i,rfl⟩,h2⟩|⟨_,h1,h2⟩;.grind
 .refine .inl ⟨fr.2 λx hx=>?_,h2⟩;obtain⟨i,hi,rfl⟩:=im.1 hx<;>simp_all
section
variable{ts:List aB}{xs:List (List UInt8)}{fs:List Func}
def acz{N:Nat}(hN:1300<N)(f:Func){l:List Int}(hl:l.length<=10){c:Int}(hc:c=l.length)(ht:∀t,t∈l->-1<=t/\t<ts.length):(l.all (λt=>decide (kd ts t=2))=true/\mQ N N (l,c,0,ts,xs,fs,f.1,f.2.1,f.2.2.1,f.2.2.2.1,f.2.2.2.2.1,f.2.2.2.2.2.1,f.2.2.2.2.2.2)=some (.inr ()))\/(l.all (λt=>decide (kd ts t=2))=false/\∃i:Nat,mQ N N (l,c,0,ts,xs,fs,f.1,f.2.1,f.2.2.1,f.2.2.2.1,f.2.2.2.2.1,f.2.2.2.2.2.1,f.2.2.2.2.2.2)=some (.inl (i:Int))):=by subst hc;refine n8 (N:=N) (l:=l) (q:=(λt=>decide (kd ts t=2))) (r:=.inr ()) (h:=λi=>.inl i) (Lf:=λk i=>mQ N k (l,(l.length:Int),i,ts,xs,fs,f.1,f.2.1,f.2.2.1,f.2.2.2.1,f.2.2.2.2.1,f.2.2.2.2.2.1,f.2.2.2.2.2.2)) (λk=>by simp only[mQ.eq_2,aO,af]) (λk i x hx hm=>?_) (by omega);have hi:=aC hx;simp only[mQ.eq_2,aN hi,au,aE hx,ae,EZ hN f (ht x hm) (show[2].length<=10by decide) (show¬(0:Int)∈[2]by decide),ai (show i<9223372036854775807by omega),ca]<;>grind
def acA{N:Nat}(hN:1300<N)(f:Func){l:List Int}(hl:l.length<=10){c:Int}(hc:c=l.length)(ht:∀t,t∈l->-1<=t/\t<ts.length):(l.all (λt=>decide (kd ts t=2))=true/\mR N N (l,c,0,ts,xs,fs,f.1,f.2.1,f.2.2.1,f.2.2.2.1,f.2.2.2.2.1,f.2.2.2.2.2.1,f.2.2.2.2.2.2)=some (.inr ()))\/(l.all (λt=>decide (kd ts t=2))=false/\∃i:Nat,mR N N (l,c,0,ts,xs,fs,f.1,f.2.1,f.2.2.1,f.2.2.2.1,f.2.2.2.2.1,f.2.2.2.2.2.1,f.2.2.2.2.2.2)=some (.inl (i:Int))):=by subst hc;refine n8 (N:=N) (l:=l) (q:=(λt=>decide (kd ts t=2))) (r:=.inr ()) (h:=λi=>.inl i) (Lf:=λk i=>mR N k (l,(l.length:Int),i,ts,xs,fs,f.1,f.2.1,f.2.2.1,f.2.2.2.1,f.2.2.2.2.1,f.2.2.2.2.2.1,f.2.2.2.2.2.2)) (λk=>by simp only[mR.eq_2,aO,af]) (λk i x hx hm=>?_) (by omega);have hi:=aC hx;simp only[mR.eq_2,aN hi,au,aE hx,ae,EZ hN f (ht x hm) (show[2].length<=10by decide) (show¬(0:Int)∈[2]by decide),ai (show i<9223372036854775807by omega),ca]<;>grind
def acB{N:Nat}(hN:1300<N)(f:Func){l:List Int}(hl:l.length<=10){c:Int}(hc:c=l.length)(ht:∀t,t∈l->-1<=t/\t<ts.length):(l.all (λt=>decide (kd ts t=2))=true/\mT N N (l,c,0,ts,xs,fs,f.1,f.2.1,f.2.2.1,f.2.2.2.1,f.2.2.2.2.1,f.2.2.2.2.2.1,f.2.2.2.2.2.2)=some (.inr ()))\/(l.all (λt=>decide (kd ts t=2))=false/\∃i:Nat,mT N N (l,c,0,ts,xs,fs,f.1,f.2.1,f.2.2.1,f.2.2.2.1,f.2.2.2.2.1,f.2.2.2.2.2.1,f.2.2.2.2.2.2)=some (.inl (i:Int))):=by subst hc;refine n8 (N:=N) (l:=l) (q:=(λt=>decide (kd ts t=2))) (r:=.inr ()) (h:=λi=>.inl i) (Lf:=λk i=>mT N k (l,(l.length:Int),i,ts,xs,fs,f.1,f.2.1,f.2.2.1,f.2.2.2.1,f.2.2.2.2.1,f.2.2.2.2.2.1,f.2.2.2.2.2.2)) (λk=>by simp only[mT.eq_2,aO,af]) (λk i x hx hm=>?_) (by omega);have hi:=aC hx;simp only[mT.eq_2,aN hi,au,aE hx,ae,EZ hN f (ht x hm) (show[2].length<=10by decide) (show¬(0:Int)∈[2]by decide),ai (show i<9223372036854775807by omega),ca]<;>grind
def acC{N:Nat}(hN:1300<N)(f:Func){l:List Int}(hl:l.length<=10){c:Int}(hc:c=l.length)(ht:∀t,t∈l->-1<=t/\t<ts.length):(l.all (λt=>decide (kd ts t=2))=true/\mU N N (l,c,0,ts,xs,fs,f.1,f.2.1,f.2.2.1,f.2.2.2.1,f.2.2.2.2.1,f.2.2.2.2.2.1,f.2.2.2.2.2.2)=some (.inr ()))\/(l.all (λt=>decide (kd ts t=2))=false/\∃i:Nat,mU N N (l,c,0,ts,xs,fs,f.1,f.2.1,f.2.2.1,f.2.2.2.1,f.2.2.2.2.1,f.2.2.2.2.2.1,f.2.2.2.2.2.2)=some (.inl (i:Int))):=by subst hc;refine n8 (N:=N) (l:=l) (q:=(λt=>decide (kd ts t=2))) (r:=.inr ()) (h:=λi=>.inl i) (Lf:=λk i=>mU N k (l,(l.length:Int),i,ts,xs,fs,f.1,f.2.1,f.2.2.1,f.2.2.2.1,f.2.2.2.2.1,f.2.2.2.2.2.1,f.2.2.2.2.2.2)) (λk=>by simp only[mU.eq_2,aO,af]) (λk i x hx hm=>?_) (by omega);have hi:=aC hx;simp only[mU.eq_2,aN hi,au,aE hx,ae,EZ hN f (ht x hm) (show[2].length<=10by decide) (show¬(0:Int)∈[2]by decide),ai (show i<9223372036854775807by omega),ca]<;>grind
def acD{N:Nat}(hN:1300<N)(f:Func){l:List Int}(hl:l.length<=10){c:Int}(hc:c=l.length)(ht:∀t,t∈l->-1<=t/\t<ts.length):(l.all (λt=>decide (kd ts t=2))=true/\mV N N (l,c,0,ts,xs,fs,f.1,f.2.1,f.2.2.1,f.2.2.2.1,f.2.2.2.2.1,f.2.2.2.2.2.1,f.2.2.2.2.2.2)=some (.inr ()))\/(l.all (λt=>decide (kd ts t=2))=false/\∃i:Nat,mV N N (l,c,0,ts,xs,fs,f.1,f.2.1,f.2.2.1,f.2.2.2.1,f.2.2.2.2.1,f.2.2.2.2.2.1,f.2.2.2.2.2.2)=some (.inl (i:Int))):=by subst hc;refine n8 (N:=N) (l:=l) (q:=(λt=>decide (kd ts t=2))) (r:=.inr ()) (h:=λi=>.inl i) (Lf:=λk i=>mV N k (l,(l.length:Int),i,ts,xs,fs,f.1,f.2.1,f.2.2.1,f.2.2.2.1,f.2.2.2.2.1,f.2.2.2.2.2.1,f.2.2.2.2.2.2)) (λk=>by simp only[mV.eq_2,aO,af]) (λk i x hx hm=>?_) (by omega);have hi:=aC hx;simp only[mV.eq_2,aN hi,au,aE hx,ae,EZ hN f (ht x hm) (show[2].length<=10by decide) (show¬(0:Int)∈[2]by decide),ai (show i<9223372036854775807by omega),ca]<;>grind
def acE{N:Nat}(hN:1300<N)(f:Func){l:List Int}(hl:l.length<=10){c:Int}(hc:c=l.length)(ht:∀t,t∈l->-1<=t/\t<ts.length):(l.all (λt=>decide (kd ts t=2))=true/\mW N N (l,c,0,ts,xs,fs,f.1,f.2.1,f.2.2.1,f.2.2.2.1,f.2.2.2.2.1,f.2.2.2.2.2.1,f.2.2.2.2.2.2)=some (.inr ()))\/(l.all (λt=>decide (kd ts t=2))=false/\∃i:Nat,mW N N (l,c,0,ts,xs,fs,f.1,f.2.1,f.2.2.1,f.2.2.2.1,f.2.2.2.2.1,f.2.2.2.2.2.1,f.2.2.2.2.2.2)=some (.inl (i:Int))):=by subst hc;refine n8 (N:=N) (l:=l) (q:=(λt=>decide (kd ts t=2))) (r:=.inr ()) (h:=λi=>.inl i) (Lf:=λk i=>mW N k (l,(l.length:Int),i,ts,xs,fs,f.1,f.2.1,f.2.2.1,f.2.2.2.1,f.2.2.2.2.1,f.2.2.2.2.2.1,f.2.2.2.2.2.2)) (λk=>by simp only[mW.eq_2,aO,af]) (λk i x hx hm=>?_) (by omega);have hi:=aC hx;simp only[mW.eq_2,aN hi,au,aE hx,ae,EZ hN f (ht x hm) (show[2].length<=10by decide) (show¬(0:Int)∈[2]by decide),ai (show i<9223372036854775807by omega),ca]<;>grind
def acF{N:Nat}(hN:1300<N)(f:Func){l:List Int}(hl:l.length<=10){c:Int}(hc:c=l.length)(ht:∀t,t∈l->-1<=t/\t<ts.length):(l.all (λt=>decide (kd ts t=2))=true/\mY N N (l,c,0,ts,xs,fs,f.1,f.2.1,f.2.2.1,f.2.2.2.1,f.2.2.2.2.1,f.2.2.2.2.2.1,f.2.2.2.2.2.2)=some (.inr ()))\/(l.all (λt=>decide (kd ts t=2))=false/\∃i:Nat,mY N N (l,c,0,ts,xs,fs,f.1,f.2.1,f.2.2.1,f.2.2.2.1,f.2.2.2.2.1,f.2.2.2.2.2.1,f.2.2.2.2.2.2)=some (.inl (i:Int))):=by subst hc;refine n8 (N:=N) (l:=l) (q:=(λt=>decide (kd ts t=2))) (r:=.inr ()) (h:=λi=>.inl i) (Lf:=λk i=>mY N k (l,(l.length:Int),i,ts,xs,fs,f.1,f.2.1,f.2.2.1,f.2.2.2.1,f.2.2.2.2.1,f.2.2.2.2.2.1,f.2.2.2.2.2.2)) (λk=>by simp only[mY.eq_2,aO,af]) (λk i x hx hm=>?_) (by omega);have hi:=aC hx;simp only[mY.eq_2,aN hi,au,aE hx,ae,EZ hN f (ht x hm) (show[2].length<=10by decide) (show¬(0:Int)∈[2]by decide),ai (show i<9223372036854775807by omega),ca]<;>grind
def acG{N:Nat}(hN:1300<N)(f:Func){l:List Int}(hl:l.length<=10){c:Int}(hc:c=l.length)(ht:∀t,t∈l->-1<=t/\t<ts.length):(l.all (λt=>decide (kd ts t=2))=true/\mX N N (l,c,0,ts,xs,fs,f.1,f.2.1,f.2.2.1,f.2.2.2.1,f.2.2.2.2.1,f.2.2.2.2.2.1,f.2.2.2.2.2.2)=some (.inr (ts,xs,fs,f.1,f.2.1,f.2.2.1,f.2.2.2.1,f.2.2.2.2.1,f.2.2.2.2.2.1,f.2.2.2.2.2.2)))\/(l.all (λt=>decide (kd ts t=2))=false/\∃i:Nat,mX N N (l,c,0,ts,xs,fs,f.1,f.2.1,f.2.2.1,f.2.2.2.1,f.2.2.2.2.1,f.2.2.2.2.2.1,f.2.2.2.2.2.2)=some (.inl ((i:Int),ts,xs,fs,f.1,f.2.1,f.2.2.1,f.2.2.2.1,f.2.2.2.2.1,f.2.2.2.2.2.1,f.2.2.2.2.2.2))):=by subst hc;refine n8 (N:=N) (l:=l) (q:=(λt=>decide (kd ts t=2))) (r:=.inr (ts,xs,fs,f.1,f.2.1,f.2.2.1,f.2.2.2.1,f.2.2.2.2.1,f.2.2.2.2.2.1,f.2.2.2.2.2.2)) (h:=λi=>.inl (i,ts,xs,fs,f.1,f.2.1,f.2.2.1,f.2.2.2.1,f.2.2.2.2.1,f.2.2.2.2.2.1,f.2.2.2.2.2.2)) (Lf:=λk i=>mX N k (l,(l.length:Int),i,ts,xs,fs,f.1,f.2.1,f.2.2.1,f.2.2.2.1,f.2.2.2.2.1,f.2.2.2.2.2.1,f.2.2.2.2.2.2)) (λk=>by simp only[mX.eq_2,aO,af]) (λk i x hx hm=>?_) (by omega);have hi:=aC hx;simp only[mX.eq_2,aN hi,au,aE hx,ae,EZ hN f (ht x hm) (show[2].length<=10by decide) (show¬(0:Int)∈[2]by decide),ai (show i<9223372036854775807by omega),ca]<;>grind
def aql{N:Nat}(hN:1300<N)(hv:iE ts xs fs)(f:Func){t i o:Int}(h:-1<=t/\t<ts.length):SH N (ts,xs,fs,f.1,f.2.1,f.2.2.1,f.2.2.2.1,f.2.2.2.2.1,f.2.2.2.2.2.1,f.2.2.2.2.2.2,t,i,o)=some (decide (acv ts t i o)):=by
 rw[SH.eq_1];simp only[EZ hN f h (show[5].length<=10by decide) (show¬(0:Int)∈[5]by decide),ae,ca];by_cases h5:kd ts t=5
 .have h0:=Jz (ts:=ts) (t:=t) (by omega);rw[aT h5,au,qu ⟨h0,h.2⟩];simp only[ae,Jx];by_cases hi:0<=i/\i<(ez ts t.toNat).2.2.2.length;.rw[aT hi,au,Ar hi,ae]<;>grind
  grind
 grind
def aqm{N:Nat}(hv:iE ts xs fs){t i o:Int}(h:-1<=t/\t<ts.length)(ho:0<=o):(Sw N (ts,xs,fs,t,i)).bind (λA=>some (A==o))=some (decide (acv ts t i o)):=by
 rw[Sw.eq_1,ML N h];simp only[ae];by_cases h5:kd ts t=5
 .have h0:=Jz (ts:=ts) (t:=t) (by omega);rw[show(kd ts t !=5)=false by simp[h5],af,qu ⟨h0,h.2⟩];simp only[ae,dL];by_cases hi:0<=i/\i<(ez ts t.toNat).2.2.2.length;.rw[aM (show¬i<0 by omega),aM (show¬i>=((ez ts t.toNat).2.2.2.length:Int)by omega),At,af,Ar hi]<;>grind
  .rw[show(decide (i<0)||decide (i>=((ez ts t.toNat).2.2.2.length:Int)))=true by rw[<-Bool.decide_or];exact aT (by omega),au,ae,aM (λh:(_/\_/\_)=>hi h.2.1),show((-1:Int)==o)=false by rw[ma];omega]
 .rw[show(kd ts t !=5)=true by simp[bne,h5],au,ae,au,ae,aM (λh:(_/\_/\_)=>h5 h.1),show((-1:Int)==o)=false by rw[ma];omega]
def acH{N:Nat}(hN:1300<N)(f:Func){t o:Int}(h:-1<=t/\t<ts.length){K:List Int}(hK:K.length<=10)(h0:¬(0:Int)∈K):L6 N (ts,xs,fs,f.1,f.2.1,f.2.2.1,f.2.2.2.1,f.2.2.2.2.1,f.2.2.2.2.2.1,f.2.2.2.2.2.2,t,o,K)=some (decide (kd ts t∈K/\elt ts t=o)):=by
 rw[L6.eq_1];simp only[EZ hN f h hK h0,ae];by_cases hk:kd ts t∈K;.have ht:=Jz (ts:=ts) (t:=t) (λe=>h0 (e▸hk));rw[aT hk,au,qu ⟨ht,h.2⟩];unfold elt;simp[hk,EW]
 .rw[aM hk,af,aM (λh:(_/\_)=>hk h.1)];rfl
def ofR{N:Nat}{t:Int}(h:-1<=t/\t<ts.length){a b:Int}(ha:a≠0)(hb:b≠0):LP N (ts,xs,fs,t,a,b)=some (if kd ts t=a\/kd ts t=b then elt ts t else-1):=by
 rw[LP.eq_1,ML N h];simp only[ae,zY];by_cases hk:kd ts t=a\/kd ts t=b;.have ht:=Jz (ts:=ts) (t:=t) (λe=>by rcases hk with hk|hk<;>rw[e]at hk<;>first|exact ha hk.symm|exact hb hk.symm);rw[ba hk,aM (show¬t<0 by omega),show(bif(kd ts t !=a)then(kd ts t !=b)else false)=false by rcases hk with hk|hk<;>simp[hk]];simp[af,qu (show 0<=t/\t<(ts.length:Int)by omega),ae];rfl
 grind
def Tl{N:Nat}(hN:1300<N)(hv:iE ts xs fs)(f:Func){g:Func}(hg:fG ts.length g):XM N (ts,xs,fs,f.1,f.2.1,f.2.2.1,f.2.2.2.1,f.2.2.2.2.1,f.2.2.2.2.2.1,f.2.2.2.2.2.2,g.1,g.2.1,g.2.2.1,g.2.2.2.1,g.2.2.2.2.1,g.2.2.2.2.2.1,g.2.2.2.2.2.2)=some (decide (EV ts (sg g))):=by
 rw[XM.eq_1];rw[show decide (EV ts (sg g))=decide (g.2.2.1<0/\(g.2.1=0\/g.2.1=1/\MI (kd ts (fl g.2.2.2.1 0).2)))from ka.2 zt];by_cases h1:g.2.2.1<0
 .rw[aT h1,au];by_cases h2:g.2.1=0;.grind
  .rw[show(g.2.1==(0:Int))=false by simpa using h2,af];by_cases h3:g.2.1=1
   .have hl:(0:Int)<=0/\(0:Int)<g.2.2.2.1.length:=by have:=hg.2.2.2.1.2;omega
    have hm:fl g.2.2.2.1 0∈g.2.2.2.1:=by unfold fl<;>grind
    have hr:=hg.2.2.2.2.2.1 _ hm;have e:=Ar hl;simp at e;rw[show(g.2.1==(1:Int))=true by simpa using h3,e];simp only[ae,EZ hN f (show-1<=(fl g.2.2.2.1 0).2/\(fl g.2.2.2.1 0).2<(ts.length:Int)by omega) (show[1,2,4].length<=10by decide) (show¬(0:Int)∈[1,2,4]by decide)]<;>grind
   grind
 grind
def Tm{N:Nat}(hv:iE ts xs fs){i:Int}{g:Func}(hi:idx fs i=some g)(hg:fG ts.length g):Wg N (ts,xs,fs,i)=some (decide (EV ts (sg g))):=by
 rw[Wg.eq_1,hi];rw[show decide (EV ts (sg g))=decide (g.2.2.1<0/\(g.2.1=0\/g.2.1=1/\MI (kd ts (fl g.2.2.2.1 0).2)))from ka.2 zt];simp only[ae];have zf:=hg.2.2.2.2.1.1;by_cases h1:g.2.2.1<0
 .rw[show(g.2.2.1==(-1:Int))=true by rw[lw];omega];by_cases h2:g.2.1=0;.grind
  .rw[show(g.2.1==(0:Int))=false by simpa using h2];by_cases h3:g.2.1=1
   .have hl:(0:Int)<=0/\(0:Int)<g.2.2.2.1.length:=by have:=hg.2.2.2.1.2;omega
    have hm:fl g.2.2.2.1 0∈g.2.2.2.1:=by unfold fl<;>grind
    have hr:=hg.2.2.2.2.2.1 _ hm;have e:=Ar hl;simp at e;rw[au,e];simp[ae,qu hr,Sv.eq_1,dL];rw[<-aeE hr.1]<;>grind
   grind
 grind
def aio{N:Nat}(hN:1300<N)(hv:iE ts xs fs){f:Func}(hf:fG ts.length f){x:Instr}(hc:e8 x=true)(hn:n7 xs.length (gj fs) f.2.2.2.1 x):XV N (ts,xs,fs,f.1,f.2.1,f.2.2.1,f.2.2.2.1,f.2.2.2.2.1,f.2.2.2.2.2.1,f.2.2.2.2.2.2,x.1,x.2.1,x.2.2.1,x.2.2.2)=some (MM ts (gj fs) f.2.2.2.1 f.2.2.1 x):=by
 have hr:=hf.2.2.2.2.2.1;have hA:=xj hr x.2.1;have hB:=xj hr x.2.2.1;have hC:=xj hr x.2.2.2;rw[XV.eq_1];simp only[aeC,ae,dL];unfold MM;refine bx (λh=>?_) (λ_=>?_)
 .rcases acz hN f (l:=[fV f.2.2.2.1 x.2.1]) (by simp) (c:=1) rfl (λt ht=>by rw[ca.1 ht];exact hA)with⟨e1,e2⟩|⟨e1,i,e2⟩;.rw[e2];show some true=_;congr 1;simp_all
  .rw[e2];show some (!decide ((i:Int)>=0))=_;rw[aT (show(i:Int)>=0 by omega)];congr 1;simp_all
 refine bx (λh=>?_) (λ_=>?_);.rw[EZ hN f hA (show[3].length<=10by decide) (show¬(0:Int)∈[3]by decide),ae];congr 1;simp
 refine bx (λh=>?_) (λ_=>?_);.rw[EZ hN f hA (show[1].length<=10by decide) (show¬(0:Int)∈[1]by decide),ae];congr 1;simp
 refine bx (λh=>?_) (λ_=>?_);.rw[EW]
 refine bx (λh=>?_) (λ_=>?_)
 .rcases acA hN f (l:=[fV f.2.2.2.1 x.2.1,fV f.2.2.2.1 x.2.2.1,fV f.2.2.2.1 x.2.2.2]) (by simp) (c:=3) rfl (λt ht=>by simp only[dl,dE,km]at ht;rcases ht with rfl|rfl|rfl<;>assumption)with⟨e1,e2⟩|⟨e1,i,e2⟩;.rw[e2];show some true=_;congr 1;simp_all
  .rw[e2];show some (!decide ((i:Int)>=0))=_;rw[aT (show(i:Int)>=0 by omega)];congr 1;simp_all
 refine bx (λh=>?_) (λ_=>?_)
 .rw[EZ hN f hA (show[1].length<=10by decide) (show¬(0:Int)∈[1]by decide),ae];by_cases hk:kd ts (fV f.2.2.2.1 x.2.1)=1
  .rw[aT (show kd ts (fV f.2.2.2.1 x.2.1)∈[1]by simpa using hk),au];rcases acB hN f (l:=[fV f.2.2.2.1 x.2.2.1,fV f.2.2.2.1 x.2.2.2]) (by simp) (c:=2) rfl (λt ht=>by simp only[dl,dE,km]at ht;rcases ht with rfl|rfl<;>assumption)with⟨e1,e2⟩|⟨e1,i,e2⟩;.rw[e2];show some true=_;congr 1;simp_all
   .rw[e2];show some (!decide ((i:Int)>=0))=_;rw[aT (show(i:Int)>=0 by omega)];congr 1;simp_all
  .rw[aM (show¬kd ts (fV f.2.2.2.1 x.2.1)∈[1]by simpa using hk),af,aM (λh:(_/\_/\_)=>hk h.1)]
 refine bx (λh=>?_) (λ_=>?_);.rw[EZ hN f hA (show[1].length<=10by decide) (show¬(0:Int)∈[1]by decide),ae,EZ hN f hB (show[2,1,4].length<=10by decide) (show¬(0:Int)∈[2,1,4]by decide),ae,zY,zY];congr 1;by_cases h1:kd ts (fV f.2.2.2.1 x.2.1)=1<;>by_cases h2:fV f.2.2.2.1 x.2.2.1=fV f.2.2.2.1 x.2.2.2<;>simp[h1,h2,MI,or_left_comm]
 refine bx (λh=>?_) (λ_=>?_);.rw[EZ hN f hA (show[1].length<=10by decide) (show¬(0:Int)∈[1]by decide),ae,EZ hN f hB (show[1].length<=10by decide) (show¬(0:Int)∈[1]by decide),ae,gE];congr 1;simp
 refine bx (λh=>?_) (λ_=>?_);.rw[aql hN hv f hB,ae]
 refine bx (λh=>?_) (λ_=>?_);.rw[aql hN hv f hA,ae]
 refine bx (λh=>?_) (λ_=>?_);.rw[EZ hN f hA (show[4].length<=10by decide) (show¬(0:Int)∈[4]by decide),ae];congr 1;simp
 refine bx (λh=>?_) (λ_=>?_);.rw[acH hN f hB (show[4].length<=10by decide) (show¬(0:Int)∈[4]by decide),ae];congr 1;simp
 refine bx (λh=>?_) (λ_=>?_);.rw[acH hN f hA (show[4].length<=10by decide) (show¬(0:Int)∈[4]by decide),ae];congr 1;simp
 refine bx (λh=>?_) (λ_=>?_)
 .rw[EZ hN f hA (show[7].length<=10by decide) (show¬(0:Int)∈[7]by decide),ae];by_cases hk:kd ts (fV f.2.2.2.1 x.2.1)=7
  .rw[aT (show kd ts (fV f.2.2.2.1 x.2.1)∈[7]by simpa using hk),au];rcases acC hN f (l:=[fV f.2.2.2.1 x.2.2.1]) (by simp) (c:=1) rfl (λt ht=>by rw[ca.1 ht];exact hB)with⟨e1,e2⟩|⟨e1,i,e2⟩;.rw[e2];show some true=_;congr 1;simp_all
   .rw[e2];show some (!decide ((i:Int)>=0))=_;rw[aT (show(i:Int)>=0 by omega)];congr 1;simp_all
  .rw[aM (show¬kd ts (fV f.2.2.2.1 x.2.1)∈[7]by simpa using hk),af,aM (λh:(_/\_)=>hk h.1)]
 refine bx (λh=>?_) (λ_=>?_)
 .rw[acH hN f hB (show[7,6].length<=10by decide) (show¬(0:Int)∈[7,6]by decide),ae];by_cases hk:kd ts (fV f.2.2.2.1 x.2.2.1)∈[7,6]/\elt ts (fV f.2.2.2.1 x.2.2.1)=fV f.2.2.2.1 x.2.1
  .rw[aT hk,au];rcases acD hN f (l:=[fV f.2.2.2.1 x.2.2.2]) (by simp) (c:=1) rfl (λt ht=>by rw[ca.1 ht];exact hC)with⟨e1,e2⟩|⟨e1,i,e2⟩;.rw[e2];show some true=_;congr 1;simp_all
   .rw[e2];show some (!decide ((i:Int)>=0))=_;rw[aT (show(i:Int)>=0 by omega)];congr 1;simp_all
  .rw[aM hk,af,aM (λh:(_/\_/\_)=>hk ⟨by simpa using h.1,h.2.1⟩)]
 refine bx (λh=>?_) (λ_=>?_)
 .rw[acH hN f hA (show[7,6].length<=10by decide) (show¬(0:Int)∈[7,6]by decide),ae];by_cases hk:kd ts (fV f.2.2.2.1 x.2.1)∈[7,6]/\elt ts (fV f.2.2.2.1 x.2.1)=fV f.2.2.2.1 x.2.2.2
  .rw[aT hk,au];rcases acE hN f (l:=[fV f.2.2.2.1 x.2.2.1]) (by simp) (c:=1) rfl (λt ht=>by rw[ca.1 ht];exact hB)with⟨e1,e2⟩|⟨e1,i,e2⟩;.rw[e2];show some true=_;congr 1;simp_all
   .rw[e2];show some (!decide ((i:Int)>=0))=_;rw[aT (show(i:Int)>=0 by omega)];congr 1;simp_all
  .rw[aM hk,af,aM (λh:(_/\_/\_)=>hk ⟨by simpa using h.1,h.2.1⟩)]
 refine bx (λh=>?_) (λ_=>?_)
 .rcases acG hN f (l:=[fV f.2.2.2.1 x.2.1]) (by simp) (c:=1) rfl (λt ht=>by rw[ca.1 ht];exact hA)with⟨e1,e2⟩|⟨e1,i,e2⟩;.rw[e2];simp only[ae,EZ hN f hB (show[3,7,6].length<=10by decide) (show¬(0:Int)∈[3,7,6]by decide)];congr 1;simp_all
  .rw[e2];simp only[ae,aT (show(i:Int)>=0 by omega),dj,af];congr 1;simp_all
 refine bx (λh=>?_) (λ_=>?_)
 .have JQ:x.1=25:=by simpa using h
  have lu:called x=x.2.2.1:=by unfold called;rw[ba JQ]
  have h0:0<=x.2.2.1:=by have e:yL 25=some (103,99,45):=rfl;simp only[e8,JQ,e,fits,al,dk]at hc;exact hc.2.1.1
  have h2:=hn.2.1;rw[lu,qv]at h2;obtain⟨g,g1,_,g3⟩:=EY (fs:=fs) ⟨h0,h2⟩;rw[g1,g3];simp only[ae,dL,sg];congr 1;by_cases e:x.2.1<0<;>simp[e,EW]
 refine bx (λh=>?_) (λ_=>?_)
 .have JQ:x.1=26\/x.1=27:=by simpa using h
  have lu:called x=x.2.1:=by unfold called;rw[bi (by omega),ba JQ]
  have h0:0<=x.2.1:=by
   rcases JQ with JQ|JQ;.have e:yL 26=some (99,45,45):=rfl;simp only[e8,JQ,e,fits,al,dk]at hc;exact hc.1.1
   .have e:yL 27=some (99,45,45):=rfl;simp only[e8,JQ,e,fits,al,dk]at hc;exact hc.1.1
  have h2:=hn.2.1;rw[lu,qv]at h2;obtain⟨g,g1,g2,g3⟩:=EY (fs:=fs) ⟨h0,h2⟩;rw[g1,g3];simp only[ae,Tl hN hv f (hv.get g2)]
 refine bx (λh=>?_) (λ_=>?_);.rw[EZ hN f hA (show[2,1,3].length<=10by decide) (show¬(0:Int)∈[2,1,3]by decide),ae];congr 1;simp
 refine bx (λh=>?_) (λ_=>?_)
 .rw[EZ hN f hA (show[1].length<=10by decide) (show¬(0:Int)∈[1]by decide),ae];by_cases hk:kd ts (fV f.2.2.2.1 x.2.1)=1
  .rw[aT (show kd ts (fV f.2.2.2.1 x.2.1)∈[1]by simpa using hk),au];rcases acF hN f (l:=[fV f.2.2.2.1 x.2.2.1]) (by simp) (c:=1) rfl (λt ht=>by rw[ca.1 ht];exact hB)with⟨e1,e2⟩|⟨e1,i,e2⟩;.rw[e2];show some true=_;congr 1;simp_all
   .rw[e2];show some (!decide ((i:Int)>=0))=_;rw[aT (show(i:Int)>=0 by omega)];congr 1;simp_all
  .rw[aM (show¬kd ts (fV f.2.2.2.1 x.2.1)∈[1]by simpa using hk),af,aM (λh:(_/\_)=>hk h.1)]
 refine bx (λh=>?_) (λ_=>?_);.congr 1;by_cases e:x.2.1<0<;>simp[e,EW]
 rfl
def aip{N:Nat}{i:Int}(hv:iE ts xs fs){f:Func}(hf:fG ts.length f){x:Instr}(hc:e8 x=true)(hn:n7 xs.length (gj fs) f.2.2.2.1 x)(hfi:idx fs i=some f):Wh N (ts,xs,fs,i,x.1,x.2.1,x.2.2.1,x.2.2.2)=some (MM ts (gj fs) f.2.2.2.1 f.2.2.1 x):=by
 have hr:=hf.2.2.2.2.2.1;have hA:=xj hr x.2.1;have hB:=xj hr x.2.2.1;have hC:=xj hr x.2.2.2;rw[Wh.eq_1];simp only[aeD N hfi,ML N hA,ML N hB,ML N hC,ae,dL];refine bx (λh=>?_) (λ_=>?_);.rw[EW]
 refine bx (λh=>?_) (λ_=>?_);.rw[EW]
 refine bx (λh=>?_) (λ_=>?_);.rw[EW]
 refine bx (λh=>?_) (λ_=>?_);.rw[EW]
 refine bx (λh=>?_) (λ_=>?_);.grind
 refine bx (λh=>?_) (λ_=>?_);.grind
 refine bx (λh=>?_) (λ_=>?_)
 .have h11:x.1=11:=by grind
  obtain⟨_,s2,_⟩:=jr hc (p:=119) (q:=114) (r:=114) (by rw[h11];rfl);obtain⟨b0,b1⟩:=s2 (.inr rfl);have hb:=qN hr ⟨b0,hn.1 _ b1⟩;simp only[qu hb,ae,Sv.eq_1,dL,gE];rw[<-aeE hb.1];congr 1;grind
 refine bx (λh=>?_) (λ_=>?_);.grind
 refine bx (λh=>?_) (λ_=>?_)
 .have hk:x.1=13:=by grind
  obtain⟨s1,_,_⟩:=jr hc (p:=119) (q:=114) (r:=102) (by rw[hk];rfl);obtain⟨b0,b1⟩:=s1 (.inl rfl);exact aqm hv hB (qN hr ⟨b0,hn.1 _ b1⟩).1
 refine bx (λh=>?_) (λ_=>?_)
 .have hk:x.1=14:=by grind
  obtain⟨_,_,s3⟩:=jr hc (p:=114) (q:=102) (r:=114) (by rw[hk];rfl);obtain⟨b0,b1⟩:=s3 (.inr rfl);exact aqm hv hA (qN hr ⟨b0,hn.1 _ b1⟩).1
 refine bx (λh=>?_) (λ_=>?_);.rw[EW]
 refine bx (λh=>?_) (λ_=>?_)
 .have hk:x.1=16:=by grind
  obtain⟨s1,_,_⟩:=jr hc (p:=119) (q:=114) (r:=45) (by rw[hk];rfl);obtain⟨b0,b1⟩:=s1 (.inl rfl);have ho:=(qN hr ⟨b0,hn.1 _ b1⟩).1;rw[ofR hB (show(4:Int)≠0 by decide) (show(4:Int)≠0 by decide),ae];congr 1;grind
 refine bx (λh=>?_) (λ_=>?_)
 .have hk:x.1=17:=by grind
  obtain⟨_,s1,_⟩:=jr hc (p:=114) (q:=114) (r:=45) (by rw[hk];rfl);obtain⟨b0,b1⟩:=s1 (.inr rfl);have ho:=(qN hr ⟨b0,hn.1 _ b1⟩).1;rw[ofR hA (show(4:Int)≠0 by decide) (show(4:Int)≠0 by decide),ae];congr 1;grind
 refine bx (λh=>?_) (λ_=>?_);.grind
 refine bx (λh=>?_) (λ_=>?_)
 .have hk:x.1=19:=by grind
  obtain⟨s1,_,_⟩:=jr hc (p:=119) (q:=114) (r:=114) (by rw[hk];rfl);obtain⟨b0,b1⟩:=s1 (.inl rfl);have ho:=(qN hr ⟨b0,hn.1 _ b1⟩).1;rw[ofR hB (show(7:Int)≠0 by decide) (show(6:Int)≠0 by decide),ae]<;>grind
 refine bx (λh=>?_) (λ_=>?_)
 .have hk:x.1=20:=by grind
  obtain⟨_,_,s1⟩:=jr hc (p:=114) (q:=114) (r:=114) (by rw[hk];rfl);obtain⟨b0,b1⟩:=s1 (.inr rfl);have ho:=(qN hr ⟨b0,hn.1 _ b1⟩).1;rw[ofR hA (show(7:Int)≠0 by decide) (show(6:Int)≠0 by decide),ae]<;>grind
 refine bx (λh=>?_) (λ_=>?_);.simp only[dL,gE,ae];simp[EW]
 refine bx (λh=>?_) (λ_=>?_)
 .have JQ:x.1=25:=by grind
  have lu:called x=x.2.2.1:=by unfold called<;>grind
  have h0:0<=x.2.2.1:=by have e:yL 25=some (103,99,45):=rfl;simp[e8,JQ,e,fits,al,dk]at hc;exact hc.2.1.1
  have h2:=hn.2.1;rw[lu,qv]at h2;obtain⟨g,g1,_,g3⟩:=EY (fs:=fs) ⟨h0,h2⟩;rw[g1,g3];simp[ae,dL,sg];have hm:-1<=x.2.1:=by have e:yL 25=some (103,99,45):=rfl;simp[e8,JQ,e,fits,al,dk]at hc;exact hc.1.1
  grind
 refine bx (λh=>?_) (λ_=>?_)
 .have JQ:x.1=26\/x.1=27:=by grind
  have lu:called x=x.2.1:=by unfold called<;>grind
  have h0:0<=x.2.1:=by
   rcases JQ with JQ|JQ;.have e:yL 26=some (99,45,45):=rfl;simp[e8,JQ,e,fits,al,dk]at hc;exact hc.1.1
   .have e:yL 27=some (99,45,45):=rfl;simp[e8,JQ,e,fits,al,dk]at hc;exact hc.1.1
  have h2:=hn.2.1;rw[lu,qv]at h2;obtain⟨g,g1,g2,g3⟩:=EY (fs:=fs) ⟨h0,h2⟩;rw[g3];rw[Tm hv g1 (hv.get g2)];rfl
 refine bx (λh=>?_) (λ_=>?_);.simp[EW]
 refine bx (λh=>?_) (λ_=>?_);.grind
 refine bx (λh=>?_) (λ_=>?_)
 .have hk:x.1=34:=by grind
  have hm:-1<=x.2.1:=by have e:yL 34=some (101,45,45):=rfl;simp[e8,hk,e,fits,al,dk]at hc;exact hc.1.1
  rw[hfi];by_cases e:x.2.1<0<;>grind
 rfl
end
def EP(x:List Ex):Prop:=∀i:Int,0<=i->i<x.length->1<=(fJ x i).1
def MN{C:Int}(hC:1000<=C){x:List Ex}(hx:EX C x)(hp:EP x):∀(fs:List Field)(s a:Int),0<=s->AL a->(∀f,f∈fs->0<=f.2/\f.2<x.length)->(1<=s\/fs≠[])->1<=(gy C x s a fs).2.1
 |[],s,a,_,_,_,h=>by
  rcases h with h|h;.exact h
  grind|f::r,s,a,h0,ha,hf,_=>by obtain⟨b1,b2⟩:=hf f cb;have h1:=hp f.2 b1 b2;obtain⟨e1,e2,e3⟩:=hx.get (by omega) f.2;have hu:=pX e1 h0;exact MN hC hx hp r _ _ (by omega) (ha.max e1) (λg hg=>hf g (db _ hg)) (.inl (by omega))
def Tn{C:Int}(hC:1000<=C)(h8:C%8=0){out:List Ex}(ho:EX C out)(hp:EP out){n i:Nat}{t:aB}(hi:i=out.length)(ht:dm n i t):1<=(qp C out t).1:=by
 unfold qp;unfold dm at ht;split;.omega
 .split;.omega
  .split;.omega
   .split;.rename_i h1 h3 h7 h6;rw[bi (by omega),bi (by omega),ba h6]at ht;obtain⟨⟨a1,a2⟩,⟨b1,b2⟩,_⟩:=ht;have:=hp t.2.1 a1 (by omega);have:1<=t.2.2.1*(fJ out t.2.1).1:=y0 (by omega) (vd b1 this (by omega) (by omega):(1:Int)*1<=_)<;>grind
    .split;.rename_i h1 h3 h7 h6 h5;rw[bi (by omega),bi (by omega),bi h6,ba h5]at ht;obtain⟨_,_,⟨b1,b2⟩,_,hf⟩:=ht;obtain⟨c1,c2,_⟩:=qo (C:=C) (by omega) ho t.2.2.2 0 1 (by omega) (by omega) (.inl rfl);have h:=MN hC ho hp t.2.2.2 0 1 (by omega) (.inl rfl) (λf hm=>by have:=hf f hm;omega) (.inr (λe=>by rw[e]at b1;simp at b1));have hu:=pX c2 c1.1<;>grind
     omega
def E1{C:Int}(hC:1000<=C)(h8:C%8=0){l:List aB}(ht:Ac l):∀i,i<=l.length->EP (cS C l i)
 |0,_=>λj h0 h1=>by simp[cS]at h1;omega|i+1,hi=>λj h0 h1=>by
  rw[cS,EF,fU];rw[fU]at h1;split;.exact E1 hC h8 ht i (by omega) j h0 (by rw[fU];omega)
  .rw[ba (by omega)];exact Tn hC h8 (kM hC h8 ht i (by omega)) (E1 hC h8 ht i (by omega)) (n:=l.length) (i:=i) (by rw[fU]) (ht i (by omega))
section
variable{ts:List aB}{xs:List (List UInt8)}{fs:List Func}
def iE.size(h:iE ts xs fs){t:Int}(ht:0<=t/\t<ts.length):fJ (exs ts) t=fJ (cS 1000000 ts ts.length) t/\1<=(fJ (exs ts) t).1/\(fJ (exs ts) t).1<=256:=by
 obtain⟨n,rfl⟩:=dT ht.1;have hT:=h.Jy.1;have h1:=h.Jy.2.2.2.1 n (by omega);refine⟨?_,E1 (by omega) (by omega) hT.2.1 ts.length (bc _) n (by omega) (by rw[fU];omega),h1⟩;rcases u6 hT.2.1 ts.length (bc _) (n:Int)with⟨hr|hr,hq⟩;.exact Prod.ext hr hq
 .have:(fJ (exs ts) (n:Int)).1=(fJ (cS 1048576 ts ts.length) (n:Int)).1:=rfl;omega
def iE.wide(h:iE ts xs fs){t:Int}(ht:0<=t/\t<ts.length):8<=wide ts t/\Go.Proofs.YtgdkmdochlhhlaaGreat.wide ts t<=263:=by obtain⟨_,h1,h2⟩:=h.size ht;have:=up8 h1;unfold Go.Proofs.YtgdkmdochlhhlaaGreat.wide;omega
def MJ.p7(h:iE ts xs fs):∀{s:List Int},MJ ts s->8*(s.length:Int)<=p7 ts s/\Go.Proofs.YtgdkmdochlhhlaaGreat.p7 ts s<=263*(s.length:Int)|[],_=>by simp[Go.Proofs.YtgdkmdochlhhlaaGreat.p7]|t::s,hs=>by have h1:=h.wide (hs t cb);have h2:=MJ.p7 h (s:=s) λx hx=>hs x (db _ hx);simp only[Go.Proofs.YtgdkmdochlhhlaaGreat.p7,fa];omega
def MJ.take{s:List Int}(h:MJ ts s)(n:Nat):MJ ts (s.take n):=λt ht=>h t (ls ht)
def aiq{N:Nat}{n:Int}(h:0<=n/\n<=4000000):L7 N n=some (up 8 n,0):=by have e:=sJ (a:=8) (s:=n) (.inr rfl) h;rw[aQ (n:=n+8) (by omega),show n+8-1=n+7by omega,aQ (n:=(8:Int)-1) (by decide)]at e;rw[L7.eq_1,aM (show¬n<0 by omega)]<;>grind
def ZC{N:Nat}{n:Int}(h:0<=n/\n<=4000000):F76 N n=some (up 8 n):=by rw[F76.eq_1,Cs (.inr rfl) h];rfl
def MO{s:List Int}{i:Nat}{t:Int}(h:s[i]?=some t):p7 ts (s.take (i+1))=p7 ts (s.take i)+wide ts t:=by rw[take_succ h,QW];simp[p7]
def JA{N:Nat}(hN:1300<N)(hv:iE ts xs fs)(f:Func){s:List Int}(hs:MJ ts s)(hl:s.length<=1000):SI N (ts,xs,fs,f.1,f.2.1,f.2.2.1,f.2.2.2.1,f.2.2.2.2.1,f.2.2.2.2.2.1,f.2.2.2.2.2.2,s)=some (p7 ts s,0):=by obtain⟨z,hz,he⟩:=gx (l:=s) (g:=λv:Int=>(.inr v:(Int×Int)⊕Int)) (Inv:=λi v=>v=p7 ts (s.take i)) (Lf:=λk i v=>Nm N k (v,s,(s.length:Int),i,ts,xs,fs,f.1,f.2.1,f.2.2.1,f.2.2.2.1,f.2.2.2.2.1,f.2.2.2.2.2.1,f.2.2.2.2.2.2)) (λk v _=>by simp only[Nm.eq_2,aO,af]) (λk i t v ht hI=>by
 have hi:=aC ht;have hm:=hs t (aX ht);obtain⟨_,z1,z2⟩:=hv.size hm;obtain⟨w1,w2⟩:=hv.wide hm;obtain⟨y1,y2⟩:=(hs.take i).p7 hv;have Nz:(s.take i).length<=1000:=by rw[i7];omega
 refine⟨v+wide ts t,by rw[hI,MO ht],?_⟩;simp only[Nm.eq_2,aN hi,au,aE ht,ae,QJ hN hv.fit.1.1 hv.Jy.1 hm,ba z2,gT,af,aiq (N:=N) (n:=(fJ (exs ts) t).1) (by omega),ai (show i<9223372036854775807by omega)];rw[show up 8 (fJ (exs ts) t).1=wide ts t from rfl,aQ (by omega)]) (k:=N) (s:=0) (by simp[p7]) (by omega);rw[SI.eq_1,he,hz,f4];rfl
def Pr{N:Nat}(hN:1300<N)(hv:iE ts xs fs){s:List Int}(hs:MJ ts s)(hl:s.length<=1000):OH N (ts,xs,fs,s)=some (p7 ts s):=by obtain⟨z,hz,he⟩:=gx (l:=s) (g:=λv:Int=>v) (Inv:=λi v=>v=p7 ts (s.take i)) (Lf:=λk i v=>Hc N k (s,(cS 1000000 ts ts.length).map (·.1),v,i)) (λk v _=>by simp only[Hc.eq_2,aO,af]) (λk i t v ht hI=>by
 have hi:=aC ht;have hm:=hs t (aX ht);obtain⟨z0,z1,z2⟩:=hv.size hm;obtain⟨w1,w2⟩:=hv.wide hm;obtain⟨y1,y2⟩:=(hs.take i).p7 hv;have Nz:(s.take i).length<=1000:=by rw[i7];omega
 have hx:idx ((cS 1000000 ts ts.length).map (·.1)) t=some (fJ (exs ts) t).1:=by rw[z0];exact yS (g:=λe:Ex=>e.1) (sK (by rw[fU];exact hm))
 refine⟨v+wide ts t,by rw[hI,MO ht],?_⟩;simp only[Hc.eq_2,aN hi,au,aE ht,ae,hx,ZC (N:=N) (n:=(fJ (exs ts) t).1) (by omega),ai (show i<9223372036854775807by omega)];rw[show up 8 (fJ (exs ts) t).1=wide ts t from rfl,aQ (by omega)]) (k:=N) (s:=0) (by simp[p7]) (by omega);rw[OH.eq_1,EE (by omega) hv.fit.1.1.1 hv.Jy.1.2.1,ae,he,hz,f4];rfl
def E3{N:Nat}{l m:List Int}(hl:l.length<N)(hb:l.length<9223372036854775807):Sy N (l,m)=some (decide (l=m)):=by
 rw[Sy.eq_1,u9];by_cases h:l.length=m.length;.have key:=oL (l:=l) (m:=m) (a:=(.inr ():Bool⊕Unit)) (b:=.inl false) (Lf:=λk i=>Hb N k (l,m,i)) h (λk=>by simp only[Hb.eq_2,aO,af]) (λk i x y _ _ h1 h2=>by
  simp only[Hb.eq_2,aN (aC h1),au,aE h1,aE h2,ae,ai (show i<9223372036854775807by have:=aC h1;omega)];by_cases hxy:x=y;.subst hxy;simp
  .rw[bi hxy,show(x !=y)=true by simp[bne,hxy]];rfl) N hl;grind
 .rw[bv h,bv (λe=>h (by rw[e]))];rfl
def To{N:Nat}{l m:List Int}(hl:l.length<N)(hb:l.length<9223372036854775807):X4 N (l,m)=some (decide (l=m)):=by
 rw[X4.eq_1,u9];by_cases h:l.length=m.length;.have key:=oL (l:=l) (m:=m) (a:=(.inr ():Bool⊕Unit)) (b:=.inl false) (Lf:=λk i=>NE N k (l,m,(l.length:Int),i)) h (λk=>by simp only[NE.eq_2,aO,af]) (λk i x y _ _ h1 h2=>by
  simp only[NE.eq_2,aN (aC h1),au,aE h1,aE h2,ae,ai (show i<9223372036854775807by have:=aC h1;omega)];by_cases hxy:x=y;.subst hxy;simp
  .rw[bi hxy,show(x !=y)=true by simp[bne,hxy]];rfl) N hl;grind
 .rw[bv h,bv (λe=>h (by rw[e]))];rfl
def E4(hv:iE ts xs fs){x:Instr}(hn:called x<fs.length)(h0:0<=called x):∃g,idx fs (called x)=some g/\takes (gj fs) x=(g.2.2.2.1.take g.2.1.toNat).map (·.2)/\fG ts.length g/\((takes (gj fs) x).length:Int)=g.2.1/\(takes (gj fs) x).length<=16:=by
 obtain⟨g,g1,g2,g3⟩:=EY (fs:=fs) ⟨h0,hn⟩;have hg:=hv.get g2;have ht:takes (gj fs) x=(g.2.2.2.1.take g.2.1.toNat).map (·.2):=by unfold takes;rw[ba h0,g3];rfl
 have hp:=hg.2.2.2.1;have FK:=hg.2.1<;>grind
def xk{x:Instr}(h:¬0<=called x):takes (gj fs) x=[]:=by unfold takes<;>grind
def ZD{x:Instr}(h:x.1=24):called x=-1:=by unfold called<;>grind
def Pt{a b:Nat}(ha:a<=10000000)(hb:b<=10000000):av ((a:Int)-(b:Int))=(a:Int)-(b:Int):=aQ (by omega)
def air(hv:iE ts xs fs){sl:List Field}(hr:kj sl ts.length){x:Instr}(hc:e8 x=true)(hn:n7 xs.length (gj fs) sl x){s s':List Int}(hs:MJ ts s)(h:Tk ts (gj fs) sl x s=some s'):MJ ts s'/\s'.length<=512:=by
 obtain⟨t,h1,h2⟩:=lr.1 h;split at h2;case isFalse=>cases h2
 cases fd h2;have ho:MJ ts s':=by
  unfold rest at h1;split at h1
  .rename_i Fo;cases fd h1;intro y hy;rcases bm.1 hy with hy|hy;.exact hs y hy
   .rw[ca.1 hy];obtain⟨s1,_,_⟩:=jr hc (p:=114) (q:=45) (r:=45) (by rw[Fo];rfl);obtain⟨b0,b1⟩:=s1 (.inr rfl);exact qN hr ⟨b0,hn.1 _ b1⟩
  .split at h1;.cases fd h1;exact hs.take _
   grind
 have:=(ho.p7 hv).1<;>grind
def aqn{N:Nat}(hN:1300<N)(hv:iE ts xs fs){f:Func}(hr:kj f.2.2.2.1 ts.length){x:Instr}(hc:e8 x=true)(hn:n7 xs.length (gj fs) f.2.2.2.1 x){s:List Int}(hs:MJ ts s)(hl:s.length<=600):∃r b,Ji N (ts,xs,fs,f.1,f.2.1,f.2.2.1,f.2.2.2.1,f.2.2.2.2.1,f.2.2.2.2.2.1,f.2.2.2.2.2.2,x.1,x.2.1,x.2.2.1,x.2.2.2,s)=some (r,b)/\Tk ts (gj fs) f.2.2.2.1 x s=if b=true then some r else none:=by
 have lu:=hn.2.1;rw[qv]at lu;have fin:∀t:List Int,(if p7 ts t<=4096then some t else none)=if decide (p7 ts t<=4096)=true then some t else none:=λt=>by by_cases h:p7 ts t<=4096<;>simp[h]
 by_cases Fo:x.1=24
 .obtain⟨s1,_,_⟩:=jr hc (p:=114) (q:=45) (r:=45) (by rw[Fo];rfl);obtain⟨b0,b1⟩:=s1 (.inr rfl);have hT:=qN hr ⟨b0,hn.1 _ b1⟩;have ho:MJ ts (s++[fV f.2.2.2.1 x.2.1]):=λy hy=>by
   rcases bm.1 hy with hy|hy;.exact hs y hy
   .rw[ca.1 hy];exact hT
  have hlen:(s++[fV f.2.2.2.1 x.2.1]).length<=1000:=by grind
  refine⟨s++[fV f.2.2.2.1 x.2.1],decide (p7 ts (s++[fV f.2.2.2.1 x.2.1])<=4096),?_,?_⟩;.have aqo:aoz N s=some s:=rfl;rw[Ji.eq_1];simp[show(x.1==(24:Int))=true by simpa using Fo,au,aqo,aeC,ae,ak (show s.length+1<=10000000by omega) (show 8<=1000by omega),aj,y8,ZD Fo,show decide ((-1:Int)>=0)=false from rfl,af,JA hN hv f ho hlen,show((0:Int)==0)=true from rfl]
  .unfold Tk rest<;>grind
 .have ais:(x.1==(24:Int))=false:=by grind
  by_cases h0:0<=called x
  .obtain⟨g,g1,g2,g3,g4,g5⟩:=E4 hv lu h0;by_cases hle:(takes (gj fs) x).length<=s.length
   .have hwi:av ((s.length:Int)-g.2.1)=((s.length-(takes (gj fs) x).length:Nat):Int):=by rw[<-g4,Pt (by omega) (by omega)];omega
    have hdl:(s.drop (s.length-(takes (gj fs) x).length)).length=(takes (gj fs) x).length:=by grind
    have key:=dM (l:=s.drop (s.length-(takes (gj fs) x).length)) (g:=λ_:Unit=>(.inr (s,((s.length-(takes (gj fs) x).length:Nat):Int),ts,xs,fs,f.1,f.2.1,f.2.2.1,f.2.2.2.1,f.2.2.2.2.1,f.2.2.2.2.2.1,f.2.2.2.2.2.2):Bool⊕_)) (Out:=λr=>s.drop (s.length-(takes (gj fs) x).length)≠takes (gj fs) x/\r=.inl false) (Inv:=λi _=>∀j,j<i->(s.drop (s.length-(takes (gj fs) x).length))[j]?=(takes (gj fs) x)[j]?) (Lf:=λk i _=>No N k (s,((s.length-(takes (gj fs) x).length:Nat):Int),s.drop (s.length-(takes (gj fs) x).length),((s.drop (s.length-(takes (gj fs) x).length)).length:Int),i,ts,xs,fs,f.1,f.2.1,f.2.2.1,f.2.2.2.1,f.2.2.2.2.1,f.2.2.2.2.2.1,f.2.2.2.2.2.2,g.1,g.2.1,g.2.2.1,g.2.2.2.1,g.2.2.2.2.1,g.2.2.2.2.2.1,g.2.2.2.2.2.2)) (λk _ _=>by simp only[No.eq_2,aO,af]) (λk i y _ hy hI=>by
      have hi:=aC hy;have hit:i<(takes (gj fs) x).length:=by omega
      have hp:=g3.2.2.2.1;have hig:i<g.2.2.2.1.length:=by omega
      have hgi:=aw hig;have hti:(takes (gj fs) x)[i]?=some (g.2.2.2.1[i]).2:=by rw[g2,fi,fx,ba (by omega),hgi];rfl
      simp only[No.eq_2,aN hi,au,aE hy,aE hgi,ae,ai (show i<9223372036854775807by omega)];by_cases he:(g.2.2.2.1[i]).2=y
      .refine .inr ⟨(),λj hj=>?_,by rw[show((g.2.2.2.1[i]).2!=y)=false by simp[he],af]⟩;by_cases hji:j=i;.subst hji;rw[hy,hti,he]
       .exact hI j (by omega)
      .exact .inl ⟨_,⟨λe=>he (by rw[e,hti]at hy;exact fd hy),rfl⟩,by rw[show((g.2.2.2.1[i]).2!=y)=true by simp[bne,he],au]⟩) (k:=N) (s:=()) (λj hj=>by omega) (by omega);have hpre:Ji N (ts,xs,fs,f.1,f.2.1,f.2.2.1,f.2.2.2.1,f.2.2.2.2.1,f.2.2.2.2.2.1,f.2.2.2.2.2.2,x.1,x.2.1,x.2.2.1,x.2.2.2,s)=some (if s.drop (s.length-(takes (gj fs) x).length)=takes (gj fs) x then(s.take (s.length-(takes (gj fs) x).length),decide (p7 ts (s.take (s.length-(takes (gj fs) x).length))<=4096))else([],false)):=by
     rw[Ji.eq_1];simp only[ais,af,ae,y8,aT (show called x>=0from h0),au,g1,hwi,aM (show¬((s.length-(takes (gj fs) x).length:Nat):Int)<0 by omega),aT (show(0:Int)<=((s.length-(takes (gj fs) x).length:Nat):Int)by omega),bd,aT (show s.length-(takes (gj fs) x).length<=s.length by omega),aj];rcases key with⟨r,⟨k1,rfl⟩,k2⟩|⟨_,k1,k2⟩;.grind
     .have he:s.drop (s.length-(takes (gj fs) x).length)=takes (gj fs) x:=by apply lA;grind
      have hlen:(s.take (s.length-(takes (gj fs) x).length)).length<=1000:=by grind
      simp only[k2,ae,ba he,bd,aT (show(0:Int)<=((s.length-(takes (gj fs) x).length:Nat):Int)by omega),aT (show s.length-(takes (gj fs) x).length<=s.length by omega),aj,JA hN hv f (hs.take _) hlen,show((0:Int)==0)=true from rfl,au]
    by_cases he:s.drop (s.length-(takes (gj fs) x).length)=takes (gj fs) x;.rw[ba he]at hpre;refine⟨_,_,hpre,?_⟩;unfold Tk rest;rw[bi Fo,ba ⟨hle,he⟩,ae];exact fin _
    .rw[bi he]at hpre;refine⟨_,_,hpre,?_⟩;unfold Tk rest;rw[bi Fo,bi (λh=>he h.2)];rfl
   .refine⟨[],false,?_,?_⟩
    .have hwi:av ((s.length:Int)-g.2.1)=(s.length:Int)-g.2.1:=by rw[<-g4,Pt (by omega) (by omega)]
     rw[Ji.eq_1];simp[ais,af,ae,y8,aT (show called x>=0from h0),au,g1,hwi,aT (show(s.length:Int)-g.2.1<0 by omega)]
    .unfold Tk rest<;>grind
  .refine⟨s,decide (p7 ts s<=4096),?_,?_⟩;.rw[Ji.eq_1];simp[ais,af,ae,y8,aM (show¬called x>=0from h0),JA hN hv f hs (show s.length<=1000by omega),show((0:Int)==0)=true from rfl,au]
   .unfold Tk rest;rw[bi Fo,xk h0,ba ⟨by simp,by simp⟩,ae];simp only[m6,yk,f4];exact fin _
def acI{N:Nat}(hN:1300<N)(hv:iE ts xs fs){f:Func}{i:Int}(hf:idx fs i=some f){x:Instr}(lu:called x<fs.length):Wm N (ts,xs,fs,i,x.1,x.2.1,x.2.2.1,x.2.2.2)=some (if x.1=24then([],fV f.2.2.2.1 x.2.1)else(takes (gj fs) x,-1)):=by
 rw[Wm.eq_1];by_cases Fo:x.1=24;.rw[show(x.1==(24:Int))=true by simpa using Fo,aeD N hf,ba Fo];rfl
 .rw[show(x.1==(24:Int))=false by simpa using Fo,af,QX,ae,bi Fo];by_cases h0:0<=called x;.obtain⟨g,g1,g2,g3,g4,g5⟩:=E4 hv lu h0;rw[aT (show called x>=0from h0)];have key:=kK (n:=(takes (gj fs) x).length) (Lf:=λk j=>Ha N k ((takes (gj fs) x).take j.toNat,called x,j,ts,xs,fs)) (g:=λ_=>some (takes (gj fs) x)) (λk=>by simp only[Ha.eq_2,g1,ae];rw[aM (show¬(((takes (gj fs) x).length:Nat):Int)<g.2.1by omega),af,bd,f4]) (λk j hj ih=>by
   have hp:=g3.2.2.2.1;have hjg:j<g.2.2.2.1.length:=by omega
   have hgj:=aw hjg;have htj:(takes (gj fs) x)[j]?=some (g.2.2.2.1[j]).2:=by rw[g2,fi,fx,ba (by omega),hgj];rfl
   have hlen:((takes (gj fs) x).take j).length<=16:=by rw[i7];omega
   simp only[bd]at ih⊢;simp only[Ha.eq_2,g1,ae,aT (show(j:Int)<g.2.1by omega),au,aE hgj,ak (show((takes (gj fs) x).take j).length+1<=10000000by omega) (show 8<=1000by omega),aj,ai (show j<9223372036854775807by omega)];rw[<-ih,take_succ htj]) N 0 (by omega) (by omega);grind
  .rw[aM (show¬called x>=0from h0),af,xk h0]
def ait{N:Nat}(hN:1300<N)(hv:iE ts xs fs){f:Func}{i:Int}(hf:idx fs i=some f)(hr:kj f.2.2.2.1 ts.length){x:Instr}(hc:e8 x=true)(hn:n7 xs.length (gj fs) f.2.2.2.1 x){s:List Int}(hs:MJ ts s)(hl:s.length<=600):∃r b,Wp N (ts,xs,fs,i,x.1,x.2.1,x.2.2.1,x.2.2.2,s)=some (r,b)/\Tk ts (gj fs) f.2.2.2.1 x s=if b=true then some r else none:=by
 have lu:=hn.2.1;rw[qv]at lu;have fin:∀t:List Int,(if p7 ts t<=4096then some t else none)=if decide (p7 ts t<=4096)=true then some t else none:=λt=>by by_cases h:p7 ts t<=4096<;>simp[h]
 rw[Wp.eq_1,acI hN hv hf lu,ae];by_cases Fo:x.1=24
 .obtain⟨s1,_,_⟩:=jr hc (p:=114) (q:=45) (r:=45) (by rw[Fo];rfl);obtain⟨b0,b1⟩:=s1 (.inr rfl);have hT:=qN hr ⟨b0,hn.1 _ b1⟩;have ho:MJ ts (s++[fV f.2.2.2.1 x.2.1]):=λy hy=>by
   rcases bm.1 hy with hy|hy;.exact hs y hy
   .rw[ca.1 hy];exact hT
  have hlen:(s++[fV f.2.2.2.1 x.2.1]).length<=1000:=by grind
  have hwi:av ((s.length:Int)-((([]:List Int).length:Nat):Int))=((s.length:Nat):Int):=by rw[aQ (by simp;omega)];simp
  refine⟨s++[fV f.2.2.2.1 x.2.1],decide (p7 ts (s++[fV f.2.2.2.1 x.2.1])<=4096),?_,?_⟩;.simp only[ba Fo,hwi,aM (show¬((s.length:Nat):Int)<0 by omega),af,aT (show(0:Int)<=((s.length:Nat):Int)by omega),bd,aT (bc s.length),aj,ss,E3 (N:=N) (l:=[]) (m:=[]) (by grind) (by simp),pj,ae,dj,f4,i6,ak (show 0+s.length<=10000000by omega) (show 8<=1000by omega),ak (show s.length+1<=10000000by omega) (show 8<=1000by omega),aT (show fV f.2.2.2.1 x.2.1>=0from hT.1),au,Pr hN hv ho hlen]
  .unfold Tk rest<;>grind
 .have FK:(takes (gj fs) x).length<=16:=by
   by_cases h0:0<=called x;.obtain⟨_,_,_,_,_,g5⟩:=E4 hv lu h0<;>omega
   .rw[xk h0];simp
  have hwi:av ((s.length:Int)-((takes (gj fs) x).length:Int))=(s.length:Int)-((takes (gj fs) x).length:Int):=Pt (by omega) (by omega);simp only[bi Fo,hwi];by_cases hle:(takes (gj fs) x).length<=s.length
  .have e:(s.length:Int)-((takes (gj fs) x).length:Int)=((s.length-(takes (gj fs) x).length:Nat):Int):=by omega
   have hlen:(s.take (s.length-(takes (gj fs) x).length)).length<=1000:=by grind
   have hdl:(s.drop (s.length-(takes (gj fs) x).length)).length<=1000:=by grind
   simp only[e,aM (show¬((s.length-(takes (gj fs) x).length:Nat):Int)<0 by omega),af,aT (show(0:Int)<=((s.length-(takes (gj fs) x).length:Nat):Int)by omega),bd,aT (show s.length-(takes (gj fs) x).length<=s.length by omega),aj,E3 (N:=N) (l:=s.drop (s.length-(takes (gj fs) x).length)) (m:=takes (gj fs) x) (by omega) (by omega),ae];by_cases he:s.drop (s.length-(takes (gj fs) x).length)=takes (gj fs) x
   .refine⟨s.take (s.length-(takes (gj fs) x).length),decide (p7 ts (s.take (s.length-(takes (gj fs) x).length))<=4096),?_,?_⟩;.simp only[aT he,dj,af,i6,ak (show 0+(s.take (s.length-(takes (gj fs) x).length)).length<=10000000by omega) (show 8<=1000by omega),aj,show decide ((-1:Int)>=0)=false from rfl,Pr hN hv (hs.take _) hlen,ae]
    .unfold Tk rest<;>grind
   .refine⟨[],false,by simp only[aM he,fj,au],?_⟩;unfold Tk rest<;>grind
  .refine⟨[],false,by simp only[aT (show(s.length:Int)-((takes (gj fs) x).length:Int)<0 by omega),au,ae],?_⟩;unfold Tk rest<;>grind
end
end Go.Proofs.YtgdkmdochlhhlaaGreat
end
