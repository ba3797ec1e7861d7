/- A part of the proof: Law21ta, Law21tb, Law21tc. -/
import Derived.Test.YtkdilffhbejjaaaGreatGen21t
import Derived.Test.YtkdilffhbejjaaaGreatPlain2
import Derived.Test.YtkdilffhbejjaaaGreatTab21t
set_option linter.unusedVariables false
set_option linter.unusedSimpArgs false
namespace Go.Proofs.YtkdilffhbejjaaaGreat
open Go Go.bM Go.Sym
theorem dg(a b:Bool):(bif a then some true else some b:Option Bool)=some (a||b):=by grind
theorem fP(a b:Bool):(bif a then some b else some false:Option Bool)=some (a&&b):=by grind
theorem ym{α:Type}(c:Bool)(a b:α):(bif c then some a else some b)=some (bif c then a else b):=by grind
theorem YF{α:Type}(o:Option α):(Option.bind o λx=>some x)=o:=by grind
theorem aq{α:Type}(a b:α):(bif true then a else b)=a:=rfl
theorem af{α:Type}(a b:α):(bif false then a else b)=b:=rfl
noncomputable def U(c:UInt8):Int×Int×Bool×Bool:=if c=119then(0,15,false,true)else if c=114then(0,15,true,false)else if c=110then(-9223372036854775808,9223372036854775807,false,false)else if c=116then(0,31,false,false)else if c=99then(0,31,false,false)else if c=98then(0,1,false,false)else if c=102then(0,7,false,false)else if c=105then(0,199,false,false)else if c=103then(-1,15,false,true)else if c=101then(-1,15,true,false)else(0,0,false,false)
noncomputable def lB(c:UInt8):Bool:=[119,114,110,116,99,98,102,105,103,101,45].contains c
noncomputable def aeo:List (UInt8×UInt8×UInt8):=[(119,110,45),(119,116,45),(119,98,45),(119,45,45),(119,114,45),(119,114,114),(119,114,114),(119,114,114),(119,114,114),(119,114,114),(119,114,114),(119,114,45),(119,114,102),(114,102,114),(119,45,45),(119,114,45),(114,114,45),(119,114,45),(119,114,114),(114,114,114),(119,114,45),(105,45,45),(114,105,45),(114,45,45),(103,99,45),(99,45,45),(99,45,45),(114,45,45),(119,119,45),(45,45,45),(45,45,45),(114,45,45),(119,114,45),(101,45,45)]
noncomputable def wZ(op:Int):Option (UInt8×UInt8×UInt8):=if 1<=op/\op<=34then aeo[(op-1).toNat]?else none
theorem Fv(p0:Int):(1<=p0/\p0<=34)\/∀k:Int,1<=k->k<=34->(p0==k)=false:=by grind
theorem JS{N:Nat}{p0:Int}(ne:∀k:Int,1<=k->k<=34->(p0==k)=false):Hh N p0=some []:=by simp[Hh.eq_1,ne 1 (by decide) (by decide),ne 2 (by decide) (by decide),ne 3 (by decide) (by decide),ne 4 (by decide) (by decide),ne 5 (by decide) (by decide),ne 6 (by decide) (by decide),ne 7 (by decide) (by decide),ne 8 (by decide) (by decide),ne 9 (by decide) (by decide),ne 10 (by decide) (by decide),ne 11 (by decide) (by decide),ne 12 (by decide) (by decide),ne 13 (by decide) (by decide),ne 14 (by decide) (by decide),ne 15 (by decide) (by decide),ne 16 (by decide) (by decide),ne 17 (by decide) (by decide),ne 18 (by decide) (by decide),ne 19 (by decide) (by decide),ne 20 (by decide) (by decide),ne 21 (by decide) (by decide),ne 22 (by decide) (by decide),ne 23 (by decide) (by decide),ne 24 (by decide) (by decide),ne 25 (by decide) (by decide),ne 26 (by decide) (by decide),ne 27 (by decide) (by decide),ne 28 (by decide) (by decide),ne 29 (by decide) (by decide),ne 30 (by decide) (by decide),ne 31 (by decide) (by decide),ne 32 (by decide) (by decide),ne 33 (by decide) (by decide),ne 34 (by decide) (by decide),af,dg,wt,ae]
theorem Me{N:Nat}{p0:Int}(ne:∀k:Int,1<=k->k<=34->(p0==k)=false):He N p0=some ((0:Int),(0:Int),false,false,(0:Int),(0:Int),false,false,(0:Int),(0:Int),false,false,(-1:Int)):=by simp[He.eq_1,ne 1 (by decide) (by decide),ne 2 (by decide) (by decide),ne 3 (by decide) (by decide),ne 4 (by decide) (by decide),ne 5 (by decide) (by decide),ne 6 (by decide) (by decide),ne 7 (by decide) (by decide),ne 8 (by decide) (by decide),ne 9 (by decide) (by decide),ne 10 (by decide) (by decide),ne 11 (by decide) (by decide),ne 12 (by decide) (by decide),ne 13 (by decide) (by decide),ne 14 (by decide) (by decide),ne 15 (by decide) (by decide),ne 16 (by decide) (by decide),ne 17 (by decide) (by decide),ne 18 (by decide) (by decide),ne 19 (by decide) (by decide),ne 20 (by decide) (by decide),ne 21 (by decide) (by decide),ne 22 (by decide) (by decide),ne 23 (by decide) (by decide),ne 24 (by decide) (by decide),ne 25 (by decide) (by decide),ne 26 (by decide) (by decide),ne 27 (by decide) (by decide),ne 28 (by decide) (by decide),ne 29 (by decide) (by decide),ne 30 (by decide) (by decide),ne 31 (by decide) (by decide),ne 32 (by decide) (by decide),ne 33 (by decide) (by decide),ne 34 (by decide) (by decide),af,dg,wt,ae]
theorem NN{p0:Int}(ne:∀k:Int,1<=k->k<=34->(p0==k)=false):wZ p0=none:=by unfold wZ<;>grind
theorem tI(N:Nat)(p0:Int):Hh N p0=some (match wZ p0 with|some (a,b,c)=>[a,b,c]|none=>[]):=by
  rcases Fv p0 with h|ne
  . have:p0=1\/p0=2\/p0=3\/p0=4\/p0=5\/p0=6\/p0=7\/p0=8\/p0=9\/p0=10\/p0=11\/p0=12\/p0=13\/p0=14\/p0=15\/p0=16\/p0=17\/p0=18\/p0=19\/p0=20\/p0=21\/p0=22\/p0=23\/p0=24\/p0=25\/p0=26\/p0=27\/p0=28\/p0=29\/p0=30\/p0=31\/p0=32\/p0=33\/p0=34:=by omega
    rcases this with rfl|rfl|rfl|rfl|rfl|rfl|rfl|rfl|rfl|rfl|rfl|rfl|rfl|rfl|rfl|rfl|rfl|rfl|rfl|rfl|rfl|rfl|rfl|rfl|rfl|rfl|rfl|rfl|rfl|rfl|rfl|rfl|rfl|rfl<;>(simp only[Hh.eq_1];rfl)
  .rw[JS ne,NN ne]
theorem NO:(aeo.all λs=>(lB s.1&&(lB s.2.1&&lB s.2.2))&&((!(s.1==45)||s.2.1==45)&&(!(s.2.1==45)||s.2.2==45)))=true:=by decide
theorem NP{p0:Int}{s:UInt8×UInt8×UInt8}(h:wZ p0=some s):s∈aeo:=by
 unfold wZ at h;split at h;.exact f7 h
 grind
theorem Mf{p0:Int}{a b c:UInt8}(h:wZ p0=some (a,b,c)):lB a=true/\lB b=true/\lB c=true:=by have:=km.1 NO _ (NP h)<;>grind
noncomputable def cnt(a b c:UInt8):Int:=if c≠45then 3 else if b≠45then 2 else if a≠45then 1 else 0
theorem aep(a b c:UInt8):decide (cnt a b c<0)=false:=by unfold cnt<;>grind
theorem vw(N:Nat)(p0:Int):He N p0=some (match wZ p0 with|some (a,b,c)=>((U a).1,(U a).2.1,(U a).2.2.1,(U a).2.2.2,(U b).1,(U b).2.1,(U b).2.2.1,(U b).2.2.2,(U c).1,(U c).2.1,(U c).2.2.1,(U c).2.2.2,cnt a b c)|none=>((0:Int),(0:Int),false,false,(0:Int),(0:Int),false,false,(0:Int),(0:Int),false,false,(-1:Int))):=by
  rcases Fv p0 with h|ne
  . have:p0=1\/p0=2\/p0=3\/p0=4\/p0=5\/p0=6\/p0=7\/p0=8\/p0=9\/p0=10\/p0=11\/p0=12\/p0=13\/p0=14\/p0=15\/p0=16\/p0=17\/p0=18\/p0=19\/p0=20\/p0=21\/p0=22\/p0=23\/p0=24\/p0=25\/p0=26\/p0=27\/p0=28\/p0=29\/p0=30\/p0=31\/p0=32\/p0=33\/p0=34:=by omega
    rcases this with rfl|rfl|rfl|rfl|rfl|rfl|rfl|rfl|rfl|rfl|rfl|rfl|rfl|rfl|rfl|rfl|rfl|rfl|rfl|rfl|rfl|rfl|rfl|rfl|rfl|rfl|rfl|rfl|rfl|rfl|rfl|rfl|rfl|rfl<;>(simp only[He.eq_1,yg.eq_1,Yw.eq_1,CA.eq_1,tf.eq_1,ae];rfl)
  .rw[Me ne,NN ne]
theorem JT{p0:Int}{a b c:UInt8}(h:wZ p0=some (a,b,c)):(a=45->b=45)/\(b=45->c=45):=by have:=km.1 NO _ (NP h)<;>grind
noncomputable def i64(v:Int):Prop:=-9223372036854775808<=v/\v<=9223372036854775807
noncomputable def fits(c:UInt8)(v:Int):Bool:=decide ((U c).1<=v)&&decide (v<=(U c).2.1)
noncomputable def eA(x:Instr):Bool:=match wZ x.1with|some (a,b,c)=>fits a x.2.1&&(fits b x.2.2.1&&fits c x.2.2.2)|none=>false
noncomputable def okI(x:Instr):Prop:=i64 x.2.1/\i64 x.2.2.1/\i64 x.2.2.2
theorem ak0(c:UInt8)(v:Int):(decide (v<(U c).1)||decide (v>(U c).2.1))=!fits c v:=by unfold fits<;>grind
theorem Vx{α:Type}(a:Bool)(x y:α):(bif !a then x else y)=bif a then y else x:=by grind
theorem uo(N:Nat)(x:Instr):JC N (x.1,x.2.1,x.2.2.1,x.2.2.2)=some (bif eA x then 0 else 8):=by rw[JC.eq_1,vw];unfold eA;cases wZ x.1with|none=>rfl|some s=>obtain⟨a,b,c⟩:=s;simp only[JB.eq_1,ae,aep,af,dg,ak0]<;>grind
theorem aeq(v:Int)(lo n:Int):(decide (v>=lo)&&decide (v<n))=(decide (lo<=v)&&decide (v<=n-1)):=by grind
theorem yo{N:Nat}{c:UInt8}{v:Int}(hc:lB c=true)(hv:i64 v):L8 N ((c.toNat:Int),v)=some (fits c v):=by
 have h:c=119\/c=114\/c=110\/c=116\/c=99\/c=98\/c=102\/c=105\/c=103\/c=101\/c=45:=by simpa[lB]using hc
 rw[L8.eq_1];simp[fP,dg,YF,ae,aeq];rcases h with rfl|rfl|rfl|rfl|rfl|rfl|rfl|rfl|rfl|rfl|rfl;all_goals first
    |rfl|(simp[fits,U,hv.1,hv.2];done)
    | (show some (v==0)=some (decide (0<=v)&&decide (v<=0));by_cases h:v=0;.subst h;rfl
       . rw[show(v==0)=false by simpa using h];by_cases h1:0<=v;.simp[show¬v<=0 by omega]
         .simp[h1])
theorem CZ(N:Nat){x:Instr}(hx:okI x):PJ N (x.1,x.2.1,x.2.2.1,x.2.2.2)=some (bif eA x then 0 else 8):=by rw[PJ.eq_1,tI,ae,JJ.eq_1];unfold eA;cases h:wZ x.1with|none=>rfl|some s=>obtain⟨a,b,c⟩:=s;obtain⟨h1,h2,h3⟩:=Mf h;have e0:idx [a,b,c] 0=some a:=rfl;have e1:idx [a,b,c] 1=some b:=rfl;have e2:idx [a,b,c] 2=some c:=rfl;simp only[show((([a,b,c]:List UInt8).length:Int)!=3)=false from rfl,af,e0,e1,e2,ae,yo h1 hx.1,yo h2 hx.2.1,yo h3 hx.2.2,Vx]<;>grind
end Go.Proofs.YtkdilffhbejjaaaGreat
namespace Go.Proofs.YtkdilffhbejjaaaGreat
open Go Go.bM Go.Sym
theorem Fw(N:Nat):∀(j k n:Nat)(pre:List Int),n<128^(j+1)->j<k->pre.length+j<=1000->∃(m:Nat)(l:List Int),f119.me N k ((n:Int),pre)=some ((m:Int),pre++l)/\wX j n=l++[(m:Int)]/\m<128/\l.length<=j
 |j,0,n,pre,_,h,_=>by omega|0,k+1,n,pre,hn,_,_=>by refine⟨n,[],?_,rfl,by omega,by simp⟩;rw[f119.me.eq_2,bv (by omega),af,dt]|j+1,k+1,n,pre,hn,hk,hp=>by
  rw[f119.me.eq_2];by_cases h:n<128;.refine⟨n,[],?_,by rw[wX,bb h];rfl,h,by simp⟩<;>grind
  .obtain⟨m,l,h1,h2,h3,h4⟩:=Fw N j k (n/128) (pre++[((n%128+128:Nat):Int)]) (by rw[Nat.pow_succ]at hn;omega) (by omega) (by simp;omega);refine⟨m,((n%128+128:Nat):Int)::l,?_,by rw[wX,be h,h2];rfl,h3,by simp;omega⟩;rw[bm (by omega),aq,ak (by omega) (by omega),rA,Vv _ (wi _ (by omega)),show(128:Int)=((128:Nat):Int)from rfl,wY,show n%256%128=n%128by omega,h1,bi];rfl
theorem w8{N n:Nat}(hN:20<N)(hn:n<18446744073709551616):gQ N (n:Int)=some (V n):=by
 rw[gQ.eq_1];unfold V;by_cases h:n<128;.rw[bv (by omega),af,ak (by omega) (by omega),aj,wX,bb h,rA,pt (by omega)]
 .rw[bm (by omega),aq,ak (by omega) (by omega),aj];obtain⟨m,l,h1,h2,h3,h4⟩:=Fw N 8 N (n/128) [((n%128+128:Nat):Int)] (by omega) (by omega) (by simp);rw[rA,Vv _ (wi _ (by omega)),show(128:Int)=((128:Nat):Int)from rfl,wY,show n%256%128=n%128by omega,h1,ae,ak (by simp;omega) (by omega),aj,wX,be h,h2,rA,show m%256=m by omega];rfl
theorem w9(N:Nat):∀(j k n:Nat)(pre:List Int),n<128^(j+1)->n<18446744073709551616->j<k->pre.length+j<=1000->∃(m:Nat)(l:List Int),f169.gM N k ((n:Int),pre)=some ((m:Int),pre++l)/\wX j n=l++[(m:Int)]/\m<128/\l.length<=j
 |j,0,n,pre,_,_,h,_=>by omega|0,k+1,n,pre,hn,_,_,_=>by refine⟨n,[],?_,rfl,by omega,by simp⟩;rw[f169.gM.eq_2,bv (by omega),af,dt]|j+1,k+1,n,pre,hn,YG,hk,hp=>by
    rw[f169.gM.eq_2];by_cases h:n<128;.refine⟨n,[],?_,by rw[wX,bb h];rfl,h,by simp⟩<;>grind
    . obtain⟨m,l,h1,h2,h3,h4⟩:=w9 N j k (n/128) (pre++[((n%128+128:Nat):Int)]) (by rw[Nat.pow_succ]at hn;omega) (by omega) (by omega) (by simp;omega);refine⟨m,((n%128+128:Nat):Int)::l,?_,by rw[wX,be h,h2];rfl,h3,by simp;omega⟩;have e:W1 ((W1 (Int.tmod (n:Int) (128:Int)))+(128:Int))=((n%128+128:Nat):Int):=by rw[show(128:Int)=((128:Nat):Int)from rfl,JR,rA,show((n%128%256:Nat):Int)+((128:Nat):Int)=((n%128+128:Nat):Int)by omega,rA]<;>omega
      rw[bm (by omega),aq,ak (by omega) (by omega),e,show(128:Int)=((128:Nat):Int)from rfl,JQ,nj (by omega),h1,bi];rfl
theorem ko{N n:Nat}(hN:20<N)(hn:n<18446744073709551616):iL N (n:Int)=some (V n):=by rw[iL.eq_1];unfold V;obtain⟨m,l,h1,h2,h3,h4⟩:=w9 N 9 N n [] (by omega) hn (by omega) (by simp);rw[h1,ae,ak (by simp;omega) (by omega),aj,h2,rA,show m%256=m by omega];rfl
theorem n7{N n:Nat}(hN:20<N)(hn:n<18446744073709551616):vr N (n:Int)=some (V n):=by rw[vr.eq_1,nj hn,ko hN hn];rfl
noncomputable def said(s:List UInt8):List Int:=V s.length++bK s
theorem nq(s:List UInt8):(said s).length<=10+s.length:=by have:=cR s.length;rw[said,ba,cT];omega
theorem Hj{N:Nat}{s:List UInt8}(hN:20<N)(hs:s.length<=1000000):L9 N s=some (said s):=by have:=cR s.length;rw[L9.eq_1,nj (by omega),ko hN (by omega),ae,ak (by rw[cT];omega) (by omega)];rfl
theorem wrap_u64(n:Int):IntKind.u64.wrap n=n%18446744073709551616:=rfl
theorem Vy{n:Int}(h:-9223372036854775808<=n/\n<=9223372036854775807):Yi .u64 (aL ((aL n)*2)) (aL (Int.fdiv n 9223372036854775808))=(HO n:Int):=by
  unfold HO;by_cases h0:0<=n
  . rw[bb h0,aR (n:=n) (by omega),pC _ (by omega),Int.ediv_eq_zero_of_lt h0 (by omega),aR (n:=n*2) (by omega),aR (n:=0) (by omega)];have e:n*2=(((2*n).toNat:Nat):Int):=by omega
    rw[e];unfold Yi;have e2:(BitVec.ofInt IntKind.u64.bits (((2*n).toNat:Nat):Int)^^^BitVec.ofInt IntKind.u64.bits 0).toNat=(2*n).toNat:=by show(BitVec.ofInt 64 (((2*n).toNat:Nat):Int)^^^BitVec.ofInt 64 0).toNat=(2*n).toNat;grind
    rw[e2];exact aR (by omega)
  . rw[be h0];have e1:aL n=n+18446744073709551616:=by show IntKind.u64.wrap n=_;rw[wrap_u64];omega
    have e3:Int.fdiv n 9223372036854775808=-1:=by grind
    have e4:aL (-1)=18446744073709551615:=by decide
    have e5:aL ((n+18446744073709551616)*2)=((18446744073709551615-(-2*n-1).toNat:Nat):Int):=by show IntKind.u64.wrap _=_;rw[wrap_u64];omega
    rw[e1,e3,e4,e5];unfold Yi;have hlt:(-2*n-1).toNat<18446744073709551616:=by omega
    generalize(-2*n-1).toNat=m at hlt;have e2:(BitVec.ofInt IntKind.u64.bits ((18446744073709551615-m:Nat):Int)^^^BitVec.ofInt IntKind.u64.bits 18446744073709551615).toNat=m:=by show(BitVec.ofInt 64 ((18446744073709551615-m:Nat):Int)^^^BitVec.ofInt 64 18446744073709551615).toNat=m;rw[show BitVec.ofInt 64 18446744073709551615=BitVec.allOnes 64from by decide,BitVec.xor_allOnes,BitVec.toNat_not,mt,nb];omega
    rw[e2];exact aR (by omega)
theorem Fy{N:Nat}{n:Int}(hN:20<N)(h:-9223372036854775808<=n/\n<=9223372036854775807):ru N n=some (V (HO n)):=by rw[ru.eq_1,Vy h,w8 hN (Md h)];rfl
theorem Fz{N:Nat}{n:Int}(h:-9223372036854775808<=n/\n<=9223372036854775807):ry N n=some (HO n:Int):=by
 rw[ry.eq_1];unfold HO;by_cases h0:0<=n;.rw[bm h0,aq,bb h0,aR (n:=n) (by omega),aR (by omega)]<;>grind
 .rw[bv h0,af,be h0,aI (n:=n+1) (by omega),aI (n:=0-(n+1)) (by omega),aR (n:=0-(n+1)) (by omega),aR (n:=(0-(n+1))*2) (by omega),aR (by omega)]<;>grind
end Go.Proofs.YtkdilffhbejjaaaGreat
namespace Go.Proofs.YtkdilffhbejjaaaGreat
open Go Go.bM Go.Sym
theorem nu{N:Nat}{v:Int}(hN:20<N)(h:0<=v/\v<=9223372036854775807):gQ N (aL v)=some (V v.toNat):=by obtain⟨n,rfl⟩:=du h.1;rw[nj (by omega),w8 hN (by omega)];rfl
theorem Ab{N:Nat}{v:Int}(hN:20<N)(h:0<=v/\v<=9223372036854775807):iL N (aL v)=some (V v.toNat):=by obtain⟨n,rfl⟩:=du h.1;rw[nj (by omega),ko hN (by omega)];rfl
theorem oH{N:Nat}{v:Int}(hN:20<N)(h:0<=v/\v<=9223372036854775807):vr N v=some (V v.toNat):=by obtain⟨n,rfl⟩:=du h.1;rw[n7 hN (by omega)];rfl
theorem gR:((0:Int)!=(0:Int))=false:=rfl
noncomputable def rZ(c:UInt8)(v:Int):List Int:=if c=45then[]else if c=110\/c=103\/c=101then V (HO v)else V v.toNat
noncomputable def encI(x:Instr):List Int:=match wZ x.1with|some (a,b,c)=>x.1::(rZ a x.2.1++(rZ b x.2.2.1++rZ c x.2.2.2))|none=>[x.1]
theorem oI(x:Instr):(encI x).length<=31:=by
 have hk:∀c v,(rZ c v).length<=10:=λc v=>by
    unfold rZ;split;.simp
    . split;.exact(cR _).2
      .exact(cR _).2
 unfold encI<;>grind
noncomputable def W2(c:UInt8):Bool:=c==110||(c==103||c==101)
theorem AW{c:UInt8}:W2 c=true↔c=110\/c=103\/c=101:=by simp[W2]
theorem NQ(c:UInt8):decide ((U c).1<0)=W2 c:=by
 unfold U W2;repeat' split
 all_goals first|(subst_vars;rfl)|(rename_i h1 h2 h3 h4 h5 h6 h7 h8 h9 WZ;simp[h3,h9,WZ])
theorem ak1(c:UInt8):((c.toNat:Int)==45)=(c==45):=by
 by_cases h:c=45;.subst h;rfl
 .rw[show(c==45)=false by simpa using h,lj];intro e;exact h (UInt8.toNat_inj.1 (by show c.toNat=45;omega))
theorem Vz{N:Nat}{c:UInt8}(hc:lB c=true):ux N ((c.toNat:Nat):Int)=some (W2 c):=by
 have h:c=119\/c=114\/c=110\/c=116\/c=99\/c=98\/c=102\/c=105\/c=103\/c=101\/c=45:=by simpa[lB]using hc
 rcases h with rfl|rfl|rfl|rfl|rfl|rfl|rfl|rfl|rfl|rfl|rfl<;>rfl
theorem xb(v:Int):rZ 45 v=[]:=rfl
theorem qw(c:UInt8)(v:Int):(rZ c v).length<=10:=by
  unfold rZ;split;.simp
  . split;.exact(cR _).2
    .exact(cR _).2
theorem JU{c:UInt8}{v:Int}(h:fits c v=true)(hs:W2 c=false):0<=v:=by rw[<-NQ,lx]at hs;unfold fits at h<;>grind
theorem C0{α β:Type}(c:Bool)(x y:Option α)(k:α->Option β):(bif c then Option.bind x k else Option.bind y k)=Option.bind (bif c then x else y) k:=by grind
theorem yp{α β γ:Type}(c:Bool)(x:Option γ)(f:γ->Option α)(y:Option α)(k:α->Option β):(bif c then Option.bind x (λu=>Option.bind (f u) k)else Option.bind y k)=Option.bind (bif c then Option.bind x f else y) k:=by grind
theorem opO{N:Nat}(hN:20<N){c:UInt8}{v:Int}(h:fits c v=true)(h45:c≠45)(hv:i64 v):(bif W2 c then ru N v else gQ N (aL v))=some (rZ c v):=by unfold rZ;rw[be h45];cases hs:W2 c with|true=>rw[aq,bb (AW.1 hs),Fy hN hv]|false=>rw[af,be (λe=>by rw[AW.2 e]at hs;cases hs),nu hN ⟨JU h hs,hv.2⟩]
theorem op6{N:Nat}(hN:20<N){c:UInt8}{v:Int}(h:fits c v=true)(h45:c≠45)(hv:i64 v):(bif W2 c then Option.bind (ry N v) (λu=>iL N u)else iL N (aL v))=some (rZ c v):=by unfold rZ;rw[be h45];cases hs:W2 c with|true=>rw[aq,bb (AW.1 hs),Fz hv,ae,ko hN (Md hv)]|false=>rw[af,be (λe=>by rw[AW.2 e]at hs;cases hs),Ab hN ⟨JU h hs,hv.2⟩]
theorem NR{x:Instr}(hc:eA x=true):∃a b c,wZ x.1=some (a,b,c)/\fits a x.2.1=true/\fits b x.2.2.1=true/\fits c x.2.2.2=true:=by unfold eA at hc<;>grind
theorem NS{a b c:UInt8}(h:(a=45->b=45)/\(b=45->c=45)):(a=45/\b=45/\c=45)\/(a≠45/\b=45/\c=45)\/(a≠45/\b≠45/\c=45)\/(a≠45/\b≠45/\c≠45):=by grind
theorem yq(c:UInt8)(v:Int):room (1+(rZ c v).length) 1=true:=by have:=qw c v;exact ak (by omega) (by omega)
theorem Hl(p:Int)(c d:UInt8)(v w:Int):room (([p]++rZ c v).length+(rZ d w).length) 1=true:=by have:=qw c v;have:=qw d w;exact ak (by simp only[ba,dj];omega) (by omega)
theorem VA(p:Int)(c d e:UInt8)(v w u:Int):room ((([p]++rZ c v)++rZ d w).length+(rZ e u).length) 1=true:=by have:=qw c v;have:=qw d w;have:=qw e u;exact ak (by simp only[ba,dj];omega) (by omega)
theorem YH{N:Nat}(hN:20<N){x:Instr}(hx:okI x)(hc:eA x=true):Te N (x.1,x.2.1,x.2.2.1,x.2.2.2)=some (encI x,0):=by
 rw[Te.eq_1,uo,hc];obtain⟨a,b,c,hs,h1,h2,h3⟩:=NR hc;obtain⟨i1,i2,i3⟩:=hx;have g00:decide ((0:Int)>=0)=true:=rfl;have g01:decide ((0:Int)>=1)=false:=rfl;have g02:decide ((0:Int)>=2)=false:=rfl;have g03:decide ((0:Int)>=3)=false:=rfl;have g10:decide ((1:Int)>=0)=true:=rfl;have g11:decide ((1:Int)>=1)=true:=rfl;have g12:decide ((1:Int)>=2)=false:=rfl;have g13:decide ((1:Int)>=3)=false:=rfl;have g20:decide ((2:Int)>=0)=true:=rfl;have g21:decide ((2:Int)>=1)=true:=rfl;have g22:decide ((2:Int)>=2)=true:=rfl;have g23:decide ((2:Int)>=3)=false:=rfl;simp only[aq,gR,af,ae,vw,hs,JB.eq_1,encI,NQ];rcases NS (JT hs)with⟨rfl,rfl,rfl⟩|⟨ha,rfl,rfl⟩|⟨ha,hb,rfl⟩|⟨ha,hb,hc⟩;.simp[show cnt 45 45 45=0from rfl,g00,g10,g20,aq,xb,dt]
 .simp only[show cnt a 45 45=1by simp[cnt,ha],g01,g11,g21,aq,af,C0,opO hN h1 ha i1,ae,yq,aj,xb,dt]<;>grind
 .simp only[show cnt a b 45=2by simp[cnt,hb],g02,g12,g22,aq,af,C0,opO hN h1 ha i1,opO hN h2 hb i2,ae,yq,Hl,aj,xb,dt]<;>grind
 .simp only[show cnt a b c=3by simp[cnt,hc],g03,g13,g23,af,C0,opO hN h1 ha i1,opO hN h2 hb i2,opO hN h3 hc i3,ae,yq,Hl,VA,aj]<;>grind
theorem aer{α:Type}(a b c:α):idx [a,b,c] 0=some a/\idx [a,b,c] 1=some b/\idx [a,b,c] 2=some c:=⟨rfl,rfl,rfl⟩
theorem Mg{N:Nat}(hN:20<N){x:Instr}(hx:okI x)(hc:eA x=true):Uv N (x.1,x.2.1,x.2.2.1,x.2.2.2)=some (encI x):=by
 rw[Uv.eq_1,tI];obtain⟨a,b,c,hs,h1,h2,h3⟩:=NR hc;obtain⟨i1,i2,i3⟩:=hx;obtain⟨k1,k2,k3⟩:=Mf hs;simp only[ae,hs,JJ.eq_1,(aer a b c).1,(aer a b c).2.1,(aer a b c).2.2,ak1,Vz k1,Vz k2,Vz k3,encI];rcases NS (JT hs)with⟨rfl,rfl,rfl⟩|⟨ha,rfl,rfl⟩|⟨ha,hb,rfl⟩|⟨ha,hb,hc⟩;.rfl
 .simp only[show(a==45)=false by simpa using ha,i9,aq,af,yp,op6 hN h1 ha i1,ae,yq,aj,xb];simp
 .simp only[show(a==45)=false by simpa using ha,show(b==45)=false by simpa using hb,i9,aq,af,yp,op6 hN h1 ha i1,op6 hN h2 hb i2,ae,yq,Hl,aj,xb];simp
 .simp only[show(a==45)=false by simpa using ha,show(b==45)=false by simpa using hb,show(c==45)=false by simpa using hc,af,yp,op6 hN h1 ha i1,op6 hN h2 hb i2,op6 hN h3 hc i3,ae,yq,Hl,VA,aj];simp
end Go.Proofs.YtkdilffhbejjaaaGreat
