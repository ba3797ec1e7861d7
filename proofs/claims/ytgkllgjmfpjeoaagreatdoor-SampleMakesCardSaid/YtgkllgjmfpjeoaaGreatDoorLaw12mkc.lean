/- A part of the proof: Law12mka, Law12mkb, Law12mkc. -/
import Derived.Test.YtgkllgjmfpjeoaaGreatDoorGen12mk
import Derived.Test.YtgkllgjmfpjeoaaGreatDoorPlain2
import Derived.Test.YtgkllgjmfpjeoaaGreatDoorTab12mk
set_option linter.unusedVariables false
set_option linter.unusedSimpArgs false
namespace Go.Proofs.YtgkllgjmfpjeoaaGreatDoor
open Go Go.bJ Go.Sym
theorem dK(a b:Bool):(bif a then some true else some b:Option Bool)=some (a||b):=by grind
theorem mK(a b:Bool):(bif a then some b else some false:Option Bool)=some (a&&b):=by grind
theorem BT{α:Type}(c:Bool)(a b:α):(bif c then some a else some b)=some (bif c then a else b):=by grind
theorem WG{α:Type}(o:Option α):(Option.bind o λx=>some x)=o:=by grind
theorem au{α:Type}(a b:α):(bif true then a else b)=a:=rfl
theorem aq{α:Type}(a b:α):(bif false then a else b)=b:=rfl
noncomputable def U(c:UInt8):Int×Int×Bool×Bool:=if c=119then(0,15,false,true)else if c=114then(0,15,true,false)else if c=110then(-9223372036854775808,9223372036854775807,false,false)else if c=116then(0,31,false,false)else if c=99then(0,31,false,false)else if c=98then(0,1,false,false)else if c=102then(0,7,false,false)else if c=105then(0,199,false,false)else if c=103then(-1,15,false,true)else if c=101then(-1,15,true,false)else(0,0,false,false)
noncomputable def kF(c:UInt8):Bool:=[119,114,110,116,99,98,102,105,103,101,45].contains c
noncomputable def abZ:List (UInt8×UInt8×UInt8):=[(119,110,45),(119,116,45),(119,98,45),(119,45,45),(119,114,45),(119,114,114),(119,114,114),(119,114,114),(119,114,114),(119,114,114),(119,114,114),(119,114,45),(119,114,102),(114,102,114),(119,45,45),(119,114,45),(114,114,45),(119,114,45),(119,114,114),(114,114,114),(119,114,45),(105,45,45),(114,105,45),(114,45,45),(103,99,45),(99,45,45),(99,45,45),(114,45,45),(119,119,45),(45,45,45),(45,45,45),(114,45,45),(119,114,45),(101,45,45)]
noncomputable def vX(op:Int):Option (UInt8×UInt8×UInt8):=if 1<=op/\op<=34then abZ[(op-1).toNat]?else none
theorem Eo(p0:Int):(1<=p0/\p0<=34)\/∀k:Int,1<=k->k<=34->(p0==k)=false:=by grind
theorem I2{N:Nat}{p0:Int}(ne:∀k:Int,1<=k->k<=34->(p0==k)=false):Gh N p0=some []:=by simp[Gh.eq_1,ne 1 (by decide) (by decide),ne 2 (by decide) (by decide),ne 3 (by decide) (by decide),ne 4 (by decide) (by decide),ne 5 (by decide) (by decide),ne 6 (by decide) (by decide),ne 7 (by decide) (by decide),ne 8 (by decide) (by decide),ne 9 (by decide) (by decide),ne 10 (by decide) (by decide),ne 11 (by decide) (by decide),ne 12 (by decide) (by decide),ne 13 (by decide) (by decide),ne 14 (by decide) (by decide),ne 15 (by decide) (by decide),ne 16 (by decide) (by decide),ne 17 (by decide) (by decide),ne 18 (by decide) (by decide),ne 19 (by decide) (by decide),ne 20 (by decide) (by decide),ne 21 (by decide) (by decide),ne 22 (by decide) (by decide),ne 23 (by decide) (by decide),ne 24 (by decide) (by decide),ne 25 (by decide) (by decide),ne 26 (by decide) (by decide),ne 27 (by decide) (by decide),ne 28 (by decide) (by decide),ne 29 (by decide) (by decide),ne 30 (by decide) (by decide),ne 31 (by decide) (by decide),ne 32 (by decide) (by decide),ne 33 (by decide) (by decide),ne 34 (by decide) (by decide),aq,dK,Bool.or_false,Option.bind_some]
theorem Lh{N:Nat}{p0:Int}(ne:∀k:Int,1<=k->k<=34->(p0==k)=false):Ge N p0=some ((0:Int),(0:Int),false,false,(0:Int),(0:Int),false,false,(0:Int),(0:Int),false,false,(-1:Int)):=by simp[Ge.eq_1,ne 1 (by decide) (by decide),ne 2 (by decide) (by decide),ne 3 (by decide) (by decide),ne 4 (by decide) (by decide),ne 5 (by decide) (by decide),ne 6 (by decide) (by decide),ne 7 (by decide) (by decide),ne 8 (by decide) (by decide),ne 9 (by decide) (by decide),ne 10 (by decide) (by decide),ne 11 (by decide) (by decide),ne 12 (by decide) (by decide),ne 13 (by decide) (by decide),ne 14 (by decide) (by decide),ne 15 (by decide) (by decide),ne 16 (by decide) (by decide),ne 17 (by decide) (by decide),ne 18 (by decide) (by decide),ne 19 (by decide) (by decide),ne 20 (by decide) (by decide),ne 21 (by decide) (by decide),ne 22 (by decide) (by decide),ne 23 (by decide) (by decide),ne 24 (by decide) (by decide),ne 25 (by decide) (by decide),ne 26 (by decide) (by decide),ne 27 (by decide) (by decide),ne 28 (by decide) (by decide),ne 29 (by decide) (by decide),ne 30 (by decide) (by decide),ne 31 (by decide) (by decide),ne 32 (by decide) (by decide),ne 33 (by decide) (by decide),ne 34 (by decide) (by decide),aq,dK,Bool.or_false,Option.bind_some]
theorem MZ{p0:Int}(ne:∀k:Int,1<=k->k<=34->(p0==k)=false):vX p0=none:=by unfold vX<;>grind
theorem sK(N:Nat)(p0:Int):Gh N p0=some (match vX p0 with|some (a,b,c)=>[a,b,c]|none=>[]):=by
  rcases Eo p0 with h|ne
  . have:p0=1\/p0=2\/p0=3\/p0=4\/p0=5\/p0=6\/p0=7\/p0=8\/p0=9\/p0=10\/p0=11\/p0=12\/p0=13\/p0=14\/p0=15\/p0=16\/p0=17\/p0=18\/p0=19\/p0=20\/p0=21\/p0=22\/p0=23\/p0=24\/p0=25\/p0=26\/p0=27\/p0=28\/p0=29\/p0=30\/p0=31\/p0=32\/p0=33\/p0=34:=by omega
    rcases this with rfl|rfl|rfl|rfl|rfl|rfl|rfl|rfl|rfl|rfl|rfl|rfl|rfl|rfl|rfl|rfl|rfl|rfl|rfl|rfl|rfl|rfl|rfl|rfl|rfl|rfl|rfl|rfl|rfl|rfl|rfl|rfl|rfl|rfl<;>(simp only[Gh.eq_1];rfl)
  .rw[I2 ne,MZ ne]
theorem M0:(abZ.all λs=>(kF s.1&&(kF s.2.1&&kF s.2.2))&&((!(s.1==45)||s.2.1==45)&&(!(s.2.1==45)||s.2.2==45)))=true:=by decide
theorem M1{p0:Int}{s:UInt8×UInt8×UInt8}(h:vX p0=some s):s∈abZ:=by
 unfold vX at h;split at h;.exact List.mem_of_getElem? h
 grind
theorem Li{p0:Int}{a b c:UInt8}(h:vX p0=some (a,b,c)):kF a=true/\kF b=true/\kF c=true:=by have:=List.all_eq_true.1 M0 _ (M1 h)<;>grind
noncomputable def cnt(a b c:UInt8):Int:=if c≠45then 3 else if b≠45then 2 else if a≠45then 1 else 0
theorem ab0(a b c:UInt8):decide (cnt a b c<0)=false:=by unfold cnt<;>grind
theorem uK(N:Nat)(p0:Int):Ge N p0=some (match vX p0 with|some (a,b,c)=>((U a).1,(U a).2.1,(U a).2.2.1,(U a).2.2.2,(U b).1,(U b).2.1,(U b).2.2.1,(U b).2.2.2,(U c).1,(U c).2.1,(U c).2.2.1,(U c).2.2.2,cnt a b c)|none=>((0:Int),(0:Int),false,false,(0:Int),(0:Int),false,false,(0:Int),(0:Int),false,false,(-1:Int))):=by
  rcases Eo p0 with h|ne
  . have:p0=1\/p0=2\/p0=3\/p0=4\/p0=5\/p0=6\/p0=7\/p0=8\/p0=9\/p0=10\/p0=11\/p0=12\/p0=13\/p0=14\/p0=15\/p0=16\/p0=17\/p0=18\/p0=19\/p0=20\/p0=21\/p0=22\/p0=23\/p0=24\/p0=25\/p0=26\/p0=27\/p0=28\/p0=29\/p0=30\/p0=31\/p0=32\/p0=33\/p0=34:=by omega
    rcases this with rfl|rfl|rfl|rfl|rfl|rfl|rfl|rfl|rfl|rfl|rfl|rfl|rfl|rfl|rfl|rfl|rfl|rfl|rfl|rfl|rfl|rfl|rfl|rfl|rfl|rfl|rfl|rfl|rfl|rfl|rfl|rfl|rfl|rfl<;>(simp only[Ge.eq_1,xA.eq_1,WA.eq_1,Bw.eq_1,su.eq_1,Option.bind_some];rfl)
  .rw[Lh ne,MZ ne]
theorem I3{p0:Int}{a b c:UInt8}(h:vX p0=some (a,b,c)):(a=45->b=45)/\(b=45->c=45):=by have:=List.all_eq_true.1 M0 _ (M1 h)<;>grind
noncomputable def i64(v:Int):Prop:=-9223372036854775808<=v/\v<=9223372036854775807
noncomputable def fits(c:UInt8)(v:Int):Bool:=decide ((U c).1<=v)&&decide (v<=(U c).2.1)
noncomputable def dD(x:Instr):Bool:=match vX x.1with|some (a,b,c)=>fits a x.2.1&&(fits b x.2.2.1&&fits c x.2.2.2)|none=>false
noncomputable def O6(x:Instr):Prop:=i64 x.2.1/\i64 x.2.2.1/\i64 x.2.2.2
theorem ahq(c:UInt8)(v:Int):(decide (v<(U c).1)||decide (v>(U c).2.1))=!fits c v:=by unfold fits<;>grind
theorem TI{α:Type}(a:Bool)(x y:α):(bif !a then x else y)=bif a then y else x:=by grind
theorem tw(N:Nat)(x:Instr):IN N (x.1,x.2.1,x.2.2.1,x.2.2.2)=some (bif dD x then 0 else 8):=by rw[IN.eq_1,uK];unfold dD;cases vX x.1with|none=>rfl|some s=>obtain⟨a,b,c⟩:=s;simp only[IM.eq_1,Option.bind_some,ab0,aq,dK,ahq]<;>grind
theorem ab1(v:Int)(lo n:Int):(decide (v>=lo)&&decide (v<n))=(decide (lo<=v)&&decide (v<=n-1)):=by grind
theorem xE{N:Nat}{c:UInt8}{v:Int}(hc:kF c=true)(hv:i64 v):Ld N ((c.toNat:Int),v)=some (fits c v):=by
 have h:c=119\/c=114\/c=110\/c=116\/c=99\/c=98\/c=102\/c=105\/c=103\/c=101\/c=45:=by simpa[kF]using hc
 rw[Ld.eq_1];simp[mK,dK,WG,Option.bind_some,ab1];rcases h with rfl|rfl|rfl|rfl|rfl|rfl|rfl|rfl|rfl|rfl|rfl;all_goals first
    |rfl|(simp[fits,U,hv.1,hv.2];done)
    | (show some (v==0)=some (decide (0<=v)&&decide (v<=0));by_cases h:v=0;.subst h;rfl
       . rw[show(v==0)=false by simpa using h];by_cases h1:0<=v;.simp[show¬v<=0 by omega]
         .simp[h1])
theorem BU(N:Nat){x:Instr}(hx:O6 x):OX N (x.1,x.2.1,x.2.2.1,x.2.2.2)=some (bif dD x then 0 else 8):=by rw[OX.eq_1,sK,Option.bind_some,IV.eq_1];unfold dD;cases h:vX x.1with|none=>rfl|some s=>obtain⟨a,b,c⟩:=s;obtain⟨h1,h2,h3⟩:=Li h;have e0:idx [a,b,c] 0=some a:=rfl;have e1:idx [a,b,c] 1=some b:=rfl;have e2:idx [a,b,c] 2=some c:=rfl;simp only[show((([a,b,c]:List UInt8).length:Int)!=3)=false from rfl,aq,e0,e1,e2,Option.bind_some,xE h1 hx.1,xE h2 hx.2.1,xE h3 hx.2.2,TI]<;>grind
end Go.Proofs.YtgkllgjmfpjeoaaGreatDoor
namespace Go.Proofs.YtgkllgjmfpjeoaaGreatDoor
open Go Go.bJ Go.Sym
theorem Ep(N:Nat):∀(j k n:Nat)(pre:List Int),n<128^(j+1)->j<k->pre.length+j<=1000->∃(m:Nat)(l:List Int),f163.lB N k ((n:Int),pre)=some ((m:Int),pre++l)/\vV j n=l++[(m:Int)]/\m<128/\l.length<=j
 |j,0,n,pre,_,h,_=>by omega|0,k+1,n,pre,hn,_,_=>by refine⟨n,[],?_,rfl,by omega,by simp⟩;rw[f163.lB.eq_2,decide_eq_false (by omega),aq,List.append_nil]|j+1,k+1,n,pre,hn,hk,hp=>by
  rw[f163.lB.eq_2];by_cases h:n<128;.refine⟨n,[],?_,by rw[vV,if_pos h];rfl,h,by simp⟩<;>grind
  .obtain⟨m,l,h1,h2,h3,h4⟩:=Ep N j k (n/128) (pre++[((n%128+128:Nat):Int)]) (by rw[Nat.pow_succ]at hn;omega) (by omega) (by simp;omega);refine⟨m,((n%128+128:Nat):Int)::l,?_,by rw[vV,if_neg h,h2];rfl,h3,by simp;omega⟩;rw[decide_eq_true (by omega),au,af (by omega) (by omega),qu,TH _ (Nat.mod_lt _ (by omega)),show(128:Int)=((128:Nat):Int)from rfl,BS,show n%256%128=n%128by omega,h1,List.append_assoc];rfl
theorem vY{N n:Nat}(hN:20<N)(hn:n<18446744073709551616):gz N (n:Int)=some (V n):=by
 rw[gz.eq_1];unfold V;by_cases h:n<128;.rw[decide_eq_false (by omega),aq,af (by omega) (by omega),ai,vV,if_pos h,qu,Nat.mod_eq_of_lt (by omega)]
 .rw[decide_eq_true (by omega),au,af (by omega) (by omega),ai];obtain⟨m,l,h1,h2,h3,h4⟩:=Ep N 8 N (n/128) [((n%128+128:Nat):Int)] (by omega) (by omega) (by simp);rw[qu,TH _ (Nat.mod_lt _ (by omega)),show(128:Int)=((128:Nat):Int)from rfl,BS,show n%256%128=n%128by omega,h1,Option.bind_some,af (by simp;omega) (by omega),ai,vV,if_neg h,h2,qu,show m%256=m by omega];rfl
theorem vZ(N:Nat):∀(j k n:Nat)(pre:List Int),n<128^(j+1)->n<18446744073709551616->j<k->pre.length+j<=1000->∃(m:Nat)(l:List Int),f132.ko N k ((n:Int),pre)=some ((m:Int),pre++l)/\vV j n=l++[(m:Int)]/\m<128/\l.length<=j
 |j,0,n,pre,_,_,h,_=>by omega|0,k+1,n,pre,hn,_,_,_=>by refine⟨n,[],?_,rfl,by omega,by simp⟩;rw[f132.ko.eq_2,decide_eq_false (by omega),aq,List.append_nil]|j+1,k+1,n,pre,hn,h64,hk,hp=>by
    rw[f132.ko.eq_2];by_cases h:n<128;.refine⟨n,[],?_,by rw[vV,if_pos h];rfl,h,by simp⟩<;>grind
    . obtain⟨m,l,h1,h2,h3,h4⟩:=vZ N j k (n/128) (pre++[((n%128+128:Nat):Int)]) (by rw[Nat.pow_succ]at hn;omega) (by omega) (by omega) (by simp;omega);refine⟨m,((n%128+128:Nat):Int)::l,?_,by rw[vV,if_neg h,h2];rfl,h3,by simp;omega⟩;have e:RS ((RS (Int.tmod (n:Int) (128:Int)))+(128:Int))=((n%128+128:Nat):Int):=by rw[show(128:Int)=((128:Nat):Int)from rfl,mh,qu,show((n%128%256:Nat):Int)+((128:Nat):Int)=((n%128+128:Nat):Int)by omega,qu]<;>omega
      rw[decide_eq_true (by omega),au,af (by omega) (by omega),e,show(128:Int)=((128:Nat):Int)from rfl,sJ,mg (by omega),h1,List.append_assoc];rfl
theorem jK{N n:Nat}(hN:20<N)(hn:n<18446744073709551616):gY N (n:Int)=some (V n):=by rw[gY.eq_1];unfold V;obtain⟨m,l,h1,h2,h3,h4⟩:=vZ N 9 N n [] (by omega) hn (by omega) (by simp);rw[h1,Option.bind_some,af (by simp;omega) (by omega),ai,h2,qu,show m%256=m by omega];rfl
theorem nc{N n:Nat}(hN:20<N)(hn:n<18446744073709551616):uJ N (n:Int)=some (V n):=by rw[uJ.eq_1,mg hn,jK hN hn];rfl
noncomputable def said(s:List UInt8):List Int:=V s.length++bU s
theorem mj(s:List UInt8):(said s).length<=10+s.length:=by have:=cF s.length;rw[said,List.length_append,eH];omega
theorem Gj{N:Nat}{s:List UInt8}(hN:20<N)(hs:s.length<=1000000):Le N s=some (said s):=by have:=cF s.length;rw[Le.eq_1,mg (by omega),jK hN (by omega),Option.bind_some,af (by rw[eH];omega) (by omega)];rfl
theorem wrap_u64(n:Int):IntKind.u64.wrap n=n%18446744073709551616:=rfl
theorem TJ{n:Int}(h:-9223372036854775808<=n/\n<=9223372036854775807):Wp .u64 (cv ((cv n)*2)) (cv (Int.fdiv n 9223372036854775808))=(En n:Int):=by
  unfold En;by_cases h0:0<=n
  . rw[if_pos h0,iD (n:=n) (by omega),Int.fdiv_eq_ediv_of_nonneg _ (by omega),Int.ediv_eq_zero_of_lt h0 (by omega),iD (n:=n*2) (by omega),iD (n:=0) (by omega)];have e:n*2=(((2*n).toNat:Nat):Int):=by omega
    rw[e];unfold Wp;have e2:(BitVec.ofInt IntKind.u64.bits (((2*n).toNat:Nat):Int)^^^BitVec.ofInt IntKind.u64.bits 0).toNat=(2*n).toNat:=by show(BitVec.ofInt 64 (((2*n).toNat:Nat):Int)^^^BitVec.ofInt 64 0).toNat=(2*n).toNat;grind
    rw[e2];exact iD (by omega)
  . rw[if_neg h0];have e1:cv n=n+18446744073709551616:=by show IntKind.u64.wrap n=_;rw[wrap_u64];omega
    have e3:Int.fdiv n 9223372036854775808=-1:=by grind
    have e4:cv (-1)=18446744073709551615:=by decide
    have e5:cv ((n+18446744073709551616)*2)=((18446744073709551615-(-2*n-1).toNat:Nat):Int):=by show IntKind.u64.wrap _=_;rw[wrap_u64];omega
    rw[e1,e3,e4,e5];unfold Wp;have hlt:(-2*n-1).toNat<18446744073709551616:=by omega
    generalize(-2*n-1).toNat=m at hlt;have e2:(BitVec.ofInt IntKind.u64.bits ((18446744073709551615-m:Nat):Int)^^^BitVec.ofInt IntKind.u64.bits 18446744073709551615).toNat=m:=by show(BitVec.ofInt 64 ((18446744073709551615-m:Nat):Int)^^^BitVec.ofInt 64 18446744073709551615).toNat=m;rw[show BitVec.ofInt 64 18446744073709551615=BitVec.allOnes 64from by decide,BitVec.xor_allOnes,BitVec.toNat_not,BitVec.ofInt_natCast,BitVec.toNat_ofNat];omega
    rw[e2];exact iD (by omega)
theorem Er{N:Nat}{n:Int}(hN:20<N)(h:-9223372036854775808<=n/\n<=9223372036854775807):qp N n=some (V (En n)):=by rw[qp.eq_1,TJ h,vY hN (Lg h)];rfl
theorem Es{N:Nat}{n:Int}(h:-9223372036854775808<=n/\n<=9223372036854775807):qq N n=some (En n:Int):=by
 rw[qq.eq_1];unfold En;by_cases h0:0<=n;.rw[decide_eq_true h0,au,if_pos h0,iD (n:=n) (by omega),iD (by omega)]<;>grind
 .rw[decide_eq_false h0,aq,if_neg h0,bn (n:=n+1) (by omega),bn (n:=0-(n+1)) (by omega),iD (n:=0-(n+1)) (by omega),iD (n:=(0-(n+1))*2) (by omega),iD (by omega)]<;>grind
end Go.Proofs.YtgkllgjmfpjeoaaGreatDoor
namespace Go.Proofs.YtgkllgjmfpjeoaaGreatDoor
open Go Go.bJ Go.Sym
theorem mo{N:Nat}{v:Int}(hN:20<N)(h:0<=v/\v<=9223372036854775807):gz N (cv v)=some (V v.toNat):=by obtain⟨n,rfl⟩:=Int.eq_ofNat_of_zero_le h.1;rw[mg (by omega),vY hN (by omega)];rfl
theorem zd{N:Nat}{v:Int}(hN:20<N)(h:0<=v/\v<=9223372036854775807):gY N (cv v)=some (V v.toNat):=by obtain⟨n,rfl⟩:=Int.eq_ofNat_of_zero_le h.1;rw[mg (by omega),jK hN (by omega)];rfl
theorem nN{N:Nat}{v:Int}(hN:20<N)(h:0<=v/\v<=9223372036854775807):uJ N v=some (V v.toNat):=by obtain⟨n,rfl⟩:=Int.eq_ofNat_of_zero_le h.1;rw[nc hN (by omega)];rfl
theorem I4:((0:Int)!=(0:Int))=false:=rfl
noncomputable def qX(c:UInt8)(v:Int):List Int:=if c=45then[]else if c=110\/c=103\/c=101then V (En v)else V v.toNat
noncomputable def encI(x:Instr):List Int:=match vX x.1with|some (a,b,c)=>x.1::(qX a x.2.1++(qX b x.2.2.1++qX c x.2.2.2))|none=>[x.1]
theorem mq(x:Instr):(encI x).length<=31:=by
 have hk:∀c v,(qX c v).length<=10:=λc v=>by
    unfold qX;split;.simp
    . split;.exact(cF _).2
      .exact(cF _).2
 unfold encI<;>grind
noncomputable def U2(c:UInt8):Bool:=c==110||(c==103||c==101)
theorem zT{c:UInt8}:U2 c=true↔c=110\/c=103\/c=101:=by simp[U2]
theorem M3(c:UInt8):decide ((U c).1<0)=U2 c:=by
 unfold U U2;repeat' split
 all_goals first|(subst_vars;rfl)|(rename_i h1 h2 h3 h4 h5 h6 h7 h8 h9 h10;simp[h3,h9,h10])
theorem ahr(c:UInt8):((c.toNat:Int)==45)=(c==45):=by
 by_cases h:c=45;.subst h;rfl
 .rw[show(c==45)=false by simpa using h,beq_eq_false_iff_ne];intro e;exact h (UInt8.toNat_inj.1 (by show c.toNat=45;omega))
theorem TK{N:Nat}{c:UInt8}(hc:kF c=true):tK N ((c.toNat:Nat):Int)=some (U2 c):=by
 have h:c=119\/c=114\/c=110\/c=116\/c=99\/c=98\/c=102\/c=105\/c=103\/c=101\/c=45:=by simpa[kF]using hc
 rcases h with rfl|rfl|rfl|rfl|rfl|rfl|rfl|rfl|rfl|rfl|rfl<;>rfl
theorem we(v:Int):qX 45 v=[]:=rfl
theorem pS(c:UInt8)(v:Int):(qX c v).length<=10:=by
  unfold qX;split;.simp
  . split;.exact(cF _).2
    .exact(cF _).2
theorem I5{c:UInt8}{v:Int}(h:fits c v=true)(hs:U2 c=false):0<=v:=by rw[<-M3,decide_eq_false_iff_not]at hs;unfold fits at h<;>grind
theorem BV{α β:Type}(c:Bool)(x y:Option α)(k:α->Option β):(bif c then Option.bind x k else Option.bind y k)=Option.bind (bif c then x else y) k:=by grind
theorem xF{α β γ:Type}(c:Bool)(x:Option γ)(f:γ->Option α)(y:Option α)(k:α->Option β):(bif c then Option.bind x (λu=>Option.bind (f u) k)else Option.bind y k)=Option.bind (bif c then Option.bind x f else y) k:=by grind
theorem opO{N:Nat}(hN:20<N){c:UInt8}{v:Int}(h:fits c v=true)(h45:c≠45)(hv:i64 v):(bif U2 c then qp N v else gz N (cv v))=some (qX c v):=by unfold qX;rw[if_neg h45];cases hs:U2 c with|true=>rw[au,if_pos (zT.1 hs),Er hN hv]|false=>rw[aq,if_neg (λe=>by rw[zT.2 e]at hs;cases hs),mo hN ⟨I5 h hs,hv.2⟩]
theorem op6{N:Nat}(hN:20<N){c:UInt8}{v:Int}(h:fits c v=true)(h45:c≠45)(hv:i64 v):(bif U2 c then Option.bind (qq N v) (λu=>gY N u)else gY N (cv v))=some (qX c v):=by unfold qX;rw[if_neg h45];cases hs:U2 c with|true=>rw[au,if_pos (zT.1 hs),Es hv,Option.bind_some,jK hN (Lg hv)]|false=>rw[aq,if_neg (λe=>by rw[zT.2 e]at hs;cases hs),zd hN ⟨I5 h hs,hv.2⟩]
theorem M4{x:Instr}(hc:dD x=true):∃a b c,vX x.1=some (a,b,c)/\fits a x.2.1=true/\fits b x.2.2.1=true/\fits c x.2.2.2=true:=by unfold dD at hc<;>grind
theorem M5{a b c:UInt8}(h:(a=45->b=45)/\(b=45->c=45)):(a=45/\b=45/\c=45)\/(a≠45/\b=45/\c=45)\/(a≠45/\b≠45/\c=45)\/(a≠45/\b≠45/\c≠45):=by grind
theorem xG(c:UInt8)(v:Int):room (1+(qX c v).length) 1=true:=by have:=pS c v;exact af (by omega) (by omega)
theorem Gk(p:Int)(c d:UInt8)(v w:Int):room (([p]++qX c v).length+(qX d w).length) 1=true:=by have:=pS c v;have:=pS d w;exact af (by simp only[List.length_append,List.length_singleton];omega) (by omega)
theorem TL(p:Int)(c d e:UInt8)(v w u:Int):room ((([p]++qX c v)++qX d w).length+(qX e u).length) 1=true:=by have:=pS c v;have:=pS d w;have:=pS e u;exact af (by simp only[List.length_append,List.length_singleton];omega) (by omega)
theorem WH{N:Nat}(hN:20<N){x:Instr}(hx:O6 x)(hc:dD x=true):Sq N (x.1,x.2.1,x.2.2.1,x.2.2.2)=some (encI x,0):=by
 rw[Sq.eq_1,tw,hc];obtain⟨a,b,c,hs,h1,h2,h3⟩:=M4 hc;obtain⟨i1,i2,i3⟩:=hx;have g00:decide ((0:Int)>=0)=true:=rfl;have g01:decide ((0:Int)>=1)=false:=rfl;have g02:decide ((0:Int)>=2)=false:=rfl;have g03:decide ((0:Int)>=3)=false:=rfl;have g10:decide ((1:Int)>=0)=true:=rfl;have g11:decide ((1:Int)>=1)=true:=rfl;have g12:decide ((1:Int)>=2)=false:=rfl;have g13:decide ((1:Int)>=3)=false:=rfl;have g20:decide ((2:Int)>=0)=true:=rfl;have g21:decide ((2:Int)>=1)=true:=rfl;have g22:decide ((2:Int)>=2)=true:=rfl;have g23:decide ((2:Int)>=3)=false:=rfl;simp only[au,I4,aq,Option.bind_some,uK,hs,IM.eq_1,encI,M3];rcases M5 (I3 hs)with⟨rfl,rfl,rfl⟩|⟨ha,rfl,rfl⟩|⟨ha,hb,rfl⟩|⟨ha,hb,hc⟩;.simp[show cnt 45 45 45=0from rfl,g00,g10,g20,au,we,List.append_nil]
 .simp only[show cnt a 45 45=1by simp[cnt,ha],g01,g11,g21,au,aq,BV,opO hN h1 ha i1,Option.bind_some,xG,ai,we,List.append_nil]<;>grind
 .simp only[show cnt a b 45=2by simp[cnt,hb],g02,g12,g22,au,aq,BV,opO hN h1 ha i1,opO hN h2 hb i2,Option.bind_some,xG,Gk,ai,we,List.append_nil]<;>grind
 .simp only[show cnt a b c=3by simp[cnt,hc],g03,g13,g23,aq,BV,opO hN h1 ha i1,opO hN h2 hb i2,opO hN h3 hc i3,Option.bind_some,xG,Gk,TL,ai]<;>grind
theorem ab3{α:Type}(a b c:α):idx [a,b,c] 0=some a/\idx [a,b,c] 1=some b/\idx [a,b,c] 2=some c:=⟨rfl,rfl,rfl⟩
theorem Lj{N:Nat}(hN:20<N){x:Instr}(hx:O6 x)(hc:dD x=true):Td N (x.1,x.2.1,x.2.2.1,x.2.2.2)=some (encI x):=by
 rw[Td.eq_1,sK];obtain⟨a,b,c,hs,h1,h2,h3⟩:=M4 hc;obtain⟨i1,i2,i3⟩:=hx;obtain⟨k1,k2,k3⟩:=Li hs;simp only[Option.bind_some,hs,IV.eq_1,(ab3 a b c).1,(ab3 a b c).2.1,(ab3 a b c).2.2,ahr,TK k1,TK k2,TK k3,encI];rcases M5 (I3 hs)with⟨rfl,rfl,rfl⟩|⟨ha,rfl,rfl⟩|⟨ha,hb,rfl⟩|⟨ha,hb,hc⟩;.rfl
 .simp only[show(a==45)=false by simpa using ha,beq_self_eq_true,au,aq,xF,op6 hN h1 ha i1,Option.bind_some,xG,ai,we];simp
 .simp only[show(a==45)=false by simpa using ha,show(b==45)=false by simpa using hb,beq_self_eq_true,au,aq,xF,op6 hN h1 ha i1,op6 hN h2 hb i2,Option.bind_some,xG,Gk,ai,we];simp
 .simp only[show(a==45)=false by simpa using ha,show(b==45)=false by simpa using hb,show(c==45)=false by simpa using hc,aq,xF,op6 hN h1 ha i1,op6 hN h2 hb i2,op6 hN h3 hc i3,Option.bind_some,xG,Gk,TL,ai];simp
end Go.Proofs.YtgkllgjmfpjeoaaGreatDoor
