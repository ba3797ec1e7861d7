/- A part of the proof: Law12cha, Law12chb, Law12chc. -/
import Derived.Test.YtdogilonhnbapaaGreatDoorGen12ch
import Derived.Test.YtdogilonhnbapaaGreatDoorPlain2
import Derived.Test.YtdogilonhnbapaaGreatDoorTab12ch
set_option linter.unusedVariables false
set_option linter.unusedSimpArgs false
namespace Go.Proofs.YtdogilonhnbapaaGreatDoor
open Go Go.bI Go.Sym
theorem dK(a b:Bool):(bif a then some true else some b:Option Bool)=some (a||b):=by grind
theorem mL(a b:Bool):(bif a then some b else some false:Option Bool)=some (a&&b):=by grind
theorem G0{α:Type}(c:Bool)(a b:α):(bif c then some a else some b)=some (bif c then a else b):=by grind
theorem YV{α:Type}(o:Option α):(Option.bind o λx=>some x)=o:=by grind
theorem au{α:Type}(a b:α):(bif true then a else b)=a:=rfl
theorem ak{α:Type}(a b:α):(bif false then a else b)=b:=rfl
noncomputable def U(c:UInt8):Int×Int×Bool×Bool:=if c=119then(0,15,false,true)else if c=114then(0,15,true,false)else if c=110then(-9223372036854775808,9223372036854775807,false,false)else if c=116then(0,31,false,false)else if c=99then(0,31,false,false)else if c=98then(0,1,false,false)else if c=102then(0,7,false,false)else if c=105then(0,199,false,false)else if c=103then(-1,15,false,true)else if c=101then(-1,15,true,false)else(0,0,false,false)
noncomputable def kJ(c:UInt8):Bool:=[119,114,110,116,99,98,102,105,103,101,45].contains c
noncomputable def afb:List (UInt8×UInt8×UInt8):=[(119,110,45),(119,116,45),(119,98,45),(119,45,45),(119,114,45),(119,114,114),(119,114,114),(119,114,114),(119,114,114),(119,114,114),(119,114,114),(119,114,45),(119,114,102),(114,102,114),(119,45,45),(119,114,45),(114,114,45),(119,114,45),(119,114,114),(114,114,114),(119,114,45),(105,45,45),(114,105,45),(114,45,45),(103,99,45),(99,45,45),(99,45,45),(114,45,45),(119,119,45),(45,45,45),(45,45,45),(114,45,45),(119,114,45),(101,45,45)]
noncomputable def wH(op:Int):Option (UInt8×UInt8×UInt8):=if 1<=op/\op<=34then afb[(op-1).toNat]?else none
theorem E1(p0:Int):(1<=p0/\p0<=34)\/∀k:Int,1<=k->k<=34->(p0==k)=false:=by grind
theorem JP{N:Nat}{p0:Int}(ne:∀k:Int,1<=k->k<=34->(p0==k)=false):Dv N p0=some []:=by simp[Dv.eq_1,ne 1 (by decide) (by decide),ne 2 (by decide) (by decide),ne 3 (by decide) (by decide),ne 4 (by decide) (by decide),ne 5 (by decide) (by decide),ne 6 (by decide) (by decide),ne 7 (by decide) (by decide),ne 8 (by decide) (by decide),ne 9 (by decide) (by decide),ne 10 (by decide) (by decide),ne 11 (by decide) (by decide),ne 12 (by decide) (by decide),ne 13 (by decide) (by decide),ne 14 (by decide) (by decide),ne 15 (by decide) (by decide),ne 16 (by decide) (by decide),ne 17 (by decide) (by decide),ne 18 (by decide) (by decide),ne 19 (by decide) (by decide),ne 20 (by decide) (by decide),ne 21 (by decide) (by decide),ne 22 (by decide) (by decide),ne 23 (by decide) (by decide),ne 24 (by decide) (by decide),ne 25 (by decide) (by decide),ne 26 (by decide) (by decide),ne 27 (by decide) (by decide),ne 28 (by decide) (by decide),ne 29 (by decide) (by decide),ne 30 (by decide) (by decide),ne 31 (by decide) (by decide),ne 32 (by decide) (by decide),ne 33 (by decide) (by decide),ne 34 (by decide) (by decide),ak,dK,Bool.or_false,Option.bind_some]
theorem Mt{N:Nat}{p0:Int}(ne:∀k:Int,1<=k->k<=34->(p0==k)=false):Ds N p0=some ((0:Int),(0:Int),false,false,(0:Int),(0:Int),false,false,(0:Int),(0:Int),false,false,(-1:Int)):=by simp[Ds.eq_1,ne 1 (by decide) (by decide),ne 2 (by decide) (by decide),ne 3 (by decide) (by decide),ne 4 (by decide) (by decide),ne 5 (by decide) (by decide),ne 6 (by decide) (by decide),ne 7 (by decide) (by decide),ne 8 (by decide) (by decide),ne 9 (by decide) (by decide),ne 10 (by decide) (by decide),ne 11 (by decide) (by decide),ne 12 (by decide) (by decide),ne 13 (by decide) (by decide),ne 14 (by decide) (by decide),ne 15 (by decide) (by decide),ne 16 (by decide) (by decide),ne 17 (by decide) (by decide),ne 18 (by decide) (by decide),ne 19 (by decide) (by decide),ne 20 (by decide) (by decide),ne 21 (by decide) (by decide),ne 22 (by decide) (by decide),ne 23 (by decide) (by decide),ne 24 (by decide) (by decide),ne 25 (by decide) (by decide),ne 26 (by decide) (by decide),ne 27 (by decide) (by decide),ne 28 (by decide) (by decide),ne 29 (by decide) (by decide),ne 30 (by decide) (by decide),ne 31 (by decide) (by decide),ne 32 (by decide) (by decide),ne 33 (by decide) (by decide),ne 34 (by decide) (by decide),ak,dK,Bool.or_false,Option.bind_some]
theorem N7{p0:Int}(ne:∀k:Int,1<=k->k<=34->(p0==k)=false):wH p0=none:=by unfold wH<;>grind
theorem tg(N:Nat)(p0:Int):Dv N p0=some (match wH p0 with|some (a,b,c)=>[a,b,c]|none=>[]):=by
  rcases E1 p0 with h|ne
  . have:p0=1\/p0=2\/p0=3\/p0=4\/p0=5\/p0=6\/p0=7\/p0=8\/p0=9\/p0=10\/p0=11\/p0=12\/p0=13\/p0=14\/p0=15\/p0=16\/p0=17\/p0=18\/p0=19\/p0=20\/p0=21\/p0=22\/p0=23\/p0=24\/p0=25\/p0=26\/p0=27\/p0=28\/p0=29\/p0=30\/p0=31\/p0=32\/p0=33\/p0=34:=by omega
    rcases this with rfl|rfl|rfl|rfl|rfl|rfl|rfl|rfl|rfl|rfl|rfl|rfl|rfl|rfl|rfl|rfl|rfl|rfl|rfl|rfl|rfl|rfl|rfl|rfl|rfl|rfl|rfl|rfl|rfl|rfl|rfl|rfl|rfl|rfl<;>(simp only[Dv.eq_1];rfl)
  .rw[JP ne,N7 ne]
theorem N8:(afb.all λs=>(kJ s.1&&(kJ s.2.1&&kJ s.2.2))&&((!(s.1==45)||s.2.1==45)&&(!(s.2.1==45)||s.2.2==45)))=true:=by decide
theorem N9{p0:Int}{s:UInt8×UInt8×UInt8}(h:wH p0=some s):s∈afb:=by
 unfold wH at h;split at h;.exact List.mem_of_getElem? h
 grind
theorem Mu{p0:Int}{a b c:UInt8}(h:wH p0=some (a,b,c)):kJ a=true/\kJ b=true/\kJ c=true:=by have:=List.all_eq_true.1 N8 _ (N9 h)<;>grind
noncomputable def cnt(a b c:UInt8):Int:=if c≠45then 3 else if b≠45then 2 else if a≠45then 1 else 0
theorem afc(a b c:UInt8):decide (cnt a b c<0)=false:=by unfold cnt<;>grind
theorem uZ(N:Nat)(p0:Int):Ds N p0=some (match wH p0 with|some (a,b,c)=>((U a).1,(U a).2.1,(U a).2.2.1,(U a).2.2.2,(U b).1,(U b).2.1,(U b).2.2.1,(U b).2.2.2,(U c).1,(U c).2.1,(U c).2.2.1,(U c).2.2.2,cnt a b c)|none=>((0:Int),(0:Int),false,false,(0:Int),(0:Int),false,false,(0:Int),(0:Int),false,false,(-1:Int))):=by
  rcases E1 p0 with h|ne
  . have:p0=1\/p0=2\/p0=3\/p0=4\/p0=5\/p0=6\/p0=7\/p0=8\/p0=9\/p0=10\/p0=11\/p0=12\/p0=13\/p0=14\/p0=15\/p0=16\/p0=17\/p0=18\/p0=19\/p0=20\/p0=21\/p0=22\/p0=23\/p0=24\/p0=25\/p0=26\/p0=27\/p0=28\/p0=29\/p0=30\/p0=31\/p0=32\/p0=33\/p0=34:=by omega
    rcases this with rfl|rfl|rfl|rfl|rfl|rfl|rfl|rfl|rfl|rfl|rfl|rfl|rfl|rfl|rfl|rfl|rfl|rfl|rfl|rfl|rfl|rfl|rfl|rfl|rfl|rfl|rfl|rfl|rfl|rfl|rfl|rfl|rfl|rfl<;>(simp only[Ds.eq_1,wE.eq_1,Tu.eq_1,Aa.eq_1,rD.eq_1,Option.bind_some];rfl)
  .rw[Mt ne,N7 ne]
theorem JQ{p0:Int}{a b c:UInt8}(h:wH p0=some (a,b,c)):(a=45->b=45)/\(b=45->c=45):=by have:=List.all_eq_true.1 N8 _ (N9 h)<;>grind
noncomputable def i64(v:Int):Prop:=-9223372036854775808<=v/\v<=9223372036854775807
noncomputable def fits(c:UInt8)(v:Int):Bool:=decide ((U c).1<=v)&&decide (v<=(U c).2.1)
noncomputable def dL(x:Instr):Bool:=match wH x.1with|some (a,b,c)=>fits a x.2.1&&(fits b x.2.2.1&&fits c x.2.2.2)|none=>false
noncomputable def Oa(x:Instr):Prop:=i64 x.2.1/\i64 x.2.2.1/\i64 x.2.2.2
theorem ajr(c:UInt8)(v:Int):(decide (v<(U c).1)||decide (v>(U c).2.1))=!fits c v:=by unfold fits<;>grind
theorem Ux{α:Type}(a:Bool)(x y:α):(bif !a then x else y)=bif a then y else x:=by grind
theorem tP(N:Nat)(x:Instr):GS N (x.1,x.2.1,x.2.2.1,x.2.2.2)=some (bif dL x then 0 else 8):=by rw[GS.eq_1,uZ];unfold dL;cases wH x.1with|none=>rfl|some s=>obtain⟨a,b,c⟩:=s;simp only[GR.eq_1,Option.bind_some,afc,ak,dK,ajr]<;>grind
theorem afd(v:Int)(lo n:Int):(decide (v>=lo)&&decide (v<n))=(decide (lo<=v)&&decide (v<=n-1)):=by grind
theorem xV{N:Nat}{c:UInt8}{v:Int}(hc:kJ c=true)(hv:i64 v):JJ N ((c.toNat:Int),v)=some (fits c v):=by
 have h:c=119\/c=114\/c=110\/c=116\/c=99\/c=98\/c=102\/c=105\/c=103\/c=101\/c=45:=by simpa[kJ]using hc
 rw[JJ.eq_1];simp[mL,dK,YV,Option.bind_some,afd];rcases h with rfl|rfl|rfl|rfl|rfl|rfl|rfl|rfl|rfl|rfl|rfl;all_goals first
    |rfl|(simp[fits,U,hv.1,hv.2];done)
    | (show some (v==0)=some (decide (0<=v)&&decide (v<=0));by_cases h:v=0;.subst h;rfl
       . rw[show(v==0)=false by simpa using h];by_cases h1:0<=v;.simp[show¬v<=0 by omega]
         .simp[h1])
theorem Cq(N:Nat){x:Instr}(hx:Oa x):Mi N (x.1,x.2.1,x.2.2.1,x.2.2.2)=some (bif dL x then 0 else 8):=by rw[Mi.eq_1,tg,Option.bind_some,GX.eq_1];unfold dL;cases h:wH x.1with|none=>rfl|some s=>obtain⟨a,b,c⟩:=s;obtain⟨h1,h2,h3⟩:=Mu h;have e0:idx [a,b,c] 0=some a:=rfl;have e1:idx [a,b,c] 1=some b:=rfl;have e2:idx [a,b,c] 2=some c:=rfl;simp only[show((([a,b,c]:List UInt8).length:Int)!=3)=false from rfl,ak,e0,e1,e2,Option.bind_some,xV h1 hx.1,xV h2 hx.2.1,xV h3 hx.2.2,Ux]<;>grind
end Go.Proofs.YtdogilonhnbapaaGreatDoor
namespace Go.Proofs.YtdogilonhnbapaaGreatDoor
open Go Go.bI Go.Sym
theorem E3(N:Nat):∀(j k n:Nat)(pre:List Int),n<128^(j+1)->j<k->pre.length+j<=1000->∃(m:Nat)(l:List Int),f158.lF N k ((n:Int),pre)=some ((m:Int),pre++l)/\wG j n=l++[(m:Int)]/\m<128/\l.length<=j
 |j,0,n,pre,_,h,_=>by omega|0,k+1,n,pre,hn,_,_=>by refine⟨n,[],?_,rfl,by omega,by simp⟩;rw[f158.lF.eq_2,decide_eq_false (by omega),ak,List.append_nil]|j+1,k+1,n,pre,hn,hk,hp=>by
  rw[f158.lF.eq_2];by_cases h:n<128;.refine⟨n,[],?_,by rw[wG,if_pos h];rfl,h,by simp⟩<;>grind
  .obtain⟨m,l,h1,h2,h3,h4⟩:=E3 N j k (n/128) (pre++[((n%128+128:Nat):Int)]) (by rw[Nat.pow_succ]at hn;omega) (by omega) (by simp;omega);refine⟨m,((n%128+128:Nat):Int)::l,?_,by rw[wG,if_neg h,h2];rfl,h3,by simp;omega⟩;rw[decide_eq_true (by omega),au,ah (by omega) (by omega),qG,Uu _ (Nat.mod_lt _ (by omega)),show(128:Int)=((128:Nat):Int)from rfl,Cp,show n%256%128=n%128by omega,h1,List.append_assoc];rfl
theorem wI{N n:Nat}(hN:20<N)(hn:n<18446744073709551616):gz N (n:Int)=some (V n):=by
 rw[gz.eq_1];unfold V;by_cases h:n<128;.rw[decide_eq_false (by omega),ak,ah (by omega) (by omega),af,wG,if_pos h,qG,Nat.mod_eq_of_lt (by omega)]
 .rw[decide_eq_true (by omega),au,ah (by omega) (by omega),af];obtain⟨m,l,h1,h2,h3,h4⟩:=E3 N 8 N (n/128) [((n%128+128:Nat):Int)] (by omega) (by omega) (by simp);rw[qG,Uu _ (Nat.mod_lt _ (by omega)),show(128:Int)=((128:Nat):Int)from rfl,Cp,show n%256%128=n%128by omega,h1,Option.bind_some,ah (by simp;omega) (by omega),af,wG,if_neg h,h2,qG,show m%256=m by omega];rfl
theorem wJ(N:Nat):∀(j k n:Nat)(pre:List Int),n<128^(j+1)->n<18446744073709551616->j<k->pre.length+j<=1000->∃(m:Nat)(l:List Int),f129.ku N k ((n:Int),pre)=some ((m:Int),pre++l)/\wG j n=l++[(m:Int)]/\m<128/\l.length<=j
 |j,0,n,pre,_,_,h,_=>by omega|0,k+1,n,pre,hn,_,_,_=>by refine⟨n,[],?_,rfl,by omega,by simp⟩;rw[f129.ku.eq_2,decide_eq_false (by omega),ak,List.append_nil]|j+1,k+1,n,pre,hn,Qp,hk,hp=>by
    rw[f129.ku.eq_2];by_cases h:n<128;.refine⟨n,[],?_,by rw[wG,if_pos h];rfl,h,by simp⟩<;>grind
    . obtain⟨m,l,h1,h2,h3,h4⟩:=wJ N j k (n/128) (pre++[((n%128+128:Nat):Int)]) (by rw[Nat.pow_succ]at hn;omega) (by omega) (by omega) (by simp;omega);refine⟨m,((n%128+128:Nat):Int)::l,?_,by rw[wG,if_neg h,h2];rfl,h3,by simp;omega⟩;have e:KC ((KC (Int.tmod (n:Int) (128:Int)))+(128:Int))=((n%128+128:Nat):Int):=by rw[show(128:Int)=((128:Nat):Int)from rfl,Uw,qG,show((n%128%256:Nat):Int)+((128:Nat):Int)=((n%128+128:Nat):Int)by omega,qG]<;>omega
      rw[decide_eq_true (by omega),au,ah (by omega) (by omega),e,show(128:Int)=((128:Nat):Int)from rfl,Uv,mo (by omega),h1,List.append_assoc];rfl
theorem jL{N n:Nat}(hN:20<N)(hn:n<18446744073709551616):gD N (n:Int)=some (V n):=by rw[gD.eq_1];unfold V;obtain⟨m,l,h1,h2,h3,h4⟩:=wJ N 9 N n [] (by omega) hn (by omega) (by simp);rw[h1,Option.bind_some,ah (by simp;omega) (by omega),af,h2,qG,show m%256=m by omega];rfl
theorem nu{N n:Nat}(hN:20<N)(hn:n<18446744073709551616):tY N (n:Int)=some (V n):=by rw[tY.eq_1,mo hn,jL hN hn];rfl
noncomputable def said(s:List UInt8):List Int:=V s.length++bM s
theorem mq(s:List UInt8):(said s).length<=10+s.length:=by have:=cy s.length;rw[said,List.length_append,eN];omega
theorem G1{N:Nat}{s:List UInt8}(hN:20<N)(hs:s.length<=1000000):JM N s=some (said s):=by have:=cy s.length;rw[JM.eq_1,mo (by omega),jL hN (by omega),Option.bind_some,ah (by rw[eN];omega) (by omega)];rfl
theorem wrap_u64(n:Int):IntKind.u64.wrap n=n%18446744073709551616:=rfl
theorem Uy{n:Int}(h:-9223372036854775808<=n/\n<=9223372036854775807):Xi .u64 (cx ((cx n)*2)) (cx (Int.fdiv n 9223372036854775808))=(E0 n:Int):=by
  unfold E0;by_cases h0:0<=n
  . rw[if_pos h0,iC (n:=n) (by omega),Int.fdiv_eq_ediv_of_nonneg _ (by omega),Int.ediv_eq_zero_of_lt h0 (by omega),iC (n:=n*2) (by omega),iC (n:=0) (by omega)];have e:n*2=(((2*n).toNat:Nat):Int):=by omega
    rw[e];unfold Xi;have e2:(BitVec.ofInt IntKind.u64.bits (((2*n).toNat:Nat):Int)^^^BitVec.ofInt IntKind.u64.bits 0).toNat=(2*n).toNat:=by show(BitVec.ofInt 64 (((2*n).toNat:Nat):Int)^^^BitVec.ofInt 64 0).toNat=(2*n).toNat;grind
    rw[e2];exact iC (by omega)
  . rw[if_neg h0];have e1:cx n=n+18446744073709551616:=by show IntKind.u64.wrap n=_;rw[wrap_u64];omega
    have e3:Int.fdiv n 9223372036854775808=-1:=by grind
    have e4:cx (-1)=18446744073709551615:=by decide
    have e5:cx ((n+18446744073709551616)*2)=((18446744073709551615-(-2*n-1).toNat:Nat):Int):=by show IntKind.u64.wrap _=_;rw[wrap_u64];omega
    rw[e1,e3,e4,e5];unfold Xi;have hlt:(-2*n-1).toNat<18446744073709551616:=by omega
    generalize(-2*n-1).toNat=m at hlt;have e2:(BitVec.ofInt IntKind.u64.bits ((18446744073709551615-m:Nat):Int)^^^BitVec.ofInt IntKind.u64.bits 18446744073709551615).toNat=m:=by show(BitVec.ofInt 64 ((18446744073709551615-m:Nat):Int)^^^BitVec.ofInt 64 18446744073709551615).toNat=m;rw[show BitVec.ofInt 64 18446744073709551615=BitVec.allOnes 64from by decide,BitVec.xor_allOnes,BitVec.toNat_not,BitVec.ofInt_natCast,BitVec.toNat_ofNat];omega
    rw[e2];exact iC (by omega)
theorem E4{N:Nat}{n:Int}(hN:20<N)(h:-9223372036854775808<=n/\n<=9223372036854775807):pY N n=some (V (E0 n)):=by rw[pY.eq_1,Uy h,wI hN (Ms h)];rfl
theorem E5{N:Nat}{n:Int}(h:-9223372036854775808<=n/\n<=9223372036854775807):p5 N n=some (E0 n:Int):=by
 rw[p5.eq_1];unfold E0;by_cases h0:0<=n;.rw[decide_eq_true h0,au,if_pos h0,iC (n:=n) (by omega),iC (by omega)]<;>grind
 .rw[decide_eq_false h0,ak,if_neg h0,bp (n:=n+1) (by omega),bp (n:=0-(n+1)) (by omega),iC (n:=0-(n+1)) (by omega),iC (n:=(0-(n+1))*2) (by omega),iC (by omega)]<;>grind
end Go.Proofs.YtdogilonhnbapaaGreatDoor
namespace Go.Proofs.YtdogilonhnbapaaGreatDoor
open Go Go.bI Go.Sym
theorem mw{N:Nat}{v:Int}(hN:20<N)(h:0<=v/\v<=9223372036854775807):gz N (cx v)=some (V v.toNat):=by obtain⟨n,rfl⟩:=Int.eq_ofNat_of_zero_le h.1;rw[mo (by omega),wI hN (by omega)];rfl
theorem zE{N:Nat}{v:Int}(hN:20<N)(h:0<=v/\v<=9223372036854775807):gD N (cx v)=some (V v.toNat):=by obtain⟨n,rfl⟩:=Int.eq_ofNat_of_zero_le h.1;rw[mo (by omega),jL hN (by omega)];rfl
theorem nX{N:Nat}{v:Int}(hN:20<N)(h:0<=v/\v<=9223372036854775807):tY N v=some (V v.toNat):=by obtain⟨n,rfl⟩:=Int.eq_ofNat_of_zero_le h.1;rw[nu hN (by omega)];rfl
theorem JR:((0:Int)!=(0:Int))=false:=rfl
noncomputable def rE(c:UInt8)(v:Int):List Int:=if c=45then[]else if c=110\/c=103\/c=101then V (E0 v)else V v.toNat
noncomputable def encI(x:Instr):List Int:=match wH x.1with|some (a,b,c)=>x.1::(rE a x.2.1++(rE b x.2.2.1++rE c x.2.2.2))|none=>[x.1]
theorem mz(x:Instr):(encI x).length<=31:=by
 have hk:∀c v,(rE c v).length<=10:=λc v=>by
    unfold rE;split;.simp
    . split;.exact(cy _).2
      .exact(cy _).2
 unfold encI<;>grind
noncomputable def VO(c:UInt8):Bool:=c==110||(c==103||c==101)
theorem Ay{c:UInt8}:VO c=true↔c=110\/c=103\/c=101:=by simp[VO]
theorem Ob(c:UInt8):decide ((U c).1<0)=VO c:=by
 unfold U VO;repeat' split
 all_goals first|(subst_vars;rfl)|(rename_i h1 h2 h3 h4 h5 h6 h7 h8 h9 h10;simp[h3,h9,h10])
theorem ajs(c:UInt8):((c.toNat:Int)==45)=(c==45):=by
 by_cases h:c=45;.subst h;rfl
 .rw[show(c==45)=false by simpa using h,beq_eq_false_iff_ne];intro e;exact h (UInt8.toNat_inj.1 (by show c.toNat=45;omega))
theorem Uz{N:Nat}{c:UInt8}(hc:kJ c=true):tc N ((c.toNat:Nat):Int)=some (VO c):=by
 have h:c=119\/c=114\/c=110\/c=116\/c=99\/c=98\/c=102\/c=105\/c=103\/c=101\/c=45:=by simpa[kJ]using hc
 rcases h with rfl|rfl|rfl|rfl|rfl|rfl|rfl|rfl|rfl|rfl|rfl<;>rfl
theorem wK(v:Int):rE 45 v=[]:=rfl
theorem p6(c:UInt8)(v:Int):(rE c v).length<=10:=by
  unfold rE;split;.simp
  . split;.exact(cy _).2
    .exact(cy _).2
theorem JS{c:UInt8}{v:Int}(h:fits c v=true)(hs:VO c=false):0<=v:=by rw[<-Ob,decide_eq_false_iff_not]at hs;unfold fits at h<;>grind
theorem Cr{α β:Type}(c:Bool)(x y:Option α)(k:α->Option β):(bif c then Option.bind x k else Option.bind y k)=Option.bind (bif c then x else y) k:=by grind
theorem xW{α β γ:Type}(c:Bool)(x:Option γ)(f:γ->Option α)(y:Option α)(k:α->Option β):(bif c then Option.bind x (λu=>Option.bind (f u) k)else Option.bind y k)=Option.bind (bif c then Option.bind x f else y) k:=by grind
theorem opO{N:Nat}(hN:20<N){c:UInt8}{v:Int}(h:fits c v=true)(h45:c≠45)(hv:i64 v):(bif VO c then pY N v else gz N (cx v))=some (rE c v):=by unfold rE;rw[if_neg h45];cases hs:VO c with|true=>rw[au,if_pos (Ay.1 hs),E4 hN hv]|false=>rw[ak,if_neg (λe=>by rw[Ay.2 e]at hs;cases hs),mw hN ⟨JS h hs,hv.2⟩]
theorem op6{N:Nat}(hN:20<N){c:UInt8}{v:Int}(h:fits c v=true)(h45:c≠45)(hv:i64 v):(bif VO c then Option.bind (p5 N v) (λu=>gD N u)else gD N (cx v))=some (rE c v):=by unfold rE;rw[if_neg h45];cases hs:VO c with|true=>rw[au,if_pos (Ay.1 hs),E5 hv,Option.bind_some,jL hN (Ms hv)]|false=>rw[ak,if_neg (λe=>by rw[Ay.2 e]at hs;cases hs),zE hN ⟨JS h hs,hv.2⟩]
theorem Oc{x:Instr}(hc:dL x=true):∃a b c,wH x.1=some (a,b,c)/\fits a x.2.1=true/\fits b x.2.2.1=true/\fits c x.2.2.2=true:=by unfold dL at hc<;>grind
theorem Od{a b c:UInt8}(h:(a=45->b=45)/\(b=45->c=45)):(a=45/\b=45/\c=45)\/(a≠45/\b=45/\c=45)\/(a≠45/\b≠45/\c=45)\/(a≠45/\b≠45/\c≠45):=by grind
theorem xX(c:UInt8)(v:Int):room (1+(rE c v).length) 1=true:=by have:=p6 c v;exact ah (by omega) (by omega)
theorem G2(p:Int)(c d:UInt8)(v w:Int):room (([p]++rE c v).length+(rE d w).length) 1=true:=by have:=p6 c v;have:=p6 d w;exact ah (by simp only[List.length_append,List.length_singleton];omega) (by omega)
theorem UA(p:Int)(c d e:UInt8)(v w u:Int):room ((([p]++rE c v)++rE d w).length+(rE e u).length) 1=true:=by have:=p6 c v;have:=p6 d w;have:=p6 e u;exact ah (by simp only[List.length_append,List.length_singleton];omega) (by omega)
theorem YW{N:Nat}(hN:20<N){x:Instr}(hx:Oa x)(hc:dL x=true):P4 N (x.1,x.2.1,x.2.2.1,x.2.2.2)=some (encI x,0):=by
 rw[P4.eq_1,tP,hc];obtain⟨a,b,c,hs,h1,h2,h3⟩:=Oc hc;obtain⟨i1,i2,i3⟩:=hx;have g00:decide ((0:Int)>=0)=true:=rfl;have g01:decide ((0:Int)>=1)=false:=rfl;have g02:decide ((0:Int)>=2)=false:=rfl;have g03:decide ((0:Int)>=3)=false:=rfl;have g10:decide ((1:Int)>=0)=true:=rfl;have g11:decide ((1:Int)>=1)=true:=rfl;have g12:decide ((1:Int)>=2)=false:=rfl;have g13:decide ((1:Int)>=3)=false:=rfl;have g20:decide ((2:Int)>=0)=true:=rfl;have g21:decide ((2:Int)>=1)=true:=rfl;have g22:decide ((2:Int)>=2)=true:=rfl;have g23:decide ((2:Int)>=3)=false:=rfl;simp only[au,JR,ak,Option.bind_some,uZ,hs,GR.eq_1,encI,Ob];rcases Od (JQ hs)with⟨rfl,rfl,rfl⟩|⟨ha,rfl,rfl⟩|⟨ha,hb,rfl⟩|⟨ha,hb,hc⟩;.simp[show cnt 45 45 45=0from rfl,g00,g10,g20,au,wK,List.append_nil]
 .simp only[show cnt a 45 45=1by simp[cnt,ha],g01,g11,g21,au,ak,Cr,opO hN h1 ha i1,Option.bind_some,xX,af,wK,List.append_nil]<;>grind
 .simp only[show cnt a b 45=2by simp[cnt,hb],g02,g12,g22,au,ak,Cr,opO hN h1 ha i1,opO hN h2 hb i2,Option.bind_some,xX,G2,af,wK,List.append_nil]<;>grind
 .simp only[show cnt a b c=3by simp[cnt,hc],g03,g13,g23,ak,Cr,opO hN h1 ha i1,opO hN h2 hb i2,opO hN h3 hc i3,Option.bind_some,xX,G2,UA,af]<;>grind
theorem afe{α:Type}(a b c:α):idx [a,b,c] 0=some a/\idx [a,b,c] 1=some b/\idx [a,b,c] 2=some c:=⟨rfl,rfl,rfl⟩
theorem Mv{N:Nat}(hN:20<N){x:Instr}(hx:Oa x)(hc:dL x=true):Qg N (x.1,x.2.1,x.2.2.1,x.2.2.2)=some (encI x):=by
 rw[Qg.eq_1,tg];obtain⟨a,b,c,hs,h1,h2,h3⟩:=Oc hc;obtain⟨i1,i2,i3⟩:=hx;obtain⟨k1,k2,k3⟩:=Mu hs;simp only[Option.bind_some,hs,GX.eq_1,(afe a b c).1,(afe a b c).2.1,(afe a b c).2.2,ajs,Uz k1,Uz k2,Uz k3,encI];rcases Od (JQ hs)with⟨rfl,rfl,rfl⟩|⟨ha,rfl,rfl⟩|⟨ha,hb,rfl⟩|⟨ha,hb,hc⟩;.rfl
 .simp only[show(a==45)=false by grind,beq_self_eq_true,au,ak,xW,op6 hN h1 ha i1,Option.bind_some,xX,af,wK];simp
 .simp only[show(a==45)=false by grind,show(b==45)=false by grind,beq_self_eq_true,au,ak,xW,op6 hN h1 ha i1,op6 hN h2 hb i2,Option.bind_some,xX,G2,af,wK];simp
 .simp only[show(a==45)=false by grind,show(b==45)=false by grind,show(c==45)=false by grind,ak,xW,op6 hN h1 ha i1,op6 hN h2 hb i2,op6 hN h3 hc i3,Option.bind_some,xX,G2,UA,af];simp
end Go.Proofs.YtdogilonhnbapaaGreatDoor
