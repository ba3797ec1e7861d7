/- A part of the proof: Law21tl, Law21tm, Law21tl7b, Law21tl7c. -/
import Derived.Test.YtkdilffhbejjaaaGreatLaw21tk
set_option linter.unusedVariables false
set_option linter.unusedSimpArgs false
namespace Go.Proofs.YtkdilffhbejjaaaGreat
open Go Go.bM Go.Sym
open Classical
noncomputable def iQ(ts:List aA)(xs:List (List UInt8))(fs:List Func):Prop:=Mn ts xs fs/\∀f,f∈fs->i64 f.2.2.1
theorem dZ.XW{ts:List aA}{xs:List (List UInt8)}{fs:List Func}(h:dZ ts xs fs):XW xs:=⟨h.2.1,h.2.2.2.2.1⟩
theorem dZ.func{ts:List aA}{xs:List (List UInt8)}{fs:List Func}(h:dZ ts xs fs){i:Nat}(hi:i<fs.length):eX ts.length (gj fs i):=by have:=h.2.2.2.2.2 i hi;unfold Ht at this<;>grind
theorem dZ.FnW{ts:List aA}{xs:List (List UInt8)}{fs:List Func}(h:dZ ts xs fs)(hm:iQ ts xs fs):FnW fs:=⟨h.2.2.1.2,λf hf=>by refine⟨hm.1.2.2.2.2 f hf,hm.2 f hf,ts.length,h.1.1,?_⟩;obtain⟨i,hi,rfl⟩:=qx fn0 hf;exact h.func hi⟩
noncomputable def jD(ts:List aA)(xs:List (List UInt8))(fs:List Func):Int:=if dZ ts xs fs then(if(vz ts xs fs).length<=20000then 0 else 4)else 8
section
variable{N:Nat}{ts:List aA}{xs:List (List UInt8)}{fs:List Func}
theorem FG(h:dZ ts xs fs)(hm:iQ ts xs fs):(ts.flatMap rV).length<=25600/\(xs.flatMap said).length<=3200/\(fs.flatMap rW).length<=960000:=by
 have hT:=h.1.TW;have hX:=h.XW;have hF:=h.FnW hm;have h1:=gW (l:=ts) (enc:=rV) (m:=800) λx hx=>by obtain⟨n,i,hi,_,ht⟩:=hT.2 x hx;exact yz ht hi
 have h2:=gW (l:=xs) (enc:=said) (m:=100) λx hx=>by have:=nq x;have:=hX.2 x hx;omega
 have h3:=gW (l:=fs) (enc:=rW) (m:=30000) λx hx=>by obtain⟨hf,_,n,hn,ho⟩:=hF.2 x hx;exact yA ho hn hf
 have a1:=hT.1;have a2:=hX.1;have a3:=hF.1<;>grind
theorem Qi(hN:1300<N)(hm:iQ ts xs fs):F66 N (ts,xs,fs)=some (if jD ts xs fs=0then vz ts xs fs else[],jD ts xs fs):=by
 rw[F66.eq_1,YM hN hm.1,ae];unfold jD;by_cases h:dZ ts xs fs
 .rw[aS h,da,af,bb h];obtain⟨b1,b2,b3⟩:=FG h hm;have c1:=cR ts.length;have c2:=cR xs.length;have c3:=cR fs.length;have d1:=hm.1.1.1;have d2:=hm.1.2.1;have d3:=hm.1.2.2.2.1;rw[j4 (by omega) (by omega),ae,ak (by omega) (by omega),aj,VW hN h.1.TW (by omega),ae];simp only;rw[j4 (by omega) (by omega),ae,ak (by simp only[ba];omega) (by omega),aj,VY hN h.XW (by simp only[ba];omega),ae];simp only;rw[j4 (by omega) (by omega),ae,ak (by simp only[ba];omega) (by omega),aj,V0 hN (h.FnW hm) (by simp only[ba];omega),ae];have e:(((((V ts.length++ts.flatMap rV)++V xs.length)++xs.flatMap said)++V fs.length)++fs.flatMap rW)=vz ts xs fs:=by simp[vz,bi]
  grind
 grind
theorem V3(hN:1300<N)(hm:iQ ts xs fs)(h:dZ ts xs fs):UB N (ts,xs,fs)=some (vz ts xs fs):=by obtain⟨b1,b2,b3⟩:=FG h hm;have c1:=cR ts.length;have c2:=cR xs.length;have c3:=cR fs.length;have d1:=hm.1.1.1;have d2:=hm.1.2.1;have d3:=hm.1.2.2.2.1;rw[UB.eq_1,n7 (by omega) (by omega),ae,Qf hN h.1.TW (by omega),ae];simp only;rw[n7 (by omega) (by omega),ae,ak (by simp only[ba];omega) (by omega),aj,Qg hN h.XW (by simp only[ba];omega),ae];simp only;rw[n7 (by omega) (by omega),ae,ak (by simp only[ba];omega) (by omega),aj,Qh hN (h.FnW hm) (by simp only[ba];omega),ae];simp[vz,bi]
theorem Mp(hN:1300<N)(hm:iQ ts xs fs):F97 N (ts,xs,fs)=some (jD ts xs fs):=by
 rw[F97.eq_1,Qd hN hm.1,ae];unfold jD;by_cases h:dZ ts xs fs;.rw[aS h,da,af,bb h,V3 hN hm h,ae]<;>grind
 grind
theorem yB(h:jD ts xs fs=0):dZ ts xs fs/\(vz ts xs fs).length<=20000:=by unfold jD at h<;>grind
theorem Df(hN:1300<N)(hm:iQ ts xs fs):F36 N (ts,xs,fs)=some (jD ts xs fs):=by rw[F36.eq_1,Qi hN hm,ae]
noncomputable def aez(fs:List Func)(f i:Int):Prop:=0<=f/\f<fs.length/\0<=i/\i<(gj fs f.toNat).2.2.2.2.1.length
noncomputable def aui(ts:List aA)(xs:List (List UInt8))(fs:List Func)(f i:Int):Int×Int:=if jD ts xs fs=0then(if aez fs f i then(256*(f+1)+i,0)else(0,2))else(0,jD ts xs fs)
theorem aeA(a i:Nat)(hi:i<256):256*a|||i=256*a+i:=by have:=Nat.two_pow_add_eq_or_of_lt (i:=8) (b:=i) (by omega) a<;>grind
noncomputable def r6(fs:List Func)(a:Nat):Prop:=1<=a/256/\a/256<=fs.length/\a%256<(gj fs (a/256-1)).2.2.2.2.1.length
noncomputable def uI(ts:List aA)(xs:List (List UInt8))(fs:List Func)(a:Nat):Int×Int×Int:=if jD ts xs fs=0then(if r6 fs a then(((a/256-1:Nat):Int),((a%256:Nat):Int),0)else(0,0,6))else(0,0,jD ts xs fs)
theorem YR{a:Nat}(h:a<18446744073709551616):uw .u64 (a:Int) (255:Int)=((a%256:Nat):Int):=by
 unfold uw;have e:(BitVec.ofInt IntKind.u64.bits (a:Int)&&&BitVec.ofInt IntKind.u64.bits 255).toNat=a%256:=by show(BitVec.ofInt 64 (a:Int)&&&BitVec.ofInt 64 255).toNat=_;rw[mt,show BitVec.ofInt 64 255=BitVec.ofNat 64 255from rfl,BitVec.toNat_and,nb,pt h];exact Nat.and_two_pow_sub_one_eq_mod a 8
 rw[e];exact aR (by omega)
theorem NZ(hN:1300<N)(hm:iQ ts xs fs){a:Nat}(ha:a<18446744073709551616):F37 N (ts,xs,fs,(a:Int))=some (uI ts xs fs a):=by
 rw[F37.eq_1,Df hN hm,ae];unfold uI;have hfl:=hm.1.2.2.2.1;by_cases hc:jD ts xs fs=0
 .rw[hc,gR,af,bb rfl,show(256:Int)=((256:Nat):Int)from rfl,wY,YR ha,aI (n:=((a%256:Nat):Int)) (by omega),aR (n:=(fs.length:Int)) (by omega)];have EB:(bif(((a/256:Nat):Int)==(0:Int))then some true else(bif(decide (((a/256:Nat):Int)>(fs.length:Int)))then some true else(Option.bind (idx fs (aL (((a/256:Nat):Int)-(1:Int)))) λx1=>some (decide (((a%256:Nat):Int)>=(x1.2.2.2.2.1.length:Int))))))=some (!decide (r6 fs a)):=by
   by_cases h1:a/256=0;.rw[h1,aM (show¬r6 fs a fromλh=>by have:=h.1;omega)];rfl
   .rw[show(((a/256:Nat):Int)==(0:Int))=false by rw[lj];omega];by_cases h2:a/256>fs.length;.rw[aS (show((a/256:Nat):Int)>(fs.length:Int)by omega),aM (show¬r6 fs a fromλh=>by have:=h.2.1;omega)];rfl
    .have e:idx fs (aL (((a/256:Nat):Int)-1))=some (gj fs (a/256-1)):=by rw[aR (by omega),show((a/256:Nat):Int)-1=((a/256-1:Nat):Int)by omega];exact cq _ (by omega)
     rw[aM (show¬((a/256:Nat):Int)>(fs.length:Int)by omega),e,ae];by_cases h3:a%256<(gj fs (a/256-1)).2.2.2.2.1.length;.rw[aM (show¬((a%256:Nat):Int)>=((gj fs (a/256-1)).2.2.2.2.1.length:Int)by omega),aS (show r6 fs a from⟨by omega,by omega,h3⟩)];rfl
     .rw[aS (show((a%256:Nat):Int)>=((gj fs (a/256-1)).2.2.2.2.1.length:Int)by omega),aM (show¬r6 fs a fromλh=>h3 h.2.2)];rfl
  rw[EB,ae];by_cases hA:r6 fs a;.have h1:=hA.1;rw[aS hA,da,af,bb hA,aI (n:=((a/256:Nat):Int)) (by omega),aI (by omega)]<;>grind
  grind
 grind
theorem V4(hfl:fs.length<=50){a:Nat}(ha:a<18446744073709551616):F22 N (ts,xs,fs,(a:Int))=some (if r6 fs a then(((a/256-1:Nat):Int),((a%256:Nat):Int),true)else(0,0,false)):=by
 have eM:aL (av ((256:Int)*av ((fs.length:Int)+1)))=((256*(fs.length+1):Nat):Int):=by rw[aI (n:=(fs.length:Int)+1) (by omega),aI (by omega),aR (by omega)];omega
 rw[F22.eq_1,eM];by_cases h1:a<256;.rw[aS (show(a:Int)<256by omega),be (show¬r6 fs a fromλh=>by have:=h.1;omega)];rfl
 .rw[aM (show¬(a:Int)<256by omega),af];by_cases h2:a>=256*(fs.length+1);.rw[aS (show(a:Int)>=((256*(fs.length+1):Nat):Int)by omega),be (show¬r6 fs a fromλh=>by have:=h.2.1;omega)];rfl
  .have e0:av (av (aL (Int.tdiv (a:Int) (256:Int)))-1)=((a/256-1:Nat):Int):=by rw[show(256:Int)=((256:Nat):Int)from rfl,JQ,aR (by omega),aI (n:=((a/256:Nat):Int)) (by omega),aI (by omega)];omega
   have e1:av (Int.tmod (a:Int) (256:Int))=((a%256:Nat):Int):=by rw[show(256:Int)=((256:Nat):Int)from rfl,JR,aI (by omega)]
   have e2:idx fs ((a/256-1:Nat):Int)=some (gj fs (a/256-1)):=cq _ (by omega);rw[aM (show¬(a:Int)>=((256*(fs.length+1):Nat):Int)by omega),ae,af,e0,e1,e2,ae];by_cases h3:a%256<(gj fs (a/256-1)).2.2.2.2.1.length;.rw[aM (show¬((a%256:Nat):Int)>=((gj fs (a/256-1)).2.2.2.2.1.length:Int)by omega),af,bb (show r6 fs a from⟨by omega,by omega,h3⟩)]
   .rw[aS (show((a%256:Nat):Int)>=((gj fs (a/256-1)).2.2.2.2.1.length:Int)by omega),aq,be (show¬r6 fs a fromλh=>h3 h.2.2)]
end
end Go.Proofs.YtkdilffhbejjaaaGreat
namespace Go.Proofs.YtkdilffhbejjaaaGreat
open Go Go.bM Go.Sym
open Classical
noncomputable def N0(ts:List aA)(fs:List Func):Prop:=(∀t,t∈ts->i64 t.2.2.1)/\∀f,f∈fs->i64 f.2.2.1/\(∀x,x∈f.2.2.2.2.1->okI x)/\Hp f.2.2.2.2.2.1/\Hp f.2.2.2.2.2.2
section
variable{N:Nat}{ts:List aA}{xs:List (List UInt8)}{fs:List Func}
theorem D5(hN:1300<N){i:Nat}(hi:i<ts.length)(hf:(dQ ts i).2.2.2.length<=20):f17.jc N N (ts,(i:Int),(0:Int))=some (.inl true)\/f17.jc N N (ts,(i:Int),(0:Int))=some (.inr (ts,(i:Int))):=by
 have e:idx ts (i:Int)=some (dQ ts i):=cq _ hi;rcases um (l:=(dQ ts i).2.2.2) (a:=(.inr (ts,(i:Int)):Bool⊕(List aA×Int))) (b:=.inl true) (P:=λ_=>True) (n:=(dQ ts i).2.2.2.length) (Lf:=λk j=>f17.jc N k (ts,(i:Int),j)) (bc _) (λk=>by simp only[f17.jc.eq_2,e,ae,aJ,af]) (λk j x hj _ hx=>by
  simp only[f17.jc.eq_2,e,ae,aG hj,aq,aD hx,ai (show j<9223372036854775807by omega)];by_cases h:(x.1.length:Int)>100;.rw[aS h];exact .inl rfl
  .rw[aM h];exact .inr ⟨trivial,rfl⟩) N (by omega)with h|⟨h,_⟩;.grind
 grind
theorem Mq(hN:1300<N):F17 N ts=some true\/(F17 N ts=some false/\ts.length<=40/\∀i,i<ts.length->(dQ ts i).2.2.2.length<=20):=by
 rw[F17.eq_1];by_cases h40:ts.length<=40
 .rw[aM (show¬(ts.length:Int)>40by omega)];rcases um (l:=ts) (a:=(.inr ():Bool⊕Unit)) (b:=.inl true) (P:=λt=>t.2.2.2.length<=20) (n:=ts.length) (Lf:=λk i=>f17.aP N k (ts,i)) (bc _) (λk=>by simp only[f17.aP.eq_2,aJ,af]) (λk i x hi _ hx=>by
    have KW:x=dQ ts i:=by rw[dQ,ci,hx];rfl
    simp only[f17.aP.eq_2,aG hi,aq,aD hx,ae];by_cases h:(x.2.2.2.length:Int)>20;.rw[aS h];exact .inl rfl
    .rw[aM h,af];rcases D5 hN hi (by rw[<-KW];omega)with h2|h2;.rw[h2];exact .inl rfl
     .rw[h2,ae];exact .inr ⟨by omega,by simp only;rw[ai (by omega)]⟩) N (by omega)with h|⟨h,h2⟩;.grind
  .rw[h];refine .inr ⟨rfl,h40,λi hi=>h2 i _ hi ?_⟩;rw[dQ,ci,al hi];rfl
 grind
theorem J6(hN:1300<N)(n i:Int)(nm:List UInt8)(pa re:Int){sl:List Field}(hs:sl.length<=20)(co:List Instr)(si li:List eN):f9.kG N N (n,i,(0:Int),ts,xs,fs,nm,pa,re,sl,co,si,li)=some (.inl true)\/f9.kG N N (n,i,(0:Int),ts,xs,fs,nm,pa,re,sl,co,si,li)=some (.inr (n,i,ts,xs,fs)):=by
 rcases um (l:=sl) (a:=(.inr (n,i,ts,xs,fs):Bool⊕(Int×Int×List aA×List (List UInt8)×List Func))) (b:=.inl true) (P:=λ_=>True) (n:=sl.length) (Lf:=λk j=>f9.kG N k (n,i,j,ts,xs,fs,nm,pa,re,sl,co,si,li)) (bc _) (λk=>by simp only[f9.kG.eq_2,aJ,af]) (λk j x hj _ hx=>by
  simp only[f9.kG.eq_2,ae,aG hj,aq,aD hx,ai (show j<9223372036854775807by omega)];by_cases h:(x.1.length:Int)>100;.rw[aS h];exact .inl rfl
  .rw[aM h];exact .inr ⟨trivial,rfl⟩) N (by omega)with h|⟨h,_⟩;.grind
 grind
theorem V5(hN:1300<N)(ht:N0 ts fs):F9 N (ts,xs,fs)=some true\/(F9 N (ts,xs,fs)=some false/\iQ ts xs fs):=by
 rw[F9.eq_1];rcases Mq (N:=N) (ts:=ts) hN with h|⟨h,hl,hf⟩;.rw[h];exact .inl rfl
 .rw[h,ae,af];by_cases hx:xs.length<=40
  .by_cases awA:fs.length<=40
   .rw[aM (show¬(xs.length:Int)>40by omega),aM (show¬(fs.length:Int)>40by omega),af,ae,af];rcases um (l:=xs) (a:=(.inr (ts,xs,fs):Bool⊕(List aA×List (List UInt8)×List Func))) (b:=.inl true) (P:=λs=>s.length<=100) (n:=xs.length) (Lf:=λk i=>f9.aP N k (i,ts,xs,fs)) (bc _) (λk=>by simp only[f9.aP.eq_2,aJ,af]) (λk i x hi _ hxx=>by
      simp only[f9.aP.eq_2,aG hi,aq,aD hxx,ae,ai (show i<9223372036854775807by omega)];by_cases h:(x.length:Int)>100;.rw[aS h];exact .inl rfl
      .rw[aM h];exact .inr ⟨by omega,rfl⟩) N (by omega)with h1|⟨h1,hxs⟩;.rw[h1];exact .inl rfl
    .rw[h1,ae];simp only;rcases de (l:=fs) (Lf:=λk i(n:Int)=>f9.cQ N k (n,i,ts,xs,fs)) (Inv:=λi _=>∀j,j<i->tO (gj fs j)) (Out:=λr=>r=.inl true) (g:=λ_=>(.inr ():Bool⊕Unit)) (λk s _=>by simp only[f9.cQ.eq_2,aJ,af]) (λk i x n hxx hI=>by
       have hi:=aC hxx;have KW:x=gj fs i:=by rw[gj,ci,hxx];rfl
       simp only[f9.cQ.eq_2,aG hi,aq,aD hxx,ae,dg];cases hb:(decide ((x.1.length:Int)>100)||(decide ((x.2.2.2.1.length:Int)>20)||(decide ((x.2.2.2.2.1.length:Int)>210)||(decide ((x.2.2.2.2.2.1.length:Int)>210)||(decide ((x.2.2.2.2.2.2.length:Int)>210)||decide (av (n+(x.2.2.2.2.1.length:Int))>1000))))))
       .simp only[gg,lx]at hb;obtain⟨k1,k2,k3,k4,k5,_⟩:=hb;rw[af];rcases J6 (N:=N) (ts:=ts) (xs:=xs) (fs:=fs) hN (av (n+(x.2.2.2.2.1.length:Int))) (i:Int) x.1 x.2.1 x.2.2.1 (sl:=x.2.2.2.1) (by omega) x.2.2.2.2.1 x.2.2.2.2.2.1 x.2.2.2.2.2.2with h2|h2;.rw[h2];exact .inl ⟨_,rfl,rfl⟩
        .rw[h2,ae];refine .inr ⟨av (n+(x.2.2.2.2.1.length:Int)),λj hj=>?_,by simp only;rw[ai (by omega)]⟩;by_cases hji:j=i;.subst hji;obtain⟨_,t2,t3,t4⟩:=ht.2 x (aU hxx);rw[<-KW];exact⟨by omega,by omega,by omega,by omega,t2,t3,t4⟩
         .exact hI j (by omega)
       .exact .inl ⟨_,rfl,rfl⟩) (k:=N) (s:=0) (λj hj=>by omega) (by omega)with⟨r,rfl,h2⟩|⟨s,hI,h2⟩;.rw[h2];exact .inl rfl
     .rw[h2];refine .inr ⟨rfl,⟨⟨by omega,λi hi=>⟨by have:=hf i hi;omega,ht.1 _ (ny ty0 hi)⟩⟩,by omega,λs hs=>?_,by omega,λf hf=>?_⟩,λf hf=>(ht.2 f hf).1⟩;.obtain⟨i,hi,rfl⟩:=f8.1 hs;have:=hxs i _ hi (al hi);omega
      .obtain⟨i,hi,rfl⟩:=qx fn0 hf;exact hI i hi
   .rw[aM (show¬(xs.length:Int)>40by omega),aS (show(fs.length:Int)>40by omega)];exact .inl rfl
  .rw[aS (show(xs.length:Int)>40by omega)];exact .inl rfl
theorem Qj{α:Type}(l:List α):l.flatMap (λx=>[x])=l:=(tM id l).trans (List.map_id l)
theorem Dg{α β:Type}{l:List α}{m:List β}:((l.length:Int)!=(m.length:Int))=!decide (l.length=m.length):=by grind
theorem V6(x y:Field):(x.1==y.1&&(x.2==y.2&&true))=decide (x=y):=by grind
theorem run_eq(x y:eN):(x.1==y.1&&(x.2==y.2&&true))=decide (x=y):=by grind
theorem instr_eq(x y:Instr):(x.1==y.1&&(x.2.1==y.2.1&&(x.2.2.1==y.2.2.1&&(x.2.2.2==y.2.2.2&&true))))=decide (x=y):=by grind
theorem V7{l m:List Field}(hl:l.length<=1000)(hN:1300<N):Vk N (l,m)=some (decide (l=m)):=by
 rw[Vk.eq_1,Dg];by_cases h:l.length=m.length;.rw[aS h,da,af,uk (l:=l) (m:=m) (a:=(.inr ():Bool⊕Unit)) (b:=.inl false) (Lf:=λk i=>f179.aP N k (l,m,i)) h (λk=>by simp only[f179.aP.eq_2,aJ,af]) (λk i x y hx hy h1 h2=>by simp only[f179.aP.eq_2,aG (aC h1),aq,aD h1,aD h2,ae,V6,ai (show i<9223372036854775807by have:=aC h1;omega)];by_cases he:x=y<;>simp[he]) N (by omega),ae];grind
 .rw[aM h,ge,aq,aM λe=>h (by rw[e])]
theorem J7{l m:List eN}(hl:l.length<=1000)(hN:1300<N):P0 N (l,m)=some (decide (l=m)):=by
 rw[P0.eq_1,Dg];by_cases h:l.length=m.length;.rw[aS h,da,af,uk (l:=l) (m:=m) (a:=(.inr ():Bool⊕Unit)) (b:=.inl false) (Lf:=λk i=>f181.aP N k (l,m,i)) h (λk=>by simp only[f181.aP.eq_2,aJ,af]) (λk i x y hx hy h1 h2=>by simp only[f181.aP.eq_2,aG (aC h1),aq,aD h1,aD h2,ae,run_eq,ai (show i<9223372036854775807by have:=aC h1;omega)];by_cases he:x=y<;>simp[he]) N (by omega),ae];grind
 .rw[aM h,ge,aq,aM λe=>h (by rw[e])]
theorem V8{l m:List Instr}(hl:l.length<=1000)(hN:1300<N):Vm N (l,m)=some (decide (l=m)):=by
 rw[Vm.eq_1,Dg];by_cases h:l.length=m.length;.rw[aS h,da,af,uk (l:=l) (m:=m) (a:=(.inr ():Bool⊕Unit)) (b:=.inl false) (Lf:=λk i=>f180.aP N k (l,m,i)) h (λk=>by simp only[f180.aP.eq_2,aJ,af]) (λk i x y hx hy h1 h2=>by simp only[f180.aP.eq_2,aG (aC h1),aq,aD h1,aD h2,ae,instr_eq,ai (show i<9223372036854775807by have:=aC h1;omega)];by_cases he:x=y<;>simp[he]) N (by omega),ae];grind
 .rw[aM h,ge,aq,aM λe=>h (by rw[e])]
theorem Qk{f g:Func}(hf:tO f)(hN:1300<N):Vo N (f.1,f.2.1,f.2.2.1,f.2.2.2.1,f.2.2.2.2.1,f.2.2.2.2.2.1,f.2.2.2.2.2.2,g.1,g.2.1,g.2.2.1,g.2.2.2.1,g.2.2.2.2.1,g.2.2.2.2.2.1,g.2.2.2.2.2.2)=some (decide (f=g)):=by
 obtain⟨g1,g2,g3,g4,_⟩:=hf;rw[Vo.eq_1];simp only[V7 (N:=N) (show f.2.2.2.1.length<=1000by omega) hN,V8 (N:=N) (show f.2.2.2.2.1.length<=1000by omega) hN,J7 (N:=N) (show f.2.2.2.2.2.1.length<=1000by omega) hN,J7 (N:=N) (show f.2.2.2.2.2.2.length<=1000by omega) hN,ae,fP];obtain⟨a,b,c,d,e,i,j⟩:=f;obtain⟨a',b',c',d',e',i',j'⟩:=g;simp only;congr 1;by_cases e1:a=a'
 .by_cases e2:b=b'
  .by_cases e3:c=c'
   .by_cases e4:d=d'
    .by_cases e5:e=e';.by_cases e6:i=i'<;>by_cases e7:j=j'<;>simp[e1,e2,e3,e4,e5,e6,e7]
     .simp[e5]
    .simp[e4]
   .simp[e3]
  .simp[e2]
 .simp[e1]
end
end Go.Proofs.YtkdilffhbejjaaaGreat
namespace Go.Proofs.YtkdilffhbejjaaaGreat
open Go Go.bM Go.Sym
noncomputable def mD(c:UInt8)(v:Int):Bool:=(U c).2.2.1&&decide (v>=0)
noncomputable def pT(c:UInt8)(v:Int):Bool:=(U c).2.2.2&&decide (v>=0)
noncomputable def one(b:Bool)(v:Int):List Int:=bif b then[v]else[]
noncomputable def bg(f:UInt8->Int->Bool)(x:Instr):List Int:=match wZ x.1with|some (a,b,c)=>(one (f a x.2.1) x.2.1++one (f b x.2.2.1) x.2.2.1)++one (f c x.2.2.2) x.2.2.2|none=>[]
theorem Mr(N:Nat)(x:Instr):LZ N (x.1,x.2.1,x.2.2.1,x.2.2.2)=some (bif eA x then(bg mD x,bg pT x,0)else([],[],8)):=by have h:=vw N x.1;rw[LZ.eq_1,uo,h];unfold bg;cases hc:eA x with|false=>rfl|true=>simp only[aq,ae,JB.eq_1];cases hs:wZ x.1with|none=>simp[eA,hs]at hc|some s=>obtain⟨a,b,c⟩:=s;simp only[fP,ae,mD,pT];cases((U a).2.2.1&&decide (x.2.1>=0))<;>cases((U a).2.2.2&&decide (x.2.1>=0))<;>cases((U b).2.2.1&&decide (x.2.2.1>=0))<;>cases((U b).2.2.2&&decide (x.2.2.1>=0))<;>cases((U c).2.2.1&&decide (x.2.2.2>=0))<;>cases((U c).2.2.2&&decide (x.2.2.2>=0))<;>rfl
theorem V9{c:UInt8}{v:Int}(hc:lB c=true):(bif((c.toNat:Int)==114)then some (decide (v>=0))else bif((c.toNat:Int)==101)then some (decide (v>=0))else some false:Option Bool)=some (mD c v):=by
 have h:c=119\/c=114\/c=110\/c=116\/c=99\/c=98\/c=102\/c=105\/c=103\/c=101\/c=45:=by simpa[lB]using hc
 rcases h with rfl|rfl|rfl|rfl|rfl|rfl|rfl|rfl|rfl|rfl|rfl<;>rfl
theorem Wa{c:UInt8}{v:Int}(hc:lB c=true):(bif((c.toNat:Int)==119)then some (decide (v>=0))else bif((c.toNat:Int)==103)then some (decide (v>=0))else some false:Option Bool)=some (pT c v):=by
 have h:c=119\/c=114\/c=110\/c=116\/c=99\/c=98\/c=102\/c=105\/c=103\/c=101\/c=45:=by simpa[lB]using hc
 rcases h with rfl|rfl|rfl|rfl|rfl|rfl|rfl|rfl|rfl|rfl|rfl<;>rfl
end Go.Proofs.YtkdilffhbejjaaaGreat
namespace Go.Proofs.YtkdilffhbejjaaaGreat
open Go Go.bM Go.Sym
noncomputable def J8(n:Int)(x:Instr):Bool:=(x.1==22&&decide (x.2.1>=n))||(x.1==23&&decide (x.2.2.1>=n))
noncomputable def Ms(n:Int)(x:Instr):Bool:=!eA x||J8 n x
noncomputable def Wb(x:Instr):Bool:=x.1==(34:Int)&&(x.2.1==(-1:Int)&&(x.2.2.1==(0:Int)&&(x.2.2.2==(0:Int)&&true)))
noncomputable def Ag(l:List Instr):Instr:=l.getD (l.length-1) (0,0,0,0)
noncomputable def jX(l:List Instr):Bool:=decide (1<=l.length)&&(decide (l.length<=200)&&(!(l.any (Ms (l.length:Int)))&&Wb (Ag l)))
theorem J9{l:List Instr}(h:1<=l.length)(h2:l.length<=9223372036854775807):idx l (av ((l.length:Int)-1))=some (Ag l):=by
 have e:av ((l.length:Int)-1)=((l.length-1:Nat):Int):=by rw[aI (by omega)];omega
 rw[e];refine aD ?_;simp only[Ag,ci]<;>grind
theorem N1(x:Instr)(n:Int):(bif(x.1==(22:Int))then(bif(decide (x.2.1>=n))then some true else(bif(x.1==(23:Int))then some (decide (x.2.2.1>=n))else some false))else(bif(x.1==(23:Int))then some (decide (x.2.2.1>=n))else some false))=some (J8 n x):=by unfold J8<;>grind
theorem Mt{N:Nat}{l:List Instr}(hN:210<N)(hl:l.length<=9223372036854775807):LX N l=some (bif jX l then 0 else 8):=by
 rw[LX.eq_1];unfold jX;by_cases h1:1<=l.length
 .rw[show((l.length:Int)==0)=false by simp;intro h;simp[h]at h1,af,bm h1];by_cases h2:l.length<=200;.rw[show decide ((l.length:Int)>200)=false by simp;omega,af,bm h2,fr,J9 h1 hl];show(bif !(Wb (Ag l))then _ else _)=_;cases Wb (Ag l)with|false=>simp|true=>have key:=JO (l:=l) (a:=(.inr ():Int⊕Unit)) (b:=.inl 8) (p:=Ms (l.length:Int)) (Lf:=λk i=>f135.cI N k ((l.length:Int),l,(l.length:Int),i)) (λk=>by simp only[f135.cI.eq_2,aJ,af]) (λk i x hx hi=>by simp only[f135.cI.eq_2,aG (aC hi),aq,aD hi,ae,uo,N1,ai (show i<9223372036854775807by have:=aC hi;omega)];cases h1:eA x<;>cases h2:J8 (l.length:Int) x<;>simp[Ms,h1,h2]) N (by omega);grind
  grind
 grind
structure VC(l:List Instr):Prop where
 pos:1<=l.length
 le:l.length<=200aF:∀(i:Nat)x,l[i]?=some x->eA x=true
 jmp:∀(i:Nat)x,l[i]?=some x->x.1=22->0<=x.2.1/\x.2.1<l.length
 br:∀(i:Nat)x,l[i]?=some x->x.1=23->0<=x.2.2.1/\x.2.2.1<l.length
 last:∀x,l[l.length-1]?=some x->x.1=34
theorem ak5{x:Instr}(h:eA x=true)(hx:x.1=22):0<=x.2.1:=by have e:wZ 22=some (105,45,45):=rfl;simp[eA,hx,e,fits,am,db]at h;exact h.1.1
theorem ak6{x:Instr}(h:eA x=true)(hx:x.1=23):0<=x.2.2.1:=by have e:wZ 23=some (114,105,45):=rfl;simp[eA,hx,e,fits,am,db]at h;exact h.2.1.1
theorem xh{l:List Instr}(h:jX l=true):VC l:=by
 simp only[jX,am,db,eK,qr]at h;obtain⟨h1,h2,h3,h4⟩:=h;have hb:∀(i:Nat)x,l[i]?=some x->eA x=true/\J8 (l.length:Int) x=false:=λi x hi=>by have:=h3 x (f7 hi);simp only[Ms,f5,eK,rh,Bool.not_eq_false,pu]at this;exact this
 refine⟨h1,h2,λi x hi=>(hb i x hi).1,λi x hi hx=>⟨ak5 (hb i x hi).1 hx,?_⟩,λi x hi hx=>⟨ak6 (hb i x hi).1 hx,?_⟩,λx hi=>?_⟩;.have:=(hb i x hi).2;simp only[J8,hx,gg]at this<;>grind
 .have:=(hb i x hi).2;simp only[J8,hx,gg]at this<;>grind
 .have e:Ag l=x:=by simp only[Ag,ci,hi];rfl
  rw[e]at h4;simp only[Wb,am,kv]at h4<;>grind
noncomputable def cN(l:List Nat):List Int:=List.map (λn:Nat=>(n:Int)) l
noncomputable def nx(l:List Instr)(i:Nat):List Nat:=match l[i]?with|none=>[]|some x=>if x.1=34\/x.1=28\/x.1=30then[]else if x.1=22then[x.2.1.toNat]else if x.1=23then if x.2.2.1.toNat=i+1then[i+1]else[min (i+1) x.2.2.1.toNat,max (i+1) x.2.2.1.toNat]else[i+1]
theorem Ah{l:List Instr}(h:VC l){i k:Nat}(hk:k∈nx l i):k<l.length:=by
 unfold nx at hk;split at hk;.cases hk
 .rename_i x hi;have hlt:=aC hi;have hs:x.1≠34->i+1<l.length:=λhx=>by
   by_cases h1:i=l.length-1;.subst h1;exact absurd (h.last x hi) hx
   .omega
  split at hk;.cases hk
  .subst_vars;split at hk;.rename_i h22;have:=h.jmp i x hi h22<;>grind
   .split at hk;.rename_i h23;have:=h.br i x hi h23<;>grind
    grind
theorem rF(l:List Instr)(i:Nat):(nx l i).length<=2:=by unfold nx<;>grind
theorem YS(x:Instr):((x.1==(34:Int))||((x.1==(28:Int))||(x.1==(30:Int))))=decide (x.1=34\/x.1=28\/x.1=30):=by grind
theorem Wc(a b:Nat):min (a:Int) (b:Int)=((min a b:Nat):Int):=by omega
theorem Wd(a b:Nat):max (a:Int) (b:Int)=((max a b:Nat):Int):=by omega
theorem We{l:List Instr}(h:VC l){i:Nat}(hi:i<l.length):(Option.bind (idx l (i:Int)) λx0=>(Option.bind ((bif(x0.1==(34:Int))then some true else(Option.bind ((bif(x0.1==(28:Int))then some true else some (x0.1==(30:Int)))) λb1=>some b1))) λb2=>(bif b2 then some []else(bif(x0.1==(22:Int))then some [x0.2.1]else(bif(x0.1==(23:Int))then(bif(x0.2.2.1==(av ((i:Int)+(1:Int))))then some [(av ((i:Int)+(1:Int)))]else some [(min (av ((i:Int)+(1:Int))) x0.2.2.1),(max (av ((i:Int)+(1:Int))) x0.2.2.1)])else some [(av ((i:Int)+(1:Int)))])))))=some (cN (nx l i)):=by
 have e1:=al hi;generalize l[i]=x at e1;have hle:=h.le;have e2:av ((i:Int)+1)=((i+1:Nat):Int):=ai (by omega);rw[aD e1];simp only[ae,dg,e2,YS,nx,e1];by_cases h1:x.1=34\/x.1=28\/x.1=30;.simp[h1,cN]
 .rw[bv h1,af,be h1];by_cases h2:x.1=22;.have:=h.jmp i x e1 h2;simp[h2,i9,aq,ii,cN,fj,kw,pA this.1]
  .rw[show(x.1==(22:Int))=false by simpa using h2,be h2];by_cases h3:x.1=23
   .have:=h.br i x e1 h3;have hq:x.2.2.1=((x.2.2.1.toNat:Nat):Int):=by omega
    simp only[h3,i9,aq,ii];by_cases h4:x.2.2.1.toNat=i+1;.rw[hq,h4];simp[cN]
    .rw[be h4,show(x.2.2.1==((i+1:Nat):Int))=false by simp;omega,af];generalize x.2.2.1.toNat=b at hq;rw[hq,Wc,Wd];rfl
   .rw[show(x.1==(23:Int))=false by simpa using h3,be h3];rfl
theorem ak7(a b:Int):jR (jQ [a,b])=if b=a then[a]else[min a b,max a b]:=by simp only[jQ,A8]<;>grind[jQ,jR]
theorem Mu{N:Nat}{l:List Instr}(h:VC l){i:Nat}(hi:i<l.length):LY N (l,(i:Int))=some (cN (nx l i)):=by rw[<-We h hi,LY.eq_1];congr 1;funext x;congr 1;funext b;cases b with|true=>rfl|false=>
 have hlen:∀q:Int,decide ((jQ [av ((i:Int)+1),q]).length<4611686018427387904)=true:=λq=>by simp only[jQ,A8];cases decide (av ((i:Int)+1)<=q)<;>rfl
 rw[hlen];simp[ak7];by_cases h4:x.2.2.1=av ((i:Int)+1);.simp_all[jQ,av,aF]
 .rw[be h4,show(x.2.2.1==av ((i:Int)+1))=false by simpa using h4];rfl
end Go.Proofs.YtkdilffhbejjaaaGreat
