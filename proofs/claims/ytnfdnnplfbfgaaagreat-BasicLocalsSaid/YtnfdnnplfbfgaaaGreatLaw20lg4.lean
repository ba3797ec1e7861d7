/- Parts of the proof. -/
import Derived.Test.YtnfdnnplfbfgaaaGreatLaw20lk
set_option linter.unusedVariables false
set_option linter.unusedSimpArgs false
set_option linter.defProp false
noncomputable section
namespace Go.Proofs.YtnfdnnplfbfgaaaGreat
open Go Go.bS Go.Sym
open Classical
def gK(ts:List aA)(xs:List (List UInt8))(fs:List Func):Prop:=Nu ts xs fs/\∀f,f∈fs->i64 f.2.2.1
def dG.XW{ts:List aA}{xs:List (List UInt8)}{fs:List Func}(h:dG ts xs fs):XW xs:=⟨h.2.1,h.2.2.2.2.1⟩
def dG.func{ts:List aA}{xs:List (List UInt8)}{fs:List Func}(h:dG ts xs fs){i:Nat}(hi:i<fs.length):fo ts.length (gp fs i):=by have:=h.2.2.2.2.2 i hi;unfold Iq at this<;>grind
def dG.FnW{ts:List aA}{xs:List (List UInt8)}{fs:List Func}(h:dG ts xs fs)(hm:gK ts xs fs):FnW fs:=⟨h.2.2.1.2,λf hf=>by refine⟨hm.1.2.2.2.2 f hf,hm.2 f hf,ts.length,h.1.1,?_⟩;obtain⟨i,hi,rfl⟩:=rB fn0 hf;exact h.func hi⟩
def j6(ts:List aA)(xs:List (List UInt8))(fs:List Func):Int:=if dG ts xs fs then(if(wG ts xs fs).length<=20000then 0 else 4)else 8
section
variable{N:Nat}{ts:List aA}{xs:List (List UInt8)}{fs:List Func}
def GC(h:dG ts xs fs)(hm:gK ts xs fs):(ts.flatMap sP).length<=25600/\(xs.flatMap said).length<=3200/\(fs.flatMap sQ).length<=960000:=by
 have hT:=h.1.TW;have hX:=h.XW;have hF:=h.FnW hm;have h1:=iy (l:=ts) (enc:=sP) (m:=800) λx hx=>by obtain⟨n,i,hi,_,ht⟩:=hT.2 x hx;exact zy ht hi
 have h2:=iy (l:=xs) (enc:=said) (m:=100) λx hx=>by have:=nZ x;have:=hX.2 x hx;omega
 have h3:=iy (l:=fs) (enc:=sQ) (m:=30000) λx hx=>by obtain⟨hf,_,n,hn,ho⟩:=hF.2 x hx;exact zz ho hn hf
 have a1:=hT.1;have a2:=hX.1;have a3:=hF.1<;>grind
def Rw(hN:1300<N)(hm:gK ts xs fs):Uz N (ts,xs,fs)=some (if j6 ts xs fs=0then wG ts xs fs else[],j6 ts xs fs):=by
 rw[Uz.eq_1,aaO hN hm.1,ae];unfold j6;by_cases h:dG ts xs fs
 .rw[aP h,dk,af,be h];obtain⟨b1,b2,b3⟩:=GC h hm;have c1:=cZ ts.length;have c2:=cZ xs.length;have c3:=cZ fs.length;have d1:=hm.1.1.1;have d2:=hm.1.2.1;have d3:=hm.1.2.2.2.1;rw[kC (by omega) (by omega),ae,ak (by omega) (by omega),ah,XO hN h.1.TW (by omega),ae];simp only;rw[kC (by omega) (by omega),ae,ak (by simp only[bc];omega) (by omega),ah,XQ hN h.XW (by simp only[bc];omega),ae];simp only;rw[kC (by omega) (by omega),ae,ak (by simp only[bc];omega) (by omega),ah,XS hN (h.FnW hm) (by simp only[bc];omega),ae];have e:(((((V ts.length++ts.flatMap sP)++V xs.length)++xs.flatMap said)++V fs.length)++fs.flatMap sQ)=wG ts xs fs:=by simp[wG,bj]
  grind
 grind
def XT(hN:1300<N)(hm:gK ts xs fs)(h:dG ts xs fs):V7 N (ts,xs,fs)=some (wG ts xs fs):=by obtain⟨b1,b2,b3⟩:=GC h hm;have c1:=cZ ts.length;have c2:=cZ xs.length;have c3:=cZ fs.length;have d1:=hm.1.1.1;have d2:=hm.1.2.1;have d3:=hm.1.2.2.2.1;rw[V7.eq_1,oU (by omega) (by omega),ae,Rs hN h.1.TW (by omega),ae];simp only;rw[oU (by omega) (by omega),ae,ak (by simp only[bc];omega) (by omega),ah,Rt hN h.XW (by simp only[bc];omega),ae];simp only;rw[oU (by omega) (by omega),ae,ak (by simp only[bc];omega) (by omega),ah,Ru hN (h.FnW hm) (by simp only[bc];omega),ae];simp[wG,bj]
def Nw(hN:1300<N)(hm:gK ts xs fs):V8 N (ts,xs,fs)=some (j6 ts xs fs):=by
 rw[V8.eq_1,Rq hN hm.1,ae];unfold j6;by_cases h:dG ts xs fs;.rw[aP h,dk,af,be h,XT hN hm h,ae]<;>grind
 grind
def va(h:j6 ts xs fs=0):dG ts xs fs/\(wG ts xs fs).length<=20000:=by unfold j6 at h<;>grind
def D2(hN:1300<N)(hm:gK ts xs fs):F71 N (ts,xs,fs)=some (j6 ts xs fs):=by rw[F71.eq_1,Rw hN hm,ae]
def ahe(fs:List Func)(f i:Int):Prop:=0<=f/\f<fs.length/\0<=i/\i<(gp fs f.toNat).2.2.2.2.1.length
def azf(ts:List aA)(xs:List (List UInt8))(fs:List Func)(f i:Int):Int×Int:=if j6 ts xs fs=0then(if ahe fs f i then(256*(f+1)+i,0)else(0,2))else(0,j6 ts xs fs)
def ahf(a i:Nat)(hi:i<256):256*a|||i=256*a+i:=by have:=Nat.two_pow_add_eq_or_of_lt (i:=8) (b:=i) (by omega) a<;>grind
def sX(fs:List Func)(a:Nat):Prop:=1<=a/256/\a/256<=fs.length/\a%256<(gp fs (a/256-1)).2.2.2.2.1.length
def sR(ts:List aA)(xs:List (List UInt8))(fs:List Func)(a:Nat):Int×Int×Int:=if j6 ts xs fs=0then(if sX fs a then(((a/256-1:Nat):Int),((a%256:Nat):Int),0)else(0,0,6))else(0,0,j6 ts xs fs)
def aaT{a:Nat}(h:a<18446744073709551616):tZ .u64 (a:Int) (255:Int)=((a%256:Nat):Int):=by
 unfold tZ;have e:(BitVec.ofInt IntKind.u64.bits (a:Int)&&&BitVec.ofInt IntKind.u64.bits 255).toNat=a%256:=by show(BitVec.ofInt 64 (a:Int)&&&BitVec.ofInt 64 255).toNat=_;rw[ns,show BitVec.ofInt 64 255=BitVec.ofNat 64 255from rfl,BitVec.toNat_and,pd,rm h];exact Nat.and_two_pow_sub_one_eq_mod a 8
 rw[e];exact aQ (by omega)
def Is(hN:1300<N)(hm:gK ts xs fs){a:Nat}(ha:a<18446744073709551616):F32 N (ts,xs,fs,(a:Int))=some (sR ts xs fs a):=by
 rw[F32.eq_1,D2 hN hm,ae];unfold sR;have hfl:=hm.1.2.2.2.1;by_cases hc:j6 ts xs fs=0
 .rw[hc,fJ,af,be rfl,show(256:Int)=((256:Nat):Int)from rfl,yc,aaT ha,aJ (n:=((a%256:Nat):Int)) (by omega),aQ (n:=(fs.length:Int)) (by omega)];have Fy:(bif(((a/256:Nat):Int)==(0:Int))then some true else(bif(decide (((a/256:Nat):Int)>(fs.length:Int)))then some true else(Option.bind (idx fs (aK (((a/256:Nat):Int)-(1:Int)))) λx1=>some (decide (((a%256:Nat):Int)>=(x1.2.2.2.2.1.length:Int))))))=some (!decide (sX fs a)):=by
   by_cases h1:a/256=0;.rw[h1,aL (show¬sX fs a fromλh=>by have:=h.1;omega)];rfl
   .rw[show(((a/256:Nat):Int)==(0:Int))=false by rw[ml];omega];by_cases h2:a/256>fs.length;.rw[aP (show((a/256:Nat):Int)>(fs.length:Int)by omega),aL (show¬sX fs a fromλh=>by have:=h.2.1;omega)];rfl
    .have e:idx fs (aK (((a/256:Nat):Int)-1))=some (gp fs (a/256-1)):=by rw[aQ (by omega),show((a/256:Nat):Int)-1=((a/256-1:Nat):Int)by omega];exact bK _ (by omega)
     rw[aL (show¬((a/256:Nat):Int)>(fs.length:Int)by omega),e,ae];by_cases h3:a%256<(gp fs (a/256-1)).2.2.2.2.1.length;.rw[aL (show¬((a%256:Nat):Int)>=((gp fs (a/256-1)).2.2.2.2.1.length:Int)by omega),aP (show sX fs a from⟨by omega,by omega,h3⟩)];rfl
     .rw[aP (show((a%256:Nat):Int)>=((gp fs (a/256-1)).2.2.2.2.1.length:Int)by omega),aL (show¬sX fs a fromλh=>h3 h.2.2)];rfl
  rw[Fy,ae];by_cases hA:sX fs a;.have h1:=hA.1;rw[aP hA,dk,af,be hA,aJ (n:=((a/256:Nat):Int)) (by omega),aJ (by omega)]<;>grind
  grind
 grind
def Le(hfl:fs.length<=50){a:Nat}(ha:a<18446744073709551616):F51 N (ts,xs,fs,(a:Int))=some (if sX fs a then(((a/256-1:Nat):Int),((a%256:Nat):Int),true)else(0,0,false)):=by
 have eM:aK (au ((256:Int)*au ((fs.length:Int)+1)))=((256*(fs.length+1):Nat):Int):=by rw[aJ (n:=(fs.length:Int)+1) (by omega),aJ (by omega),aQ (by omega)];omega
 rw[F51.eq_1,eM];by_cases h1:a<256;.rw[aP (show(a:Int)<256by omega),bi (show¬sX fs a fromλh=>by have:=h.1;omega)];rfl
 .rw[aL (show¬(a:Int)<256by omega),af];by_cases h2:a>=256*(fs.length+1);.rw[aP (show(a:Int)>=((256*(fs.length+1):Nat):Int)by omega),bi (show¬sX fs a fromλh=>by have:=h.2.1;omega)];rfl
  .have e0:au (au (aK (Int.tdiv (a:Int) (256:Int)))-1)=((a/256-1:Nat):Int):=by rw[show(256:Int)=((256:Nat):Int)from rfl,KP,aQ (by omega),aJ (n:=((a/256:Nat):Int)) (by omega),aJ (by omega)];omega
   have e1:au (Int.tmod (a:Int) (256:Int))=((a%256:Nat):Int):=by rw[show(256:Int)=((256:Nat):Int)from rfl,KQ,aJ (by omega)]
   have e2:idx fs ((a/256-1:Nat):Int)=some (gp fs (a/256-1)):=bK _ (by omega);rw[aL (show¬(a:Int)>=((256*(fs.length+1):Nat):Int)by omega),ae,af,e0,e1,e2,ae];by_cases h3:a%256<(gp fs (a/256-1)).2.2.2.2.1.length;.rw[aL (show¬((a%256:Nat):Int)>=((gp fs (a/256-1)).2.2.2.2.1.length:Int)by omega),af,be (show sX fs a from⟨by omega,by omega,h3⟩)]
   .rw[aP (show((a%256:Nat):Int)>=((gp fs (a/256-1)).2.2.2.2.1.length:Int)by omega),aq,bi (show¬sX fs a fromλh=>h3 h.2.2)]
end
def O4(ts:List aA)(fs:List Func):Prop:=(∀t,t∈ts->i64 t.2.2.1)/\∀f,f∈fs->i64 f.2.2.1/\(∀x,x∈f.2.2.2.2.1->okI x)/\Ik f.2.2.2.2.2.1/\Ik f.2.2.2.2.2.2
section
variable{N:Nat}{ts:List aA}{xs:List (List UInt8)}{fs:List Func}
def EW(hN:1300<N){i:Nat}(hi:i<ts.length)(hf:(bJ ts i).2.2.2.length<=20):Ok N N (ts,(i:Int),(0:Int))=some (.inl true)\/Ok N N (ts,(i:Int),(0:Int))=some (.inr (ts,(i:Int))):=by
 have e:idx ts (i:Int)=some (bJ ts i):=bK _ hi;rcases u0 (l:=(bJ ts i).2.2.2) (a:=(.inr (ts,(i:Int)):Bool⊕(List aA×Int))) (b:=.inl true) (P:=λ_=>True) (n:=(bJ ts i).2.2.2.length) (Lf:=λk j=>Ok N k (ts,(i:Int),j)) (bd _) (λk=>by simp only[Ok.eq_2,e,ae,aG,af]) (λk j x hj _ hx=>by
  simp only[Ok.eq_2,e,ae,aD hj,aq,aB hx,aj (show j<9223372036854775807by omega)];by_cases h:(x.1.length:Int)>100;.rw[aP h];exact .inl rfl
  .rw[aL h];exact .inr ⟨trivial,rfl⟩) N (by omega)with h|⟨h,_⟩;.grind
 grind
def Nx(hN:1300<N):F21 N ts=some true\/(F21 N ts=some false/\ts.length<=40/\∀i,i<ts.length->(bJ ts i).2.2.2.length<=20):=by
 rw[F21.eq_1];by_cases h40:ts.length<=40
 .rw[aL (show¬(ts.length:Int)>40by omega)];rcases u0 (l:=ts) (a:=(.inr ():Bool⊕Unit)) (b:=.inl true) (P:=λt=>t.2.2.2.length<=20) (n:=ts.length) (Lf:=λk i=>ah6 N k (ts,i)) (bd _) (λk=>by simp only[ah6.eq_2,aG,af]) (λk i x hi _ hx=>by
    have Md:x=bJ ts i:=by rw[bJ,da,hx];rfl
    simp only[ah6.eq_2,aD hi,aq,aB hx,ae];by_cases h:(x.2.2.2.length:Int)>20;.rw[aP h];exact .inl rfl
    .rw[aL h,af];rcases EW hN hi (by rw[<-Md];omega)with h2|h2;.rw[h2];exact .inl rfl
     .rw[h2,ae];exact .inr ⟨by omega,by simp only;rw[aj (by omega)]⟩) N (by omega)with h|⟨h,h2⟩;.grind
  .rw[h];refine .inr ⟨rfl,h40,λi hi=>h2 i _ hi ?_⟩;rw[bJ,da,aw hi];rfl
 grind
def Lg(hN:1300<N)(n i:Int)(nm:List UInt8)(pa re:Int){sl:List Field}(hs:sl.length<=20)(co:List Instr)(si li:List e8):Or N N (n,i,(0:Int),ts,xs,fs,nm,pa,re,sl,co,si,li)=some (.inl true)\/Or N N (n,i,(0:Int),ts,xs,fs,nm,pa,re,sl,co,si,li)=some (.inr (n,i,ts,xs,fs)):=by
 rcases u0 (l:=sl) (a:=(.inr (n,i,ts,xs,fs):Bool⊕(Int×Int×List aA×List (List UInt8)×List Func))) (b:=.inl true) (P:=λ_=>True) (n:=sl.length) (Lf:=λk j=>Or N k (n,i,j,ts,xs,fs,nm,pa,re,sl,co,si,li)) (bd _) (λk=>by simp only[Or.eq_2,aG,af]) (λk j x hj _ hx=>by
  simp only[Or.eq_2,ae,aD hj,aq,aB hx,aj (show j<9223372036854775807by omega)];by_cases h:(x.1.length:Int)>100;.rw[aP h];exact .inl rfl
  .rw[aL h];exact .inr ⟨trivial,rfl⟩) N (by omega)with h|⟨h,_⟩;.grind
 grind
def XU(hN:1300<N)(ht:O4 ts fs):F10 N (ts,xs,fs)=some true\/(F10 N (ts,xs,fs)=some false/\gK ts xs fs):=by
 rw[F10.eq_1];rcases Nx (N:=N) (ts:=ts) hN with h|⟨h,hl,hf⟩;.rw[h];exact .inl rfl
 .rw[h,ae,af];by_cases hx:xs.length<=40
  .by_cases aBt:fs.length<=40
   .rw[aL (show¬(xs.length:Int)>40by omega),aL (show¬(fs.length:Int)>40by omega),af,ae,af];rcases u0 (l:=xs) (a:=(.inr (ts,xs,fs):Bool⊕(List aA×List (List UInt8)×List Func))) (b:=.inl true) (P:=λs=>s.length<=100) (n:=xs.length) (Lf:=λk i=>aw1 N k (i,ts,xs,fs)) (bd _) (λk=>by simp only[aw1.eq_2,aG,af]) (λk i x hi _ hxx=>by
      simp only[aw1.eq_2,aD hi,aq,aB hxx,ae,aj (show i<9223372036854775807by omega)];by_cases h:(x.length:Int)>100;.rw[aP h];exact .inl rfl
      .rw[aL h];exact .inr ⟨by omega,rfl⟩) N (by omega)with h1|⟨h1,hxs⟩;.rw[h1];exact .inl rfl
    .rw[h1,ae];simp only;rcases cL (l:=fs) (Lf:=λk i(n:Int)=>ah7 N k (n,i,ts,xs,fs)) (Inv:=λi _=>∀j,j<i->sO (gp fs j)) (Out:=λr=>r=.inl true) (g:=λ_=>(.inr ():Bool⊕Unit)) (λk s _=>by simp only[ah7.eq_2,aG,af]) (λk i x n hxx hI=>by
       have hi:=aC hxx;have Md:x=gp fs i:=by rw[gp,da,hxx];rfl
       simp only[ah7.eq_2,aD hi,aq,aB hxx,ae,cW];cases hb:(decide ((x.1.length:Int)>100)||(decide ((x.2.2.2.1.length:Int)>20)||(decide ((x.2.2.2.2.1.length:Int)>210)||(decide ((x.2.2.2.2.2.1.length:Int)>210)||(decide ((x.2.2.2.2.2.2.length:Int)>210)||decide (au (n+(x.2.2.2.2.1.length:Int))>1000))))))
       .simp only[kh,mt]at hb;obtain⟨k1,k2,k3,k4,k5,_⟩:=hb;rw[af];rcases Lg (N:=N) (ts:=ts) (xs:=xs) (fs:=fs) hN (au (n+(x.2.2.2.2.1.length:Int))) (i:Int) x.1 x.2.1 x.2.2.1 (sl:=x.2.2.2.1) (by omega) x.2.2.2.2.1 x.2.2.2.2.2.1 x.2.2.2.2.2.2with h2|h2;.rw[h2];exact .inl ⟨_,rfl,rfl⟩
        .rw[h2,ae];refine .inr ⟨au (n+(x.2.2.2.2.1.length:Int)),λj hj=>?_,by simp only;rw[aj (by omega)]⟩;by_cases hji:j=i;.subst hji;obtain⟨_,t2,t3,t4⟩:=ht.2 x (aS hxx);rw[<-Md];exact⟨by omega,by omega,by omega,by omega,t2,t3,t4⟩
         .exact hI j (by omega)
       .exact .inl ⟨_,rfl,rfl⟩) (k:=N) (s:=0) (λj hj=>by omega) (by omega)with⟨r,rfl,h2⟩|⟨s,hI,h2⟩;.rw[h2];exact .inl rfl
     .rw[h2];refine .inr ⟨rfl,⟨⟨by omega,λi hi=>⟨by have:=hf i hi;omega,ht.1 _ (mc ty0 hi)⟩⟩,by omega,λs hs=>?_,by omega,λf hf=>?_⟩,λf hf=>(ht.2 f hf).1⟩;.obtain⟨i,hi,rfl⟩:=jp.1 hs;have:=hxs i _ hi (aw hi);omega
      .obtain⟨i,hi,rfl⟩:=rB fn0 hf;exact hI i hi
   .rw[aL (show¬(xs.length:Int)>40by omega),aP (show(fs.length:Int)>40by omega)];exact .inl rfl
  .rw[aP (show(xs.length:Int)>40by omega)];exact .inl rfl
def Rx{α:Type}(l:List α):l.flatMap (λx=>[x])=l:=(n6 id l).trans (List.map_id l)
def D3{α β:Type}{l:List α}{m:List β}:((l.length:Int)!=(m.length:Int))=!decide (l.length=m.length):=by grind
def XV(x y:Field):(x.1==y.1&&(x.2==y.2&&true))=decide (x=y):=by grind
def run_eq(x y:e8):(x.1==y.1&&(x.2==y.2&&true))=decide (x=y):=by grind
def instr_eq(x y:Instr):(x.1==y.1&&(x.2.1==y.2.1&&(x.2.2.1==y.2.2.1&&(x.2.2.2==y.2.2.2&&true))))=decide (x=y):=by grind
def XX{l m:List Field}(hl:l.length<=1000)(hN:1300<N):WT N (l,m)=some (decide (l=m)):=by
 rw[WT.eq_1,D3];by_cases h:l.length=m.length;.rw[aP h,dk,af,uZ (l:=l) (m:=m) (a:=(.inr ():Bool⊕Unit)) (b:=.inl false) (Lf:=λk i=>aC0 N k (l,m,i)) h (λk=>by simp only[aC0.eq_2,aG,af]) (λk i x y hx hy h1 h2=>by simp only[aC0.eq_2,aD (aC h1),aq,aB h1,aB h2,ae,XV,aj (show i<9223372036854775807by have:=aC h1;omega)];by_cases he:x=y<;>simp[he]) N (by omega),ae];grind
 .rw[aL h,i5,aq,aL λe=>h (by rw[e])]
def Lh{l m:List e8}(hl:l.length<=1000)(hN:1300<N):Q8 N (l,m)=some (decide (l=m)):=by
 rw[Q8.eq_1,D3];by_cases h:l.length=m.length;.rw[aP h,dk,af,uZ (l:=l) (m:=m) (a:=(.inr ():Bool⊕Unit)) (b:=.inl false) (Lf:=λk i=>aC2 N k (l,m,i)) h (λk=>by simp only[aC2.eq_2,aG,af]) (λk i x y hx hy h1 h2=>by simp only[aC2.eq_2,aD (aC h1),aq,aB h1,aB h2,ae,run_eq,aj (show i<9223372036854775807by have:=aC h1;omega)];by_cases he:x=y<;>simp[he]) N (by omega),ae];grind
 .rw[aL h,i5,aq,aL λe=>h (by rw[e])]
def XY{l m:List Instr}(hl:l.length<=1000)(hN:1300<N):WV N (l,m)=some (decide (l=m)):=by
 rw[WV.eq_1,D3];by_cases h:l.length=m.length;.rw[aP h,dk,af,uZ (l:=l) (m:=m) (a:=(.inr ():Bool⊕Unit)) (b:=.inl false) (Lf:=λk i=>aC1 N k (l,m,i)) h (λk=>by simp only[aC1.eq_2,aG,af]) (λk i x y hx hy h1 h2=>by simp only[aC1.eq_2,aD (aC h1),aq,aB h1,aB h2,ae,instr_eq,aj (show i<9223372036854775807by have:=aC h1;omega)];by_cases he:x=y<;>simp[he]) N (by omega),ae];grind
 .rw[aL h,i5,aq,aL λe=>h (by rw[e])]
def Ry{f g:Func}(hf:sO f)(hN:1300<N):WX N (f.1,f.2.1,f.2.2.1,f.2.2.2.1,f.2.2.2.2.1,f.2.2.2.2.2.1,f.2.2.2.2.2.2,g.1,g.2.1,g.2.2.1,g.2.2.2.1,g.2.2.2.2.1,g.2.2.2.2.2.1,g.2.2.2.2.2.2)=some (decide (f=g)):=by
 obtain⟨g1,g2,g3,g4,_⟩:=hf;rw[WX.eq_1];simp only[XX (N:=N) (show f.2.2.2.1.length<=1000by omega) hN,XY (N:=N) (show f.2.2.2.2.1.length<=1000by omega) hN,Lh (N:=N) (show f.2.2.2.2.2.1.length<=1000by omega) hN,Lh (N:=N) (show f.2.2.2.2.2.2.length<=1000by omega) hN,ae,fT];obtain⟨a,b,c,d,e,i,j⟩:=f;obtain⟨a',b',c',d',e',i',j'⟩:=g;simp only;congr 1;by_cases e1:a=a'
 .by_cases e2:b=b'
  .by_cases e3:c=c'
   .by_cases e4:d=d'
    .by_cases e5:e=e';.by_cases e6:i=i'<;>by_cases e7:j=j'<;>simp[e1,e2,e3,e4,e5,e6,e7]
     .simp[e5]
    .simp[e4]
   .simp[e3]
  .simp[e2]
 .simp[e1]
end
end Go.Proofs.YtnfdnnplfbfgaaaGreat
namespace Go.Proofs.YtnfdnnplfbfgaaaGreat
open Go Go.bS Go.Sym
def ny(c:UInt8)(v:Int):Bool:=(U c).2.2.1&&decide (v>=0)
def qz(c:UInt8)(v:Int):Bool:=(U c).2.2.2&&decide (v>=0)
def one(b:Bool)(v:Int):List Int:=bif b then[v]else[]
def bu(f:UInt8->Int->Bool)(x:Instr):List Int:=match yd x.1with|some (a,b,c)=>(one (f a x.2.1) x.2.1++one (f b x.2.2.1) x.2.2.1)++one (f c x.2.2.2) x.2.2.2|none=>[]
def Ny(N:Nat)(x:Instr):M3 N (x.1,x.2.1,x.2.2.1,x.2.2.2)=some (bif eT x then(bu ny x,bu qz x,0)else([],[],8)):=by have h:=wE N x.1;rw[M3.eq_1,u5,h];unfold bu;cases hc:eT x with|false=>rfl|true=>simp only[aq,ae,Kt.eq_1];cases hs:yd x.1with|none=>simp[eT,hs]at hc|some s=>obtain⟨a,b,c⟩:=s;simp only[fT,ae,ny,qz];cases((U a).2.2.1&&decide (x.2.1>=0))<;>cases((U a).2.2.2&&decide (x.2.1>=0))<;>cases((U b).2.2.1&&decide (x.2.2.1>=0))<;>cases((U b).2.2.2&&decide (x.2.2.1>=0))<;>cases((U c).2.2.1&&decide (x.2.2.2>=0))<;>cases((U c).2.2.2&&decide (x.2.2.2>=0))<;>rfl
def XZ{c:UInt8}{v:Int}(hc:mb c=true):(bif((c.toNat:Int)==114)then some (decide (v>=0))else bif((c.toNat:Int)==101)then some (decide (v>=0))else some false:Option Bool)=some (ny c v):=by
 have h:c=119\/c=114\/c=110\/c=116\/c=99\/c=98\/c=102\/c=105\/c=103\/c=101\/c=45:=by simpa[mb]using hc
 rcases h with rfl|rfl|rfl|rfl|rfl|rfl|rfl|rfl|rfl|rfl|rfl<;>rfl
def X0{c:UInt8}{v:Int}(hc:mb c=true):(bif((c.toNat:Int)==119)then some (decide (v>=0))else bif((c.toNat:Int)==103)then some (decide (v>=0))else some false:Option Bool)=some (qz c v):=by
 have h:c=119\/c=114\/c=110\/c=116\/c=99\/c=98\/c=102\/c=105\/c=103\/c=101\/c=45:=by simpa[mb]using hc
 rcases h with rfl|rfl|rfl|rfl|rfl|rfl|rfl|rfl|rfl|rfl|rfl<;>rfl
def Li(n:Int)(x:Instr):Bool:=(x.1==22&&decide (x.2.1>=n))||(x.1==23&&decide (x.2.2.1>=n))
def Nz(n:Int)(x:Instr):Bool:=!eT x||Li n x
def X4(x:Instr):Bool:=x.1==(34:Int)&&(x.2.1==(-1:Int)&&(x.2.2.1==(0:Int)&&(x.2.2.2==(0:Int)&&true)))
def A5(l:List Instr):Instr:=l.getD (l.length-1) (0,0,0,0)
def kj(l:List Instr):Bool:=decide (1<=l.length)&&(decide (l.length<=200)&&(!(l.any (Nz (l.length:Int)))&&X4 (A5 l)))
def Lj{l:List Instr}(h:1<=l.length)(h2:l.length<=9223372036854775807):idx l (au ((l.length:Int)-1))=some (A5 l):=by
 have e:au ((l.length:Int)-1)=((l.length-1:Nat):Int):=by rw[aJ (by omega)];omega
 rw[e];refine aB ?_;simp only[A5,da]<;>grind
def O5(x:Instr)(n:Int):(bif(x.1==(22:Int))then(bif(decide (x.2.1>=n))then some true else(bif(x.1==(23:Int))then some (decide (x.2.2.1>=n))else some false))else(bif(x.1==(23:Int))then some (decide (x.2.2.1>=n))else some false))=some (Li n x):=by unfold Li<;>grind
def NA{N:Nat}{l:List Instr}(hN:210<N)(hl:l.length<=9223372036854775807):M0 N l=some (bif kj l then 0 else 8):=by
 rw[M0.eq_1];unfold kj;by_cases h1:1<=l.length
 .rw[show((l.length:Int)==0)=false by simp;intro h;simp[h]at h1,af,bv h1];by_cases h2:l.length<=200;.rw[show decide ((l.length:Int)>200)=false by simp;omega,af,bv h2,ft,Lj h1 hl];show(bif !(X4 (A5 l))then _ else _)=_;cases X4 (A5 l)with|false=>simp|true=>have key:=KN (l:=l) (a:=(.inr ():Int⊕Unit)) (b:=.inl 8) (p:=Nz (l.length:Int)) (Lf:=λk i=>ax6 N k ((l.length:Int),l,(l.length:Int),i)) (λk=>by simp only[ax6.eq_2,aG,af]) (λk i x hx hi=>by simp only[ax6.eq_2,aD (aC hi),aq,aB hi,ae,u5,O5,aj (show i<9223372036854775807by have:=aC hi;omega)];cases h1:eT x<;>cases h2:Li (l.length:Int) x<;>simp[Nz,h1,h2]) N (by omega);grind
  grind
 grind
structure VC(l:List Instr):Prop where
 pos:1<=l.length
 le:l.length<=200aH:∀(i:Nat)x,l[i]?=some x->eT x=true
 jmp:∀(i:Nat)x,l[i]?=some x->x.1=22->0<=x.2.1/\x.2.1<l.length
 br:∀(i:Nat)x,l[i]?=some x->x.1=23->0<=x.2.2.1/\x.2.2.1<l.length
 last:∀x,l[l.length-1]?=some x->x.1=34
def apg{x:Instr}(h:eT x=true)(hx:x.1=22):0<=x.2.1:=by have e:yd 22=some (105,45,45):=rfl;simp[eT,hx,e,fits,ba,dj]at h;exact h.1.1
def aph{x:Instr}(h:eT x=true)(hx:x.1=23):0<=x.2.2.1:=by have e:yd 23=some (114,105,45):=rfl;simp[eT,hx,e,fits,ba,dj]at h;exact h.2.1.1
def yo{l:List Instr}(h:kj l=true):VC l:=by
 simp only[kj,ba,dj,fr,ss]at h;obtain⟨h1,h2,h3,h4⟩:=h;have hb:∀(i:Nat)x,l[i]?=some x->eT x=true/\Li (l.length:Int) x=false:=λi x hi=>by have:=h3 x (jn hi);simp only[Nz,ib,fr,tl,Bool.not_eq_false,ro]at this;exact this
 refine⟨h1,h2,λi x hi=>(hb i x hi).1,λi x hi hx=>⟨apg (hb i x hi).1 hx,?_⟩,λi x hi hx=>⟨aph (hb i x hi).1 hx,?_⟩,λx hi=>?_⟩;.have:=(hb i x hi).2;simp only[Li,hx,kh]at this<;>grind
 .have:=(hb i x hi).2;simp only[Li,hx,kh]at this<;>grind
 .have e:A5 l=x:=by simp only[A5,da,hi];rfl
  rw[e]at h4;simp only[X4,ba,ll]at h4<;>grind
def cN(l:List Nat):List Int:=List.map (λn:Nat=>(n:Int)) l
def nx(l:List Instr)(i:Nat):List Nat:=match l[i]?with|none=>[]|some x=>if x.1=34\/x.1=28\/x.1=30then[]else if x.1=22then[x.2.1.toNat]else if x.1=23then if x.2.2.1.toNat=i+1then[i+1]else[min (i+1) x.2.2.1.toNat,max (i+1) x.2.2.1.toNat]else[i+1]
def A6{l:List Instr}(h:VC l){i k:Nat}(hk:k∈nx l i):k<l.length:=by
 unfold nx at hk;split at hk;.cases hk
 .rename_i x hi;have hlt:=aC hi;have hs:x.1≠34->i+1<l.length:=λhx=>by
   by_cases h1:i=l.length-1;.subst h1;exact absurd (h.last x hi) hx
   .omega
  split at hk;.cases hk
  .subst_vars;split at hk;.rename_i h22;have:=h.jmp i x hi h22<;>grind
   .split at hk;.rename_i h23;have:=h.br i x hi h23<;>grind
    grind
def sx(l:List Instr)(i:Nat):(nx l i).length<=2:=by unfold nx<;>grind
def aaU(x:Instr):((x.1==(34:Int))||((x.1==(28:Int))||(x.1==(30:Int))))=decide (x.1=34\/x.1=28\/x.1=30):=by grind
def X5(a b:Nat):min (a:Int) (b:Int)=((min a b:Nat):Int):=by omega
def X6(a b:Nat):max (a:Int) (b:Int)=((max a b:Nat):Int):=by omega
def X7{l:List Instr}(h:VC l){i:Nat}(hi:i<l.length):(Option.bind (idx l (i:Int)) λx0=>(Option.bind ((bif(x0.1==(34:Int))then some true else(Option.bind ((bif(x0.1==(28:Int))then some true else some (x0.1==(30:Int)))) λb1=>some b1))) λb2=>(bif b2 then some []else(bif(x0.1==(22:Int))then some [x0.2.1]else(bif(x0.1==(23:Int))then(bif(x0.2.2.1==(au ((i:Int)+(1:Int))))then some [(au ((i:Int)+(1:Int)))]else some [(min (au ((i:Int)+(1:Int))) x0.2.2.1),(max (au ((i:Int)+(1:Int))) x0.2.2.1)])else some [(au ((i:Int)+(1:Int)))])))))=some (cN (nx l i)):=by
 have e1:=aw hi;generalize l[i]=x at e1;have hle:=h.le;have e2:au ((i:Int)+1)=((i+1:Nat):Int):=aj (by omega);rw[aB e1];simp only[ae,cW,e2,aaU,nx,e1];by_cases h1:x.1=34\/x.1=28\/x.1=30;.simp[h1,cN]
 .rw[cb h1,af,bi h1];by_cases h2:x.1=22;.have:=h.jmp i x e1 h2;simp[h2,im,aq,kp,cN,gc,lc,rt this.1]
  .rw[show(x.1==(22:Int))=false by simpa using h2,bi h2];by_cases h3:x.1=23
   .have:=h.br i x e1 h3;have hq:x.2.2.1=((x.2.2.1.toNat:Nat):Int):=by omega
    simp only[h3,im,aq,kp];by_cases h4:x.2.2.1.toNat=i+1;.rw[hq,h4];simp[cN]
    .rw[bi h4,show(x.2.2.1==((i+1:Nat):Int))=false by simp;omega,af];generalize x.2.2.1.toNat=b at hq;rw[hq,X5,X6];rfl
   .rw[show(x.1==(23:Int))=false by simpa using h3,bi h3];rfl
def api(a b:Int):j8 (j7 [a,b])=if b=a then[a]else[min a b,max a b]:=by simp only[j7,BS]<;>grind[j7,j8]
def NB{N:Nat}{l:List Instr}(h:VC l){i:Nat}(hi:i<l.length):M1 N (l,(i:Int))=some (cN (nx l i)):=by rw[<-X7 h hi,M1.eq_1];congr 1;funext x;congr 1;funext b;cases b with|true=>rfl|false=>
 have hlen:∀q:Int,decide ((j7 [au ((i:Int)+1),q]).length<4611686018427387904)=true:=λq=>by simp only[j7,BS];cases decide (au ((i:Int)+1)<=q)<;>rfl
 rw[hlen];simp[api];by_cases h4:x.2.2.1=au ((i:Int)+1);.simp_all[j7,au,aH]
 .rw[bi h4,show(x.2.2.1==au ((i:Int)+1))=false by simpa using h4];rfl
open Classical
def yw{σ β:Type}{Lf:Nat->σ->List Nat->Option β}{Inv:σ->List Nat->Prop}{μ:σ->Nat}{g:σ->β}(h0:∀k s,Inv s []->Lf (k+1) s []=some (g s))(hs:∀k s o i,Inv s (o++[i])->∃s' p,Inv s' (o++p)/\μ s'+p.length<=μ s/\Lf (k+1) s (o++[i])=Lf k s' (o++p)):∀k s o,Inv s o->μ s+o.length<k->∃s',Inv s' []/\Lf k s o=some (g s')
 |0,_,_,_,h=>by omega|k+1,s,o,hI,hk=>by
  rcases List.eq_nil_or_concat o with rfl|⟨o',i,ho⟩;.grind
  .simp at ho;subst ho;simp at hk;obtain⟨s',p,h1,h2,h3⟩:=hs k s o' i hI;obtain⟨s'',h4,h5⟩:=yw h0 hs k s' (o'++p) h1 (by simp only[bc];omega)<;>grind
def rounds{σ β:Type}{Lf:Nat->Bool->σ->Option β}{Inv EZ:σ->Prop}{μ:σ->Nat}{g:σ->β}(h0:∀k s,Inv s->EZ s->Lf (k+1) false s=some (g s))(hs:∀k s,Inv s->∃s' c,Inv s'/\(c=false->EZ s')/\(c=true->μ s'<μ s)/\Lf (k+1) true s=Lf k c s'):∀k s,Inv s->μ s+1<k->∃s',Inv s'/\EZ s'/\Lf k true s=some (g s')|0,_,_,h=>by omega|k+1,s,hI,hk=>by obtain⟨s',c,h1,h2,h3,h4⟩:=hs k s hI;cases c with|false=>obtain⟨k',rfl⟩:∃q,k=q+1:=⟨k-1,by omega⟩<;>grind|true=>obtain⟨s'',h5,h6,h7⟩:=rounds h0 hs k s' h1 (by have:=h3 rfl;omega)<;>grind
inductive Reach(l:List Instr):Nat->Prop where|zero:Reach l 0|step{i k:Nat}:Reach l i->k∈nx l i->Reach l k
def Reach.lt{l:List Instr}(h:VC l){i:Nat}(hi:Reach l i):i<l.length:=by cases hi with|zero=>exact h.pos|step _ hk=>exact A6 h hk
abbrev T(b:List Bool)(k:Nat):Prop:=b[k]?=some true
def eW{b:List Bool}{i k:Nat}(hi:i<b.length):T (b.set i true) k↔k=i\/T b k:=by grind
def ga(b:List Bool):Nat:=b.countP λx=>!x
def uJ{b:List Bool}{i:Nat}(h:b[i]?=some false):ga (b.set i true)+1=ga b:=by induction b generalizing i with|nil=>simp at h|cons x r ih=>cases i with|zero=>simp at h;subst h;simp[ga]|succ i=>have:=ih h;simp[ga,wi,List.countP_cons]at this⊢;omega
def sy(b:List Bool):ga b<=b.length:=List.countP_le_length
def zC{l:List Nat}{i:Nat}{x:Int}(h:(cN l)[i]?=some x):∃k,l[i]?=some k/\x=(k:Int):=by simp only[cN,eI,f0]at h<;>grind
def E0{b:List Bool}{i:Nat}(h:T b i):b.set i true=b:=DK h
def Lq{b:List Bool}{i:Nat}(h:i<b.length):b[i]?=some true\/b[i]?=some false:=by simp_all
structure RF(l:List Instr)(s:List Bool):Prop where
 len:s.length=l.length
 zero:T s 0reach:∀i,T s i->Reach l i
structure InP(l:List Instr)(s:List Bool)(o:List Nat):Prop where
 base:RF l s
 yw:∀k∈o,T s k
 shut:∀i,T s i->i∈o\/∀k∈nx l i,T s k
def T.lt{b:List Bool}{k:Nat}(h:T b k):k<b.length:=aC h
def ve(a b:List Nat):cN (a++b)=cN a++cN b:=by simp[cN]
def bR(a:List Nat):(cN a).length=a.length:=by simp[cN]
def E1{N:Nat}{l:List Instr}(hv:VC l)(hN:500<N){s:List Bool}{o:List Nat}{i:Nat}(h:InP l s (o++[i]))(ho:o.length<=1000000):∃s' p,InP l s' (o++p)/\ga s'+p.length<=ga s/\Ps N N (l,(i:Int),cN (nx l i),((cN (nx l i)).length:Int),0,s,cN o)=some (l,s',cN (o++p)):=by
 have hi:T s i:=h.yw i (by simp);have O9:=h.base.reach i hi;obtain⟨⟨s',p⟩,hI,he⟩:=fI (l:=cN (nx l i)) (g:=λq:List Bool×List Nat=>(l,q.1,cN (o++q.2))) (Inv:=λj q=>RF l q.1/\(∀k∈o++q.2,T q.1 k)/\(∀k,T q.1 k->k∈o++q.2\/k=i\/∀k'∈nx l k,T q.1 k')/\(∀k∈(nx l i).take j,T q.1 k)/\ga q.1+q.2.length<=ga s/\T q.1 i) (Lf:=λk j q=>Ps N k (l,(i:Int),cN (nx l i),((cN (nx l i)).length:Int),j,q.1,cN (o++q.2))) (λk q _=>by simp only[Ps.eq_2,aG,af]) (λk j x q hx⟨h1,h2,h3,h4,h5,h6⟩=>by
   obtain⟨m,hm,rfl⟩:=zC hx;have hml:=A6 hv (aS hm);have sY:m<q.1.length:=by rw[h1.len];exact hml
   have hj:j<9223372036854775807:=by have:=aC hm;have:=sx l i;omega
   have e1:=aw sY;simp only[Ps.eq_2,aD (aC hx),aq,aB hx,ae,bQ sY,ah,am,aj hj];rcases Lq sY with hb|hb
   .refine⟨q,⟨h1,h2,h3,λk' hk'=>?_,h5,h6⟩,?_⟩
    .rw[take_succ hm,bm,ca]at hk';rcases hk' with hk'|rfl;.exact h4 k' hk'
     .exact hb
    .simp only[hb,ae,dk,af,E0 hb]
   .refine⟨(q.1.set m true,q.2++[m]),⟨⟨by simp[h1.len],(eW sY).2 (.inr h1.zero),λk' hk'=>?_⟩,λk' hk'=>?_,λk' hk'=>?_,λk' hk'=>?_,?_,(eW sY).2 (.inr h6)⟩,?_⟩
    .rcases(eW sY).1 hk' with rfl|hk';.exact .step O9 (aS hm)
     .exact h1.reach k' hk'
    .rw[<-bj,bm,ca]at hk';rcases hk' with hk'|rfl;.exact(eW sY).2 (.inr (h2 k' hk'))
     .exact(eW sY).2 (.inl rfl)
    .rcases(eW sY).1 hk' with rfl|hk';.exact .inl (by simp)
     .rcases h3 k' hk' with h|h|h;.exact .inl (by rw[<-bj];exact dt _ h)
      .exact .inr (.inl h)
      .exact .inr (.inr λk'' au2=>(eW sY).2 (.inr (h k'' au2)))
    .rw[take_succ hm,bm,ca]at hk';rcases hk' with hk'|rfl;.exact(eW sY).2 (.inr (h4 k' hk'))
     .exact(eW sY).2 (.inl rfl)
    .have:=uJ hb;simp only[bc,eK,m7];omega
    .have hlen:q.2.length<=s.length:=by have:=sy s;omega
     rw[h.base.len]at hlen;have:=hv.le;have hr:room ((cN (o++q.2)).length+1) 8=true:=ak (by rw[bR,bc];omega) (by omega);simp only[hb,ae,i5,aq,hr,ah];rw[<-bj,ve (o++q.2) [m]];rfl) (k:=N) (s:=(s,[])) ⟨h.base,λk hk=>h.yw k (by simp at hk;simp[hk]),λk hk=>by
      rcases h.shut k hk with h'|h'
      .simp at h';rcases h' with h'|h';.exact .inl (by simpa using h')
       .exact .inr (.inl h')
      .exact .inr (.inr h'),λk hk=>by simp at hk,by simp,hi⟩ (by rw[bR];have:=sx l i;omega);obtain⟨h1,h2,h3,h4,h5,h6⟩:=hI;refine⟨s',p,⟨h1,h2,λk hk=>?_⟩,h5,by simpa using he⟩;rcases h3 k hk with h|rfl|h;.grind
 .right;intro k' hk';have:(nx l k).take (cN (nx l k)).length=nx l k:=by rw[bR]<;>grind
  grind
 grind
def eN(l:List Instr):List Bool:=(List.range l.length).map λk=>decide (Reach l k)
def kN{l:List Instr}{k:Nat}(h:k<l.length):(eN l)[k]?=some (decide (Reach l k)):=by simp[eN,h]
def sA(l:List Instr):(eN l).length=l.length:=by simp[eN]
def Yd{l:List Instr}(hv:VC l){k:Nat}:T (eN l) k↔Reach l k:=by
 unfold T;by_cases h:k<l.length;.rw[kN h];simp
 .rw[eJ (by rw[sA];omega)];constructor;.grind
  .intro h';exact absurd (h'.lt hv) h
def RG{l:List Instr}{s:List Bool}(hl:s.length=l.length)(h:∀k,T s k↔Reach l k):s=eN l:=by
 apply lO;intro k;by_cases hk:k<l.length;.rw[kN hk];rcases Lq (b:=s) (i:=k) (by omega)with h1|h1<;>grind
 .rw[eJ (by omega),eJ (by rw[sA];omega)]
def RF.all{l:List Instr}{s:List Bool}(h:RF l s)(hs:∀i,T s i->∀k∈nx l i,T s k):s=eN l:=RG h.len λk=>⟨h.reach k,λhr=>by induction hr with|zero=>exact h.zero|step _ hk ih=>grind⟩
def zD(n:Nat):((List.replicate n false).set 0 true).length=n:=by simp
def kH{n:Nat}(h:1<=n)(k:Nat):T ((List.replicate n false).set 0 true) k↔k=0:=by grind
def zE{l:List Instr}(hv:VC l):RF l ((List.replicate l.length false).set 0 true):=⟨by simp,(kH hv.pos 0).2 rfl,λi hi=>by rw[(kH hv.pos i).1 hi];exact .zero⟩
def vf{n:Nat}(h1:1<=n)(h2:n<=10000000):au ((n:Int)-1)=((n-1:Nat):Int):=by rw[aJ (by omega)];omega
def sB{α:Type}{n:Nat}(h:1<=n)(x:α):(List.replicate n x)[0]?=some x:=by grind
def Iu{N:Nat}{l:List Instr}(hv:VC l)(hN:500<N):PH N N (l,(List.replicate l.length false).set 0 true,[(0:Int)])=some (eN l):=by
 have hle:=hv.le;obtain⟨s,hI,he⟩:=yw (Inv:=λs o=>InP l s o/\ga s+o.length<=300) (μ:=ga) (g:=λs=>s) (Lf:=λk s o=>PH N k (l,s,cN o)) (λk s _=>by rw[show cN []=[]from rfl,PH.eq_2];rfl) (λk s o i⟨h,hm⟩=>by
   rw[bc,dl]at hm;have hi:T s i:=h.yw i (by simp);have zU:i<l.length:=by rw[<-h.base.len];exact hi.lt
   obtain⟨s',p,h1,h2,h3⟩:=E1 hv hN h (by omega);refine⟨s',p,⟨h1,by rw[bc];omega⟩,h2,?_⟩;have hlen:(cN (o++[i])).length=o.length+1:=by simp[cN]
   have e1:au (((o.length+1:Nat):Int)-1)=(o.length:Int):=by rw[aJ (by omega)];omega
   have e2:(cN (o++[i]))[o.length]?=some (i:Int):=by simp[cN]
   have e3:(cN (o++[i])).take o.length=cN o:=by simp[cN]
   simp only[PH.eq_2,hlen,e1,bv (show((o.length+1:Nat):Int)>0 by omega),aq,bQ (show o.length<o.length+1by omega),ah,am,e2,ae,show decide ((0:Int)<=(o.length:Int))=true by simp,show decide (o.length<=o.length+1)=true by simp,NB hv zU,e3,h3]) N ((List.replicate l.length false).set 0 true) [0] ⟨⟨zE hv,λk hk=>by simp at hk;subst hk;exact(kH hv.pos 0).2 rfl,λi hi=>.inl (by rw[(kH hv.pos i).1 hi];simp)⟩,by have:=sy ((List.replicate l.length false).set 0 true);rw[zD]at this;simp only[dl];omega⟩ (by have:=sy ((List.replicate l.length false).set 0 true);rw[zD]at this;simp only[dl];omega);rw[show[(0:Int)]=cN [0]from rfl,he];congr 1;exact hI.1.base.all λi hi k hk=>by
  rcases hI.1.shut i hi with h|h;.simp at h
  .exact h k hk
def ahi{N:Nat}{l:List Instr}(hN:500<N)(hl:l.length<=9223372036854775807):UD N l=some (if kj l then((eN l).set (l.length-1) true,0)else([],8)):=by rw[UD.eq_1,NA (by omega) hl];cases h:kj l with|false=>rfl|true=>have hv:=yo h;have h1:=hv.pos;have h2:=hv.le;simp only[aq,show((0:Int)!=0)=false from rfl,af,kp,am,show decide ((0:Int)<=(l.length:Int))=true by simp,ah,bd,pm,ft,ak (show l.length<=10000000by omega) (show 1<=1000by omega),d6,show fM 0 l.length=true from bQ (i:=0) h1,show Int.toNat 0=0from rfl,sB h1,ae,Iu hv hN,sA,vf h1 (by omega),bQ (show l.length-1<l.length by omega),kN (show l.length-1<l.length by omega)]
def sub(a b:Nat):Prop:=∀k,a.testBit k=true->b.testBit k=true
def kD(a:Nat):sub a a:=λ_ h=>h
def gC{a b c:Nat}(h:sub a b)(k:sub b c):sub a c:=λi hi=>k i (h i hi)
def yy{a b:Nat}(h:sub a b)(k:sub b a):a=b:=Nat.eq_of_testBit_eq λi=>by
 cases h1:a.testBit i<;>cases h2:b.testBit i;.rfl
 .exact absurd (k i h2) (by rw[h1];decide)
 .exact absurd (h i h1) (by rw[h2];decide)
 .rfl
def A9(a b:Nat):sub a (a|||b):=λk h=>by grind
def yz(a b:Nat):sub b (a|||b):=λk h=>by grind
def NG{a b c:Nat}(h:sub a c)(k:sub b c):sub (a|||b) c:=λi hi=>by simp at hi;exact hi.elim (h i) (k i)
def or_mono{a b c d:Nat}(h:sub a c)(k:sub b d):sub (a|||b) (c|||d):=NG (gC h (A9 _ _)) (gC k (yz _ _))
def sC(a b:Nat):sub (a&&&b) a:=λk h=>by grind
def qA(a b:Nat):sub (a&&&b) b:=λk h=>by grind
def Iv{a b c:Nat}(h:sub a b)(k:sub a c):sub a (b&&&c):=λi hi=>by rw[Nat.testBit_and,h i hi,k i hi];rfl
def zero_sub(a:Nat):sub 0 a:=λk h=>by simp at h
def NH{a s:Nat}:a<2^s↔sub a (2^s-1):=by
 constructor
 .intro h k hk;rw[Nat.testBit_two_pow_sub_one];rcases i9 k s with h1|h1;.grind
  .rw[t6 (lj h (po (by omega) h1))]at hk<;>grind
 .intro h;refine Nat.lt_pow_two_of_testBit _ λk hk=>?_;cases hb:a.testBit k with|false=>rfl|true=>have:=h k hb<;>grind
def D6{a s t:Nat}(h:a<2^s)(hs:s<=t):a<2^t:=lj h (po (by omega) hs)
def D7{a:Nat}(h:a<2^64):IntKind.u64.wrap (a:Int)=(a:Int):=aQ (by omega)
def BN{a b:Nat}(ha:a<2^64)(hb:b<2^64):BD .u64 (a:Int) (b:Int)=((a|||b:Nat):Int):=by
 unfold BD;have e:(BitVec.ofNat 64 a|||BitVec.ofNat 64 b).toNat=a|||b:=by grind
 show IntKind.u64.wrap (((BitVec.ofNat 64 a|||BitVec.ofNat 64 b).toNat:Nat):Int)=_;rw[e,D7 (sm ha hb)]
def D8{a b:Nat}(ha:a<2^64)(hb:b<2^64):tZ .u64 (a:Int) (b:Int)=((a&&&b:Nat):Int):=by
 unfold tZ;have e:(BitVec.ofNat 64 a&&&BitVec.ofNat 64 b).toNat=a&&&b:=by grind
 show IntKind.u64.wrap (((BitVec.ofNat 64 a&&&BitVec.ofNat 64 b).toNat:Nat):Int)=_;rw[e,D7 (Nat.lt_of_le_of_lt Nat.and_le_left ha)]
def aaZ{s:Int}(h0:0<=s)(h:s<=15):aK ((1:Int)*(2^min (Int.toNat s) 64))=((2^s.toNat:Nat):Int):=by
 rw[ph (by omega),Hk];have:(2:Int)^s.toNat=((2^s.toNat:Nat):Int):=by simp
 rw[this];exact D7 (nf (by omega) (by omega))
def GI{n:Int}(h0:0<=n)(h:n<=16):aK ((aK ((1:Int)*(2^min (Int.toNat n) 64)))-1)=((2^n.toNat-1:Nat):Int):=by
 rw[ph (by omega),Hk];have e:(2:Int)^n.toNat=((2^n.toNat:Nat):Int):=by simp
 have h2:2^n.toNat<2^64:=nf (by omega) (by omega);have h3:1<=2^n.toNat:=Nat.one_le_two_pow;rw[e];rw[show aK ((2^n.toNat:Nat):Int)=((2^n.toNat:Nat):Int)from D7 h2];have e2:((2^n.toNat:Nat):Int)-1=((2^n.toNat-1:Nat):Int):=by omega
 rw[e2];exact D7 (by omega)
def uK(m:Nat)(s:Int):Nat:=m|||2^s.toNat
def gM(m:Nat)(l:List Int):Nat:=l.foldl uK m
def BO(l:List Int):Prop:=∀s∈l,0<=s/\s<=15
def Ba{l:List Int}(h:BO l):∀{m:Nat},m<2^16->gM m l<2^16:=by unfold gM;induction l with|nil=>grind|cons s r ih=>intro m hm;refine ih (λx hx=>h x (dp _ hx)) ?_;have:=h s ci;exact sm hm (nf (by omega) (by omega))
def Bb(l:List Int):∀m:Nat,gM m l=m|||gM 0 l:=by unfold gM;induction l with|nil=>simp|cons s r ih=>intro m;rw[zr,zr,ih (uK m s),ih (uK 0 s)];simp[uK,Nat.or_assoc]
def GJ{α σ β:Type}{l:List α}{Lf:Nat->Int->σ->Option β}{f:σ->α->σ}{g:σ->β}{Inv:σ->Prop}(h0:∀k s,Lf (k+1) (l.length:Int) s=some (g s))(hs:∀k(i:Nat)x s,l[i]?=some x->Inv s->Inv (f s x)/\Lf (k+1) (i:Int) s=Lf k ((i+1:Nat):Int) (f s x)){k:Nat}{s:σ}(h:Inv s)(hk:l.length<k):Lf k 0 s=some (g (l.foldl f s)):=by obtain⟨s',⟨_,h1⟩,h2⟩:=fI (l:=l) (Lf:=Lf) (g:=g) (Inv:=λi q=>Inv q/\q=(l.take i).foldl f s) (λk s _=>h0 k s) (λk i x q hx⟨h1,h2⟩=>by obtain⟨g1,g2⟩:=hs k i x q hx h1;exact⟨_,⟨g1,by rw[take_succ hx,List.foldl_append,h2];rfl⟩,g2⟩) (k:=k) (s:=s) ⟨h,rfl⟩ hk;grind
def Ye{m:Nat}(hm:m<2^16){s:Int}(h0:0<=s)(h:s<=15):BD .u64 (m:Int) (aK ((1:Int)*(2^min (Int.toNat s) 64)))=((uK m s:Nat):Int):=by rw[aaZ h0 h,BN (D6 hm (by omega)) (nf (by omega) (by omega))];rfl
def GK{m:Nat}(hm:m<2^16){s:Int}(h:s<=15):uK m s<2^16:=sm hm (nf (by omega) (by omega))
def kO(f:UInt8->Int->Bool)(x:Instr):(bu f x).length<=3:=by unfold bu one<;>grind
def au3{c:UInt8}(h:(U c).2.2.1=true\/(U c).2.2.2=true):(U c).2.1=15:=by
 unfold U at h⊢;repeat' split
 all_goals simp_all
def pR{x:Instr}(hc:eT x=true):BO (bu ny x)/\BO (bu qz x):=by unfold eT at hc;unfold bu;cases hs:yd x.1with|none=>grind|some t=>
 rw[hs]at hc;simp at hc;have Yf:∀{k:UInt8}{v s:Int}{q:Bool},fits k v=true->((U k).2.2.1=true\/(U k).2.2.2=true)->s∈one (decide (v>=0)) v->0<=s/\s<=15:=λhf hu hm=>by simp only[fits,ba,dj,au3 hu]at hf;unfold one at hm;rename_i v s _;cases h:decide (v>=0)with|false=>rw[h]at hm;cases hm|true=>rw[h]at hm;have:=dE h;simp only[aq,ca]at hm;omega
 have azk:∀{k:UInt8}{v s:Int},fits k v=true->s∈one (ny k v) v->0<=s/\s<=15:=λ{k v s}hf hm=>by unfold ny at hm;cases hu:(U k).2.2.1with|false=>rw[hu]at hm;cases hm|true=>rw[hu,ft]at hm;exact Yf (q:=true) hf (.inl hu) hm
 have azl:∀{k:UInt8}{v s:Int},fits k v=true->s∈one (qz k v) v->0<=s/\s<=15:=λ{k v s}hf hm=>by unfold qz at hm;cases hu:(U k).2.2.2with|false=>rw[hu]at hm;cases hm|true=>rw[hu,ft]at hm;exact Yf (q:=true) hf (.inr hu) hm
 constructor;.intro s hm;grind
 .intro s hm;grind
def Se(x:Instr):Nat:=gM 0 (bu qz x)
def Y4(x:Instr):Nat:=gM (gM 0 (bu ny x)) (bu qz x)
def ahj{x:Instr}(hc:eT x=true):Se x<2^16:=Ba (pR hc).2 (by omega)
def apk(x:Instr):sub (Se x) (Y4 x):=by unfold Y4 Se;rw[Bb (bu qz x) (gM 0 (bu ny x))];exact yz _ _
def Yg{N:Nat}{l:List Int}(hN:500<N)(hl:l.length<=3)(h:BO l):QH N l=some ((gM 0 l:Nat):Int):=by rw[QH.eq_1];have:=GJ (l:=l) (f:=uK) (g:=λm:Nat=>(m:Int)) (Inv:=λm=>m<2^16) (Lf:=λk i(m:Nat)=>ay4 N k ((m:Int),l,(l.length:Int),i)) (λk s=>by simp only[ay4.eq_2,aG,af]) (λk i x s hx hs=>by have hx2:=h x (aS hx);exact⟨GK hs hx2.2,by simp only[ay4.eq_2,aD (aC hx),aq,aB hx,ae,show(!decide (x<0))=true by simp;omega,ah,Ye hs hx2.1 hx2.2,aj (show i<9223372036854775807by have:=aC hx;omega)]⟩) (k:=N) (s:=0) (by omega) (by omega);simp at this;rw[this];rfl
def oq(l:List Instr)(most:Nat):Bool:=!(l.any λx=>decide (¬Y4 x<2^most))
def Lr(l:List Instr)(params most:Int):Int:=if most<0\/most>16\/params<0\/params>most then 2 else if oq l most.toNat then 0 else 16
def or4(a b c d:Bool):(bif a then some true else bif b then some true else bif c then some true else some d:Option Bool)=some (a||(b||(c||d))):=by grind
def aa0(params most:Int):(decide (most<0)||(decide (most>16)||(decide (params<0)||decide (params>most))))=decide (most<0\/most>16\/params<0\/params>most):=by grind
def Bp:Nat->(Nat->Nat)->Nat|0,_=>0|n+1,f=>Bp n f+f n
def NI{n:Nat}{f g:Nat->Nat}(h:∀k,k<n->f k=g k):Bp n f=Bp n g:=by induction n with|zero=>rfl|succ n ih=>simp only[Bp]<;>grind
def D9{n m:Nat}{f g:Nat->Nat}(hm:m<n)(h:∀k,k≠m->f k=g k):Bp n f+g m=Bp n g+f m:=by induction n with|zero=>omega|succ n ih=>
 simp[Bp];by_cases he:m=n;.subst he;rw[NI (f:=f) (g:=g) λk hk=>h k (by omega)];omega
 grind
def Pa{n b:Nat}{f:Nat->Nat}(h:∀k,f k<=b):Bp n f<=n*b:=by induction n with|zero=>simp[Bp]|succ n ih=>simp only[Bp]<;>grind
def O(o:List Nat)(k:Nat):Nat:=o.getD k 0
def Pb{o:List Nat}{k:Nat}(h:k<o.length):o[k]?=some (O o k):=by simp only[O,da,aw h];rfl
def gq{o:List Nat}{m v k:Nat}(h:m<o.length):O (o.set m v) k=if k=m then v else O o k:=by simp only[O,da,nn]<;>grind
def gV{o:List Nat}{k:Nat}(h:k<o.length):(cN o)[k]?=some ((O o k:Nat):Int):=by simp[cN,eI,Pb h,cf]
def sD(o:List Nat)(m v:Nat):(cN o).set m (v:Int)=cN (o.set m v):=by simp[cN,List.map_set]
def apl{a b:List Nat}(h:a.length=b.length)(hk:∀k,k<a.length->O a k=O b k):a=b:=by
 apply lO;intro k;by_cases h1:k<a.length;.rw[Pb h1,Pb (by omega),hk k h1]
 grind
def apm{o:List Nat}{m:Nat}(h:m<o.length):o.set m (O o m)=o:=DK (Pb h)
def wr(l:List Instr)(i:Nat):Nat:=match l[i]?with|some x=>Se x|none=>0
def Y5(l:List Instr)(P:Nat)(S:Nat->Nat):Prop:=sub (S 0) P/\∀i,Reach l i->∀k∈nx l i,sub (S k) (S i|||wr l i)
structure Ea(l:List Instr)(P F:Nat)(G:Nat->Nat):Prop where
 sol:Y5 l P G
 LW:∀k,sub (G k) F
 most:∀S,Y5 l P S->∀k,Reach l k->sub (S k) (G k)
def Ea.eq{l:List Instr}{P F:Nat}{G H:Nat->Nat}(h:Ea l P F G)(hs:Y5 l P H)(hm:∀S,Y5 l P S->(∀k,sub (S k) F)->∀k,Reach l k->sub (S k) (H k)){k:Nat}(hk:Reach l k):G k=H k:=yy (hm G h.sol h.LW k hk) (h.most H hs k hk)
structure VM(l:List Instr)(P F p s:Nat):Prop where
 v:VC l
 le:l.length<=200sle:s<=16ps:p<=s
 eP:P=2^p-1
 eF:F=2^s-1us:∀(i:Nat)x,l[i]?=some x->Y4 x<2^s
def VM.PF{l:List Instr}{P F p s:Nat}(h:VM l P F p s):sub P F:=by rw[h.eF];refine NH.1 ?_;rw[h.eP];have:2^p<=2^s:=po (by omega) h.ps<;>grind
def VM.wF{l:List Instr}{P F p s:Nat}(h:VM l P F p s)(i:Nat):sub (wr l i) F:=by
 unfold wr;split;.rename_i x hx;rw[h.eF];exact gC (apk x) (NH.1 (h.us i x hx))
 .exact zero_sub _
def VM.lt{l:List Instr}{P F p s a:Nat}(h:VM l P F p s)(ha:sub a F):a<65536:=by rw[h.eF]at ha;exact D6 (NH.2 ha) h.sle
structure Lv(l:List Instr)(P F:Nat)(b:List Bool)(o:List Nat):Prop where
 Y6:RF l b
 len:o.length=l.length
 LW:∀k,sub (O o k) F
 p0:sub (O o 0) P
 un:∀k,¬T b k->O o k=0uL:∀S,Y5 l P S->∀k,T b k->sub (S k) (O o k)
structure LvP(l:List Instr)(P F:Nat)(b:List Bool)(o q:List Nat):Prop where
 lv:Lv l P F b o
 yw:∀k∈q,T b k
 shut:∀i,T b i->i∈q\/∀k∈nx l i,T b k/\sub (O o k) (O o i|||wr l i)
def mu(n:Nat)(b:List Bool)(o:List Nat):Nat:=Bp n λk=>if T b k then O o k else 65536
def ahk{n m v:Nat}{b:List Bool}{o:List Nat}(hm:m<n)(hb:b.length=n)(ho:o.length=n)(hf:¬T b m)(hv:v<65536):mu n (b.set m true) (o.set m v)+1<=mu n b o:=by
 have:=D9 (n:=n) (m:=m) (f:=λk=>if T (b.set m true) k then O (o.set m v) k else 65536) (g:=λk=>if T b k then O o k else 65536) hm (λk hk=>by
  simp only[gq (show m<o.length by omega),bi hk];by_cases h:T b k;.rw[be h,be ((eW (by omega)).2 (.inr h))]
  .rw[bi h,bi λh'=>((eW (by omega)).1 h').elim hk h]);rw[bi hf,be ((eW (show m<b.length by omega)).2 (.inl rfl):T (b.set m true) m),gq (show m<o.length by omega),be rfl]at this;unfold mu;omega
def aa1{n m v:Nat}{b:List Bool}{o:List Nat}(hm:m<n)(ho:o.length=n)(hf:T b m)(hv:v<O o m):mu n b (o.set m v)+1<=mu n b o:=by have:=D9 (n:=n) (m:=m) (f:=λk=>if T b k then O (o.set m v) k else 65536) (g:=λk=>if T b k then O o k else 65536) hm (λk hk=>by simp only[gq (show m<o.length by omega),bi hk]);rw[be hf,be hf,gq (show m<o.length by omega),be rfl]at this;unfold mu;omega
def yA{a b:Nat}(h:a&&&b≠a):a&&&b<a:=Nat.lt_of_le_of_ne Nat.and_le_left h
def Ls{N:Nat}{l:List Instr}{P F p s:Nat}(hv:VM l P F p s)(hN:500<N){b:List Bool}{o q:List Nat}{i:Nat}{ws:List Nat}(CR:∀k,O ws k=wr l k)(hwl:ws.length=l.length)(h:LvP l P F b o (q++[i]))(hq:mu l.length b o+q.length<=14000000):∃b' o' r,LvP l P F b' o' (q++r)/\mu l.length b' o'+r.length<=mu l.length b o/\Id N N (l,(i:Int),cN (nx l i),((cN (nx l i)).length:Int),0,(p:Int),b,cN o,cN ws,cN q)=some (l,(p:Int),b',cN o',cN ws,cN (q++r)):=by
 have hi:T b i:=h.yw i (by simp);have O9:=h.lv.Y6.reach i hi;have zU:i<l.length:=O9.lt hv.v;have hnl:=sx l i;have Iw:∀{a:Nat},sub a F->a<2^64:=λha=>lj (hv.lt ha) (by omega);obtain⟨⟨b',o',r⟩,hI,he⟩:=fI (l:=cN (nx l i)) (g:=λt:List Bool×List Nat×List Nat=>(l,(p:Int),t.1,cN t.2.1,cN ws,cN (q++t.2.2))) (Inv:=λj t=>Lv l P F t.1 t.2.1/\(∀k∈q++t.2.2,T t.1 k)/\(∀k,T t.1 k->k∈q++t.2.2\/k=i\/∀k'∈nx l k,T t.1 k'/\sub (O t.2.1 k') (O t.2.1 k|||wr l k))/\(∀k∈(nx l i).take j,T t.1 k/\sub (O t.2.1 k) (O o i|||wr l i))/\mu l.length t.1 t.2.1+t.2.2.length<=mu l.length b o/\T t.1 i/\O t.2.1 i=O o i) (Lf:=λk j t=>Id N k (l,(i:Int),cN (nx l i),((cN (nx l i)).length:Int),j,(p:Int),t.1,cN t.2.1,cN ws,cN (q++t.2.2))) (λk t _=>by simp only[Id.eq_2,aG,af]) (λk j x t hx⟨h1,h2,h3,h4,h5,h6,h7⟩=>by
   obtain⟨b1,o1,r1⟩:=t;simp only at h1 h2 h3 h4 h5 h6 h7;obtain⟨m,hm,rfl⟩:=zC hx;have hml:=A6 hv.v (aS hm);have hmb:m<b1.length:=by rw[h1.Y6.len];exact hml
   have hmo:m<o1.length:=by rw[h1.len];exact hml
   have hio:i<o1.length:=by rw[h1.len];exact zU
   have hiw:i<ws.length:=by rw[hwl];exact zU
   have hj:j<9223372036854775807:=by have:=aC hm;omega
   have hlF:sub (O o1 i|||wr l i) F:=NG (h1.LW i) (hv.wF i);have hr:room ((cN (q++r1)).length+1) 8=true:=OT (by rw[bR,bc];omega) (by rw[bR,bc];omega);simp only[Id.eq_2,aD (aC hm),aq,aB hx,ae,show decide ((i:Int)<0)=false by simp,af,bR,bQ hio,bQ hiw,bQ hmb,bQ hmo,ah,am,gV hio,gV hiw,CR,BN (Iw (h1.LW i)) (Iw (hv.wF i)),aj hj];have hle:∀k∈(nx l i).take (j+1),k∈(nx l i).take j\/k=m:=λk hk=>by rw[take_succ hm,bm,ca]at hk;exact hk
   rcases Lq hmb with hb|hb
   .have hbT:T b1 m:=hb;simp only[hb,ae,dk,af,gV hmo,sD,D8 (Iw (h1.LW m)) (Iw hlF),bR,y0,bQ hmo,ah,gV (show m<(o1.set m (O o1 m&&&(O o1 i|||wr l i))).length by simp;exact hmo),gq hmo,kp];by_cases hnew:O o1 m&&&(O o1 i|||wr l i)=O o1 m
    .rw[hnew,apm hmo];refine⟨(b1,o1,r1),⟨h1,h2,h3,λk hk=>?_,h5,h6,h7⟩,by simp⟩;rcases hle k hk with hk|rfl;.exact h4 k hk
     .refine⟨hbT,?_⟩;have:=qA (O o1 k) (O o1 i|||wr l i);simp only;rw[hnew]at this;rw[<-h7];exact this
    .have hmi:m≠i:=λe=>hnew (by subst e;exact yy (sC _ _) (Iv (kD _) (A9 _ _)));have hlt:=yA hnew;have PY:∀k,sub (O (o1.set m (O o1 m&&&(O o1 i|||wr l i))) k) (O o1 k):=λk=>by
      rw[gq hmo];split;.rename_i e;subst e;exact sC _ _
      .exact kD _
     refine⟨(b1,o1.set m (O o1 m&&&(O o1 i|||wr l i)),r1++[m]),⟨⟨h1.Y6,by simp[h1.len],λk=>gC (PY k) (h1.LW k),gC (PY 0) h1.p0,λk hk=>?_,λS hS k hk=>?_⟩,λk hk=>?_,λk hk=>?_,λk hk=>?_,?_,h6,?_⟩,?_⟩;.rw[gq hmo,bi (λe=>hk (by rw[e];exact hbT))];exact h1.un k hk
     .rw[gq hmo];split;.rename_i e;subst e;exact Iv (h1.uL S hS k hk) (gC (hS.2 i O9 k (aS hm)) (or_mono (h1.uL S hS i h6) (kD _)))
      .exact h1.uL S hS k hk
     .simp only at hk;rw[<-bj,bm,ca]at hk;rcases hk with hk|rfl;.exact h2 k hk
      .exact hbT
     .simp only;by_cases hkm:k=m;.subst hkm;exact .inl (by simp)
      .rcases h3 k hk with g|g|g;.exact .inl (by rw[<-bj];exact dt _ g)
       .exact .inr (.inl g)
       .refine .inr (.inr λk' hk'=>⟨(g k' hk').1,?_⟩);rw[gq hmo (k:=k),bi hkm];exact gC (PY k') (g k' hk').2
     .simp only;rcases hle k hk with hk|rfl;.exact⟨(h4 k hk).1,gC (PY k) (h4 k hk).2⟩
      .refine⟨hbT,?_⟩;rw[gq hmo,be rfl,<-h7];exact qA _ _
     .have:=aa1 (n:=l.length) hml h1.len hbT hlt;simp only[bc,dl];omega
     .simp only;rw[gq hmo,bi (pD hmi)];exact h7
     .rw[show(((O o1 m&&&(O o1 i|||wr l i):Nat):Int)!=((O o1 m:Nat):Int))=true by simp[bne];omega,aq,show room ((q++r1).length+1) 8=true by rw[bR]at hr;exact hr,ah,<-bj,ve (q++r1) [m]];rfl
   .have hbF:¬T b1 m:=λe=>by unfold T at e;rw[hb]at e;cases e
    have hmi:m≠i:=λe=>hbF (by rw[e];exact h6);simp only[hb,ae,i5,aq,gV hmo,ah,sD,show room ((q++r1).length+1) 8=true by rw[bR]at hr;exact hr];refine⟨(b1.set m true,o1.set m (O o1 i|||wr l i),r1++[m]),⟨⟨⟨by simp[h1.Y6.len],(eW hmb).2 (.inr h1.Y6.zero),λk hk=>?_⟩,by simp[h1.len],λk=>?_,?_,λk hk=>?_,λS hS k hk=>?_⟩,λk hk=>?_,λk hk=>?_,λk hk=>?_,?_,(eW hmb).2 (.inr h6),?_⟩,?_⟩
    .rcases(eW hmb).1 hk with rfl|hk;.exact .step O9 (aS hm)
     .exact h1.Y6.reach k hk
    .rw[gq hmo];split;.exact hlF
     .exact h1.LW k
    .rw[gq hmo,bi (λe=>hbF (by rw[<-e];exact h1.Y6.zero))];exact h1.p0
    .rw[gq hmo,bi (λe=>hk ((eW hmb).2 (.inl e)))];exact h1.un k λh'=>hk ((eW hmb).2 (.inr h'))
    .rw[gq hmo];split;.rename_i e;subst e;exact gC (hS.2 i O9 k (aS hm)) (or_mono (h1.uL S hS i h6) (kD _))
     .rename_i e;rcases(eW hmb).1 hk with hk|hk;.exact absurd hk e
      .exact h1.uL S hS k hk
    .simp only at hk;rw[<-bj,bm,ca]at hk;rcases hk with hk|rfl;.exact(eW hmb).2 (.inr (h2 k hk))
     .exact(eW hmb).2 (.inl rfl)
    .simp only at hk⊢;rcases(eW hmb).1 hk with rfl|hk;.exact .inl (by simp)
     .rcases h3 k hk with g|g|g;.exact .inl (by rw[<-bj];exact dt _ g)
      .exact .inr (.inl g)
      .refine .inr (.inr λk' hk'=>⟨(eW hmb).2 (.inr (g k' hk').1),?_⟩);rw[gq hmo,gq hmo,bi (λe=>hbF (by rw[<-e];exact(g k' hk').1)),bi (λe=>hbF (by rw[<-e];exact hk))];exact(g k' hk').2
    .simp only;rcases hle k hk with hk|rfl;.refine⟨(eW hmb).2 (.inr (h4 k hk).1),?_⟩;rw[gq hmo,bi (λe=>hbF (by rw[<-e];exact(h4 k hk).1))];exact(h4 k hk).2
     .refine⟨(eW hmb).2 (.inl rfl),?_⟩;rw[gq hmo,be rfl,h7];exact kD _
    .have:=ahk (n:=l.length) hml h1.Y6.len h1.len hbF (hv.lt hlF);simp only[bc,dl];omega
    .simp only;rw[gq hmo,bi (pD hmi)];exact h7
    .rw[<-bj,ve (q++r1) [m]];rfl) (k:=N) (s:=(b,o,[])) ⟨h.lv,λk hk=>h.yw k (by simp at hk;simp[hk]),λk hk=>by
   rcases h.shut k hk with h'|h'
   .simp at h';rcases h' with h'|h';.exact .inl (by simpa using h')
    .exact .inr (.inl h')
   .exact .inr (.inr h'),λk hk=>by simp at hk,by simp,hi,rfl⟩ (by rw[bR];omega);obtain⟨h1,h2,h3,h4,h5,h6,h7⟩:=hI;refine⟨b',o',r,⟨h1,h2,λk hk=>?_⟩,h5,by simpa using he⟩;rcases h3 k hk with g|rfl|g;.grind
 .right;intro k' hk';rw[h7];exact h4 k' (by rw[bR,f9];exact hk')
 grind
def apr{n:Nat}{b:List Bool}{o:List Nat}(h:∀k,O o k<65536):mu n b o<=n*65536:=Pa λk=>by grind
def Yh(n k:Nat):O (List.replicate n 0) k=0:=by simp only[O,da,ka]<;>grind
def Yi(n:Nat):List.replicate n (0:Int)=cN (List.replicate n 0):=by simp[cN]
def ql(l:List Instr)(G:Nat->Nat):List Nat:=(List.range l.length).map λk=>if Reach l k/\k≠l.length-1then G k else 0
def zF(l:List Instr)(G:Nat->Nat):(ql l G).length=l.length:=by simp[ql]
def GL{l:List Instr}{G:Nat->Nat}{k:Nat}(h:k<l.length):O (ql l G) k=if Reach l k/\k≠l.length-1then G k else 0:=by simp[O,da,ql,h]
def Lt{l:List Instr}{G:Nat->Nat}{o:List Nat}(hl:o.length=l.length)(h:∀k,k<l.length->O o k=if Reach l k/\k≠l.length-1then G k else 0):o=ql l G:=apl (by rw[hl,zF]) λk hk=>by rw[h k (by omega),GL (by omega)]
def NJ{N:Nat}{l:List Instr}{P F p s:Nat}(hv:VM l P F p s)(hN:14000000<N){ws:List Nat}(CR:∀k,O ws k=wr l k)(hwl:ws.length=l.length):∃G o,Ea l P F G/\o.length=l.length/\(∀k,k<l.length->O o k=if Reach l k then G k else 0)/\ST N N (l,(p:Int),(List.replicate l.length false).set 0 true,(cN (List.replicate l.length 0)).set 0 (P:Int),cN ws,[(0:Int)])=some (cN o):=by
 have hpos:=hv.v.pos;have hle:=hv.le;have hP:sub P F:=hv.PF;have hO0:∀k,O ((List.replicate l.length 0).set 0 P) k=if k=0then P else 0:=λk=>by rw[gq (by simp;omega),Yh]
 have start:Lv l P F ((List.replicate l.length false).set 0 true) ((List.replicate l.length 0).set 0 P):=⟨zE hv.v,by simp,λk=>by
   rw[hO0];split;.exact hP
   .exact zero_sub _,by rw[hO0,be rfl];exact kD _,λk hk=>by rw[hO0,bi λe=>hk ((kH hpos k).2 e)],λS hS k hk=>by rw[(kH hpos k).1 hk,hO0,be rfl];exact hS.1⟩;have hmu:∀b o,Lv l P F b o->mu l.length b o<=13200000:=λb o h=>by have:=apr (n:=l.length) (b:=b) (o:=o) λk=>hv.lt (h.LW k);omega
 obtain⟨⟨b,o⟩,hI,he⟩:=yw (Inv:=λt q=>LvP l P F t.1 t.2 q/\mu l.length t.1 t.2+q.length<=13200001) (μ:=λt=>mu l.length t.1 t.2) (g:=λt=>cN t.2) (Lf:=λk t q=>ST N k (l,(p:Int),t.1,cN t.2,cN ws,cN q)) (λk t _=>by rw[show cN []=[]from rfl,ST.eq_2];rfl) (λk t q i⟨h,hm⟩=>by
   rw[bc,dl]at hm;have hi:T t.1 i:=h.yw i (by simp);have zU:i<l.length:=by rw[<-h.lv.Y6.len];exact hi.lt
   obtain⟨b',o',r,h1,h2,h3⟩:=Ls (N:=N) hv (by omega) CR hwl h (by omega);refine⟨(b',o'),r,⟨h1,by rw[bc];simp only;omega⟩,h2,?_⟩;have hlen:(cN (q++[i])).length=q.length+1:=by simp[cN]
   have e1:au (((q.length+1:Nat):Int)-1)=(q.length:Int):=by rw[aJ (by omega)];omega
   have e2:(cN (q++[i]))[q.length]?=some (i:Int):=by simp[cN]
   have e3:(cN (q++[i])).take q.length=cN q:=by simp[cN]
   simp only[ST.eq_2,hlen,e1,bv (show((q.length+1:Nat):Int)>0 by omega),aq,bQ (show q.length<q.length+1by omega),ah,am,e2,ae,show decide ((0:Int)<=(q.length:Int))=true by simp,show decide (q.length<=q.length+1)=true by simp,NB hv.v zU,e3,h3]) N ((List.replicate l.length false).set 0 true,(List.replicate l.length 0).set 0 P) [0] ⟨⟨start,λk hk=>by simp at hk;subst hk;exact(kH hpos 0).2 rfl,λi hi=>.inl (by rw[(kH hpos i).1 hi];simp)⟩,by have:=hmu _ _ start;simp only[dl];omega⟩ (by have:=hmu _ _ start;simp only[dl];omega);obtain⟨⟨h1,h2,h3⟩,_⟩:=hI;have hsh:∀i,T b i->∀k∈nx l i,T b k/\sub (O o k) (O o i|||wr l i):=λi hi=>by
  rcases h3 i hi with g|g;.simp at g
  .exact g
 have hall:=h1.Y6.all λi hi k hk=>(hsh i hi k hk).1;have hT:∀k,T b k↔Reach l k:=λk=>by simp only at hall;rw[hall];exact Yd hv.v
 refine⟨O o,o,⟨⟨h1.p0,λi hi k hk=>(hsh i ((hT i).2 hi) k hk).2⟩,h1.LW,λS hS k hk=>h1.uL S hS k ((hT k).2 hk)⟩,h1.len,λk hk=>?_,by rw[show[(0:Int)]=cN [0]from rfl,sD];exact he⟩;split;.rfl
 .rename_i hn;exact h1.un k λh=>hn ((hT k).1 h)
def fdiv_pow{a s:Nat}(hs:s<=16):(Int.fdiv (a:Int) (2^min (Int.toNat (s:Int)) 64)!=0)=decide (¬a<2^s):=by
 rw[am,ph (by omega)];have e:(2:Int)^s=((2^s:Nat):Int):=by simp
 have hp:=Nat.one_le_two_pow (n:=s);rw[e,se _ (Int.natCast_nonneg _),<-Int.natCast_ediv];by_cases h:a<2^s;.rw[Nat.div_eq_of_lt h,cb (not_not.2 h)];rfl
 .rw[bv h];have:a/2^s≠0:=λe=>by
   rw[Nat.div_eq_zero_iff]at e;rcases e with e|e;.omega
   .exact h e
  grind
def Yj{l:List Instr}{i:Nat}{x:Instr}(h:l[i]?=some x):wr l i=Se x:=by simp[wr,h]
def Ix{N:Nat}{l:List Instr}(hv:VC l)(hN:500<N){p s:Nat}(hs:s<=16):if oq l s then∃ws:List Nat,(∀k,O ws k=wr l k)/\ws.length=l.length/\So N N (l,(s:Int),l,(l.length:Int),0,(p:Int),cN (List.replicate l.length 0))=some (.inr (l,(p:Int),cN ws))else So N N (l,(s:Int),l,(l.length:Int),0,(p:Int),cN (List.replicate l.length 0))=some (.inl 16):=by
 have hle:=hv.le;have key:=cL (l:=l) (Out:=λr=>r=.inl 16/\oq l s=false) (g:=λws:List Nat=>(.inr (l,(p:Int),cN ws):Int⊕(List Instr×Int×List Int))) (Inv:=λj ws=>ws.length=l.length/\(∀k,O ws k=if k<j then wr l k else 0)/\∀k x,k<j->l[k]?=some x->Y4 x<2^s) (Lf:=λk i ws=>So N k (l,(s:Int),l,(l.length:Int),i,(p:Int),cN ws)) (λk ws _=>by simp only[So.eq_2,aG,af]) (λk j x ws hx⟨h1,h2,h3⟩=>by
   have hj:=aC hx;have hc:=hv.aH j x hx;have hw:j<ws.length:=by omega
   have zd:=pR hc;have e1:(cN ws).set j ((gM 0 (bu qz x):Nat):Int)=cN (ws.set j (Se x)):=sD _ _ _;have CR:j<(ws.set j (Se x)).length:=by simp;exact hw
   have ahl:∀{a:Nat},a<2^16->a<2^64:=λh=>D6 h (by omega);simp only[So.eq_2,aD hj,aq,aB hx,ae,Ny,hc,show((0:Int)!=0)=false from rfl,af,Yg hN (kO qz x) zd.2,Yg hN (kO ny x) zd.1,bR,bQ hw,ah,am,gV hw,e1,bQ CR,gV CR,gq hw,kp,BN (ahl (Ba (m:=0) zd.1 (by omega))) (ahl (ahj hc)),show(!decide ((s:Int)<0))=true by simp];have hu:gM 0 (bu ny x)|||Se x=Y4 x:=by rw[Y4,Bb (bu qz x)];rfl
   rw[hu];have hf:=fdiv_pow (a:=Y4 x) hs;rw[am]at hf;simp only[hf];by_cases hsu:Y4 x<2^s
   .right;rw[cb (not_not.2 hsu),af];refine⟨ws.set j (Se x),⟨by simp[h1],λk=>?_,λk y hk hy=>?_⟩,by rw[aj (by omega)]⟩
    .rw[gq hw,h2];by_cases hk:k=j;.subst hk;rw[be rfl,be (by omega),Yj hx]
     .rw[bi hk];by_cases hk2:k<j;.rw[be hk2,be (by omega)]
      .rw[bi hk2,bi (by omega)]
    .by_cases hk2:k=j;.subst hk2;rw[hx]at hy;injection hy with hy;subst hy;exact hsu
     .exact h3 k y (by omega) hy
   .left;rw[bv hsu,aq];refine⟨_,⟨rfl,?_⟩,rfl⟩;simp only[oq,pB,mn,dj];exact⟨x,aS hx,hsu⟩) (k:=N) (s:=List.replicate l.length 0) ⟨by simp,λk=>by rw[Yh,bi (by omega)],λk x hk=>by omega⟩ (by omega);rcases key with⟨r,⟨h1,h2⟩,h3⟩|⟨ws,⟨h1,h2,h3⟩,h4⟩;.grind
 .have hb:oq l s=true:=by simp only[oq,fr,ss,dj,not_not];intro x hx;obtain⟨i,hi,rfl⟩:=jp.1 hx<;>simp_all
  rw[hb];refine⟨ws,λk=>?_,h1,h4⟩;rw[h2];split;.rfl
  .rw[wr,eJ (by omega)]
def Yk{N:Nat}{l:List Instr}(hN:14000000<N)(hl:l.length<=9223372036854775807)(Ir:kj l=true->l.length<=200)(params most:Int):if kj l then if Lr l params most=0then∃G,VM l (2^params.toNat-1) (2^most.toNat-1) params.toNat most.toNat/\Ea l (2^params.toNat-1) (2^most.toNat-1) G/\KA N (l,params,most)=some (cN (ql l G),0)else KA N (l,params,most)=some ([],Lr l params most)else KA N (l,params,most)=some ([],8):=by rw[KA.eq_1,NA (by omega) hl];cases h:kj l with|false=>rfl|true=>
  have hv:=yo h;have h1:=hv.pos;have h2:=Ir h;simp only[aq,show((0:Int)!=0)=false from rfl,af,kp,or4,aa0,ae];unfold Lr;by_cases ha:most<0\/most>16\/params<0\/params>most;.rw[be ha,bv ha,aq,bi (by decide)]
  .rw[bi ha,cb ha,af];simp only[tl,Int.not_lt]at ha;obtain⟨s,rfl⟩:∃s:Nat,most=(s:Int):=⟨most.toNat,by omega⟩;obtain⟨p,rfl⟩:∃p:Nat,params=(p:Int):=⟨params.toNat,by omega⟩;have hs:s<=16:=by omega
   have hps:p<=s:=by omega
   simp only[am,show decide ((0:Int)<=(l.length:Int))=true by simp,ah,bd,pm,ft,ak (show l.length<=10000000by omega) (show 8<=1000by omega),ak (show l.length<=10000000by omega) (show 1<=1000by omega),Yi];have key:=Ix (N:=N) hv (by omega) (p:=p) hs;by_cases hb:oq l s=true;case neg=>rw[bi hb]at key;rw[bi (show¬(if oq l s=true then(0:Int)else 16)=0 by rw[bi hb];decide),bi hb,key];rfl
   case pos=>
    rw[be hb]at key;rw[be (show(if oq l s=true then(0:Int)else 16)=0 by rw[be hb])];obtain⟨ws,k1,k2,k3⟩:=key;have hVM:VM l (2^p-1) (2^s-1) p s:=⟨hv,h2,hs,hps,rfl,rfl,λi x hx=>by simp only[oq,fr,ss,dj,not_not]at hb;exact hb x (aS hx)⟩;obtain⟨G,o,g1,g2,g3,g4⟩:=NJ hVM hN k1 k2;refine⟨G,hVM,g1,?_⟩;have e0:aK ((aK ((1:Int)*(2^min p 64)))-1)=((2^p-1:Nat):Int):=GI (n:=(p:Int)) (by omega) (by omega);have Yl:au ((o.length:Int)-1)=((l.length-1:Nat):Int):=by rw[g2];exact vf h1 (by omega)
    simp only[k3,ae,am,show decide ((0:Int)<=(l.length:Int))=true by simp,ah,bd,pm,ft,ak (show l.length<=10000000by omega) (show 8<=1000by omega),ak (show l.length<=10000000by omega) (show 1<=1000by omega),show(!decide ((p:Int)<0))=true by simp,d6,bR,show fM 0 l.length=true from bQ (i:=0) h1,show Int.toNat 0=0from rfl,sB h1,gV (show 0<(List.replicate l.length 0).length by simp;omega),e0,g4,Yl,bQ (show l.length-1<o.length by omega),gV (show l.length-1<o.length by omega)];congr 2;rw[show(0:Int)=((0:Nat):Int)from rfl,sD];congr 1;refine Lt (by simp[g2]) λk hk=>?_;rw[gq (by omega)];by_cases SY:k=l.length-1;.rw[be SY,bi (λh'=>h'.2 SY)]
    .rw[bi SY,g3 k hk];by_cases hr:Reach l k;.rw[be hr,be ⟨hr,SY⟩]
     .rw[bi hr,bi (λh'=>hr h'.1)]
def wJ(N:Nat){x:Instr}(hc:eT x=true):Nf N (x.1,x.2.1,x.2.2.1,x.2.2.2)=some (bu ny x,bu qz x):=by rw[Nf.eq_1,uA];unfold bu;cases hs:yd x.1with|none=>simp[eT,hs]at hc|some s=>obtain⟨a,b,c⟩:=s;obtain⟨h1,h2,h3⟩:=Nl hs;have e0:idx [a,b,c] 0=some a:=rfl;have e1:idx [a,b,c] 1=some b:=rfl;have e2:idx [a,b,c] 2=some c:=rfl;simp only[ae,KG.eq_1,e0,e1,e2,XZ h1,XZ h2,XZ h3,X0 h1,X0 h2,X0 h3];cases ny a x.2.1<;>cases qz a x.2.1<;>cases ny b x.2.2.1<;>cases qz b x.2.2.1<;>cases ny c x.2.2.2<;>cases qz c x.2.2.2<;>rfl
def NK{N:Nat}{l:List Instr}(hN:210<N)(hl:l.length<=9223372036854775807)(hx:∀x∈l,okI x):Wa N l=some (bif kj l then 0 else 8):=by
 rw[Wa.eq_1];unfold kj;by_cases h1:1<=l.length
 .rw[show decide ((l.length:Int)<1)=false by simp;omega,af,bv h1,ae];by_cases h2:l.length<=200;.rw[show decide ((l.length:Int)>200)=false by simp;omega,af,bv h2];have key:=KN (l:=l) (a:=(.inr l:Int⊕List Instr)) (b:=.inl 8) (p:=Nz (l.length:Int)) (Lf:=λk i=>aA9 N k (l,i)) (λk=>by simp only[aA9.eq_2,aG,af]) (λk i x hm hi=>by simp only[aA9.eq_2,aD (aC hi),aq,aB hi,ae,DM N (hx x hm),O5,aj (show i<9223372036854775807by have:=aC hi;omega)];cases h1:eT x<;>cases h2:Li (l.length:Int) x<;>simp[Nz,h1,h2]) N (by omega);rw[key];cases l.any (Nz (l.length:Int))with|true=>rfl|false=>simp only[kv,n3,Lj h1 hl,ae];show(bif !(X4 (A5 l))then _ else _)=_;grind
  grind
 grind
def zG{N:Nat}{l:List Instr}(h:VC l){i:Nat}(hi:i<l.length):QY N (l,(i:Int))=some (cN (nx l i)):=by exact X7 h hi
def RH{N:Nat}{l:List Instr}(hv:VC l)(hN:500<N){c:Bool}{s:List Bool}{i:Nat}(zU:i<l.length)(h:RF l s):∃s' c',RF l s'/\(c'=false->c=false/\s'=s/\(T s i->∀k∈nx l i,T s k))/\ga s'<=ga s/\(c'=true->c=true\/ga s'<ga s)/\Nm N N (l,c,(i:Int),cN (nx l i),0,s)=some (l,c',(i:Int),s'):=by
 have azo:=sx l i;rcases Lq (b:=s) (i:=i) (by rw[h.len];exact zU)with hb|hb
 .have O9:=h.reach i hb;obtain⟨⟨c',s'⟩,hI,he⟩:=fI (l:=cN (nx l i)) (g:=λq:Bool×List Bool=>(l,q.1,(i:Int),q.2)) (Inv:=λj q=>RF l q.2/\T q.2 i/\(q.1=false->c=false/\q.2=s/\∀k∈(nx l i).take j,T s k)/\ga q.2<=ga s/\(q.1=true->c=true\/ga q.2<ga s)) (Lf:=λk j q=>Nm N k (l,q.1,(i:Int),cN (nx l i),j,q.2)) (λk q _=>by simp only[Nm.eq_2,aG,af,ae]) (λk j x q hx⟨h1,h2,h3,h4,h5⟩=>by
    obtain⟨m,hm,rfl⟩:=zC hx;have hml:=A6 hv (aS hm);have sY:m<q.2.length:=by rw[h1.len];exact hml
    have hj:j<9223372036854775807:=by have:=aC hm;omega
    have au7:i<q.2.length:=by rw[h1.len];exact zU
    have h2':q.2[i]?=some true:=h2;simp only[Nm.eq_2,aD (aC hx),aq,aB hx,ae,bQ sY,bQ au7,ah,am,aj hj,h2'];rcases Lq sY with hb|hb
    .refine⟨q,⟨h1,h2,λhc=>?_,h4,h5⟩,by simp only[hb,ae,dk,af]⟩;obtain⟨g1,g2,g3⟩:=h3 hc;refine⟨g1,g2,λk' hk'=>?_⟩;rw[take_succ hm,bm,ca]at hk';rcases hk' with hk'|rfl;.exact g3 k' hk'
     .rw[<-g2];exact hb
    .refine⟨(true,q.2.set m true),⟨⟨by simp[h1.len],(eW sY).2 (.inr h1.zero),λk' hk'=>?_⟩,(eW sY).2 (.inr h2),(λhc=>by cases hc),?_,λ_=>.inr ?_⟩,by simp only[hb,ae,i5,aq]⟩
     .rcases(eW sY).1 hk' with rfl|hk';.exact .step O9 (aS hm)
      .exact h1.reach k' hk'
     .have:=uJ hb;simp only;omega
     .have:=uJ hb;simp only;omega) (k:=N) (s:=(c,s)) ⟨h,hb,λhc=>⟨hc,rfl,λk hk=>by simp at hk⟩,bd _,.inl⟩ (by rw[bR];omega);obtain⟨h1,h2,h3,h4,h5⟩:=hI;refine⟨s',c',h1,λhc=>?_,h4,h5,he⟩;obtain⟨g1,g2,g3⟩:=h3 hc;exact⟨g1,g2,λ_ k hk=>g3 k (by rw[bR,f9];exact hk)⟩
 .refine⟨s,c,h,λhc=>⟨hc,rfl,λh'=>by unfold T at h';rw[hb]at h';cases h'⟩,bd _,.inl,?_⟩;obtain⟨N',rfl⟩:∃q,N=q+1:=⟨N-1,by omega⟩;rw[Nm.eq_2];cases hd:decide ((0:Int)<((cN (nx l i)).length:Int))with|false=>rfl|true=>simp[aq,bQ (show i<s.length by rw[h.len];exact zU),ah,am,hb,ae,af]
def RJ{N:Nat}{l:List Instr}(hv:VC l)(hN:500<N){s:List Bool}(h:RF l s):∃s' c,RF l s'/\(c=false->∀i,T s' i->∀k∈nx l i,T s' k)/\(c=true->ga s'<ga s)/\ad9 N N (l,false,0,s)=some (l,c,s'):=by
 have hle:=hv.le;obtain⟨⟨c',s'⟩,hI,he⟩:=fI (l:=l) (g:=λq:Bool×List Bool=>(l,q.1,q.2)) (Inv:=λj q=>RF l q.2/\(q.1=false->q.2=s/\∀i,i<j->T s i->∀k∈nx l i,T s k)/\ga q.2<=ga s/\(q.1=true->ga q.2<ga s)) (Lf:=λk j q=>ad9 N k (l,q.1,j,q.2)) (λk q _=>by simp only[ad9.eq_2,aG,af]) (λk j x q hx⟨h1,h2,h3,h4⟩=>by
   have hj:=aC hx;obtain⟨s',c',g1,g2,g3,g4,g5⟩:=RH hv hN (c:=q.1) hj h1;refine⟨(c',s'),⟨g1,λhc=>?_,by simp only;omega,λhc=>?_⟩,by simp only[ad9.eq_2,aD hj,aq,zG hv hj,ae,g5,aj (show j<9223372036854775807by omega)]⟩
   .obtain⟨q1,q2,q3⟩:=g2 hc;obtain⟨q4,q5⟩:=h2 q1;simp only;refine⟨by rw[q2,q4],λi hi=>?_⟩;rw[q4]at q3;by_cases hij:i=j;.subst hij;exact q3
    .exact q5 i (by omega)
   .rcases g4 hc with hc|hc;.have:=h4 hc;simp only at*;omega
    .simp only at*;omega) (k:=N) (s:=(false,s)) ⟨h,λ_=>⟨rfl,λi hi=>by omega⟩,bd _,λhc=>by cases hc⟩ (by omega);obtain⟨h1,h2,h3,h4⟩:=hI;refine⟨s',c',h1,λhc i hi=>?_,h4,he⟩;obtain⟨g1,g2⟩:=h2 hc;cases g1;exact g2 i (by rw[<-h.len];exact hi.lt) hi
def Ym{N:Nat}{l:List Instr}(hv:VC l)(hN:500<N):QZ N l=some (eN l):=by have h1:=hv.pos;have h2:=hv.le;obtain⟨s,g1,g2,g3⟩:=rounds (Inv:=RF l) (EZ:=λs=>∀i,T s i->∀k∈nx l i,T s k) (μ:=ga) (g:=λs=>s) (Lf:=λk c s=>au5 N k (l,c,s)) (λk s _ _=>by rw[au5.eq_2];rfl) (λk s h=>by obtain⟨s',c,g1,g2,g3,g4⟩:=RJ hv hN h;exact⟨s',c,g1,g2,g3,by simp only[au5.eq_2,aq,g4,ae]⟩) N _ (zE hv) (by have:=sy ((List.replicate l.length false).set 0 true);rw[zD]at this;omega);rw[QZ.eq_1];simp only[am,show decide ((0:Int)<=(l.length:Int))=true by simp,ah,bd,pm,ft,ak (show l.length<=10000000by omega) (show 1<=1000by omega),d6,show fM 0 l.length=true from bQ (i:=0) h1,show Int.toNat 0=0from rfl,sB h1,ae,g3];rw[g1.all g2]
def Lu{N:Nat}{n:Int}(h0:0<=n)(h:n<=16):Q6 N n=some ((2^n.toNat-1:Nat):Int):=by rw[Q6.eq_1,show(!decide (n<0))=true by simp;omega,ah,GI h0 h]
def NL{N:Nat}{x:Instr}(hN:500<N)(hc:eT x=true):Ww N (x.1,x.2.1,x.2.2.1,x.2.2.2)=some ((Se x:Nat):Int):=by rw[Ww.eq_1,wJ N hc,ae];have h:=(pR hc).2;have hl:=kO qz x;unfold Se;generalize bu qz x=l at h hl;have:=GJ (l:=l) (f:=uK) (g:=λm:Nat=>(m:Int)) (Inv:=λm=>m<2^16) (Lf:=λk i(m:Nat)=>aB4 N k (l,(m:Int),i)) (λk s=>by simp only[aB4.eq_2,aG,af]) (λk i x s hx hs=>by have hx2:=h x (aS hx);exact⟨GK hs hx2.2,by simp only[aB4.eq_2,aD (aC hx),aq,aB hx,ae,show(!decide (x<0))=true by simp;omega,ah,Ye hs hx2.1 hx2.2,aj (show i<9223372036854775807by have:=aC hx;omega)]⟩) (k:=N) (s:=0) (by omega) (by omega);simp at this;rw[this];rfl
structure Rv(l:List Instr)(P F:Nat)(o:List Nat):Prop where
 len:o.length=l.length
 LW:∀k,sub (O o k) F
 p0:sub (O o 0) P
 uL:∀S,Y5 l P S->(∀k,sub (S k) F)->∀k,Reach l k->sub (S k) (O o k)
def mv(n:Nat)(o:List Nat):Nat:=Bp n (O o)
def aa2{n m v:Nat}{o:List Nat}(hm:m<n)(ho:o.length=n)(hv:v<O o m):mv n (o.set m v)+1<=mv n o:=by have:=D9 (n:=n) (m:=m) (f:=O (o.set m v)) (g:=O o) hm (λk hk=>by rw[gq (show m<o.length by omega),bi hk]);rw[gq (show m<o.length by omega),be rfl]at this;unfold mv;omega
def NM{N:Nat}{l:List Instr}{P F p s:Nat}(hv:VM l P F p s)(hN:500<N){c:Bool}{o:List Nat}{i:Nat}(zU:i<l.length)(h:Rv l P F o):∃o' c',Rv l P F o'/\(c'=false->c=false/\o'=o/\(Reach l i->∀k∈nx l i,sub (O o k) (O o i|||wr l i)))/\mv l.length o'<=mv l.length o/\(c'=true->c=true\/mv l.length o'<mv l.length o)/\No N N (l,eN l,c,(i:Int),cN (nx l i),0,cN o)=some (l,eN l,c',(i:Int),cN o'):=by
 have hnl:=sx l i;have Iw:∀{a:Nat},sub a F->a<2^64:=λha=>lj (hv.lt ha) (by omega);have e1:=aw zU;generalize l[i]=x at e1
 have RK:idx (eN l) (i:Int)=some (decide (Reach l i)):=aB (kN zU);by_cases O9:Reach l i;.rw[bv O9]at RK;obtain⟨⟨c',o'⟩,hI,he⟩:=fI (l:=cN (nx l i)) (g:=λq:Bool×List Nat=>(l,eN l,q.1,(i:Int),cN q.2)) (Inv:=λj q=>Rv l P F q.2/\(q.1=false->c=false/\q.2=o/\∀k∈(nx l i).take j,sub (O o k) (O o i|||wr l i))/\mv l.length q.2<=mv l.length o/\(q.1=true->c=true\/mv l.length q.2<mv l.length o)) (Lf:=λk j q=>No N k (l,eN l,q.1,(i:Int),cN (nx l i),j,cN q.2)) (λk q _=>by simp only[No.eq_2,aG,af,ae]) (λk j y q hy⟨h1,h2,h3,h4⟩=>by
    obtain⟨c1,o1⟩:=q;simp only at h1 h2 h3 h4;obtain⟨m,hm,rfl⟩:=zC hy;have hml:=A6 hv.v (aS hm);have hmo:m<o1.length:=by rw[h1.len];exact hml
    have hio:i<o1.length:=by rw[h1.len];exact zU
    have hj:j<9223372036854775807:=by have:=aC hm;omega
    have hlF:sub (O o1 i|||wr l i) F:=NG (h1.LW i) (hv.wF i);have hwx:Se x=wr l i:=(Yj e1).symm;simp only[No.eq_2,aD (aC hm),aq,RK,aB hy,aB e1,ae,bR,bQ hio,bQ hmo,ah,am,gV hio,gV hmo,NL hN (hv.v.aH i x e1),hwx,BN (Iw (h1.LW i)) (Iw (hv.wF i)),D8 (Iw (h1.LW m)) (Iw hlF),aj hj,sD];by_cases hnew:O o1 m&&&(O o1 i|||wr l i)=O o1 m
    .refine⟨(c1,o1),⟨h1,λhc=>?_,h3,h4⟩,by rw[hnew];simp⟩;obtain⟨g1,g2,g3⟩:=h2 hc;refine⟨g1,g2,λk hk=>?_⟩;rw[take_succ hm,bm,ca]at hk;rcases hk with hk|rfl;.exact g3 k hk
     .have:=qA (O o1 k) (O o1 i|||wr l i);rw[hnew,g2]at this;exact this
    .have hlt:=yA hnew;have B0:=aa2 (n:=l.length) hml h1.len hlt;have PY:∀k,sub (O (o1.set m (O o1 m&&&(O o1 i|||wr l i))) k) (O o1 k):=λk=>by
      rw[gq hmo];split;.rename_i e;subst e;exact sC _ _
      .exact kD _
     refine⟨(true,o1.set m (O o1 m&&&(O o1 i|||wr l i))),⟨⟨by simp[h1.len],λk=>gC (PY k) (h1.LW k),gC (PY 0) h1.p0,λS hS hb k hk=>?_⟩,λhc=>(by cases hc),by simp only;omega,λ_=>.inr (by simp only;omega)⟩,?_⟩
     .rw[gq hmo];split;.rename_i e;subst e;exact Iv (h1.uL S hS hb k hk) (gC (hS.2 i O9 k (aS hm)) (or_mono (h1.uL S hS hb i O9) (kD _)))
      .exact h1.uL S hS hb k hk
     .rw[show(((O o1 m&&&(O o1 i|||wr l i):Nat):Int)!=((O o1 m:Nat):Int))=true by rw[bne_iff_ne];omega,aq]) (k:=N) (s:=(c,o)) ⟨h,λhc=>⟨hc,rfl,λk hk=>by simp at hk⟩,bd _,.inl⟩ (by rw[bR];omega);obtain⟨h1,h2,h3,h4⟩:=hI;refine⟨o',c',h1,λhc=>?_,h3,h4,he⟩;obtain⟨g1,g2,g3⟩:=h2 hc;exact⟨g1,g2,λ_ k hk=>g3 k (by rw[bR,f9];exact hk)⟩
 .rw[cb O9]at RK;refine⟨o,c,h,λhc=>⟨hc,rfl,λh'=>absurd h' O9⟩,bd _,.inl,?_⟩;obtain⟨N',rfl⟩:∃q,N=q+1:=⟨N-1,by omega⟩;rw[No.eq_2,RK]<;>grind
def NN{N:Nat}{l:List Instr}{P F p s:Nat}(hv:VM l P F p s)(hN:500<N){o:List Nat}(h:Rv l P F o):∃o' c,Rv l P F o'/\(c=false->∀i,Reach l i->∀k∈nx l i,sub (O o' k) (O o' i|||wr l i))/\(c=true->mv l.length o'<mv l.length o)/\ah1 N N (l,eN l,false,0,cN o)=some (l,eN l,c,cN o'):=by
 have hle:=hv.le;obtain⟨⟨c',o'⟩,hI,he⟩:=fI (l:=l) (g:=λq:Bool×List Nat=>(l,eN l,q.1,cN q.2)) (Inv:=λj q=>Rv l P F q.2/\(q.1=false->q.2=o/\∀i,i<j->Reach l i->∀k∈nx l i,sub (O o k) (O o i|||wr l i))/\mv l.length q.2<=mv l.length o/\(q.1=true->mv l.length q.2<mv l.length o)) (Lf:=λk j q=>ah1 N k (l,eN l,q.1,j,cN q.2)) (λk q _=>by simp only[ah1.eq_2,aG,af]) (λk j x q hx⟨h1,h2,h3,h4⟩=>by
   have hj:=aC hx;obtain⟨o',c',g1,g2,g3,g4,g5⟩:=NM hv hN (c:=q.1) hj h1;refine⟨(c',o'),⟨g1,λhc=>?_,by simp only;omega,λhc=>?_⟩,by simp only[ah1.eq_2,aD hj,aq,zG hv.v hj,ae,g5,aj (show j<9223372036854775807by omega)]⟩
   .obtain⟨q1,q2,q3⟩:=g2 hc;obtain⟨q4,q5⟩:=h2 q1;simp only;refine⟨by rw[q2,q4],λi hi=>?_⟩;rw[q4]at q3;by_cases hij:i=j;.subst hij;exact q3
    .exact q5 i (by omega)
   .rcases g4 hc with hc|hc;.have:=h4 hc;simp only at*;omega
    .simp only at*;omega) (k:=N) (s:=(false,o)) ⟨h,λ_=>⟨rfl,λi hi=>by omega⟩,bd _,λhc=>by cases hc⟩ (by omega);obtain⟨h1,h2,h3,h4⟩:=hI;refine⟨o',c',h1,λhc i hi=>?_,h4,he⟩;obtain⟨g1,g2⟩:=h2 hc;cases g1;exact g2 i (hi.lt hv.v) hi
def aa3{N:Nat}{l:List Instr}{P F p s:Nat}(hv:VM l P F p s)(hN:14000000<N):∃H,Y5 l P H/\(∀S,Y5 l P S->(∀k,sub (S k) F)->∀k,Reach l k->sub (S k) (H k))/\Nh N (l,(p:Int),(s:Int))=some (cN (ql l H)):=by
 have hpos:=hv.v.pos;have hle:=hv.le;have hs:=hv.sle;have hps:=hv.ps;obtain⟨o1,⟨a1,a2⟩,a3⟩:=fI (l:=l) (g:=λo:List Nat=>(l,(p:Int),eN l,cN o)) (Inv:=λj o=>o.length=l.length/\∀k,O o k=if k<j then F else 0) (Lf:=λk j o=>aB5 N k (l,(p:Int),(s:Int),eN l,j,cN o)) (λk q _=>by simp only[aB5.eq_2,aG,af]) (λk j x o hx⟨h1,h2⟩=>by
   have hj:=aC hx;have hjo:j<o.length:=by omega
   have hf:=Lu (N:=N) (n:=(s:Int)) (by omega) (by omega);rw[am,<-hv.eF]at hf;refine⟨o.set j F,⟨by simp[h1],λk=>?_⟩,by simp only[aB5.eq_2,aD hj,aq,hf,ae,bR,bQ hjo,ah,am,gV hjo,sD,aj (show j<9223372036854775807by omega)]⟩;rw[gq hjo,h2];by_cases hk:k=j;.subst hk;rw[be rfl,be (by omega)]
   .rw[bi hk];by_cases hk2:k<j;.rw[be hk2,be (by omega)]
    .rw[bi hk2,bi (by omega)]) (k:=N) (s:=List.replicate l.length 0) ⟨by simp,λk=>by rw[Yh,bi (by omega)]⟩ (by omega);have h0:0<o1.length:=by omega
 have hO:∀k,O (o1.set 0 P) k=if k=0then P else if k<l.length then F else 0:=λk=>by rw[gq h0,a2]
 have start:Rv l P F (o1.set 0 P):=⟨by simp[a1],λk=>by
   rw[hO];split;.exact hv.PF
   .split;.exact kD _
    .exact zero_sub _,by rw[hO,be rfl];exact kD _,λS hS hb k hk=>by
   rw[hO];split;.rename_i e;subst e;exact hS.1
   .rw[be (hk.lt hv.v)];exact hb k⟩;obtain⟨o2,b1,b2,b3⟩:=rounds (Inv:=Rv l P F) (EZ:=λo=>∀i,Reach l i->∀k∈nx l i,sub (O o k) (O o i|||wr l i)) (μ:=mv l.length) (g:=λo=>(l,eN l,cN o)) (Lf:=λk c o=>au6 N k (l,eN l,c,cN o)) (λk o _ _=>by rw[au6.eq_2];rfl) (λk o h=>by obtain⟨o',c,g1,g2,g3,g4⟩:=NN (N:=N) hv (by omega) h;exact⟨o',c,g1,g2,g3,by simp only[au6.eq_2,aq,g4,ae]⟩) N _ start (by have:mv l.length (o1.set 0 P)<=l.length*65536:=Pa λk=>Nat.le_of_lt (hv.lt (start.LW k));omega);refine⟨O o2,⟨b1.p0,b2⟩,b1.uL,?_⟩;obtain⟨o3,⟨c1,c2⟩,c3⟩:=fI (l:=l) (g:=λo:List Nat=>cN o) (Inv:=λj o=>o.length=l.length/\∀k,k<l.length->O o k=if k<j then(if Reach l k/\k≠l.length-1then O o2 k else 0)else O o2 k) (Lf:=λk j o=>au9 N k (l,eN l,j,cN o)) (λk q _=>by simp only[au9.eq_2,aG,af]) (λk j x o hx⟨h1,h2⟩=>by
   have hj:=aC hx;have hjo:j<o.length:=by omega
   have RK:idx (eN l) (j:Int)=some (decide (Reach l j)):=aB (kN hj);have Yl:=vf hpos (show l.length<=10000000by omega);simp only[au9.eq_2,aD hj,aq,RK,ae,Yl,cW,bR,bQ hjo,ah,am,gV hjo,aj (show j<9223372036854775807by omega)];by_cases hr:Reach l j/\j≠l.length-1
   .refine⟨o,⟨h1,λk hk=>?_⟩,?_⟩
    .rw[h2 k hk];by_cases hkj:k=j;.subst hkj;rw[bi (show¬k<k by omega),be (show k<k+1by omega),be hr]
     .by_cases hk2:k<j;.rw[be hk2,be (show k<j+1by omega)]
      .rw[bi hk2,bi (show¬k<j+1by omega)]
    .rw[bv hr.1,show(((j:Nat):Int)==((l.length-1:Nat):Int))=false by rw[ml];omega];rfl
   .refine⟨o.set j 0,⟨by simp[h1],λk hk=>?_⟩,?_⟩
    .rw[gq hjo];by_cases hkj:k=j;.subst hkj;rw[be rfl,be (show k<k+1by omega),bi hr]
     .rw[bi hkj,h2 k hk];by_cases hk2:k<j;.rw[be hk2,be (show k<j+1by omega)]
      .rw[bi hk2,bi (show¬k<j+1by omega)]
    .have:(!decide (Reach l j)||(((j:Nat):Int)==((l.length-1:Nat):Int)))=true:=by
      rw[ib];by_cases h1:Reach l j
      .right;rw[ll];by_cases h2:j=l.length-1;.rw[h2]
       .exact absurd ⟨h1,h2⟩ hr
      .left;rw[cb h1];rfl
     rw[this,aq,show(0:Int)=((0:Nat):Int)from rfl,sD]) (k:=N) (s:=o2) ⟨b1.len,λk hk=>by rw[bi (by omega)]⟩ (by omega);have hf:=Lu (N:=N) (n:=(p:Int)) (by omega) (by omega);rw[am,<-hv.eP]at hf;have au8:o3=ql l (O o2):=Lt c1 λk hk=>by rw[c2 k hk,be hk]
 rw[Nh.eq_1];simp only[Ym hv.v (show 500<N by omega),ae,am,show decide ((0:Int)<=(l.length:Int))=true by simp,ah,bd,pm,ft,ak (show l.length<=10000000by omega) (show 8<=1000by omega),Yi,a3,hf,bR,show fM 0 o1.length=true from bQ (i:=0) h0,show Int.toNat 0=0from rfl,gV h0,sD,b3,c3];rw[au8]
def Lw{l:List Instr}{G H:Nat->Nat}(h:∀k,Reach l k->G k=H k):ql l G=ql l H:=by unfold ql<;>grind
def Lx{σ β:Type}{Lf:Nat->σ->List Nat->Option β}{Inv:σ->List Nat->Prop}{μ:σ->Nat}{g:σ->β}{Out:β->Prop}(h0:∀k s,Inv s []->Lf (k+1) s []=some (g s))(hs:∀k s o i,Inv s (o++[i])->(∃r,Out r/\Lf (k+1) s (o++[i])=some r)\/∃s' p,Inv s' (o++p)/\μ s'+p.length<=μ s/\Lf (k+1) s (o++[i])=Lf k s' (o++p)):∀k s o,Inv s o->μ s+o.length<k->(∃r,Out r/\Lf k s o=some r)\/∃s',Inv s' []/\Lf k s o=some (g s')
 |0,_,_,_,h=>by omega|k+1,s,o,hI,hk=>by
  rcases List.eq_nil_or_concat o with rfl|⟨o',i,ho⟩;.grind
  .simp at ho;subst ho;simp at hk;rcases hs k s o' i hI with h|⟨s',p,h1,h2,h3⟩;.grind
   .rw[h3];exact Lx h0 hs k s' (o'++p) h1 (by simp only[bc];omega)
def Eb{σ β:Type}{Lf:Nat->Bool->σ->Option β}{Inv EZ:σ->Prop}{μ:σ->Nat}{g:σ->β}{Out:β->Prop}(h0:∀k s,Inv s->EZ s->Lf (k+1) false s=some (g s))(hs:∀k s,Inv s->(∃r,Out r/\Lf (k+1) true s=some r)\/∃s' c,Inv s'/\(c=false->EZ s')/\(c=true->μ s'<μ s)/\Lf (k+1) true s=Lf k c s'):∀k s,Inv s->μ s+1<k->(∃r,Out r/\Lf k true s=some r)\/∃s',Inv s'/\EZ s'/\Lf k true s=some (g s')
 |0,_,_,h=>by omega|k+1,s,hI,hk=>by
  rcases hs k s hI with h|⟨s',c,h1,h2,h3,h4⟩;.grind
  cases c with|false=>obtain⟨k',rfl⟩:∃q,k=q+1:=⟨k-1,by omega⟩<;>grind|true=>rw[h4];exact Eb h0 hs k s' h1 (by have:=h3 rfl;omega)
abbrev Sg:=Int×Int×List Field×List Instr
def sg(f:Func):Sg:=(f.2.1,f.2.2.1,f.2.2.2.1,f.2.2.2.2.1)
def NO(S:List Sg)(i:Int):Sg:=S.getD i.toNat (0,0,[],[])
def fK(sl:List Field)(s:Int):Int:=if 0<=s/\s<sl.length then(fl sl s.toNat).2else-1
def called(x:Instr):Int:=if x.1=25then x.2.2.1else if x.1=26\/x.1=27then x.2.1else-1
def wide(ts:List aA)(t:Int):Int:=up 8 (eD (exs ts) t).1
def pS(ts:List aA):List Int->Int|[]=>0|t::r=>wide ts t+pS ts r
def takes(S:List Sg)(x:Instr):List Int:=if 0<=called x then((NO S (called x)).2.2.1.take (NO S (called x)).1.toNat).map (·.2)else[]
def rest(S:List Sg)(sl:List Field)(x:Instr)(s:List Int):Option (List Int):=if x.1=24then some (s++[fK sl x.2.1])else if(takes S x).length<=s.length/\s.drop (s.length-(takes S x).length)=takes S x then some (s.take (s.length-(takes S x).length))else none
def RL(ts:List aA)(S:List Sg)(sl:List Field)(x:Instr)(s:List Int):Option (List Int):=(rest S sl x s).bind λt=>if pS ts t<=4096then some t else none
def n7(xn:Nat)(S:List Sg)(sl:List Field)(x:Instr):Prop:=(∀s,s∈bu ny x++bu qz x->s<sl.length)/\called x<S.length/\(x.1=2->x.2.2.1<xn)
def kd(ts:List aA)(t:Int):Int:=if t<0then 0 else(bJ ts t.toNat).1
def elt(ts:List aA)(t:Int):Int:=(bJ ts t.toNat).2.1
abbrev Lz(k:Int):Prop:=k=1\/k=2\/k=4
abbrev aa5(ts:List aA)(t i of:Int):Prop:=kd ts t=5/\(0<=i/\i<(bJ ts t.toNat).2.2.2.length)/\(fl (bJ ts t.toNat).2.2.2 i.toNat).2=of
abbrev Ec(ts:List aA)(g:Sg):Prop:=g.2.1<0/\(g.1=0\/g.1=1/\Lz (kd ts (fl g.2.2.1 0).2))
inductive PS(l:List Instr)(a:Instr->List Int->Option (List Int)):Nat->List Int->Prop where|zero:PS l a 0 []|step{i k:Nat}{x:Instr}{s s':List Int}:PS l a i s->l[i]?=some x->a x s=some s'->k∈nx l i->PS l a k s'
structure vi(l:List Instr)(a:Instr->List Int->Option (List Int)):Prop where
 go:∀i s x,PS l a i s->l[i]?=some x->∃s',a x s=some s'
 one:∀i s s',PS l a i s->PS l a i s'->s=s'
 last:∀s,PS l a (l.length-1) s->s=[]
def GM(l:List Instr)(a:Instr->List Int->Option (List Int))(k:Nat):List Int:=if h:∃s,PS l a k s then h.choose else[]
variable{l:List Instr}{a:Instr->List Int->Option (List Int)}
def PS.lt(hv:VC l){k:Nat}{s:List Int}(h:PS l a k s):k<l.length:=by cases h with|zero=>exact hv.pos|step _ _ _ hk=>exact A6 hv hk
structure Kn(l:List Instr)(a:Instr->List Int->Option (List Int))(b:List (List Int))(m:List Bool):Prop where
 lb:b.length=l.length
 lm:m.length=l.length
 zero:T m 0/\b[0]?=some []met:∀k,T m k->∃s,b[k]?=some s/\PS l a k s
 new:∀k,k<l.length->¬T m k->b[k]?=some []
def zH(l:List Instr)(a:Instr->List Int->Option (List Int))(b:List (List Int))(m:List Bool)(i:Nat):Prop:=∃x s s',l[i]?=some x/\b[i]?=some s/\a x s=some s'/\∀k,k∈nx l i->T m k/\b[k]?=some s'
def Kn.start(hv:VC l):Kn l a (List.replicate l.length []) ((List.replicate l.length false).set 0 true):=by have h1:=hv.pos;refine⟨by simp,by simp,⟨(kH h1 0).2 rfl,sB h1 []⟩,λk hk=>?_,λk hk _=>by rw[ka,be hk]⟩;rw[(kH h1 k).1 hk];exact⟨[],sB h1 [],.zero⟩
def Kn.add{b:List (List Int)}{m:List Bool}(h:Kn l a b m){k:Nat}{s:List Int}(hk:k<l.length)(hn:¬T m k)(hp:PS l a k s):Kn l a (b.set k s) (m.set k true):=by
 have hm:k<m.length:=by rw[h.lm];exact hk
 have h0:(0:Nat)≠k:=λe=>hn (e▸h.zero.1);refine⟨by simp[h.lb],by simp[h.lm],⟨(eW hm).2 (.inr h.zero.1),by rw[nn,bi (pD h0)];exact h.zero.2⟩,λj hj=>?_,λj hj hn=>?_⟩
 .by_cases e:j=k;.subst e;exact⟨s,by simp[h.lb,hk],hp⟩
  .rcases(eW hm).1 hj with h'|h';.grind
   .rw[nn,bi (pD e)];exact h.met j h'
 .have e:j≠k:=λe=>hn ((eW hm).2 (.inl e));rw[nn,bi (pD e)];exact h.new j hj λh'=>hn ((eW hm).2 (.inr h'))
def Grow(b:List (List Int))(m:List Bool)(b':List (List Int))(m':List Bool):Prop:=∀j,T m j->T m' j/\b'[j]?=b[j]?
def Grow.refl(b:List (List Int))(m:List Bool):Grow b m b m:=λ_ h=>⟨h,rfl⟩
def Grow.trans{b b' b'':List (List Int)}{m m' m'':List Bool}(h:Grow b m b' m')(h':Grow b' m' b'' m''):Grow b m b'' m'':=λj hj=>⟨(h' j (h j hj).1).1,by rw[(h' j (h j hj).1).2,(h j hj).2]⟩
def Grow.add{b:List (List Int)}{m:List Bool}{k:Nat}{s:List Int}(hn:¬T m k):Grow b m (b.set k s) (m.set k true):=λj hj=>by grind
def zH.grow{b b':List (List Int)}{m m':List Bool}{i:Nat}(h:zH l a b m i)(hi:T m i)(hg:Grow b m b' m'):zH l a b' m' i:=by obtain⟨x,u,u',h1,h2,h3,h4⟩:=h;refine⟨x,u,u',h1,by rw[(hg i hi).2];exact h2,h3,λk hk=>?_⟩;obtain⟨g1,g2⟩:=h4 k hk;exact⟨(hg k g1).1,by rw[(hg k g1).2];exact g2⟩
def Kn.all{b:List (List Int)}{m:List Bool}(h:Kn l a b m)(hs:∀i,T m i->zH l a b m i){k:Nat}{s:List Int}(hp:PS l a k s):T m k/\b[k]?=some s:=by induction hp with|zero=>exact h.zero|@step i k x s s' hi hx ha hk ih=>obtain⟨y,u,u',g1,g2,g3,g4⟩:=hs i ih.1<;>grind
def Kn.good{b:List (List Int)}{m:List Bool}(h:Kn l a b m)(hs:∀i,T m i->zH l a b m i):(∀i s x,PS l a i s->l[i]?=some x->∃s',a x s=some s')/\∀i s s',PS l a i s->PS l a i s'->s=s':=by
 refine⟨λi s x hp hx=>?_,λi s s' h1 h2=>?_⟩;.obtain⟨h1,h2⟩:=h.all hs hp;obtain⟨y,u,u',g1,g2,g3,_⟩:=hs i h1<;>grind
 .have e:=(h.all hs h1).2;rw[(h.all hs h2).2]at e<;>grind
def Kn.get{b:List (List Int)}{m:List Bool}(h:Kn l a b m)(hs:∀i,T m i->zH l a b m i){k:Nat}(hk:k<l.length):b[k]?=some (GM l a k):=by
 unfold GM;split;.rename_i e;exact(h.all hs e.choose_spec).2
 .rename_i e;refine h.new k hk λhT=>e ?_;obtain⟨s,_,hp⟩:=h.met k hT<;>grind
def Kn.eq{b:List (List Int)}{m:List Bool}(h:Kn l a b m)(hs:∀i,T m i->zH l a b m i):b=(List.range l.length).map (GM l a):=by
 apply lO;intro k;by_cases hk:k<l.length;.rw[h.get hs hk,eI,nz hk];rfl
 .rw[eJ (by rw[h.lb];omega),eJ (by simp;omega)]
def vi.GM(h:vi l a){k:Nat}{s:List Int}(hp:PS l a k s):Go.Proofs.YtnfdnnplfbfgaaaGreat.GM l a k=s:=by unfold Go.Proofs.YtnfdnnplfbfgaaaGreat.GM;rw[dif_pos ⟨s,hp⟩];exact h.one k _ _ (Exists.choose_spec ⟨s,hp⟩) hp
def Kn.ok{b:List (List Int)}{m:List Bool}(h:Kn l a b m)(hv:VC l)(hs:∀i,T m i->zH l a b m i):vi l a↔Go.Proofs.YtnfdnnplfbfgaaaGreat.GM l a (l.length-1)=[]:=by
 have hp:=hv.pos;refine⟨λhk=>?_,λe=>⟨(h.good hs).1,(h.good hs).2,λs hp=>?_⟩⟩
 .unfold Go.Proofs.YtnfdnnplfbfgaaaGreat.GM;split;.rename_i e;exact hk.last _ e.choose_spec
  .rfl
 .have e1:=(h.all hs hp).2;rw[h.get hs (by omega),e]at e1;exact(dC e1).symm
def up8{n:Int}(h:1<=n):8<=up 8 n/\up 8 n<=n+7:=by unfold up;omega
def Pc(ts:List aA):∀(p q:List Int),pS ts (p++q)=pS ts p+pS ts q|[],q=>by simp[pS]|t::p,q=>by simp[pt,pS,Pc ts p q];omega
def LA(ts:List aA)(s:List Int):Prop:=∀t,t∈s->0<=t/\t<ts.length
end Go.Proofs.YtnfdnnplfbfgaaaGreat
namespace Go.Proofs.YtnfdnnplfbfgaaaGreat
open Go Go.bS Go.Sym
open Classical
def Ed(a b:Int):(a==b)=decide (a=b):=by grind
def bw{α:Type}{c:Bool}{X Y:Option α}{u v:α}(h1:c=true->X=some u)(h2:c=false->Y=some v):(bif c then X else Y)=some (bif c then u else v):=by grind
def qm{l:List aA}{t:Int}(h:0<=t/\t<l.length):idx l t=some (bJ l t.toNat):=by have:=bK (l:=l) (i:=t.toNat) ty0 (by omega);rw[rt h.1]at this;exact this
def zI{l:List Field}{s:Int}(h:0<=s/\s<l.length):idx l s=some (fl l s.toNat):=by have:=bK (l:=l) (i:=s.toNat) ([],0) (by omega);rw[rt h.1]at this;exact this
def Iy(N:Nat)(l:List Field)(s:Int):M4 N (l,s)=some (decide (0<=s/\s<l.length)):=by rw[M4.eq_1,fT,ae,ui]
def aa6(N:Nat)(l:List (List UInt8))(s:Int):UE N (l,s)=some (decide (0<=s/\s<l.length)):=by rw[UE.eq_1,fT,ae,ui]
def LB{N:Nat}{a:List Int}{b:Int}(ha:a.length<N)(h2:a.length<=1000):UI N (a,b)=some (decide (b∈a)):=by
 rw[UI.eq_1,aar.eq_1];rcases cL (l:=a) (g:=λ_:Unit=>(.inr ():Int⊕Unit)) (Out:=λr=>b∈a/\∃i:Nat,r=.inl (i:Int)) (Inv:=λi _=>∀j,j<i->a[j]?≠some b) (Lf:=λk i _=>ax8 N k (a,b,(a.length:Int),i)) (λk s _=>by simp only[ax8.eq_2,aG,af]) (λk i x s hx hI=>by
   have hi:=aC hx;simp only[ax8.eq_2,aD hi,aq,aB hx,ae,aj (show i<9223372036854775807by omega)];by_cases he:b=x;.subst he;exact .inl ⟨_,⟨aS hx,i,rfl⟩,by simp⟩
   .refine .inr ⟨(),λj hj=>?_,by rw[show(b==x)=false by simpa using he,af]⟩;by_cases hji:j=i;.subst hji;rw[hx];exactλe=>he (dC e).symm
    .exact hI j (by omega)) (k:=N) (s:=()) (λj hj=>by omega) ha with⟨r,⟨h1,i,rfl⟩,h3⟩|⟨_,h1,h3⟩;.simp_all
 .rw[h3,aL (show¬b∈a fromλhm=>by obtain⟨i,hi,rfl⟩:=jp.1 hm;exact h1 i hi (aw hi))];rfl
structure ij(ts:List aA)(xs:List (List UInt8))(fs:List Func):Prop where
 fit:gK ts xs fs
 Iz:dG ts xs fs
section
variable{ts:List aA}{xs:List (List UInt8)}{fs:List Func}
def ij.fn(h:ij ts xs fs){i:Nat}(hi:i<fs.length):fo ts.length (gp fs i):=by have:=h.Iz.2.2.2.2.2 i hi;unfold Iq at this<;>grind
def ij.get{f:Func}(h:ij ts xs fs){i:Nat}(hi:fs[i]?=some f):fo ts.length f:=by have:=h.fn (aC hi);unfold gp at this<;>grind
def ij.tys(h:ij ts xs fs):ts.length<=32:=h.Iz.1.1
def ij.fns(h:ij ts xs fs):1<=fs.length/\fs.length<=32:=h.Iz.2.2.1
def ij.ty(h:ij ts xs fs){t:Int}(ht:0<=t/\t<ts.length):cO ts.length t.toNat (bJ ts t.toNat):=h.Iz.1.2.1 _ (by omega)
def fV(fs:List Func):List Sg:=fs.map sg
def qn(fs:List Func):(fV fs).length=fs.length:=by simp[fV]
def aa7{f:Func}{g:Int}(h0:0<=g)(h:fs[g.toNat]?=some f):NO (fV fs) g=sg f:=by unfold NO fV<;>grind
def Ee{g:Int}(h:0<=g/\g<fs.length):∃f,idx fs g=some f/\fs[g.toNat]?=some f/\NO (fV fs) g=sg f:=by obtain⟨f,h1,_,h3⟩:=aaG h.1 h.2;exact⟨f,h1,h3,aa7 h.1 h3⟩
def wK{sl:List Field}(hr:jl sl ts.length)(s:Int):-1<=fK sl s/\fK sl s<ts.length:=by
 unfold fK;split
 .have hm:fl sl s.toNat∈sl:=by unfold fl<;>grind
  have:=hr _ hm;omega
 .omega
def qB{sl:List Field}(hr:jl sl ts.length){s:Int}(hs:0<=s/\s<sl.length):0<=fK sl s/\fK sl s<ts.length:=by
 have h:=wK hr s;refine⟨?_,h.2⟩;unfold fK;rw[be hs];have hm:fl sl s.toNat∈sl:=by unfold fl<;>grind
 exact(hr _ hm).1
def adh(N:Nat)(f:Func)(s:Int):Kw N (ts,xs,fs,f.1,f.2.1,f.2.2.1,f.2.2.2.1,f.2.2.2.2.1,f.2.2.2.2.2.1,f.2.2.2.2.2.2,s)=some (fK f.2.2.2.1 s):=by
 rw[Kw.eq_1];simp only[Iy,ae];unfold fK;by_cases h:0<=s/\s<f.2.2.2.1.length;.rw[aP h,be h,dk,zI h];rfl
 grind
def adi(N:Nat){f:Func}{i:Int}(hf:idx fs i=some f)(s:Int):KI N (ts,xs,fs,i,s)=some (fK f.2.2.2.1 s):=by
 rw[KI.eq_1];simp[hf,ae,cW];unfold fK;by_cases h:0<=s/\s<f.2.2.2.1.length;.rw[aL (show¬s<0 by omega),aL (show¬s>=(f.2.2.2.1.length:Int)by omega),be h,Hd,zI h];rfl
 grind
def LC(N:Nat){t:Int}(h:-1<=t/\t<ts.length):Ig N (ts,xs,fs,t)=some (kd ts t):=by
 rw[Ig.eq_1];unfold kd;by_cases h0:t<0;.grind
 .rw[aL h0,bi h0,qm (by omega)];rfl
def adj{t:Int}(h:0<=t):kd ts t=(bJ ts t.toNat).1:=by unfold kd<;>grind
def IA{t:Int}(h:kd ts t≠0):0<=t:=by unfold kd at h<;>grind
def Ef{N:Nat}(hN:1300<N)(f:Func){t:Int}(h:-1<=t/\t<ts.length){K:List Int}(hK:K.length<=10)(h0:¬(0:Int)∈K):mB N (ts,xs,fs,f.1,f.2.1,f.2.2.1,f.2.2.2.1,f.2.2.2.2.1,f.2.2.2.2.2.1,f.2.2.2.2.2.2,t,K)=some (decide (kd ts t∈K)):=by
 rw[mB.eq_1];unfold kd;by_cases ht:t<0;.grind
 .simp[aP (show t>=0 by omega),aq,qm (show 0<=t/\t<ts.length by omega),ae,LB (show K.length<N by omega) (show K.length<=1000by omega),bi ht]
def yB(N:Nat)(x:Instr):QD N (x.1,x.2.1,x.2.2.1,x.2.2.2)=some (called x):=by rw[QD.eq_1];unfold called<;>grind
def Pd(N:Nat)(x:Instr):Q0 N (x.1,x.2.1,x.2.2.1,x.2.2.2)=some (called x):=by rw[Q0.eq_1];unfold called<;>grind
def jj{x:Instr}(hc:eT x=true){p q r:UInt8}(hs:yd x.1=some (p,q,r)):(p=119\/p=114->0<=x.2.1/\x.2.1∈bu ny x++bu qz x)/\(q=119\/q=114->0<=x.2.2.1/\x.2.2.1∈bu ny x++bu qz x)/\(r=119\/r=114->0<=x.2.2.2/\x.2.2.2∈bu ny x++bu qz x):=by
 have key:∀(c:UInt8)(v:Int),fits c v=true->c=119\/c=114->0<=v/\(v∈one (ny c v) v\/v∈one (qz c v) v):=λc v h hc=>by
  unfold fits at h;rw[ba,dj,dj]at h;rcases hc with rfl|rfl;.have h0:0<=v:=h.1;exact⟨h0,.inr (by unfold qz;rw[aP (show v>=0from h0)];exact ca.2 rfl)⟩
  .have h0:0<=v:=h.1;exact⟨h0,.inl (by unfold ny;rw[aP (show v>=0from h0)];exact ca.2 rfl)⟩
 simp[eT,hs,ba]at hc;obtain⟨h1,h2,h3⟩:=hc;simp only[bu,hs,bm]<;>grind
def Eg{x:Instr}(hc:eT x=true):(bu ny x).length+(bu qz x).length<=6/\∀s,s∈bu ny x++bu qz x->0<=s/\s<=15:=by
 have h1:=kO ny x;have h2:=kO qz x;refine⟨by omega,λs hs=>?_⟩;rcases bm.1 hs with hs|hs;.exact(pR hc).1 s hs
 .exact(pR hc).2 s hs
def aps{N:Nat}(hN:1300<N)(f:Func){x:Instr}(hc:eT x=true):UG N (ts,xs,fs,f.1,f.2.1,f.2.2.1,f.2.2.2.1,f.2.2.2.2.1,f.2.2.2.2.2.1,f.2.2.2.2.2.2,x.1,x.2.1,x.2.2.1,x.2.2.2)=some (if n7 xs.length (fV fs) f.2.2.2.1 x then 0 else 16):=by
 obtain⟨h6,hnn⟩:=Eg hc;have hlen:(bu ny x++bu qz x).length<=6:=by grind
 have key:=gn (l:=bu ny x++bu qz x) (a:=(.inr (ts,xs,fs,f.1,f.2.1,f.2.2.1,f.2.2.2.1,f.2.2.2.2.1,f.2.2.2.2.2.1,f.2.2.2.2.2.2,x.1,x.2.1,x.2.2.1,x.2.2.2):Int⊕_)) (b:=.inl 16) (p:=λs=>!decide (0<=s/\s<f.2.2.2.1.length)) (Lf:=λk i=>ax7 N k (((bu ny x++bu qz x).length:Int),i,ts,xs,fs,f.1,f.2.1,f.2.2.1,f.2.2.2.1,f.2.2.2.2.1,f.2.2.2.2.2.1,f.2.2.2.2.2.2,x.1,x.2.1,x.2.2.1,x.2.2.2,bu ny x++bu qz x)) (λk _=>by simp only[ax7.eq_2,aG,af]) (λk i s hx _=>by have hi:=aC hx;simp only[ax7.eq_2,aD hi,aq,bQ hi,ah,am,hx,ae,Iy,aj (show i<9223372036854775807by omega)];cases decide (0<=s/\s<(f.2.2.2.1.length:Int))<;>rfl) (k:=N) (by omega);rw[UG.eq_1,Ny,hc];simp only[aq,ae,show((0:Int)!=0)=false from rfl,af,ak (show(bu ny x).length+(bu qz x).length<=10000000by omega) (show 8<=1000by omega),ah,key];unfold n7;rw[qn];by_cases h1:∀s,s∈bu ny x++bu qz x->s<(f.2.2.2.1.length:Int)
 .have hn:¬∃s,s∈bu ny x++bu qz x/\(!decide (0<=s/\s<(f.2.2.2.1.length:Int)))=true:=λ⟨s,hs,h⟩=>by rw[aP ⟨(hnn s hs).1,h1 s hs⟩]at h;cases h
  simp only[bi hn,yB,ae,aa6];by_cases h2:called x<(fs.length:Int)
  .rw[aL (show¬called x>=(fs.length:Int)by omega)];by_cases h3:x.1=2
   .have h0:0<=x.2.2.1:=by have e:yd 2=some (119,116,45):=rfl;simp[eT,h3,e,fits,ba,dj]at hc;exact hc.2.1.1
    grind
   grind
  grind
 .have hy:∃s,s∈bu ny x++bu qz x/\(!decide (0<=s/\s<(f.2.2.2.1.length:Int)))=true:=by grind
  grind
def apt{N:Nat}(hN:1300<N){f:Func}{g:Int}(hf:idx fs g=some f){x:Instr}(hc:eT x=true):Wf N (ts,xs,fs,g,x.1,x.2.1,x.2.2.1,x.2.2.2)=some (decide (n7 xs.length (fV fs) f.2.2.2.1 x)):=by
 obtain⟨h6,hnn⟩:=Eg hc;have hlen:(bu ny x++bu qz x).length<=6:=by grind
 have key:=gn (l:=bu ny x++bu qz x) (a:=(.inr (ts,xs,fs,x.1,x.2.1,x.2.2.1,x.2.2.2):Bool⊕_)) (b:=.inl false) (p:=λs=>decide (s>=(f.2.2.2.1.length:Int))) (Lf:=λk i=>aB0 N k (g,bu ny x++bu qz x,i,ts,xs,fs,x.1,x.2.1,x.2.2.1,x.2.2.2)) (λk _=>by simp only[aB0.eq_2,aG,af]) (λk i s hx _=>by have hi:=aC hx;simp only[aB0.eq_2,aD hi,aq,aB hx,ae,hf,aj (show i<9223372036854775807by omega)];cases decide (s>=(f.2.2.2.1.length:Int))<;>rfl) (k:=N) (by omega);rw[Wf.eq_1,wJ N hc];simp only[ae,ge,m7,m9,ak (show(bu ny x).length<=10000000by omega) (show 8<=1000by omega),ak (show(bu ny x).length+(bu qz x).length<=10000000by omega) (show 8<=1000by omega),ah,key];have hnb:n7 xs.length (fV fs) f.2.2.2.1 x↔(∀s,s∈bu ny x++bu qz x->s<(f.2.2.2.1.length:Int))/\called x<(fs.length:Int)/\(x.1=2->x.2.2.1<(xs.length:Int)):=by unfold n7;rw[qn]
 by_cases h1:∀s,s∈bu ny x++bu qz x->s<(f.2.2.2.1.length:Int)
 .have hn:¬∃s,s∈bu ny x++bu qz x/\decide (s>=(f.2.2.2.1.length:Int))=true:=λ⟨s,hs,h⟩=>by have:=h1 s hs;rw[aL (by omega)]at h;cases h
  simp only[bi hn,Pd,ae,zo]<;>grind
 .have hy:∃s,s∈bu ny x++bu qz x/\decide (s>=(f.2.2.2.1.length:Int))=true:=by grind
  grind
end
def LD(ts:List aA)(S:List Sg)(sl:List Field)(re:Int)(x:Instr):Bool:=bif x.1==1||x.1==32then decide (kd ts (fK sl x.2.1)=2)else bif x.1==2then decide (kd ts (fK sl x.2.1)=3)else bif x.1==3||x.1==23then decide (kd ts (fK sl x.2.1)=1)else bif x.1==5then decide (fK sl x.2.1=fK sl x.2.2.1)else bif x.1==6||(x.1==7||(x.1==8||x.1==9))then decide (kd ts (fK sl x.2.1)=2/\kd ts (fK sl x.2.2.1)=2/\kd ts (fK sl x.2.2.2)=2)else bif x.1==10then decide (kd ts (fK sl x.2.1)=1/\kd ts (fK sl x.2.2.1)=2/\kd ts (fK sl x.2.2.2)=2)else bif x.1==11then decide (kd ts (fK sl x.2.1)=1/\fK sl x.2.2.1=fK sl x.2.2.2/\Lz (kd ts (fK sl x.2.2.1)))else bif x.1==12then decide (kd ts (fK sl x.2.1)=1/\kd ts (fK sl x.2.2.1)=1)else bif x.1==13then decide (aa5 ts (fK sl x.2.2.1) x.2.2.2 (fK sl x.2.1))else bif x.1==14then decide (aa5 ts (fK sl x.2.1) x.2.2.1 (fK sl x.2.2.2))else bif x.1==15then decide (kd ts (fK sl x.2.1)=4)else bif x.1==16then decide (kd ts (fK sl x.2.2.1)=4/\elt ts (fK sl x.2.2.1)=fK sl x.2.1)else bif x.1==17then decide (kd ts (fK sl x.2.1)=4/\elt ts (fK sl x.2.1)=fK sl x.2.2.1)else bif x.1==18then decide (kd ts (fK sl x.2.1)=7/\kd ts (fK sl x.2.2.1)=2)else bif x.1==19then decide ((kd ts (fK sl x.2.2.1)=7\/kd ts (fK sl x.2.2.1)=6)/\elt ts (fK sl x.2.2.1)=fK sl x.2.1/\kd ts (fK sl x.2.2.2)=2)else bif x.1==20then decide ((kd ts (fK sl x.2.1)=7\/kd ts (fK sl x.2.1)=6)/\elt ts (fK sl x.2.1)=fK sl x.2.2.2/\kd ts (fK sl x.2.2.1)=2)else bif x.1==21then decide (kd ts (fK sl x.2.1)=2/\(kd ts (fK sl x.2.2.1)=3\/kd ts (fK sl x.2.2.1)=7\/kd ts (fK sl x.2.2.1)=6))else bif x.1==25then decide (x.2.1<0\/(NO S x.2.2.1).2.1=fK sl x.2.1)else bif x.1==26||x.1==27then decide (Ec ts (NO S x.2.1))else bif x.1==28then decide (kd ts (fK sl x.2.1)=2\/kd ts (fK sl x.2.1)=1\/kd ts (fK sl x.2.1)=3)else bif x.1==29||x.1==33then decide (kd ts (fK sl x.2.1)=1/\kd ts (fK sl x.2.2.1)=2)else bif x.1==34then decide (x.2.1<0\/re=fK sl x.2.1)else true
def n8{β:Type}{l:List Int}{q:Int->Bool}{r:β}{h:Int->β}{Lf:Nat->Int->Option β}(h0:∀k,Lf (k+1) (l.length:Int)=some r)(hs:∀k(i:Nat)x,l[i]?=some x->x∈l->Lf (k+1) (i:Int)=if q x=true then Lf k ((i+1:Nat):Int)else some (h (i:Int))){N:Nat}(hN:l.length<N):(l.all q=true/\Lf N 0=some r)\/(l.all q=false/\∃i:Nat,Lf N 0=some (h (i:Int))):=by
 rcases cL (l:=l) (g:=λ_:Unit=>r) (Out:=λz=>l.all q=false/\∃i:Nat,z=h (i:Int)) (Inv:=λi _=>∀j x,j<i->l[j]?=some x->q x=true) (Lf:=λk i _=>Lf k i) (λk _ _=>h0 k) (λk i x _ hx hI=>by cases hq:q x with|false=>exact .inl ⟨_,⟨by rw[List.all_eq_false];exact⟨x,aS hx,by rw[hq];exact Bool.false_ne_true⟩,i,rfl⟩,by show Lf _ _=_;rw[hs k i x hx (aS hx),hq];rfl⟩|true=>
  refine .inr ⟨(),λj y hj hy=>?_,by show Lf _ _=_;rw[hs k i x hx (aS hx),hq];rfl⟩;by_cases e:j=i;.subst e;rw[hx]at hy;rw[<-dC hy];exact hq
  .exact hI j y (by omega) hy) (k:=N) (s:=()) (λj x hj=>by omega) hN with⟨z,⟨h1,i,rfl⟩,h2⟩|⟨_,h1,h2⟩;.grind
 .refine .inl ⟨lx.2 λx hx=>?_,h2⟩;obtain⟨i,hi,rfl⟩:=jp.1 hx<;>simp_all
section
variable{ts:List aA}{xs:List (List UInt8)}{fs:List Func}
def aa8{N:Nat}(hN:1300<N)(f:Func){l:List Int}(hl:l.length<=10){c:Int}(hc:c=l.length)(ht:∀t,t∈l->-1<=t/\t<ts.length):(l.all (λt=>decide (kd ts t=2))=true/\PP N N (l,c,0,ts,xs,fs,f.1,f.2.1,f.2.2.1,f.2.2.2.1,f.2.2.2.2.1,f.2.2.2.2.2.1,f.2.2.2.2.2.2)=some (.inr ()))\/(l.all (λt=>decide (kd ts t=2))=false/\∃i:Nat,PP N N (l,c,0,ts,xs,fs,f.1,f.2.1,f.2.2.1,f.2.2.2.1,f.2.2.2.2.1,f.2.2.2.2.2.1,f.2.2.2.2.2.2)=some (.inl (i:Int))):=by subst hc;refine n8 (N:=N) (l:=l) (q:=(λt=>decide (kd ts t=2))) (r:=.inr ()) (h:=λi=>.inl i) (Lf:=λk i=>PP N k (l,(l.length:Int),i,ts,xs,fs,f.1,f.2.1,f.2.2.1,f.2.2.2.1,f.2.2.2.2.1,f.2.2.2.2.2.1,f.2.2.2.2.2.2)) (λk=>by simp only[PP.eq_2,aG,af]) (λk i x hx hm=>?_) (by omega);have hi:=aC hx;simp only[PP.eq_2,aD hi,aq,aB hx,ae,Ef hN f (ht x hm) (show[2].length<=10by decide) (show¬(0:Int)∈[2]by decide),aj (show i<9223372036854775807by omega),ca]<;>grind
def aa9{N:Nat}(hN:1300<N)(f:Func){l:List Int}(hl:l.length<=10){c:Int}(hc:c=l.length)(ht:∀t,t∈l->-1<=t/\t<ts.length):(l.all (λt=>decide (kd ts t=2))=true/\PQ N N (l,c,0,ts,xs,fs,f.1,f.2.1,f.2.2.1,f.2.2.2.1,f.2.2.2.2.1,f.2.2.2.2.2.1,f.2.2.2.2.2.2)=some (.inr ()))\/(l.all (λt=>decide (kd ts t=2))=false/\∃i:Nat,PQ N N (l,c,0,ts,xs,fs,f.1,f.2.1,f.2.2.1,f.2.2.2.1,f.2.2.2.2.1,f.2.2.2.2.2.1,f.2.2.2.2.2.2)=some (.inl (i:Int))):=by subst hc;refine n8 (N:=N) (l:=l) (q:=(λt=>decide (kd ts t=2))) (r:=.inr ()) (h:=λi=>.inl i) (Lf:=λk i=>PQ N k (l,(l.length:Int),i,ts,xs,fs,f.1,f.2.1,f.2.2.1,f.2.2.2.1,f.2.2.2.2.1,f.2.2.2.2.2.1,f.2.2.2.2.2.2)) (λk=>by simp only[PQ.eq_2,aG,af]) (λk i x hx hm=>?_) (by omega);have hi:=aC hx;simp only[PQ.eq_2,aD hi,aq,aB hx,ae,Ef hN f (ht x hm) (show[2].length<=10by decide) (show¬(0:Int)∈[2]by decide),aj (show i<9223372036854775807by omega),ca]<;>grind
def aba{N:Nat}(hN:1300<N)(f:Func){l:List Int}(hl:l.length<=10){c:Int}(hc:c=l.length)(ht:∀t,t∈l->-1<=t/\t<ts.length):(l.all (λt=>decide (kd ts t=2))=true/\P1 N N (l,c,0,ts,xs,fs,f.1,f.2.1,f.2.2.1,f.2.2.2.1,f.2.2.2.2.1,f.2.2.2.2.2.1,f.2.2.2.2.2.2)=some (.inr ()))\/(l.all (λt=>decide (kd ts t=2))=false/\∃i:Nat,P1 N N (l,c,0,ts,xs,fs,f.1,f.2.1,f.2.2.1,f.2.2.2.1,f.2.2.2.2.1,f.2.2.2.2.2.1,f.2.2.2.2.2.2)=some (.inl (i:Int))):=by subst hc;refine n8 (N:=N) (l:=l) (q:=(λt=>decide (kd ts t=2))) (r:=.inr ()) (h:=λi=>.inl i) (Lf:=λk i=>P1 N k (l,(l.length:Int),i,ts,xs,fs,f.1,f.2.1,f.2.2.1,f.2.2.2.1,f.2.2.2.2.1,f.2.2.2.2.2.1,f.2.2.2.2.2.2)) (λk=>by simp only[P1.eq_2,aG,af]) (λk i x hx hm=>?_) (by omega);have hi:=aC hx;simp only[P1.eq_2,aD hi,aq,aB hx,ae,Ef hN f (ht x hm) (show[2].length<=10by decide) (show¬(0:Int)∈[2]by decide),aj (show i<9223372036854775807by omega),ca]<;>grind
def abb{N:Nat}(hN:1300<N)(f:Func){l:List Int}(hl:l.length<=10){c:Int}(hc:c=l.length)(ht:∀t,t∈l->-1<=t/\t<ts.length):(l.all (λt=>decide (kd ts t=2))=true/\P2 N N (l,c,0,ts,xs,fs,f.1,f.2.1,f.2.2.1,f.2.2.2.1,f.2.2.2.2.1,f.2.2.2.2.2.1,f.2.2.2.2.2.2)=some (.inr ()))\/(l.all (λt=>decide (kd ts t=2))=false/\∃i:Nat,P2 N N (l,c,0,ts,xs,fs,f.1,f.2.1,f.2.2.1,f.2.2.2.1,f.2.2.2.2.1,f.2.2.2.2.2.1,f.2.2.2.2.2.2)=some (.inl (i:Int))):=by subst hc;refine n8 (N:=N) (l:=l) (q:=(λt=>decide (kd ts t=2))) (r:=.inr ()) (h:=λi=>.inl i) (Lf:=λk i=>P2 N k (l,(l.length:Int),i,ts,xs,fs,f.1,f.2.1,f.2.2.1,f.2.2.2.1,f.2.2.2.2.1,f.2.2.2.2.2.1,f.2.2.2.2.2.2)) (λk=>by simp only[P2.eq_2,aG,af]) (λk i x hx hm=>?_) (by omega);have hi:=aC hx;simp only[P2.eq_2,aD hi,aq,aB hx,ae,Ef hN f (ht x hm) (show[2].length<=10by decide) (show¬(0:Int)∈[2]by decide),aj (show i<9223372036854775807by omega),ca]<;>grind
def abc{N:Nat}(hN:1300<N)(f:Func){l:List Int}(hl:l.length<=10){c:Int}(hc:c=l.length)(ht:∀t,t∈l->-1<=t/\t<ts.length):(l.all (λt=>decide (kd ts t=2))=true/\QP N N (l,c,0,ts,xs,fs,f.1,f.2.1,f.2.2.1,f.2.2.2.1,f.2.2.2.2.1,f.2.2.2.2.2.1,f.2.2.2.2.2.2)=some (.inr ()))\/(l.all (λt=>decide (kd ts t=2))=false/\∃i:Nat,QP N N (l,c,0,ts,xs,fs,f.1,f.2.1,f.2.2.1,f.2.2.2.1,f.2.2.2.2.1,f.2.2.2.2.2.1,f.2.2.2.2.2.2)=some (.inl (i:Int))):=by subst hc;refine n8 (N:=N) (l:=l) (q:=(λt=>decide (kd ts t=2))) (r:=.inr ()) (h:=λi=>.inl i) (Lf:=λk i=>QP N k (l,(l.length:Int),i,ts,xs,fs,f.1,f.2.1,f.2.2.1,f.2.2.2.1,f.2.2.2.2.1,f.2.2.2.2.2.1,f.2.2.2.2.2.2)) (λk=>by simp only[QP.eq_2,aG,af]) (λk i x hx hm=>?_) (by omega);have hi:=aC hx;simp only[QP.eq_2,aD hi,aq,aB hx,ae,Ef hN f (ht x hm) (show[2].length<=10by decide) (show¬(0:Int)∈[2]by decide),aj (show i<9223372036854775807by omega),ca]<;>grind
def abd{N:Nat}(hN:1300<N)(f:Func){l:List Int}(hl:l.length<=10){c:Int}(hc:c=l.length)(ht:∀t,t∈l->-1<=t/\t<ts.length):(l.all (λt=>decide (kd ts t=2))=true/\QQ N N (l,c,0,ts,xs,fs,f.1,f.2.1,f.2.2.1,f.2.2.2.1,f.2.2.2.2.1,f.2.2.2.2.2.1,f.2.2.2.2.2.2)=some (.inr ()))\/(l.all (λt=>decide (kd ts t=2))=false/\∃i:Nat,QQ N N (l,c,0,ts,xs,fs,f.1,f.2.1,f.2.2.1,f.2.2.2.1,f.2.2.2.2.1,f.2.2.2.2.2.1,f.2.2.2.2.2.2)=some (.inl (i:Int))):=by subst hc;refine n8 (N:=N) (l:=l) (q:=(λt=>decide (kd ts t=2))) (r:=.inr ()) (h:=λi=>.inl i) (Lf:=λk i=>QQ N k (l,(l.length:Int),i,ts,xs,fs,f.1,f.2.1,f.2.2.1,f.2.2.2.1,f.2.2.2.2.1,f.2.2.2.2.2.1,f.2.2.2.2.2.2)) (λk=>by simp only[QQ.eq_2,aG,af]) (λk i x hx hm=>?_) (by omega);have hi:=aC hx;simp only[QQ.eq_2,aD hi,aq,aB hx,ae,Ef hN f (ht x hm) (show[2].length<=10by decide) (show¬(0:Int)∈[2]by decide),aj (show i<9223372036854775807by omega),ca]<;>grind
def abe{N:Nat}(hN:1300<N)(f:Func){l:List Int}(hl:l.length<=10){c:Int}(hc:c=l.length)(ht:∀t,t∈l->-1<=t/\t<ts.length):(l.all (λt=>decide (kd ts t=2))=true/\Rd N N (l,c,0,ts,xs,fs,f.1,f.2.1,f.2.2.1,f.2.2.2.1,f.2.2.2.2.1,f.2.2.2.2.2.1,f.2.2.2.2.2.2)=some (.inr ()))\/(l.all (λt=>decide (kd ts t=2))=false/\∃i:Nat,Rd N N (l,c,0,ts,xs,fs,f.1,f.2.1,f.2.2.1,f.2.2.2.1,f.2.2.2.2.1,f.2.2.2.2.2.1,f.2.2.2.2.2.2)=some (.inl (i:Int))):=by subst hc;refine n8 (N:=N) (l:=l) (q:=(λt=>decide (kd ts t=2))) (r:=.inr ()) (h:=λi=>.inl i) (Lf:=λk i=>Rd N k (l,(l.length:Int),i,ts,xs,fs,f.1,f.2.1,f.2.2.1,f.2.2.2.1,f.2.2.2.2.1,f.2.2.2.2.2.1,f.2.2.2.2.2.2)) (λk=>by simp only[Rd.eq_2,aG,af]) (λk i x hx hm=>?_) (by omega);have hi:=aC hx;simp only[Rd.eq_2,aD hi,aq,aB hx,ae,Ef hN f (ht x hm) (show[2].length<=10by decide) (show¬(0:Int)∈[2]by decide),aj (show i<9223372036854775807by omega),ca]<;>grind
def abf{N:Nat}(hN:1300<N)(f:Func){l:List Int}(hl:l.length<=10){c:Int}(hc:c=l.length)(ht:∀t,t∈l->-1<=t/\t<ts.length):(l.all (λt=>decide (kd ts t=2))=true/\QR N N (l,c,0,ts,xs,fs,f.1,f.2.1,f.2.2.1,f.2.2.2.1,f.2.2.2.2.1,f.2.2.2.2.2.1,f.2.2.2.2.2.2)=some (.inr (ts,xs,fs,f.1,f.2.1,f.2.2.1,f.2.2.2.1,f.2.2.2.2.1,f.2.2.2.2.2.1,f.2.2.2.2.2.2)))\/(l.all (λt=>decide (kd ts t=2))=false/\∃i:Nat,QR N N (l,c,0,ts,xs,fs,f.1,f.2.1,f.2.2.1,f.2.2.2.1,f.2.2.2.2.1,f.2.2.2.2.2.1,f.2.2.2.2.2.2)=some (.inl ((i:Int),ts,xs,fs,f.1,f.2.1,f.2.2.1,f.2.2.2.1,f.2.2.2.2.1,f.2.2.2.2.2.1,f.2.2.2.2.2.2))):=by subst hc;refine n8 (N:=N) (l:=l) (q:=(λt=>decide (kd ts t=2))) (r:=.inr (ts,xs,fs,f.1,f.2.1,f.2.2.1,f.2.2.2.1,f.2.2.2.2.1,f.2.2.2.2.2.1,f.2.2.2.2.2.2)) (h:=λi=>.inl (i,ts,xs,fs,f.1,f.2.1,f.2.2.1,f.2.2.2.1,f.2.2.2.2.1,f.2.2.2.2.2.1,f.2.2.2.2.2.2)) (Lf:=λk i=>QR N k (l,(l.length:Int),i,ts,xs,fs,f.1,f.2.1,f.2.2.1,f.2.2.2.1,f.2.2.2.2.1,f.2.2.2.2.2.1,f.2.2.2.2.2.2)) (λk=>by simp only[QR.eq_2,aG,af]) (λk i x hx hm=>?_) (by omega);have hi:=aC hx;simp only[QR.eq_2,aD hi,aq,aB hx,ae,Ef hN f (ht x hm) (show[2].length<=10by decide) (show¬(0:Int)∈[2]by decide),aj (show i<9223372036854775807by omega),ca]<;>grind
def apu{N:Nat}(hN:1300<N)(hv:ij ts xs fs)(f:Func){t i o:Int}(h:-1<=t/\t<ts.length):QE N (ts,xs,fs,f.1,f.2.1,f.2.2.1,f.2.2.2.1,f.2.2.2.2.1,f.2.2.2.2.2.1,f.2.2.2.2.2.2,t,i,o)=some (decide (aa5 ts t i o)):=by
 rw[QE.eq_1];simp only[Ef hN f h (show[5].length<=10by decide) (show¬(0:Int)∈[5]by decide),ae,ca];by_cases h5:kd ts t=5
 .have h0:=IA (ts:=ts) (t:=t) (by omega);rw[aP h5,aq,qm ⟨h0,h.2⟩];simp only[ae,Iy];by_cases hi:0<=i/\i<(bJ ts t.toNat).2.2.2.length;.rw[aP hi,aq,zI hi,ae]<;>grind
  grind
 grind
def apv{N:Nat}(hv:ij ts xs fs){t i o:Int}(h:-1<=t/\t<ts.length)(ho:0<=o):(Q2 N (ts,xs,fs,t,i)).bind (λA=>some (A==o))=some (decide (aa5 ts t i o)):=by
 rw[Q2.eq_1,LC N h];simp only[ae];by_cases h5:kd ts t=5
 .have h0:=IA (ts:=ts) (t:=t) (by omega);rw[show(kd ts t !=5)=false by simp[h5],af,qm ⟨h0,h.2⟩];simp only[ae,cW];by_cases hi:0<=i/\i<(bJ ts t.toNat).2.2.2.length;.rw[aL (show¬i<0 by omega),aL (show¬i>=((bJ ts t.toNat).2.2.2.length:Int)by omega),Hd,af,zI hi]<;>grind
  .rw[show(decide (i<0)||decide (i>=((bJ ts t.toNat).2.2.2.length:Int)))=true by rw[<-Bool.decide_or];exact aP (by omega),aq,ae,aL (λh:(_/\_/\_)=>hi h.2.1),show((-1:Int)==o)=false by rw[ml];omega]
 .rw[show(kd ts t !=5)=true by simp[bne,h5],aq,ae,aq,ae,aL (λh:(_/\_/\_)=>h5 h.1),show((-1:Int)==o)=false by rw[ml];omega]
def abg{N:Nat}(hN:1300<N)(f:Func){t o:Int}(h:-1<=t/\t<ts.length){K:List Int}(hK:K.length<=10)(h0:¬(0:Int)∈K):Kx N (ts,xs,fs,f.1,f.2.1,f.2.2.1,f.2.2.2.1,f.2.2.2.2.1,f.2.2.2.2.2.1,f.2.2.2.2.2.2,t,o,K)=some (decide (kd ts t∈K/\elt ts t=o)):=by
 rw[Kx.eq_1];simp only[Ef hN f h hK h0,ae];by_cases hk:kd ts t∈K;.have ht:=IA (ts:=ts) (t:=t) (λe=>h0 (e▸hk));rw[aP hk,aq,qm ⟨ht,h.2⟩];unfold elt;simp[hk,Ed]
 .rw[aL hk,af,aL (λh:(_/\_)=>hk h.1)];rfl
def ofR{N:Nat}{t:Int}(h:-1<=t/\t<ts.length){a b:Int}(ha:a≠0)(hb:b≠0):KJ N (ts,xs,fs,t,a,b)=some (if kd ts t=a\/kd ts t=b then elt ts t else-1):=by
 rw[KJ.eq_1,LC N h];simp only[ae,zo];by_cases hk:kd ts t=a\/kd ts t=b;.have ht:=IA (ts:=ts) (t:=t) (λe=>by rcases hk with hk|hk<;>rw[e]at hk<;>first|exact ha hk.symm|exact hb hk.symm);rw[be hk,aL (show¬t<0 by omega),show(bif(kd ts t !=a)then(kd ts t !=b)else false)=false by rcases hk with hk|hk<;>simp[hk]];simp[af,qm (show 0<=t/\t<(ts.length:Int)by omega),ae];rfl
 grind
def RM{N:Nat}(hN:1300<N)(hv:ij ts xs fs)(f:Func){g:Func}(hg:fo ts.length g):UJ N (ts,xs,fs,f.1,f.2.1,f.2.2.1,f.2.2.2.1,f.2.2.2.2.1,f.2.2.2.2.2.1,f.2.2.2.2.2.2,g.1,g.2.1,g.2.2.1,g.2.2.2.1,g.2.2.2.2.1,g.2.2.2.2.2.1,g.2.2.2.2.2.2)=some (decide (Ec ts (sg g))):=by
 rw[UJ.eq_1];rw[show decide (Ec ts (sg g))=decide (g.2.2.1<0/\(g.2.1=0\/g.2.1=1/\Lz (kd ts (fl g.2.2.2.1 0).2)))from la.2 Hc];by_cases h1:g.2.2.1<0
 .rw[aP h1,aq];by_cases h2:g.2.1=0;.grind
  .rw[show(g.2.1==(0:Int))=false by simpa using h2,af];by_cases h3:g.2.1=1
   .have hl:(0:Int)<=0/\(0:Int)<g.2.2.2.1.length:=by have:=hg.2.2.2.1.2;omega
    have hm:fl g.2.2.2.1 0∈g.2.2.2.1:=by unfold fl<;>grind
    have hr:=hg.2.2.2.2.2.1 _ hm;have e:=zI hl;simp at e;rw[show(g.2.1==(1:Int))=true by simpa using h3,e];simp only[ae,Ef hN f (show-1<=(fl g.2.2.2.1 0).2/\(fl g.2.2.2.1 0).2<(ts.length:Int)by omega) (show[1,2,4].length<=10by decide) (show¬(0:Int)∈[1,2,4]by decide)]<;>grind
   grind
 grind
def RN{N:Nat}(hv:ij ts xs fs){i:Int}{g:Func}(hi:idx fs i=some g)(hg:fo ts.length g):Wg N (ts,xs,fs,i)=some (decide (Ec ts (sg g))):=by
 rw[Wg.eq_1,hi];rw[show decide (Ec ts (sg g))=decide (g.2.2.1<0/\(g.2.1=0\/g.2.1=1/\Lz (kd ts (fl g.2.2.2.1 0).2)))from la.2 Hc];simp only[ae];have EF:=hg.2.2.2.2.1.1;by_cases h1:g.2.2.1<0
 .rw[show(g.2.2.1==(-1:Int))=true by rw[ll];omega];by_cases h2:g.2.1=0;.grind
  .rw[show(g.2.1==(0:Int))=false by simpa using h2];by_cases h3:g.2.1=1
   .have hl:(0:Int)<=0/\(0:Int)<g.2.2.2.1.length:=by have:=hg.2.2.2.1.2;omega
    have hm:fl g.2.2.2.1 0∈g.2.2.2.1:=by unfold fl<;>grind
    have hr:=hg.2.2.2.2.2.1 _ hm;have e:=zI hl;simp at e;rw[aq,e];simp[ae,qm hr,Q1.eq_1,cW];rw[<-adj hr.1]<;>grind
   grind
 grind
def aho{N:Nat}(hN:1300<N)(hv:ij ts xs fs){f:Func}(hf:fo ts.length f){x:Instr}(hc:eT x=true)(hn:n7 xs.length (fV fs) f.2.2.2.1 x):US N (ts,xs,fs,f.1,f.2.1,f.2.2.1,f.2.2.2.1,f.2.2.2.2.1,f.2.2.2.2.2.1,f.2.2.2.2.2.2,x.1,x.2.1,x.2.2.1,x.2.2.2)=some (LD ts (fV fs) f.2.2.2.1 f.2.2.1 x):=by
 have hr:=hf.2.2.2.2.2.1;have hA:=wK hr x.2.1;have hB:=wK hr x.2.2.1;have hC:=wK hr x.2.2.2;rw[US.eq_1];simp only[adh,ae,cW];unfold LD;refine bw (λh=>?_) (λ_=>?_)
 .rcases aa8 hN f (l:=[fK f.2.2.2.1 x.2.1]) (by simp) (c:=1) rfl (λt ht=>by rw[ca.1 ht];exact hA)with⟨e1,e2⟩|⟨e1,i,e2⟩;.rw[e2];show some true=_;congr 1;simp_all
  .rw[e2];show some (!decide ((i:Int)>=0))=_;rw[aP (show(i:Int)>=0 by omega)];congr 1;simp_all
 refine bw (λh=>?_) (λ_=>?_);.rw[Ef hN f hA (show[3].length<=10by decide) (show¬(0:Int)∈[3]by decide),ae];congr 1;simp
 refine bw (λh=>?_) (λ_=>?_);.rw[Ef hN f hA (show[1].length<=10by decide) (show¬(0:Int)∈[1]by decide),ae];congr 1;simp
 refine bw (λh=>?_) (λ_=>?_);.rw[Ed]
 refine bw (λh=>?_) (λ_=>?_)
 .rcases aa9 hN f (l:=[fK f.2.2.2.1 x.2.1,fK f.2.2.2.1 x.2.2.1,fK f.2.2.2.1 x.2.2.2]) (by simp) (c:=3) rfl (λt ht=>by simp only[dq,d7,lr]at ht;rcases ht with rfl|rfl|rfl<;>assumption)with⟨e1,e2⟩|⟨e1,i,e2⟩;.rw[e2];show some true=_;congr 1;simp_all
  .rw[e2];show some (!decide ((i:Int)>=0))=_;rw[aP (show(i:Int)>=0 by omega)];congr 1;simp_all
 refine bw (λh=>?_) (λ_=>?_)
 .rw[Ef hN f hA (show[1].length<=10by decide) (show¬(0:Int)∈[1]by decide),ae];by_cases hk:kd ts (fK f.2.2.2.1 x.2.1)=1
  .rw[aP (show kd ts (fK f.2.2.2.1 x.2.1)∈[1]by simpa using hk),aq];rcases aba hN f (l:=[fK f.2.2.2.1 x.2.2.1,fK f.2.2.2.1 x.2.2.2]) (by simp) (c:=2) rfl (λt ht=>by simp only[dq,d7,lr]at ht;rcases ht with rfl|rfl<;>assumption)with⟨e1,e2⟩|⟨e1,i,e2⟩;.rw[e2];show some true=_;congr 1;simp_all
   .rw[e2];show some (!decide ((i:Int)>=0))=_;rw[aP (show(i:Int)>=0 by omega)];congr 1;simp_all
  .rw[aL (show¬kd ts (fK f.2.2.2.1 x.2.1)∈[1]by simpa using hk),af,aL (λh:(_/\_/\_)=>hk h.1)]
 refine bw (λh=>?_) (λ_=>?_);.rw[Ef hN f hA (show[1].length<=10by decide) (show¬(0:Int)∈[1]by decide),ae,Ef hN f hB (show[2,1,4].length<=10by decide) (show¬(0:Int)∈[2,1,4]by decide),ae,zo,zo];congr 1;by_cases h1:kd ts (fK f.2.2.2.1 x.2.1)=1<;>by_cases h2:fK f.2.2.2.1 x.2.2.1=fK f.2.2.2.1 x.2.2.2<;>simp[h1,h2,Lz,or_left_comm]
 refine bw (λh=>?_) (λ_=>?_);.rw[Ef hN f hA (show[1].length<=10by decide) (show¬(0:Int)∈[1]by decide),ae,Ef hN f hB (show[1].length<=10by decide) (show¬(0:Int)∈[1]by decide),ae,fT];congr 1;simp
 refine bw (λh=>?_) (λ_=>?_);.rw[apu hN hv f hB,ae]
 refine bw (λh=>?_) (λ_=>?_);.rw[apu hN hv f hA,ae]
 refine bw (λh=>?_) (λ_=>?_);.rw[Ef hN f hA (show[4].length<=10by decide) (show¬(0:Int)∈[4]by decide),ae];congr 1;simp
 refine bw (λh=>?_) (λ_=>?_);.rw[abg hN f hB (show[4].length<=10by decide) (show¬(0:Int)∈[4]by decide),ae];congr 1;simp
 refine bw (λh=>?_) (λ_=>?_);.rw[abg hN f hA (show[4].length<=10by decide) (show¬(0:Int)∈[4]by decide),ae];congr 1;simp
 refine bw (λh=>?_) (λ_=>?_)
 .rw[Ef hN f hA (show[7].length<=10by decide) (show¬(0:Int)∈[7]by decide),ae];by_cases hk:kd ts (fK f.2.2.2.1 x.2.1)=7
  .rw[aP (show kd ts (fK f.2.2.2.1 x.2.1)∈[7]by simpa using hk),aq];rcases abb hN f (l:=[fK f.2.2.2.1 x.2.2.1]) (by simp) (c:=1) rfl (λt ht=>by rw[ca.1 ht];exact hB)with⟨e1,e2⟩|⟨e1,i,e2⟩;.rw[e2];show some true=_;congr 1;simp_all
   .rw[e2];show some (!decide ((i:Int)>=0))=_;rw[aP (show(i:Int)>=0 by omega)];congr 1;simp_all
  .rw[aL (show¬kd ts (fK f.2.2.2.1 x.2.1)∈[7]by simpa using hk),af,aL (λh:(_/\_)=>hk h.1)]
 refine bw (λh=>?_) (λ_=>?_)
 .rw[abg hN f hB (show[7,6].length<=10by decide) (show¬(0:Int)∈[7,6]by decide),ae];by_cases hk:kd ts (fK f.2.2.2.1 x.2.2.1)∈[7,6]/\elt ts (fK f.2.2.2.1 x.2.2.1)=fK f.2.2.2.1 x.2.1
  .rw[aP hk,aq];rcases abc hN f (l:=[fK f.2.2.2.1 x.2.2.2]) (by simp) (c:=1) rfl (λt ht=>by rw[ca.1 ht];exact hC)with⟨e1,e2⟩|⟨e1,i,e2⟩;.rw[e2];show some true=_;congr 1;simp_all
   .rw[e2];show some (!decide ((i:Int)>=0))=_;rw[aP (show(i:Int)>=0 by omega)];congr 1;simp_all
  .rw[aL hk,af,aL (λh:(_/\_/\_)=>hk ⟨by simpa using h.1,h.2.1⟩)]
 refine bw (λh=>?_) (λ_=>?_)
 .rw[abg hN f hA (show[7,6].length<=10by decide) (show¬(0:Int)∈[7,6]by decide),ae];by_cases hk:kd ts (fK f.2.2.2.1 x.2.1)∈[7,6]/\elt ts (fK f.2.2.2.1 x.2.1)=fK f.2.2.2.1 x.2.2.2
  .rw[aP hk,aq];rcases abd hN f (l:=[fK f.2.2.2.1 x.2.2.1]) (by simp) (c:=1) rfl (λt ht=>by rw[ca.1 ht];exact hB)with⟨e1,e2⟩|⟨e1,i,e2⟩;.rw[e2];show some true=_;congr 1;simp_all
   .rw[e2];show some (!decide ((i:Int)>=0))=_;rw[aP (show(i:Int)>=0 by omega)];congr 1;simp_all
  .rw[aL hk,af,aL (λh:(_/\_/\_)=>hk ⟨by simpa using h.1,h.2.1⟩)]
 refine bw (λh=>?_) (λ_=>?_)
 .rcases abf hN f (l:=[fK f.2.2.2.1 x.2.1]) (by simp) (c:=1) rfl (λt ht=>by rw[ca.1 ht];exact hA)with⟨e1,e2⟩|⟨e1,i,e2⟩;.rw[e2];simp only[ae,Ef hN f hB (show[3,7,6].length<=10by decide) (show¬(0:Int)∈[3,7,6]by decide)];congr 1;simp_all
  .rw[e2];simp only[ae,aP (show(i:Int)>=0 by omega),dk,af];congr 1;simp_all
 refine bw (λh=>?_) (λ_=>?_)
 .have IU:x.1=25:=by simpa using h
  have ov:called x=x.2.2.1:=by unfold called;rw[be IU]
  have h0:0<=x.2.2.1:=by have e:yd 25=some (103,99,45):=rfl;simp only[eT,IU,e,fits,ba,dj]at hc;exact hc.2.1.1
  have h2:=hn.2.1;rw[ov,qn]at h2;obtain⟨g,g1,_,g3⟩:=Ee (fs:=fs) ⟨h0,h2⟩;rw[g1,g3];simp only[ae,cW,sg];congr 1;by_cases e:x.2.1<0<;>simp[e,Ed]
 refine bw (λh=>?_) (λ_=>?_)
 .have IU:x.1=26\/x.1=27:=by simpa using h
  have ov:called x=x.2.1:=by unfold called;rw[bi (by omega),be IU]
  have h0:0<=x.2.1:=by
   rcases IU with IU|IU;.have e:yd 26=some (99,45,45):=rfl;simp only[eT,IU,e,fits,ba,dj]at hc;exact hc.1.1
   .have e:yd 27=some (99,45,45):=rfl;simp only[eT,IU,e,fits,ba,dj]at hc;exact hc.1.1
  have h2:=hn.2.1;rw[ov,qn]at h2;obtain⟨g,g1,g2,g3⟩:=Ee (fs:=fs) ⟨h0,h2⟩;rw[g1,g3];simp only[ae,RM hN hv f (hv.get g2)]
 refine bw (λh=>?_) (λ_=>?_);.rw[Ef hN f hA (show[2,1,3].length<=10by decide) (show¬(0:Int)∈[2,1,3]by decide),ae];congr 1;simp
 refine bw (λh=>?_) (λ_=>?_)
 .rw[Ef hN f hA (show[1].length<=10by decide) (show¬(0:Int)∈[1]by decide),ae];by_cases hk:kd ts (fK f.2.2.2.1 x.2.1)=1
  .rw[aP (show kd ts (fK f.2.2.2.1 x.2.1)∈[1]by simpa using hk),aq];rcases abe hN f (l:=[fK f.2.2.2.1 x.2.2.1]) (by simp) (c:=1) rfl (λt ht=>by rw[ca.1 ht];exact hB)with⟨e1,e2⟩|⟨e1,i,e2⟩;.rw[e2];show some true=_;congr 1;simp_all
   .rw[e2];show some (!decide ((i:Int)>=0))=_;rw[aP (show(i:Int)>=0 by omega)];congr 1;simp_all
  .rw[aL (show¬kd ts (fK f.2.2.2.1 x.2.1)∈[1]by simpa using hk),af,aL (λh:(_/\_)=>hk h.1)]
 refine bw (λh=>?_) (λ_=>?_);.congr 1;by_cases e:x.2.1<0<;>simp[e,Ed]
 rfl
def ahp{N:Nat}{i:Int}(hv:ij ts xs fs){f:Func}(hf:fo ts.length f){x:Instr}(hc:eT x=true)(hn:n7 xs.length (fV fs) f.2.2.2.1 x)(hfi:idx fs i=some f):Wh N (ts,xs,fs,i,x.1,x.2.1,x.2.2.1,x.2.2.2)=some (LD ts (fV fs) f.2.2.2.1 f.2.2.1 x):=by
 have hr:=hf.2.2.2.2.2.1;have hA:=wK hr x.2.1;have hB:=wK hr x.2.2.1;have hC:=wK hr x.2.2.2;rw[Wh.eq_1];simp only[adi N hfi,LC N hA,LC N hB,LC N hC,ae,cW];refine bw (λh=>?_) (λ_=>?_);.rw[Ed]
 refine bw (λh=>?_) (λ_=>?_);.rw[Ed]
 refine bw (λh=>?_) (λ_=>?_);.rw[Ed]
 refine bw (λh=>?_) (λ_=>?_);.rw[Ed]
 refine bw (λh=>?_) (λ_=>?_);.grind
 refine bw (λh=>?_) (λ_=>?_);.grind
 refine bw (λh=>?_) (λ_=>?_)
 .have h11:x.1=11:=by grind
  obtain⟨_,s2,_⟩:=jj hc (p:=119) (q:=114) (r:=114) (by rw[h11];rfl);obtain⟨b0,b1⟩:=s2 (.inr rfl);have hb:=qB hr ⟨b0,hn.1 _ b1⟩;simp only[qm hb,ae,Q1.eq_1,cW,fT];rw[<-adj hb.1];congr 1;grind
 refine bw (λh=>?_) (λ_=>?_);.grind
 refine bw (λh=>?_) (λ_=>?_)
 .have hk:x.1=13:=by grind
  obtain⟨s1,_,_⟩:=jj hc (p:=119) (q:=114) (r:=102) (by rw[hk];rfl);obtain⟨b0,b1⟩:=s1 (.inl rfl);exact apv hv hB (qB hr ⟨b0,hn.1 _ b1⟩).1
 refine bw (λh=>?_) (λ_=>?_)
 .have hk:x.1=14:=by grind
  obtain⟨_,_,s3⟩:=jj hc (p:=114) (q:=102) (r:=114) (by rw[hk];rfl);obtain⟨b0,b1⟩:=s3 (.inr rfl);exact apv hv hA (qB hr ⟨b0,hn.1 _ b1⟩).1
 refine bw (λh=>?_) (λ_=>?_);.rw[Ed]
 refine bw (λh=>?_) (λ_=>?_)
 .have hk:x.1=16:=by grind
  obtain⟨s1,_,_⟩:=jj hc (p:=119) (q:=114) (r:=45) (by rw[hk];rfl);obtain⟨b0,b1⟩:=s1 (.inl rfl);have ho:=(qB hr ⟨b0,hn.1 _ b1⟩).1;rw[ofR hB (show(4:Int)≠0 by decide) (show(4:Int)≠0 by decide),ae];congr 1;grind
 refine bw (λh=>?_) (λ_=>?_)
 .have hk:x.1=17:=by grind
  obtain⟨_,s1,_⟩:=jj hc (p:=114) (q:=114) (r:=45) (by rw[hk];rfl);obtain⟨b0,b1⟩:=s1 (.inr rfl);have ho:=(qB hr ⟨b0,hn.1 _ b1⟩).1;rw[ofR hA (show(4:Int)≠0 by decide) (show(4:Int)≠0 by decide),ae];congr 1;grind
 refine bw (λh=>?_) (λ_=>?_);.grind
 refine bw (λh=>?_) (λ_=>?_)
 .have hk:x.1=19:=by grind
  obtain⟨s1,_,_⟩:=jj hc (p:=119) (q:=114) (r:=114) (by rw[hk];rfl);obtain⟨b0,b1⟩:=s1 (.inl rfl);have ho:=(qB hr ⟨b0,hn.1 _ b1⟩).1;rw[ofR hB (show(7:Int)≠0 by decide) (show(6:Int)≠0 by decide),ae]<;>grind
 refine bw (λh=>?_) (λ_=>?_)
 .have hk:x.1=20:=by grind
  obtain⟨_,_,s1⟩:=jj hc (p:=114) (q:=114) (r:=114) (by rw[hk];rfl);obtain⟨b0,b1⟩:=s1 (.inr rfl);have ho:=(qB hr ⟨b0,hn.1 _ b1⟩).1;rw[ofR hA (show(7:Int)≠0 by decide) (show(6:Int)≠0 by decide),ae]<;>grind
 refine bw (λh=>?_) (λ_=>?_);.simp only[cW,fT,ae];simp[Ed]
 refine bw (λh=>?_) (λ_=>?_)
 .have IU:x.1=25:=by grind
  have ov:called x=x.2.2.1:=by unfold called<;>grind
  have h0:0<=x.2.2.1:=by have e:yd 25=some (103,99,45):=rfl;simp[eT,IU,e,fits,ba,dj]at hc;exact hc.2.1.1
  have h2:=hn.2.1;rw[ov,qn]at h2;obtain⟨g,g1,_,g3⟩:=Ee (fs:=fs) ⟨h0,h2⟩;rw[g1,g3];simp[ae,cW,sg];have hm:-1<=x.2.1:=by have e:yd 25=some (103,99,45):=rfl;simp[eT,IU,e,fits,ba,dj]at hc;exact hc.1.1
  grind
 refine bw (λh=>?_) (λ_=>?_)
 .have IU:x.1=26\/x.1=27:=by grind
  have ov:called x=x.2.1:=by unfold called<;>grind
  have h0:0<=x.2.1:=by
   rcases IU with IU|IU;.have e:yd 26=some (99,45,45):=rfl;simp[eT,IU,e,fits,ba,dj]at hc;exact hc.1.1
   .have e:yd 27=some (99,45,45):=rfl;simp[eT,IU,e,fits,ba,dj]at hc;exact hc.1.1
  have h2:=hn.2.1;rw[ov,qn]at h2;obtain⟨g,g1,g2,g3⟩:=Ee (fs:=fs) ⟨h0,h2⟩;rw[g3];rw[RN hv g1 (hv.get g2)];rfl
 refine bw (λh=>?_) (λ_=>?_);.simp[Ed]
 refine bw (λh=>?_) (λ_=>?_);.grind
 refine bw (λh=>?_) (λ_=>?_)
 .have hk:x.1=34:=by grind
  have hm:-1<=x.2.1:=by have e:yd 34=some (101,45,45):=rfl;simp[eT,hk,e,fits,ba,dj]at hc;exact hc.1.1
  rw[hfi];by_cases e:x.2.1<0<;>grind
 rfl
end
def EP(x:List Ex):Prop:=∀i:Int,0<=i->i<x.length->1<=(eD x i).1
def LF{C:Int}(hC:1000<=C){x:List Ex}(hx:EX C x)(hp:EP x):∀(fs:List Field)(s a:Int),0<=s->AL a->(∀f,f∈fs->0<=f.2/\f.2<x.length)->(1<=s\/fs≠[])->1<=(fu C x s a fs).2.1
 |[],s,a,_,_,_,h=>by
  rcases h with h|h;.exact h
  grind|f::r,s,a,h0,ha,hf,_=>by obtain⟨b1,b2⟩:=hf f ci;have h1:=hp f.2 b1 b2;obtain⟨e1,e2,e3⟩:=hx.get (by omega) f.2;have hu:=oF e1 h0;exact LF hC hx hp r _ _ (by omega) (ha.max e1) (λg hg=>hf g (dp _ hg)) (.inl (by omega))
def RO{C:Int}(hC:1000<=C)(h8:C%8=0){out:List Ex}(ho:EX C out)(hp:EP out){n i:Nat}{t:aA}(hi:i=out.length)(ht:cO n i t):1<=(mg C out t).1:=by
 unfold mg;unfold cO at ht;split;.omega
 .split;.omega
  .split;.omega
   .split;.rename_i h1 h3 h7 h6;rw[bi (by omega),bi (by omega),be h6]at ht;obtain⟨⟨a1,a2⟩,⟨b1,b2⟩,_⟩:=ht;have:=hp t.2.1 a1 (by omega);have:1<=t.2.2.1*(eD out t.2.1).1:=Hb (by omega) (vy b1 this (by omega) (by omega):(1:Int)*1<=_)<;>grind
    .split;.rename_i h1 h3 h7 h6 h5;rw[bi (by omega),bi (by omega),bi h6,be h5]at ht;obtain⟨_,_,⟨b1,b2⟩,_,hf⟩:=ht;obtain⟨c1,c2,_⟩:=oL (C:=C) (by omega) ho t.2.2.2 0 1 (by omega) (by omega) (.inl rfl);have h:=LF hC ho hp t.2.2.2 0 1 (by omega) (.inl rfl) (λf hm=>by have:=hf f hm;omega) (.inr (λe=>by rw[e]at b1;simp at b1));have hu:=oF c2 c1.1<;>grind
     omega
def Eh{C:Int}(hC:1000<=C)(h8:C%8=0){l:List aA}(ht:zx l):∀i,i<=l.length->EP (bV C l i)
 |0,_=>λj h0 h1=>by simp[bV]at h1;omega|i+1,hi=>λj h0 h1=>by
  rw[bV,yl,dB];rw[dB]at h1;split;.exact Eh hC h8 ht i (by omega) j h0 (by rw[dB];omega)
  .rw[be (by omega)];exact RO hC h8 (ju hC h8 ht i (by omega)) (Eh hC h8 ht i (by omega)) (n:=l.length) (i:=i) (by rw[dB]) (ht i (by omega))
section
variable{ts:List aA}{xs:List (List UInt8)}{fs:List Func}
def ij.size(h:ij ts xs fs){t:Int}(ht:0<=t/\t<ts.length):eD (exs ts) t=eD (bV 1000000 ts ts.length) t/\1<=(eD (exs ts) t).1/\(eD (exs ts) t).1<=256:=by
 obtain⟨n,rfl⟩:=bo ht.1;have hT:=h.Iz.1;have h1:=h.Iz.2.2.2.1 n (by omega);refine⟨?_,Eh (by omega) (by omega) hT.2.1 ts.length (bd _) n (by omega) (by rw[dB];omega),h1⟩;rcases uH hT.2.1 ts.length (bd _) (n:Int)with⟨hr|hr,hq⟩;.exact Prod.ext hr hq
 .have:(eD (exs ts) (n:Int)).1=(eD (bV 1048576 ts ts.length) (n:Int)).1:=rfl;omega
def ij.wide(h:ij ts xs fs){t:Int}(ht:0<=t/\t<ts.length):8<=wide ts t/\Go.Proofs.YtnfdnnplfbfgaaaGreat.wide ts t<=263:=by obtain⟨_,h1,h2⟩:=h.size ht;have:=up8 h1;unfold Go.Proofs.YtnfdnnplfbfgaaaGreat.wide;omega
def LA.pS(h:ij ts xs fs):∀{s:List Int},LA ts s->8*(s.length:Int)<=pS ts s/\Go.Proofs.YtnfdnnplfbfgaaaGreat.pS ts s<=263*(s.length:Int)|[],_=>by simp[Go.Proofs.YtnfdnnplfbfgaaaGreat.pS]|t::s,hs=>by have h1:=h.wide (hs t ci);have h2:=LA.pS h (s:=s) λx hx=>hs x (dp _ hx);simp only[Go.Proofs.YtnfdnnplfbfgaaaGreat.pS,eK];omega
def LA.take{s:List Int}(h:LA ts s)(n:Nat):LA ts (s.take n):=λt ht=>h t (kb ht)
def ahq{N:Nat}{n:Int}(h:0<=n/\n<=4000000):Ky N n=some (up 8 n,0):=by have e:=sw (a:=8) (s:=n) (.inr rfl) h;rw[aJ (n:=n+8) (by omega),show n+8-1=n+7by omega,aJ (n:=(8:Int)-1) (by decide)]at e;rw[Ky.eq_1,aL (show¬n<0 by omega)]<;>grind
def Yn{N:Nat}{n:Int}(h:0<=n/\n<=4000000):KK N n=some (up 8 n):=by rw[KK.eq_1,BM (.inr rfl) h];rfl
def LG{s:List Int}{i:Nat}{t:Int}(h:s[i]?=some t):pS ts (s.take (i+1))=pS ts (s.take i)+wide ts t:=by rw[take_succ h,Pc];simp[pS]
def IB{N:Nat}(hN:1300<N)(hv:ij ts xs fs)(f:Func){s:List Int}(hs:LA ts s)(hl:s.length<=1000):QF N (ts,xs,fs,f.1,f.2.1,f.2.2.1,f.2.2.2.1,f.2.2.2.2.1,f.2.2.2.2.2.1,f.2.2.2.2.2.2,s)=some (pS ts s,0):=by obtain⟨z,hz,he⟩:=fI (l:=s) (g:=λv:Int=>(.inr v:(Int×Int)⊕Int)) (Inv:=λi v=>v=pS ts (s.take i)) (Lf:=λk i v=>ax9 N k (v,s,(s.length:Int),i,ts,xs,fs,f.1,f.2.1,f.2.2.1,f.2.2.2.1,f.2.2.2.2.1,f.2.2.2.2.2.1,f.2.2.2.2.2.2)) (λk v _=>by simp only[ax9.eq_2,aG,af]) (λk i t v ht hI=>by
 have hi:=aC ht;have hm:=hs t (aS ht);obtain⟨_,z1,z2⟩:=hv.size hm;obtain⟨w1,w2⟩:=hv.wide hm;obtain⟨y1,y2⟩:=(hs.take i).pS hv;have PE:(s.take i).length<=1000:=by rw[io];omega
 refine⟨v+wide ts t,by rw[hI,LG ht],?_⟩;simp only[ax9.eq_2,aD hi,aq,aB ht,ae,Ip hN hv.fit.1.1 hv.Iz.1 hm,be z2,fJ,af,ahq (N:=N) (n:=(eD (exs ts) t).1) (by omega),aj (show i<9223372036854775807by omega)];rw[show up 8 (eD (exs ts) t).1=wide ts t from rfl,aJ (by omega)]) (k:=N) (s:=0) (by simp[pS]) (by omega);rw[QF.eq_1,he,hz,f9];rfl
def NP{N:Nat}(hN:1300<N)(hv:ij ts xs fs){s:List Int}(hs:LA ts s)(hl:s.length<=1000):Ng N (ts,xs,fs,s)=some (pS ts s):=by obtain⟨z,hz,he⟩:=fI (l:=s) (g:=λv:Int=>v) (Inv:=λi v=>v=pS ts (s.take i)) (Lf:=λk i v=>aB3 N k (s,(bV 1000000 ts ts.length).map (·.1),v,i)) (λk v _=>by simp only[aB3.eq_2,aG,af]) (λk i t v ht hI=>by
 have hi:=aC ht;have hm:=hs t (aS ht);obtain⟨z0,z1,z2⟩:=hv.size hm;obtain⟨w1,w2⟩:=hv.wide hm;obtain⟨y1,y2⟩:=(hs.take i).pS hv;have PE:(s.take i).length<=1000:=by rw[io];omega
 have hx:idx ((bV 1000000 ts ts.length).map (·.1)) t=some (eD (exs ts) t).1:=by rw[z0];exact oN (g:=λe:Ex=>e.1) (oM (by rw[dB];exact hm))
 refine⟨v+wide ts t,by rw[hI,LG ht],?_⟩;simp only[aB3.eq_2,aD hi,aq,aB ht,ae,hx,Yn (N:=N) (n:=(eD (exs ts) t).1) (by omega),aj (show i<9223372036854775807by omega)];rw[show up 8 (eD (exs ts) t).1=wide ts t from rfl,aJ (by omega)]) (k:=N) (s:=0) (by simp[pS]) (by omega);rw[Ng.eq_1,uG (by omega) hv.fit.1.1.1 hv.Iz.1.2.1,ae,he,hz,f9];rfl
def Ei{N:Nat}{l m:List Int}(hl:l.length<N)(hb:l.length<9223372036854775807):Q4 N (l,m)=some (decide (l=m)):=by
 rw[Q4.eq_1,D3];by_cases h:l.length=m.length;.have key:=uZ (l:=l) (m:=m) (a:=(.inr ():Bool⊕Unit)) (b:=.inl false) (Lf:=λk i=>aB2 N k (l,m,i)) h (λk=>by simp only[aB2.eq_2,aG,af]) (λk i x y _ _ h1 h2=>by
  simp only[aB2.eq_2,aD (aC h1),aq,aB h1,aB h2,ae,aj (show i<9223372036854775807by have:=aC h1;omega)];by_cases hxy:x=y;.subst hxy;simp
  .rw[bi hxy,show(x !=y)=true by simp[bne,hxy]];rfl) N hl;grind
 .rw[cb h,cb (λe=>h (by rw[e]))];rfl
def RP{N:Nat}{l m:List Int}(hl:l.length<N)(hb:l.length<9223372036854775807):UY N (l,m)=some (decide (l=m)):=by
 rw[UY.eq_1,D3];by_cases h:l.length=m.length;.have key:=uZ (l:=l) (m:=m) (a:=(.inr ():Bool⊕Unit)) (b:=.inl false) (Lf:=λk i=>ay2 N k (l,m,(l.length:Int),i)) h (λk=>by simp only[ay2.eq_2,aG,af]) (λk i x y _ _ h1 h2=>by
  simp only[ay2.eq_2,aD (aC h1),aq,aB h1,aB h2,ae,aj (show i<9223372036854775807by have:=aC h1;omega)];by_cases hxy:x=y;.subst hxy;simp
  .rw[bi hxy,show(x !=y)=true by simp[bne,hxy]];rfl) N hl;grind
 .rw[cb h,cb (λe=>h (by rw[e]))];rfl
def Ej(hv:ij ts xs fs){x:Instr}(hn:called x<fs.length)(h0:0<=called x):∃g,idx fs (called x)=some g/\takes (fV fs) x=(g.2.2.2.1.take g.2.1.toNat).map (·.2)/\fo ts.length g/\((takes (fV fs) x).length:Int)=g.2.1/\(takes (fV fs) x).length<=16:=by
 obtain⟨g,g1,g2,g3⟩:=Ee (fs:=fs) ⟨h0,hn⟩;have hg:=hv.get g2;have ht:takes (fV fs) x=(g.2.2.2.1.take g.2.1.toNat).map (·.2):=by unfold takes;rw[be h0,g3];rfl
 have hp:=hg.2.2.2.1;have A4:=hg.2.1<;>grind
def wL{x:Instr}(h:¬0<=called x):takes (fV fs) x=[]:=by unfold takes<;>grind
def Yo{x:Instr}(h:x.1=24):called x=-1:=by unfold called<;>grind
def NQ{a b:Nat}(ha:a<=10000000)(hb:b<=10000000):au ((a:Int)-(b:Int))=(a:Int)-(b:Int):=aJ (by omega)
def ahr(hv:ij ts xs fs){sl:List Field}(hr:jl sl ts.length){x:Instr}(hc:eT x=true)(hn:n7 xs.length (fV fs) sl x){s s':List Int}(hs:LA ts s)(h:RL ts (fV fs) sl x s=some s'):LA ts s'/\s'.length<=512:=by
 obtain⟨t,h1,h2⟩:=lw.1 h;split at h2;case isFalse=>cases h2
 cases dC h2;have ho:LA ts s':=by
  unfold rest at h1;split at h1
  .rename_i Ez;cases dC h1;intro y hy;rcases bm.1 hy with hy|hy;.exact hs y hy
   .rw[ca.1 hy];obtain⟨s1,_,_⟩:=jj hc (p:=114) (q:=45) (r:=45) (by rw[Ez];rfl);obtain⟨b0,b1⟩:=s1 (.inr rfl);exact qB hr ⟨b0,hn.1 _ b1⟩
  .split at h1;.cases dC h1;exact hs.take _
   grind
 have:=(ho.pS hv).1<;>grind
def apw{N:Nat}(hN:1300<N)(hv:ij ts xs fs){f:Func}(hr:jl f.2.2.2.1 ts.length){x:Instr}(hc:eT x=true)(hn:n7 xs.length (fV fs) f.2.2.2.1 x){s:List Int}(hs:LA ts s)(hl:s.length<=600):∃r b,Ic N (ts,xs,fs,f.1,f.2.1,f.2.2.1,f.2.2.2.1,f.2.2.2.2.1,f.2.2.2.2.2.1,f.2.2.2.2.2.2,x.1,x.2.1,x.2.2.1,x.2.2.2,s)=some (r,b)/\RL ts (fV fs) f.2.2.2.1 x s=if b=true then some r else none:=by
 have ov:=hn.2.1;rw[qn]at ov;have fin:∀t:List Int,(if pS ts t<=4096then some t else none)=if decide (pS ts t<=4096)=true then some t else none:=λt=>by by_cases h:pS ts t<=4096<;>simp[h]
 by_cases Ez:x.1=24
 .obtain⟨s1,_,_⟩:=jj hc (p:=114) (q:=45) (r:=45) (by rw[Ez];rfl);obtain⟨b0,b1⟩:=s1 (.inr rfl);have hT:=qB hr ⟨b0,hn.1 _ b1⟩;have ho:LA ts (s++[fK f.2.2.2.1 x.2.1]):=λy hy=>by
   rcases bm.1 hy with hy|hy;.exact hs y hy
   .rw[ca.1 hy];exact hT
  have hlen:(s++[fK f.2.2.2.1 x.2.1]).length<=1000:=by grind
  refine⟨s++[fK f.2.2.2.1 x.2.1],decide (pS ts (s++[fK f.2.2.2.1 x.2.1])<=4096),?_,?_⟩;.have apx:akU N s=some s:=rfl;rw[Ic.eq_1];simp[show(x.1==(24:Int))=true by simpa using Ez,aq,apx,adh,ae,ak (show s.length+1<=10000000by omega) (show 8<=1000by omega),ah,yB,Yo Ez,show decide ((-1:Int)>=0)=false from rfl,af,IB hN hv f ho hlen,show((0:Int)==0)=true from rfl]
  .unfold RL rest<;>grind
 .have ahs:(x.1==(24:Int))=false:=by grind
  by_cases h0:0<=called x
  .obtain⟨g,g1,g2,g3,g4,g5⟩:=Ej hv ov h0;by_cases hle:(takes (fV fs) x).length<=s.length
   .have hwi:au ((s.length:Int)-g.2.1)=((s.length-(takes (fV fs) x).length:Nat):Int):=by rw[<-g4,NQ (by omega) (by omega)];omega
    have hdl:(s.drop (s.length-(takes (fV fs) x).length)).length=(takes (fV fs) x).length:=by grind
    have key:=cL (l:=s.drop (s.length-(takes (fV fs) x).length)) (g:=λ_:Unit=>(.inr (s,((s.length-(takes (fV fs) x).length:Nat):Int),ts,xs,fs,f.1,f.2.1,f.2.2.1,f.2.2.2.1,f.2.2.2.2.1,f.2.2.2.2.2.1,f.2.2.2.2.2.2):Bool⊕_)) (Out:=λr=>s.drop (s.length-(takes (fV fs) x).length)≠takes (fV fs) x/\r=.inl false) (Inv:=λi _=>∀j,j<i->(s.drop (s.length-(takes (fV fs) x).length))[j]?=(takes (fV fs) x)[j]?) (Lf:=λk i _=>ay0 N k (s,((s.length-(takes (fV fs) x).length:Nat):Int),s.drop (s.length-(takes (fV fs) x).length),((s.drop (s.length-(takes (fV fs) x).length)).length:Int),i,ts,xs,fs,f.1,f.2.1,f.2.2.1,f.2.2.2.1,f.2.2.2.2.1,f.2.2.2.2.2.1,f.2.2.2.2.2.2,g.1,g.2.1,g.2.2.1,g.2.2.2.1,g.2.2.2.2.1,g.2.2.2.2.2.1,g.2.2.2.2.2.2)) (λk _ _=>by simp only[ay0.eq_2,aG,af]) (λk i y _ hy hI=>by
      have hi:=aC hy;have hit:i<(takes (fV fs) x).length:=by omega
      have hp:=g3.2.2.2.1;have hig:i<g.2.2.2.1.length:=by omega
      have hgi:=aw hig;have hti:(takes (fV fs) x)[i]?=some (g.2.2.2.1[i]).2:=by rw[g2,eI,gg,be (by omega),hgi];rfl
      simp only[ay0.eq_2,aD hi,aq,aB hy,aB hgi,ae,aj (show i<9223372036854775807by omega)];by_cases he:(g.2.2.2.1[i]).2=y
      .refine .inr ⟨(),λj hj=>?_,by rw[show((g.2.2.2.1[i]).2!=y)=false by simp[he],af]⟩;by_cases hji:j=i;.subst hji;rw[hy,hti,he]
       .exact hI j (by omega)
      .exact .inl ⟨_,⟨λe=>he (by rw[e,hti]at hy;exact dC hy),rfl⟩,by rw[show((g.2.2.2.1[i]).2!=y)=true by simp[bne,he],aq]⟩) (k:=N) (s:=()) (λj hj=>by omega) (by omega);have hpre:Ic N (ts,xs,fs,f.1,f.2.1,f.2.2.1,f.2.2.2.1,f.2.2.2.2.1,f.2.2.2.2.2.1,f.2.2.2.2.2.2,x.1,x.2.1,x.2.2.1,x.2.2.2,s)=some (if s.drop (s.length-(takes (fV fs) x).length)=takes (fV fs) x then(s.take (s.length-(takes (fV fs) x).length),decide (pS ts (s.take (s.length-(takes (fV fs) x).length))<=4096))else([],false)):=by
     rw[Ic.eq_1];simp only[ahs,af,ae,yB,aP (show called x>=0from h0),aq,g1,hwi,aL (show¬((s.length-(takes (fV fs) x).length:Nat):Int)<0 by omega),aP (show(0:Int)<=((s.length-(takes (fV fs) x).length:Nat):Int)by omega),am,aP (show s.length-(takes (fV fs) x).length<=s.length by omega),ah];rcases key with⟨r,⟨k1,rfl⟩,k2⟩|⟨_,k1,k2⟩;.grind
     .have he:s.drop (s.length-(takes (fV fs) x).length)=takes (fV fs) x:=by apply lO;grind
      have hlen:(s.take (s.length-(takes (fV fs) x).length)).length<=1000:=by grind
      simp only[k2,ae,be he,am,aP (show(0:Int)<=((s.length-(takes (fV fs) x).length:Nat):Int)by omega),aP (show s.length-(takes (fV fs) x).length<=s.length by omega),ah,IB hN hv f (hs.take _) hlen,show((0:Int)==0)=true from rfl,aq]
    by_cases he:s.drop (s.length-(takes (fV fs) x).length)=takes (fV fs) x;.rw[be he]at hpre;refine⟨_,_,hpre,?_⟩;unfold RL rest;rw[bi Ez,be ⟨hle,he⟩,ae];exact fin _
    .rw[bi he]at hpre;refine⟨_,_,hpre,?_⟩;unfold RL rest;rw[bi Ez,bi (λh=>he h.2)];rfl
   .refine⟨[],false,?_,?_⟩
    .have hwi:au ((s.length:Int)-g.2.1)=(s.length:Int)-g.2.1:=by rw[<-g4,NQ (by omega) (by omega)]
     rw[Ic.eq_1];simp[ahs,af,ae,yB,aP (show called x>=0from h0),aq,g1,hwi,aP (show(s.length:Int)-g.2.1<0 by omega)]
    .unfold RL rest<;>grind
  .refine⟨s,decide (pS ts s<=4096),?_,?_⟩;.rw[Ic.eq_1];simp[ahs,af,ae,yB,aL (show¬called x>=0from h0),IB hN hv f hs (show s.length<=1000by omega),show((0:Int)==0)=true from rfl,aq]
   .unfold RL rest;rw[bi Ez,wL h0,be ⟨by simp,by simp⟩,ae];simp only[m7,GT,f9];exact fin _
def abh{N:Nat}(hN:1300<N)(hv:ij ts xs fs){f:Func}{i:Int}(hf:idx fs i=some f){x:Instr}(ov:called x<fs.length):Wm N (ts,xs,fs,i,x.1,x.2.1,x.2.2.1,x.2.2.2)=some (if x.1=24then([],fK f.2.2.2.1 x.2.1)else(takes (fV fs) x,-1)):=by
 rw[Wm.eq_1];by_cases Ez:x.1=24;.rw[show(x.1==(24:Int))=true by simpa using Ez,adi N hf,be Ez];rfl
 .rw[show(x.1==(24:Int))=false by simpa using Ez,af,Pd,ae,bi Ez];by_cases h0:0<=called x;.obtain⟨g,g1,g2,g3,g4,g5⟩:=Ej hv ov h0;rw[aP (show called x>=0from h0)];have key:=dI (n:=(takes (fV fs) x).length) (Lf:=λk j=>aB1 N k ((takes (fV fs) x).take j.toNat,called x,j,ts,xs,fs)) (g:=λ_=>some (takes (fV fs) x)) (λk=>by simp only[aB1.eq_2,g1,ae];rw[aL (show¬(((takes (fV fs) x).length:Nat):Int)<g.2.1by omega),af,am,f9]) (λk j hj ih=>by
   have hp:=g3.2.2.2.1;have hjg:j<g.2.2.2.1.length:=by omega
   have hgj:=aw hjg;have htj:(takes (fV fs) x)[j]?=some (g.2.2.2.1[j]).2:=by rw[g2,eI,gg,be (by omega),hgj];rfl
   have hlen:((takes (fV fs) x).take j).length<=16:=by rw[io];omega
   simp only[am]at ih⊢;simp only[aB1.eq_2,g1,ae,aP (show(j:Int)<g.2.1by omega),aq,aB hgj,ak (show((takes (fV fs) x).take j).length+1<=10000000by omega) (show 8<=1000by omega),ah,aj (show j<9223372036854775807by omega)];rw[<-ih,take_succ htj]) N 0 (by omega) (by omega);grind
  .rw[aL (show¬called x>=0from h0),af,wL h0]
def aht{N:Nat}(hN:1300<N)(hv:ij ts xs fs){f:Func}{i:Int}(hf:idx fs i=some f)(hr:jl f.2.2.2.1 ts.length){x:Instr}(hc:eT x=true)(hn:n7 xs.length (fV fs) f.2.2.2.1 x){s:List Int}(hs:LA ts s)(hl:s.length<=600):∃r b,Wp N (ts,xs,fs,i,x.1,x.2.1,x.2.2.1,x.2.2.2,s)=some (r,b)/\RL ts (fV fs) f.2.2.2.1 x s=if b=true then some r else none:=by
 have ov:=hn.2.1;rw[qn]at ov;have fin:∀t:List Int,(if pS ts t<=4096then some t else none)=if decide (pS ts t<=4096)=true then some t else none:=λt=>by by_cases h:pS ts t<=4096<;>simp[h]
 rw[Wp.eq_1,abh hN hv hf ov,ae];by_cases Ez:x.1=24
 .obtain⟨s1,_,_⟩:=jj hc (p:=114) (q:=45) (r:=45) (by rw[Ez];rfl);obtain⟨b0,b1⟩:=s1 (.inr rfl);have hT:=qB hr ⟨b0,hn.1 _ b1⟩;have ho:LA ts (s++[fK f.2.2.2.1 x.2.1]):=λy hy=>by
   rcases bm.1 hy with hy|hy;.exact hs y hy
   .rw[ca.1 hy];exact hT
  have hlen:(s++[fK f.2.2.2.1 x.2.1]).length<=1000:=by grind
  have hwi:au ((s.length:Int)-((([]:List Int).length:Nat):Int))=((s.length:Nat):Int):=by rw[aJ (by simp;omega)];simp
  refine⟨s++[fK f.2.2.2.1 x.2.1],decide (pS ts (s++[fK f.2.2.2.1 x.2.1])<=4096),?_,?_⟩;.simp only[be Ez,hwi,aL (show¬((s.length:Nat):Int)<0 by omega),af,aP (show(0:Int)<=((s.length:Nat):Int)by omega),am,aP (bd s.length),ah,ti,Ei (N:=N) (l:=[]) (m:=[]) (by grind) (by simp),pm,ae,dk,f9,ge,ak (show 0+s.length<=10000000by omega) (show 8<=1000by omega),ak (show s.length+1<=10000000by omega) (show 8<=1000by omega),aP (show fK f.2.2.2.1 x.2.1>=0from hT.1),aq,NP hN hv ho hlen]
  .unfold RL rest<;>grind
 .have A4:(takes (fV fs) x).length<=16:=by
   by_cases h0:0<=called x;.obtain⟨_,_,_,_,_,g5⟩:=Ej hv ov h0<;>omega
   .rw[wL h0];simp
  have hwi:au ((s.length:Int)-((takes (fV fs) x).length:Int))=(s.length:Int)-((takes (fV fs) x).length:Int):=NQ (by omega) (by omega);simp only[bi Ez,hwi];by_cases hle:(takes (fV fs) x).length<=s.length
  .have e:(s.length:Int)-((takes (fV fs) x).length:Int)=((s.length-(takes (fV fs) x).length:Nat):Int):=by omega
   have hlen:(s.take (s.length-(takes (fV fs) x).length)).length<=1000:=by grind
   have hdl:(s.drop (s.length-(takes (fV fs) x).length)).length<=1000:=by grind
   simp only[e,aL (show¬((s.length-(takes (fV fs) x).length:Nat):Int)<0 by omega),af,aP (show(0:Int)<=((s.length-(takes (fV fs) x).length:Nat):Int)by omega),am,aP (show s.length-(takes (fV fs) x).length<=s.length by omega),ah,Ei (N:=N) (l:=s.drop (s.length-(takes (fV fs) x).length)) (m:=takes (fV fs) x) (by omega) (by omega),ae];by_cases he:s.drop (s.length-(takes (fV fs) x).length)=takes (fV fs) x
   .refine⟨s.take (s.length-(takes (fV fs) x).length),decide (pS ts (s.take (s.length-(takes (fV fs) x).length))<=4096),?_,?_⟩;.simp only[aP he,dk,af,ge,ak (show 0+(s.take (s.length-(takes (fV fs) x).length)).length<=10000000by omega) (show 8<=1000by omega),ah,show decide ((-1:Int)>=0)=false from rfl,NP hN hv (hs.take _) hlen,ae]
    .unfold RL rest<;>grind
   .refine⟨[],false,by simp only[aL he,i5,aq],?_⟩;unfold RL rest<;>grind
  .refine⟨[],false,by simp only[aP (show(s.length:Int)-((takes (fV fs) x).length:Int)<0 by omega),aq,ae],?_⟩;unfold RL rest<;>grind
end
end Go.Proofs.YtnfdnnplfbfgaaaGreat
end
