/- The checker: types. -/
import Derived.Test.YtdogilonhnbapaaGreatDoorLaw12chg2
set_option linter.unusedVariables false
set_option linter.unusedSimpArgs false
namespace Go.Proofs.YtdogilonhnbapaaGreatDoor
open Go Go.bI Go.Sym
open Classical
noncomputable def Hx(ts:List aB)(S:List Sg)(sl:List Field)(re:Int)(x:Instr):Bool:=bif x.1==1||x.1==32then decide (kd ts (fc sl x.2.1)=2)else bif x.1==2then decide (kd ts (fc sl x.2.1)=3)else bif x.1==3||x.1==23then decide (kd ts (fc sl x.2.1)=1)else bif x.1==5then decide (fc sl x.2.1=fc sl x.2.2.1)else bif x.1==6||(x.1==7||(x.1==8||x.1==9))then decide (kd ts (fc sl x.2.1)=2/\kd ts (fc sl x.2.2.1)=2/\kd ts (fc sl x.2.2.2)=2)else bif x.1==10then decide (kd ts (fc sl x.2.1)=1/\kd ts (fc sl x.2.2.1)=2/\kd ts (fc sl x.2.2.2)=2)else bif x.1==11then decide (kd ts (fc sl x.2.1)=1/\fc sl x.2.2.1=fc sl x.2.2.2/\zO (kd ts (fc sl x.2.2.1)))else bif x.1==12then decide (kd ts (fc sl x.2.1)=1/\kd ts (fc sl x.2.2.1)=1)else bif x.1==13then decide (QL ts (fc sl x.2.2.1) x.2.2.2 (fc sl x.2.1))else bif x.1==14then decide (QL ts (fc sl x.2.1) x.2.2.1 (fc sl x.2.2.2))else bif x.1==15then decide (kd ts (fc sl x.2.1)=4)else bif x.1==16then decide (kd ts (fc sl x.2.2.1)=4/\Zf ts (fc sl x.2.2.1)=fc sl x.2.1)else bif x.1==17then decide (kd ts (fc sl x.2.1)=4/\Zf ts (fc sl x.2.1)=fc sl x.2.2.1)else bif x.1==18then decide (kd ts (fc sl x.2.1)=7/\kd ts (fc sl x.2.2.1)=2)else bif x.1==19then decide ((kd ts (fc sl x.2.2.1)=7\/kd ts (fc sl x.2.2.1)=6)/\Zf ts (fc sl x.2.2.1)=fc sl x.2.1/\kd ts (fc sl x.2.2.2)=2)else bif x.1==20then decide ((kd ts (fc sl x.2.1)=7\/kd ts (fc sl x.2.1)=6)/\Zf ts (fc sl x.2.1)=fc sl x.2.2.2/\kd ts (fc sl x.2.2.1)=2)else bif x.1==21then decide (kd ts (fc sl x.2.1)=2/\(kd ts (fc sl x.2.2.1)=3\/kd ts (fc sl x.2.2.1)=7\/kd ts (fc sl x.2.2.1)=6))else bif x.1==25then decide (x.2.1<0\/(Ht S x.2.2.1).2.1=fc sl x.2.1)else bif x.1==26||x.1==27then decide (yf ts (Ht S x.2.1))else bif x.1==28then decide (kd ts (fc sl x.2.1)=2\/kd ts (fc sl x.2.1)=1\/kd ts (fc sl x.2.1)=3)else bif x.1==29||x.1==33then decide (kd ts (fc sl x.2.1)=1/\kd ts (fc sl x.2.2.1)=2)else bif x.1==34then decide (x.2.1<0\/re=fc sl x.2.1)else true
theorem mB{β:Type}{l:List Int}{q:Int->Bool}{r:β}{h:Int->β}{Lf:Nat->Int->Option β}(h0:∀k,Lf (k+1) (l.length:Int)=some r)(hs:∀k(i:Nat)x,l[i]?=some x->x∈l->Lf (k+1) (i:Int)=if q x=true then Lf k ((i+1:Nat):Int)else some (h (i:Int))){N:Nat}(hN:l.length<N):(l.all q=true/\Lf N 0=some r)\/(l.all q=false/\∃i:Nat,Lf N 0=some (h (i:Int))):=by
 rcases fZ (l:=l) (g:=λ_:Unit=>r) (Out:=λz=>l.all q=false/\∃i:Nat,z=h (i:Int)) (Inv:=λi _=>∀j x,j<i->l[j]?=some x->q x=true) (Lf:=λk i _=>Lf k i) (λk _ _=>h0 k) (λk i x _ hx hI=>by cases hq:q x with|false=>exact .inl ⟨_,⟨by rw[List.all_eq_false];exact⟨x,aS hx,by rw[hq];exact Bool.false_ne_true⟩,i,rfl⟩,by show Lf _ _=_;rw[hs k i x hx (aS hx),hq];rfl⟩|true=>
  refine .inr ⟨(),λj y hj hy=>?_,by show Lf _ _=_;rw[hs k i x hx (aS hx),hq];rfl⟩;by_cases e:j=i;.subst e;rw[hx]at hy;rw[<-Option.some.inj hy];exact hq
  .exact hI j y (by omega) hy) (k:=N) (s:=()) (λj x hj=>by omega) hN with⟨z,⟨h1,i,rfl⟩,h2⟩|⟨_,h1,h2⟩;.grind
 .refine .inl ⟨List.all_eq_true.2 λx hx=>?_,h2⟩;obtain⟨i,hi,rfl⟩:=List.mem_iff_getElem.1 hx<;>simp_all
section
variable{ts:List aB}{xs:List (List UInt8)}{fs:List Func}
theorem Zh{N:Nat}(hN:1300<N)(f:Func){l:List Int}(hl:l.length<=10){c:Int}(hc:c=l.length)(ht:∀t,t∈l->-1<=t/\t<ts.length):(l.all (λt=>decide (kd ts t=2))=true/\f63.bO N N (l,c,0,ts,xs,fs,f.1,f.2.1,f.2.2.1,f.2.2.2.1,f.2.2.2.2.1,f.2.2.2.2.2.1,f.2.2.2.2.2.2)=some (.inr ()))\/(l.all (λt=>decide (kd ts t=2))=false/\∃i:Nat,f63.bO N N (l,c,0,ts,xs,fs,f.1,f.2.1,f.2.2.1,f.2.2.2.1,f.2.2.2.2.1,f.2.2.2.2.2.1,f.2.2.2.2.2.2)=some (.inl (i:Int))):=by subst hc;refine mB (N:=N) (l:=l) (q:=(λt=>decide (kd ts t=2))) (r:=.inr ()) (h:=λi=>.inl i) (Lf:=λk i=>f63.bO N k (l,(l.length:Int),i,ts,xs,fs,f.1,f.2.1,f.2.2.1,f.2.2.2.1,f.2.2.2.2.1,f.2.2.2.2.2.1,f.2.2.2.2.2.2)) (λk=>by simp only[f63.bO.eq_2,aL,ak]) (λk i x hx hm=>?_) (by omega);have hi:=aA hx;simp only[f63.bO.eq_2,aI hi,au,aD hx,Option.bind_some,CQ hN f (ht x hm) (show[2].length<=10by decide) (show¬(0:Int)∈[2]by decide),aj (show i<9223372036854775807by omega),List.mem_singleton]<;>grind
theorem Zi{N:Nat}(hN:1300<N)(f:Func){l:List Int}(hl:l.length<=10){c:Int}(hc:c=l.length)(ht:∀t,t∈l->-1<=t/\t<ts.length):(l.all (λt=>decide (kd ts t=2))=true/\f63.bP N N (l,c,0,ts,xs,fs,f.1,f.2.1,f.2.2.1,f.2.2.2.1,f.2.2.2.2.1,f.2.2.2.2.2.1,f.2.2.2.2.2.2)=some (.inr ()))\/(l.all (λt=>decide (kd ts t=2))=false/\∃i:Nat,f63.bP N N (l,c,0,ts,xs,fs,f.1,f.2.1,f.2.2.1,f.2.2.2.1,f.2.2.2.2.1,f.2.2.2.2.2.1,f.2.2.2.2.2.2)=some (.inl (i:Int))):=by subst hc;refine mB (N:=N) (l:=l) (q:=(λt=>decide (kd ts t=2))) (r:=.inr ()) (h:=λi=>.inl i) (Lf:=λk i=>f63.bP N k (l,(l.length:Int),i,ts,xs,fs,f.1,f.2.1,f.2.2.1,f.2.2.2.1,f.2.2.2.2.1,f.2.2.2.2.2.1,f.2.2.2.2.2.2)) (λk=>by simp only[f63.bP.eq_2,aL,ak]) (λk i x hx hm=>?_) (by omega);have hi:=aA hx;simp only[f63.bP.eq_2,aI hi,au,aD hx,Option.bind_some,CQ hN f (ht x hm) (show[2].length<=10by decide) (show¬(0:Int)∈[2]by decide),aj (show i<9223372036854775807by omega),List.mem_singleton]<;>grind
theorem Zj{N:Nat}(hN:1300<N)(f:Func){l:List Int}(hl:l.length<=10){c:Int}(hc:c=l.length)(ht:∀t,t∈l->-1<=t/\t<ts.length):(l.all (λt=>decide (kd ts t=2))=true/\f63.bQ N N (l,c,0,ts,xs,fs,f.1,f.2.1,f.2.2.1,f.2.2.2.1,f.2.2.2.2.1,f.2.2.2.2.2.1,f.2.2.2.2.2.2)=some (.inr ()))\/(l.all (λt=>decide (kd ts t=2))=false/\∃i:Nat,f63.bQ N N (l,c,0,ts,xs,fs,f.1,f.2.1,f.2.2.1,f.2.2.2.1,f.2.2.2.2.1,f.2.2.2.2.2.1,f.2.2.2.2.2.2)=some (.inl (i:Int))):=by subst hc;refine mB (N:=N) (l:=l) (q:=(λt=>decide (kd ts t=2))) (r:=.inr ()) (h:=λi=>.inl i) (Lf:=λk i=>f63.bQ N k (l,(l.length:Int),i,ts,xs,fs,f.1,f.2.1,f.2.2.1,f.2.2.2.1,f.2.2.2.2.1,f.2.2.2.2.2.1,f.2.2.2.2.2.2)) (λk=>by simp only[f63.bQ.eq_2,aL,ak]) (λk i x hx hm=>?_) (by omega);have hi:=aA hx;simp only[f63.bQ.eq_2,aI hi,au,aD hx,Option.bind_some,CQ hN f (ht x hm) (show[2].length<=10by decide) (show¬(0:Int)∈[2]by decide),aj (show i<9223372036854775807by omega),List.mem_singleton]<;>grind
theorem Zk{N:Nat}(hN:1300<N)(f:Func){l:List Int}(hl:l.length<=10){c:Int}(hc:c=l.length)(ht:∀t,t∈l->-1<=t/\t<ts.length):(l.all (λt=>decide (kd ts t=2))=true/\f63.bR N N (l,c,0,ts,xs,fs,f.1,f.2.1,f.2.2.1,f.2.2.2.1,f.2.2.2.2.1,f.2.2.2.2.2.1,f.2.2.2.2.2.2)=some (.inr ()))\/(l.all (λt=>decide (kd ts t=2))=false/\∃i:Nat,f63.bR N N (l,c,0,ts,xs,fs,f.1,f.2.1,f.2.2.1,f.2.2.2.1,f.2.2.2.2.1,f.2.2.2.2.2.1,f.2.2.2.2.2.2)=some (.inl (i:Int))):=by subst hc;refine mB (N:=N) (l:=l) (q:=(λt=>decide (kd ts t=2))) (r:=.inr ()) (h:=λi=>.inl i) (Lf:=λk i=>f63.bR N k (l,(l.length:Int),i,ts,xs,fs,f.1,f.2.1,f.2.2.1,f.2.2.2.1,f.2.2.2.2.1,f.2.2.2.2.2.1,f.2.2.2.2.2.2)) (λk=>by simp only[f63.bR.eq_2,aL,ak]) (λk i x hx hm=>?_) (by omega);have hi:=aA hx;simp only[f63.bR.eq_2,aI hi,au,aD hx,Option.bind_some,CQ hN f (ht x hm) (show[2].length<=10by decide) (show¬(0:Int)∈[2]by decide),aj (show i<9223372036854775807by omega),List.mem_singleton]<;>grind
theorem Zl{N:Nat}(hN:1300<N)(f:Func){l:List Int}(hl:l.length<=10){c:Int}(hc:c=l.length)(ht:∀t,t∈l->-1<=t/\t<ts.length):(l.all (λt=>decide (kd ts t=2))=true/\f63.bS N N (l,c,0,ts,xs,fs,f.1,f.2.1,f.2.2.1,f.2.2.2.1,f.2.2.2.2.1,f.2.2.2.2.2.1,f.2.2.2.2.2.2)=some (.inr ()))\/(l.all (λt=>decide (kd ts t=2))=false/\∃i:Nat,f63.bS N N (l,c,0,ts,xs,fs,f.1,f.2.1,f.2.2.1,f.2.2.2.1,f.2.2.2.2.1,f.2.2.2.2.2.1,f.2.2.2.2.2.2)=some (.inl (i:Int))):=by subst hc;refine mB (N:=N) (l:=l) (q:=(λt=>decide (kd ts t=2))) (r:=.inr ()) (h:=λi=>.inl i) (Lf:=λk i=>f63.bS N k (l,(l.length:Int),i,ts,xs,fs,f.1,f.2.1,f.2.2.1,f.2.2.2.1,f.2.2.2.2.1,f.2.2.2.2.2.1,f.2.2.2.2.2.2)) (λk=>by simp only[f63.bS.eq_2,aL,ak]) (λk i x hx hm=>?_) (by omega);have hi:=aA hx;simp only[f63.bS.eq_2,aI hi,au,aD hx,Option.bind_some,CQ hN f (ht x hm) (show[2].length<=10by decide) (show¬(0:Int)∈[2]by decide),aj (show i<9223372036854775807by omega),List.mem_singleton]<;>grind
theorem Zm{N:Nat}(hN:1300<N)(f:Func){l:List Int}(hl:l.length<=10){c:Int}(hc:c=l.length)(ht:∀t,t∈l->-1<=t/\t<ts.length):(l.all (λt=>decide (kd ts t=2))=true/\f63.bT N N (l,c,0,ts,xs,fs,f.1,f.2.1,f.2.2.1,f.2.2.2.1,f.2.2.2.2.1,f.2.2.2.2.2.1,f.2.2.2.2.2.2)=some (.inr ()))\/(l.all (λt=>decide (kd ts t=2))=false/\∃i:Nat,f63.bT N N (l,c,0,ts,xs,fs,f.1,f.2.1,f.2.2.1,f.2.2.2.1,f.2.2.2.2.1,f.2.2.2.2.2.1,f.2.2.2.2.2.2)=some (.inl (i:Int))):=by subst hc;refine mB (N:=N) (l:=l) (q:=(λt=>decide (kd ts t=2))) (r:=.inr ()) (h:=λi=>.inl i) (Lf:=λk i=>f63.bT N k (l,(l.length:Int),i,ts,xs,fs,f.1,f.2.1,f.2.2.1,f.2.2.2.1,f.2.2.2.2.1,f.2.2.2.2.2.1,f.2.2.2.2.2.2)) (λk=>by simp only[f63.bT.eq_2,aL,ak]) (λk i x hx hm=>?_) (by omega);have hi:=aA hx;simp only[f63.bT.eq_2,aI hi,au,aD hx,Option.bind_some,CQ hN f (ht x hm) (show[2].length<=10by decide) (show¬(0:Int)∈[2]by decide),aj (show i<9223372036854775807by omega),List.mem_singleton]<;>grind
theorem Zn{N:Nat}(hN:1300<N)(f:Func){l:List Int}(hl:l.length<=10){c:Int}(hc:c=l.length)(ht:∀t,t∈l->-1<=t/\t<ts.length):(l.all (λt=>decide (kd ts t=2))=true/\f63.bV N N (l,c,0,ts,xs,fs,f.1,f.2.1,f.2.2.1,f.2.2.2.1,f.2.2.2.2.1,f.2.2.2.2.2.1,f.2.2.2.2.2.2)=some (.inr ()))\/(l.all (λt=>decide (kd ts t=2))=false/\∃i:Nat,f63.bV N N (l,c,0,ts,xs,fs,f.1,f.2.1,f.2.2.1,f.2.2.2.1,f.2.2.2.2.1,f.2.2.2.2.2.1,f.2.2.2.2.2.2)=some (.inl (i:Int))):=by subst hc;refine mB (N:=N) (l:=l) (q:=(λt=>decide (kd ts t=2))) (r:=.inr ()) (h:=λi=>.inl i) (Lf:=λk i=>f63.bV N k (l,(l.length:Int),i,ts,xs,fs,f.1,f.2.1,f.2.2.1,f.2.2.2.1,f.2.2.2.2.1,f.2.2.2.2.2.1,f.2.2.2.2.2.2)) (λk=>by simp only[f63.bV.eq_2,aL,ak]) (λk i x hx hm=>?_) (by omega);have hi:=aA hx;simp only[f63.bV.eq_2,aI hi,au,aD hx,Option.bind_some,CQ hN f (ht x hm) (show[2].length<=10by decide) (show¬(0:Int)∈[2]by decide),aj (show i<9223372036854775807by omega),List.mem_singleton]<;>grind
theorem Zo{N:Nat}(hN:1300<N)(f:Func){l:List Int}(hl:l.length<=10){c:Int}(hc:c=l.length)(ht:∀t,t∈l->-1<=t/\t<ts.length):(l.all (λt=>decide (kd ts t=2))=true/\f63.bU N N (l,c,0,ts,xs,fs,f.1,f.2.1,f.2.2.1,f.2.2.2.1,f.2.2.2.2.1,f.2.2.2.2.2.1,f.2.2.2.2.2.2)=some (.inr (ts,xs,fs,f.1,f.2.1,f.2.2.1,f.2.2.2.1,f.2.2.2.2.1,f.2.2.2.2.2.1,f.2.2.2.2.2.2)))\/(l.all (λt=>decide (kd ts t=2))=false/\∃i:Nat,f63.bU N N (l,c,0,ts,xs,fs,f.1,f.2.1,f.2.2.1,f.2.2.2.1,f.2.2.2.2.1,f.2.2.2.2.2.1,f.2.2.2.2.2.2)=some (.inl ((i:Int),ts,xs,fs,f.1,f.2.1,f.2.2.1,f.2.2.2.1,f.2.2.2.2.1,f.2.2.2.2.2.1,f.2.2.2.2.2.2))):=by subst hc;refine mB (N:=N) (l:=l) (q:=(λt=>decide (kd ts t=2))) (r:=.inr (ts,xs,fs,f.1,f.2.1,f.2.2.1,f.2.2.2.1,f.2.2.2.2.1,f.2.2.2.2.2.1,f.2.2.2.2.2.2)) (h:=λi=>.inl (i,ts,xs,fs,f.1,f.2.1,f.2.2.1,f.2.2.2.1,f.2.2.2.2.1,f.2.2.2.2.2.1,f.2.2.2.2.2.2)) (Lf:=λk i=>f63.bU N k (l,(l.length:Int),i,ts,xs,fs,f.1,f.2.1,f.2.2.1,f.2.2.2.1,f.2.2.2.2.1,f.2.2.2.2.2.1,f.2.2.2.2.2.2)) (λk=>by simp only[f63.bU.eq_2,aL,ak]) (λk i x hx hm=>?_) (by omega);have hi:=aA hx;simp only[f63.bU.eq_2,aI hi,au,aD hx,Option.bind_some,CQ hN f (ht x hm) (show[2].length<=10by decide) (show¬(0:Int)∈[2]by decide),aj (show i<9223372036854775807by omega),List.mem_singleton]<;>grind
theorem ajJ{N:Nat}(hN:1300<N)(hv:fF ts xs fs)(f:Func){t i o:Int}(h:-1<=t/\t<ts.length):L6 N (ts,xs,fs,f.1,f.2.1,f.2.2.1,f.2.2.2.1,f.2.2.2.2.1,f.2.2.2.2.2.1,f.2.2.2.2.2.2,t,i,o)=some (decide (QL ts t i o)):=by
 rw[L6.eq_1];simp[CQ hN f h (show[5].length<=10by decide) (show¬(0:Int)∈[5]by decide),Option.bind_some,List.mem_singleton];unfold QL;by_cases h5:kd ts t=5
 .have h0:=Hw (ts:=ts) (t:=t) (by omega);rw[bJ h5,au,oO ⟨h0,h.2⟩];simp only[Option.bind_some,Hv];by_cases hi:0<=i/\i<(dP ts t.toNat).2.2.2.length;.rw[bJ hi,au,yh hi,Option.bind_some]<;>grind
  grind
 grind
theorem ajK{N:Nat}(hv:fF ts xs fs){t i o:Int}(h:-1<=t/\t<ts.length)(ho:0<=o):(Mp N (ts,xs,fs,t,i)).bind (λA=>some (A==o))=some (decide (QL ts t i o)):=by
 rw[Mp.eq_1,Kg N h];simp[Option.bind_some];unfold QL;by_cases h5:kd ts t=5
 .have h0:=Hw (ts:=ts) (t:=t) (by omega);rw[show(kd ts t !=5)=false by simp[h5],ak,oO ⟨h0,h.2⟩];simp only[Option.bind_some,dK];by_cases hi:0<=i/\i<(dP ts t.toNat).2.2.2.length;.rw[bE (show¬i<0 by omega),bE (show¬i>=((dP ts t.toNat).2.2.2.length:Int)by omega),Bool.or_self,ak,yh hi]<;>grind
  .rw[show(decide (i<0)||decide (i>=((dP ts t.toNat).2.2.2.length:Int)))=true by rw[<-Bool.decide_or];exact bJ (by omega),au,Option.bind_some,bE (λh:(_/\_/\_)=>hi h.2.1),show((-1:Int)==o)=false by rw[beq_eq_false_iff_ne];omega]
 .rw[show(kd ts t !=5)=true by simp[bne,h5],au,Option.bind_some,au,Option.bind_some,bE (λh:(_/\_/\_)=>h5 h.1),show((-1:Int)==o)=false by rw[beq_eq_false_iff_ne];omega]
theorem Zp{N:Nat}(hN:1300<N)(f:Func){t o:Int}(h:-1<=t/\t<ts.length){K:List Int}(hK:K.length<=10)(h0:¬(0:Int)∈K):GV N (ts,xs,fs,f.1,f.2.1,f.2.2.1,f.2.2.2.1,f.2.2.2.2.1,f.2.2.2.2.2.1,f.2.2.2.2.2.2,t,o,K)=some (decide (kd ts t∈K/\Zf ts t=o)):=by
 rw[GV.eq_1];simp only[CQ hN f h hK h0,Option.bind_some];by_cases hk:kd ts t∈K;.have ht:=Hw (ts:=ts) (t:=t) (λe=>h0 (e▸hk));rw[bJ hk,au,oO ⟨ht,h.2⟩];unfold Zf;simp[hk,Ac]
 .rw[bE hk,ak,bE (λh:(_/\_)=>hk h.1)];rfl
theorem ofR{N:Nat}{t:Int}(h:-1<=t/\t<ts.length){a b:Int}(ha:a≠0)(hb:b≠0):GZ N (ts,xs,fs,t,a,b)=some (if kd ts t=a\/kd ts t=b then Zf ts t else-1):=by
 rw[GZ.eq_1,Kg N h];simp only[Option.bind_some,G0];by_cases hk:kd ts t=a\/kd ts t=b;.have ht:=Hw (ts:=ts) (t:=t) (λe=>by rcases hk with hk|hk<;>rw[e]at hk<;>first|exact ha hk.symm|exact hb hk.symm);rw[if_pos hk,bE (show¬t<0 by omega),show(bif(kd ts t !=a)then(kd ts t !=b)else false)=false by rcases hk with hk|hk<;>simp[hk]];simp[ak,oO (show 0<=t/\t<(ts.length:Int)by omega),Option.bind_some];rfl
 grind
theorem QM{N:Nat}(hN:1300<N)(hv:fF ts xs fs)(f:Func){g:Func}(hg:eB ts.length g):P8 N (ts,xs,fs,f.1,f.2.1,f.2.2.1,f.2.2.2.1,f.2.2.2.2.1,f.2.2.2.2.2.1,f.2.2.2.2.2.2,g.1,g.2.1,g.2.2.1,g.2.2.2.1,g.2.2.2.2.1,g.2.2.2.2.2.1,g.2.2.2.2.2.2)=some (decide (yf ts (sg g))):=by
 rw[P8.eq_1];rw[show decide (yf ts (sg g))=decide (g.2.2.1<0/\(g.2.1=0\/g.2.1=1/\zO (kd ts (fl g.2.2.2.1 0).2)))from decide_eq_decide.2 Iff.rfl];by_cases h1:g.2.2.1<0
 .rw[bJ h1,au];by_cases h2:g.2.1=0;.grind
  .rw[show(g.2.1==(0:Int))=false by simpa using h2,ak];by_cases h3:g.2.1=1
   .have hl:(0:Int)<=0/\(0:Int)<g.2.2.2.1.length:=by have:=hg.2.2.2.1.2;omega
    have hm:fl g.2.2.2.1 0∈g.2.2.2.1:=by unfold fl<;>grind
    have hr:=hg.2.2.2.2.2.1 _ hm;have e:=yh hl;simp at e;rw[show(g.2.1==(1:Int))=true by simpa using h3,e];simp only[Option.bind_some,CQ hN f (show-1<=(fl g.2.2.2.1 0).2/\(fl g.2.2.2.1 0).2<(ts.length:Int)by omega) (show[1,2,4].length<=10by decide) (show¬(0:Int)∈[1,2,4]by decide)];simp[h1,h2,h3,zO]
   grind
 grind
theorem QN{N:Nat}(hv:fF ts xs fs){i:Int}{g:Func}(hi:idx fs i=some g)(hg:eB ts.length g):Qi N (ts,xs,fs,i)=some (decide (yf ts (sg g))):=by
 rw[Qi.eq_1,hi];rw[show decide (yf ts (sg g))=decide (g.2.2.1<0/\(g.2.1=0\/g.2.1=1/\zO (kd ts (fl g.2.2.2.1 0).2)))from decide_eq_decide.2 Iff.rfl];simp only[Option.bind_some];have Df:=hg.2.2.2.2.1.1;by_cases h1:g.2.2.1<0
 .rw[show(g.2.2.1==(-1:Int))=true by rw[beq_iff_eq];omega];by_cases h2:g.2.1=0;.grind
  .rw[show(g.2.1==(0:Int))=false by simpa using h2];by_cases h3:g.2.1=1
   .have hl:(0:Int)<=0/\(0:Int)<g.2.2.2.1.length:=by have:=hg.2.2.2.1.2;omega
    have hm:fl g.2.2.2.1 0∈g.2.2.2.1:=by unfold fl<;>grind
    have hr:=hg.2.2.2.2.2.1 _ hm;have e:=yh hl;simp at e;rw[au,e];simp only[Option.bind_some,oO hr,Mo.eq_1,dK];rw[<-abH hr.1];simp[h1,h2,h3,zO,Ac]
   grind
 grind
theorem afv{N:Nat}(hN:1300<N)(hv:fF ts xs fs){f:Func}(hf:eB ts.length f){x:Instr}(hc:dL x=true)(hn:jV xs.length (eo fs) f.2.2.2.1 x):F63 N (ts,xs,fs,f.1,f.2.1,f.2.2.1,f.2.2.2.1,f.2.2.2.2.1,f.2.2.2.2.2.1,f.2.2.2.2.2.2,x.1,x.2.1,x.2.2.1,x.2.2.2)=some (Hx ts (eo fs) f.2.2.2.1 f.2.2.1 x):=by
 have hr:=hf.2.2.2.2.2.1;have hA:=u7 hr x.2.1;have hB:=u7 hr x.2.2.1;have hC:=u7 hr x.2.2.2;rw[F63.eq_1];simp only[abF,Option.bind_some,dK];refine aV (λh=>?_) (λ_=>?_)
 .rcases Zh hN f (l:=[fc f.2.2.2.1 x.2.1]) (by simp) (c:=1) rfl (λt ht=>by rw[List.mem_singleton.1 ht];exact hA)with⟨e1,e2⟩|⟨e1,i,e2⟩;.rw[e2];show some true=_;congr 1;simp_all
  simp_all
 refine aV (λh=>?_) (λ_=>?_);.rw[CQ hN f hA (show[3].length<=10by decide) (show¬(0:Int)∈[3]by decide)];simp
 refine aV (λh=>?_) (λ_=>?_);.rw[CQ hN f hA (show[1].length<=10by decide) (show¬(0:Int)∈[1]by decide)];simp
 refine aV (λh=>?_) (λ_=>?_);.rw[Ac]
 refine aV (λh=>?_) (λ_=>?_)
 .rcases Zi hN f (l:=[fc f.2.2.2.1 x.2.1,fc f.2.2.2.1 x.2.2.1,fc f.2.2.2.1 x.2.2.2]) (by simp) (c:=3) rfl (λt ht=>by simp only[List.mem_cons,List.not_mem_nil,or_false]at ht;rcases ht with rfl|rfl|rfl<;>assumption)with⟨e1,e2⟩|⟨e1,i,e2⟩;.rw[e2];show some true=_;congr 1;simp_all
  simp_all
 refine aV (λh=>?_) (λ_=>?_)
 .rw[CQ hN f hA (show[1].length<=10by decide) (show¬(0:Int)∈[1]by decide),Option.bind_some];by_cases hk:kd ts (fc f.2.2.2.1 x.2.1)=1
  .rw[bJ (show kd ts (fc f.2.2.2.1 x.2.1)∈[1]by simpa using hk)];rcases Zj hN f (l:=[fc f.2.2.2.1 x.2.2.1,fc f.2.2.2.1 x.2.2.2]) (by simp) (c:=2) rfl (λt ht=>by simp only[List.mem_cons,List.not_mem_nil,or_false]at ht;rcases ht with rfl|rfl<;>assumption)with⟨e1,e2⟩|⟨e1,i,e2⟩;.rw[e2];show some true=_;congr 1;simp_all
   simp_all
  grind
 refine aV (λh=>?_) (λ_=>?_);.rw[CQ hN f hA (show[1].length<=10by decide) (show¬(0:Int)∈[1]by decide),Option.bind_some,CQ hN f hB (show[2,1,4].length<=10by decide) (show¬(0:Int)∈[2,1,4]by decide),Option.bind_some,G0];by_cases h1:kd ts (fc f.2.2.2.1 x.2.1)=1<;>by_cases h2:fc f.2.2.2.1 x.2.2.1=fc f.2.2.2.1 x.2.2.2<;>simp[h1,h2,zO,or_left_comm]
 refine aV (λh=>?_) (λ_=>?_);.rw[CQ hN f hA (show[1].length<=10by decide) (show¬(0:Int)∈[1]by decide),Option.bind_some,CQ hN f hB (show[1].length<=10by decide) (show¬(0:Int)∈[1]by decide),Option.bind_some,mL]<;>grind
 refine aV (λh=>?_) (λ_=>?_);.rw[ajJ hN hv f hB,Option.bind_some]
 refine aV (λh=>?_) (λ_=>?_);.rw[ajJ hN hv f hA,Option.bind_some]
 refine aV (λh=>?_) (λ_=>?_);.rw[CQ hN f hA (show[4].length<=10by decide) (show¬(0:Int)∈[4]by decide)];simp
 refine aV (λh=>?_) (λ_=>?_);.rw[Zp hN f hB (show[4].length<=10by decide) (show¬(0:Int)∈[4]by decide)];simp
 refine aV (λh=>?_) (λ_=>?_);.rw[Zp hN f hA (show[4].length<=10by decide) (show¬(0:Int)∈[4]by decide)];simp
 refine aV (λh=>?_) (λ_=>?_)
 .rw[CQ hN f hA (show[7].length<=10by decide) (show¬(0:Int)∈[7]by decide),Option.bind_some];by_cases hk:kd ts (fc f.2.2.2.1 x.2.1)=7
  .rw[bJ (show kd ts (fc f.2.2.2.1 x.2.1)∈[7]by simpa using hk)];rcases Zk hN f (l:=[fc f.2.2.2.1 x.2.2.1]) (by simp) (c:=1) rfl (λt ht=>by rw[List.mem_singleton.1 ht];exact hB)with⟨e1,e2⟩|⟨e1,i,e2⟩;.rw[e2];show some true=_;congr 1;simp_all
   simp_all
  grind
 refine aV (λh=>?_) (λ_=>?_)
 .rw[Zp hN f hB (show[7,6].length<=10by decide) (show¬(0:Int)∈[7,6]by decide),Option.bind_some];by_cases hk:kd ts (fc f.2.2.2.1 x.2.2.1)∈[7,6]/\Zf ts (fc f.2.2.2.1 x.2.2.1)=fc f.2.2.2.1 x.2.1
  .rw[bJ hk];rcases Zl hN f (l:=[fc f.2.2.2.1 x.2.2.2]) (by simp) (c:=1) rfl (λt ht=>by rw[List.mem_singleton.1 ht];exact hC)with⟨e1,e2⟩|⟨e1,i,e2⟩;.rw[e2];show some true=_;congr 1;simp_all
   simp_all
  grind
 refine aV (λh=>?_) (λ_=>?_)
 .rw[Zp hN f hA (show[7,6].length<=10by decide) (show¬(0:Int)∈[7,6]by decide),Option.bind_some];by_cases hk:kd ts (fc f.2.2.2.1 x.2.1)∈[7,6]/\Zf ts (fc f.2.2.2.1 x.2.1)=fc f.2.2.2.1 x.2.2.2
  .rw[bJ hk];rcases Zm hN f (l:=[fc f.2.2.2.1 x.2.2.1]) (by simp) (c:=1) rfl (λt ht=>by rw[List.mem_singleton.1 ht];exact hB)with⟨e1,e2⟩|⟨e1,i,e2⟩;.rw[e2];show some true=_;congr 1;simp_all
   simp_all
  grind
 refine aV (λh=>?_) (λ_=>?_)
 .rcases Zo hN f (l:=[fc f.2.2.2.1 x.2.1]) (by simp) (c:=1) rfl (λt ht=>by rw[List.mem_singleton.1 ht];exact hA)with⟨e1,e2⟩|⟨e1,i,e2⟩;.rw[e2];simp only[Option.bind_some,CQ hN f hB (show[3,7,6].length<=10by decide) (show¬(0:Int)∈[3,7,6]by decide)];congr 1;simp_all
  grind
 refine aV (λh=>?_) (λ_=>?_)
 .have KD:x.1=25:=by grind
  have hcl:called x=x.2.2.1:=by unfold called<;>grind
  have h0:0<=x.2.2.1:=by have e:wH 25=some (103,99,45):=rfl;simp[dL,KD,e,fits,Bool.and_eq_true,decide_eq_true_eq]at hc;exact hc.2.1.1
  have h2:=hn.2.1;rw[hcl,ng]at h2;obtain⟨g,g1,_,g3⟩:=CP (fs:=fs) ⟨h0,h2⟩;rw[g1,g3];simp[Option.bind_some,dK,sg];grind
 refine aV (λh=>?_) (λ_=>?_)
 .have KD:x.1=26\/x.1=27:=by grind
  have hcl:called x=x.2.1:=by unfold called<;>grind
  have h0:0<=x.2.1:=by
   rcases KD with KD|KD;.have e:wH 26=some (99,45,45):=rfl;simp[dL,KD,e,fits,Bool.and_eq_true,decide_eq_true_eq]at hc;exact hc.1.1
   .have e:wH 27=some (99,45,45):=rfl;simp[dL,KD,e,fits,Bool.and_eq_true,decide_eq_true_eq]at hc;exact hc.1.1
  have h2:=hn.2.1;rw[hcl,ng]at h2;obtain⟨g,g1,g2,g3⟩:=CP (fs:=fs) ⟨h0,h2⟩;rw[g1,g3];simp[Option.bind_some,QM hN hv f (hv.get g2)]
 refine aV (λh=>?_) (λ_=>?_);.rw[CQ hN f hA (show[2,1,3].length<=10by decide) (show¬(0:Int)∈[2,1,3]by decide)];simp
 refine aV (λh=>?_) (λ_=>?_)
 .rw[CQ hN f hA (show[1].length<=10by decide) (show¬(0:Int)∈[1]by decide),Option.bind_some];by_cases hk:kd ts (fc f.2.2.2.1 x.2.1)=1
  .rw[bJ (show kd ts (fc f.2.2.2.1 x.2.1)∈[1]by simpa using hk)];rcases Zn hN f (l:=[fc f.2.2.2.1 x.2.2.1]) (by simp) (c:=1) rfl (λt ht=>by rw[List.mem_singleton.1 ht];exact hB)with⟨e1,e2⟩|⟨e1,i,e2⟩;.rw[e2];show some true=_;congr 1;simp_all
   simp_all
  grind
 refine aV (λh=>?_) (λ_=>?_);.by_cases e:x.2.1<0<;>simp[e,Ac]
 rfl
theorem afw{N:Nat}{i:Int}(hv:fF ts xs fs){f:Func}(hf:eB ts.length f){x:Instr}(hc:dL x=true)(hn:jV xs.length (eo fs) f.2.2.2.1 x)(hfi:idx fs i=some f):Qj N (ts,xs,fs,i,x.1,x.2.1,x.2.2.1,x.2.2.2)=some (Hx ts (eo fs) f.2.2.2.1 f.2.2.1 x):=by
 have hr:=hf.2.2.2.2.2.1;have hA:=u7 hr x.2.1;have hB:=u7 hr x.2.2.1;have hC:=u7 hr x.2.2.2;rw[Qj.eq_1];simp only[abG N hfi,Kg N hA,Kg N hB,Kg N hC,Option.bind_some,dK];refine aV (λh=>?_) (λ_=>?_);.rw[Ac]
 refine aV (λh=>?_) (λ_=>?_);.rw[Ac]
 refine aV (λh=>?_) (λ_=>?_);.rw[Ac]
 refine aV (λh=>?_) (λ_=>?_);.rw[Ac]
 refine aV (λh=>?_) (λ_=>?_);.grind
 refine aV (λh=>?_) (λ_=>?_);.grind
 refine aV (λh=>?_) (λ_=>?_)
 .have h11:x.1=11:=by grind
  obtain⟨_,s2,_⟩:=iz hc (p:=119) (q:=114) (r:=114) (by rw[h11];rfl);obtain⟨b0,b1⟩:=s2 (.inr rfl);have hb:=oZ hr ⟨b0,hn.1 _ b1⟩;simp only[oO hb,Option.bind_some,Mo.eq_1,dK,mL];rw[<-abH hb.1];congr 1;rw[Bool.eq_iff_iff,decide_eq_true_eq];simp[Ac,zO]
 refine aV (λh=>?_) (λ_=>?_);.grind
 refine aV (λh=>?_) (λ_=>?_)
 .have hk:x.1=13:=by grind
  obtain⟨s1,_,_⟩:=iz hc (p:=119) (q:=114) (r:=102) (by rw[hk];rfl);obtain⟨b0,b1⟩:=s1 (.inl rfl);exact ajK hv hB (oZ hr ⟨b0,hn.1 _ b1⟩).1
 refine aV (λh=>?_) (λ_=>?_)
 .have hk:x.1=14:=by grind
  obtain⟨_,_,s3⟩:=iz hc (p:=114) (q:=102) (r:=114) (by rw[hk];rfl);obtain⟨b0,b1⟩:=s3 (.inr rfl);exact ajK hv hA (oZ hr ⟨b0,hn.1 _ b1⟩).1
 refine aV (λh=>?_) (λ_=>?_);.rw[Ac]
 refine aV (λh=>?_) (λ_=>?_)
 .have hk:x.1=16:=by grind
  obtain⟨s1,_,_⟩:=iz hc (p:=119) (q:=114) (r:=45) (by rw[hk];rfl);obtain⟨b0,b1⟩:=s1 (.inl rfl);have ho:=(oZ hr ⟨b0,hn.1 _ b1⟩).1;rw[ofR hB (show(4:Int)≠0 by decide) (show(4:Int)≠0 by decide),Option.bind_some];congr 1;grind
 refine aV (λh=>?_) (λ_=>?_)
 .have hk:x.1=17:=by grind
  obtain⟨_,s1,_⟩:=iz hc (p:=114) (q:=114) (r:=45) (by rw[hk];rfl);obtain⟨b0,b1⟩:=s1 (.inr rfl);have ho:=(oZ hr ⟨b0,hn.1 _ b1⟩).1;rw[ofR hA (show(4:Int)≠0 by decide) (show(4:Int)≠0 by decide),Option.bind_some];congr 1;grind
 refine aV (λh=>?_) (λ_=>?_);.grind
 refine aV (λh=>?_) (λ_=>?_)
 .have hk:x.1=19:=by grind
  obtain⟨s1,_,_⟩:=iz hc (p:=119) (q:=114) (r:=114) (by rw[hk];rfl);obtain⟨b0,b1⟩:=s1 (.inl rfl);have ho:=(oZ hr ⟨b0,hn.1 _ b1⟩).1;rw[ofR hB (show(7:Int)≠0 by decide) (show(6:Int)≠0 by decide),Option.bind_some]<;>grind
 refine aV (λh=>?_) (λ_=>?_)
 .have hk:x.1=20:=by grind
  obtain⟨_,_,s1⟩:=iz hc (p:=114) (q:=114) (r:=114) (by rw[hk];rfl);obtain⟨b0,b1⟩:=s1 (.inr rfl);have ho:=(oZ hr ⟨b0,hn.1 _ b1⟩).1;rw[ofR hA (show(7:Int)≠0 by decide) (show(6:Int)≠0 by decide),Option.bind_some]<;>grind
 refine aV (λh=>?_) (λ_=>?_);.simp only[dK,mL,Option.bind_some];simp[Ac]
 refine aV (λh=>?_) (λ_=>?_)
 .have KD:x.1=25:=by grind
  have hcl:called x=x.2.2.1:=by unfold called<;>grind
  have h0:0<=x.2.2.1:=by have e:wH 25=some (103,99,45):=rfl;simp[dL,KD,e,fits,Bool.and_eq_true,decide_eq_true_eq]at hc;exact hc.2.1.1
  have h2:=hn.2.1;rw[hcl,ng]at h2;obtain⟨g,g1,_,g3⟩:=CP (fs:=fs) ⟨h0,h2⟩;rw[g1,g3];simp[Option.bind_some,dK,sg];have hm:-1<=x.2.1:=by have e:wH 25=some (103,99,45):=rfl;simp[dL,KD,e,fits,Bool.and_eq_true,decide_eq_true_eq]at hc;exact hc.1.1
  grind
 refine aV (λh=>?_) (λ_=>?_)
 .have KD:x.1=26\/x.1=27:=by grind
  have hcl:called x=x.2.1:=by unfold called<;>grind
  have h0:0<=x.2.1:=by
   rcases KD with KD|KD;.have e:wH 26=some (99,45,45):=rfl;simp[dL,KD,e,fits,Bool.and_eq_true,decide_eq_true_eq]at hc;exact hc.1.1
   .have e:wH 27=some (99,45,45):=rfl;simp[dL,KD,e,fits,Bool.and_eq_true,decide_eq_true_eq]at hc;exact hc.1.1
  have h2:=hn.2.1;rw[hcl,ng]at h2;obtain⟨g,g1,g2,g3⟩:=CP (fs:=fs) ⟨h0,h2⟩;rw[g3];rw[QN hv g1 (hv.get g2)];rfl
 refine aV (λh=>?_) (λ_=>?_);.simp[Ac]
 refine aV (λh=>?_) (λ_=>?_);.grind
 refine aV (λh=>?_) (λ_=>?_)
 .have hk:x.1=34:=by grind
  have hm:-1<=x.2.1:=by have e:wH 34=some (101,45,45):=rfl;simp[dL,hk,e,fits,Bool.and_eq_true,decide_eq_true_eq]at hc;exact hc.1.1
  rw[hfi];by_cases e:x.2.1<0<;>grind
 rfl
end
end Go.Proofs.YtdogilonhnbapaaGreatDoor
