/- The checker: types. -/
import Derived.Test.YtgkllgjmfpjeoaaGreatDoorLaw12mkg2
set_option linter.unusedVariables false
set_option linter.unusedSimpArgs false
namespace Go.Proofs.YtgkllgjmfpjeoaaGreatDoor
open Go Go.bJ Go.Sym
open Classical
noncomputable def Cn(ts:List aB)(S:List Sg)(sl:List Field)(re:Int)(x:Instr):Bool:=bif x.1==1||x.1==32then decide (kd ts (eT sl x.2.1)=2)else bif x.1==2then decide (kd ts (eT sl x.2.1)=3)else bif x.1==3||x.1==23then decide (kd ts (eT sl x.2.1)=1)else bif x.1==5then decide (eT sl x.2.1=eT sl x.2.2.1)else bif x.1==6||(x.1==7||(x.1==8||x.1==9))then decide (kd ts (eT sl x.2.1)=2/\kd ts (eT sl x.2.2.1)=2/\kd ts (eT sl x.2.2.2)=2)else bif x.1==10then decide (kd ts (eT sl x.2.1)=1/\kd ts (eT sl x.2.2.1)=2/\kd ts (eT sl x.2.2.2)=2)else bif x.1==11then decide (kd ts (eT sl x.2.1)=1/\eT sl x.2.2.1=eT sl x.2.2.2/\Js (kd ts (eT sl x.2.2.1)))else bif x.1==12then decide (kd ts (eT sl x.2.1)=1/\kd ts (eT sl x.2.2.1)=1)else bif x.1==13then decide (W2 ts (eT sl x.2.2.1) x.2.2.2 (eT sl x.2.1))else bif x.1==14then decide (W2 ts (eT sl x.2.1) x.2.2.1 (eT sl x.2.2.2))else bif x.1==15then decide (kd ts (eT sl x.2.1)=4)else bif x.1==16then decide (kd ts (eT sl x.2.2.1)=4/\W1 ts (eT sl x.2.2.1)=eT sl x.2.1)else bif x.1==17then decide (kd ts (eT sl x.2.1)=4/\W1 ts (eT sl x.2.1)=eT sl x.2.2.1)else bif x.1==18then decide (kd ts (eT sl x.2.1)=7/\kd ts (eT sl x.2.2.1)=2)else bif x.1==19then decide ((kd ts (eT sl x.2.2.1)=7\/kd ts (eT sl x.2.2.1)=6)/\W1 ts (eT sl x.2.2.1)=eT sl x.2.1/\kd ts (eT sl x.2.2.2)=2)else bif x.1==20then decide ((kd ts (eT sl x.2.1)=7\/kd ts (eT sl x.2.1)=6)/\W1 ts (eT sl x.2.1)=eT sl x.2.2.2/\kd ts (eT sl x.2.2.1)=2)else bif x.1==21then decide (kd ts (eT sl x.2.1)=2/\(kd ts (eT sl x.2.2.1)=3\/kd ts (eT sl x.2.2.1)=7\/kd ts (eT sl x.2.2.1)=6))else bif x.1==25then decide (x.2.1<0\/(LJ S x.2.2.1).2.1=eT sl x.2.1)else bif x.1==26||x.1==27then decide (Ci ts (LJ S x.2.1))else bif x.1==28then decide (kd ts (eT sl x.2.1)=2\/kd ts (eT sl x.2.1)=1\/kd ts (eT sl x.2.1)=3)else bif x.1==29||x.1==33then decide (kd ts (eT sl x.2.1)=1/\kd ts (eT sl x.2.2.1)=2)else bif x.1==34then decide (x.2.1<0\/re=eT sl x.2.1)else true
theorem mw{β:Type}{l:List Int}{q:Int->Bool}{r:β}{h:Int->β}{Lf:Nat->Int->Option β}(h0:∀k,Lf (k+1) (l.length:Int)=some r)(hs:∀k(i:Nat)x,l[i]?=some x->x∈l->Lf (k+1) (i:Int)=if q x=true then Lf k ((i+1:Nat):Int)else some (h (i:Int))){N:Nat}(hN:l.length<N):(l.all q=true/\Lf N 0=some r)\/(l.all q=false/\∃i:Nat,Lf N 0=some (h (i:Int))):=by
 rcases fZ (l:=l) (g:=λ_:Unit=>r) (Out:=λz=>l.all q=false/\∃i:Nat,z=h (i:Int)) (Inv:=λi _=>∀j x,j<i->l[j]?=some x->q x=true) (Lf:=λk i _=>Lf k i) (λk _ _=>h0 k) (λk i x _ hx hI=>by cases hq:q x with|false=>exact .inl ⟨_,⟨by rw[List.all_eq_false];exact⟨x,aU hx,by rw[hq];exact Bool.false_ne_true⟩,i,rfl⟩,by show Lf _ _=_;rw[hs k i x hx (aU hx),hq];rfl⟩|true=>
  refine .inr ⟨(),λj y hj hy=>?_,by show Lf _ _=_;rw[hs k i x hx (aU hx),hq];rfl⟩;by_cases e:j=i;.subst e;rw[hx]at hy;rw[<-Option.some.inj hy];exact hq
  .exact hI j y (by omega) hy) (k:=N) (s:=()) (λj x hj=>by omega) hN with⟨z,⟨h1,i,rfl⟩,h2⟩|⟨_,h1,h2⟩;.grind
 .refine .inl ⟨List.all_eq_true.2 λx hx=>?_,h2⟩;obtain⟨i,hi,rfl⟩:=List.mem_iff_getElem.1 hx<;>simp_all
section
variable{ts:List aB}{xs:List (List UInt8)}{fs:List Func}
theorem W5{N:Nat}(hN:1300<N)(f:Func){l:List Int}(hl:l.length<=10){c:Int}(hc:c=l.length)(ht:∀t,t∈l->-1<=t/\t<ts.length):(l.all (λt=>decide (kd ts t=2))=true/\f67.bK N N (l,c,0,ts,xs,fs,f.1,f.2.1,f.2.2.1,f.2.2.2.1,f.2.2.2.2.1,f.2.2.2.2.2.1,f.2.2.2.2.2.2)=some (.inr ()))\/(l.all (λt=>decide (kd ts t=2))=false/\∃i:Nat,f67.bK N N (l,c,0,ts,xs,fs,f.1,f.2.1,f.2.2.1,f.2.2.2.1,f.2.2.2.2.1,f.2.2.2.2.2.1,f.2.2.2.2.2.2)=some (.inl (i:Int))):=by subst hc;refine mw (N:=N) (l:=l) (q:=(λt=>decide (kd ts t=2))) (r:=.inr ()) (h:=λi=>.inl i) (Lf:=λk i=>f67.bK N k (l,(l.length:Int),i,ts,xs,fs,f.1,f.2.1,f.2.2.1,f.2.2.2.1,f.2.2.2.2.1,f.2.2.2.2.2.1,f.2.2.2.2.2.2)) (λk=>by simp only[f67.bK.eq_2,aM,aq]) (λk i x hx hm=>?_) (by omega);have hi:=az hx;simp only[f67.bK.eq_2,aJ hi,au,aE hx,Option.bind_some,Cl hN f (ht x hm) (show[2].length<=10by decide) (show¬(0:Int)∈[2]by decide),aj (show i<9223372036854775807by omega),List.mem_singleton]<;>grind
theorem W6{N:Nat}(hN:1300<N)(f:Func){l:List Int}(hl:l.length<=10){c:Int}(hc:c=l.length)(ht:∀t,t∈l->-1<=t/\t<ts.length):(l.all (λt=>decide (kd ts t=2))=true/\f67.bL N N (l,c,0,ts,xs,fs,f.1,f.2.1,f.2.2.1,f.2.2.2.1,f.2.2.2.2.1,f.2.2.2.2.2.1,f.2.2.2.2.2.2)=some (.inr ()))\/(l.all (λt=>decide (kd ts t=2))=false/\∃i:Nat,f67.bL N N (l,c,0,ts,xs,fs,f.1,f.2.1,f.2.2.1,f.2.2.2.1,f.2.2.2.2.1,f.2.2.2.2.2.1,f.2.2.2.2.2.2)=some (.inl (i:Int))):=by subst hc;refine mw (N:=N) (l:=l) (q:=(λt=>decide (kd ts t=2))) (r:=.inr ()) (h:=λi=>.inl i) (Lf:=λk i=>f67.bL N k (l,(l.length:Int),i,ts,xs,fs,f.1,f.2.1,f.2.2.1,f.2.2.2.1,f.2.2.2.2.1,f.2.2.2.2.2.1,f.2.2.2.2.2.2)) (λk=>by simp only[f67.bL.eq_2,aM,aq]) (λk i x hx hm=>?_) (by omega);have hi:=az hx;simp only[f67.bL.eq_2,aJ hi,au,aE hx,Option.bind_some,Cl hN f (ht x hm) (show[2].length<=10by decide) (show¬(0:Int)∈[2]by decide),aj (show i<9223372036854775807by omega),List.mem_singleton]<;>grind
theorem W7{N:Nat}(hN:1300<N)(f:Func){l:List Int}(hl:l.length<=10){c:Int}(hc:c=l.length)(ht:∀t,t∈l->-1<=t/\t<ts.length):(l.all (λt=>decide (kd ts t=2))=true/\f67.bM N N (l,c,0,ts,xs,fs,f.1,f.2.1,f.2.2.1,f.2.2.2.1,f.2.2.2.2.1,f.2.2.2.2.2.1,f.2.2.2.2.2.2)=some (.inr ()))\/(l.all (λt=>decide (kd ts t=2))=false/\∃i:Nat,f67.bM N N (l,c,0,ts,xs,fs,f.1,f.2.1,f.2.2.1,f.2.2.2.1,f.2.2.2.2.1,f.2.2.2.2.2.1,f.2.2.2.2.2.2)=some (.inl (i:Int))):=by subst hc;refine mw (N:=N) (l:=l) (q:=(λt=>decide (kd ts t=2))) (r:=.inr ()) (h:=λi=>.inl i) (Lf:=λk i=>f67.bM N k (l,(l.length:Int),i,ts,xs,fs,f.1,f.2.1,f.2.2.1,f.2.2.2.1,f.2.2.2.2.1,f.2.2.2.2.2.1,f.2.2.2.2.2.2)) (λk=>by simp only[f67.bM.eq_2,aM,aq]) (λk i x hx hm=>?_) (by omega);have hi:=az hx;simp only[f67.bM.eq_2,aJ hi,au,aE hx,Option.bind_some,Cl hN f (ht x hm) (show[2].length<=10by decide) (show¬(0:Int)∈[2]by decide),aj (show i<9223372036854775807by omega),List.mem_singleton]<;>grind
theorem W8{N:Nat}(hN:1300<N)(f:Func){l:List Int}(hl:l.length<=10){c:Int}(hc:c=l.length)(ht:∀t,t∈l->-1<=t/\t<ts.length):(l.all (λt=>decide (kd ts t=2))=true/\f67.bN N N (l,c,0,ts,xs,fs,f.1,f.2.1,f.2.2.1,f.2.2.2.1,f.2.2.2.2.1,f.2.2.2.2.2.1,f.2.2.2.2.2.2)=some (.inr ()))\/(l.all (λt=>decide (kd ts t=2))=false/\∃i:Nat,f67.bN N N (l,c,0,ts,xs,fs,f.1,f.2.1,f.2.2.1,f.2.2.2.1,f.2.2.2.2.1,f.2.2.2.2.2.1,f.2.2.2.2.2.2)=some (.inl (i:Int))):=by subst hc;refine mw (N:=N) (l:=l) (q:=(λt=>decide (kd ts t=2))) (r:=.inr ()) (h:=λi=>.inl i) (Lf:=λk i=>f67.bN N k (l,(l.length:Int),i,ts,xs,fs,f.1,f.2.1,f.2.2.1,f.2.2.2.1,f.2.2.2.2.1,f.2.2.2.2.2.1,f.2.2.2.2.2.2)) (λk=>by simp only[f67.bN.eq_2,aM,aq]) (λk i x hx hm=>?_) (by omega);have hi:=az hx;simp only[f67.bN.eq_2,aJ hi,au,aE hx,Option.bind_some,Cl hN f (ht x hm) (show[2].length<=10by decide) (show¬(0:Int)∈[2]by decide),aj (show i<9223372036854775807by omega),List.mem_singleton]<;>grind
theorem W9{N:Nat}(hN:1300<N)(f:Func){l:List Int}(hl:l.length<=10){c:Int}(hc:c=l.length)(ht:∀t,t∈l->-1<=t/\t<ts.length):(l.all (λt=>decide (kd ts t=2))=true/\f67.bO N N (l,c,0,ts,xs,fs,f.1,f.2.1,f.2.2.1,f.2.2.2.1,f.2.2.2.2.1,f.2.2.2.2.2.1,f.2.2.2.2.2.2)=some (.inr ()))\/(l.all (λt=>decide (kd ts t=2))=false/\∃i:Nat,f67.bO N N (l,c,0,ts,xs,fs,f.1,f.2.1,f.2.2.1,f.2.2.2.1,f.2.2.2.2.1,f.2.2.2.2.2.1,f.2.2.2.2.2.2)=some (.inl (i:Int))):=by subst hc;refine mw (N:=N) (l:=l) (q:=(λt=>decide (kd ts t=2))) (r:=.inr ()) (h:=λi=>.inl i) (Lf:=λk i=>f67.bO N k (l,(l.length:Int),i,ts,xs,fs,f.1,f.2.1,f.2.2.1,f.2.2.2.1,f.2.2.2.2.1,f.2.2.2.2.2.1,f.2.2.2.2.2.2)) (λk=>by simp only[f67.bO.eq_2,aM,aq]) (λk i x hx hm=>?_) (by omega);have hi:=az hx;simp only[f67.bO.eq_2,aJ hi,au,aE hx,Option.bind_some,Cl hN f (ht x hm) (show[2].length<=10by decide) (show¬(0:Int)∈[2]by decide),aj (show i<9223372036854775807by omega),List.mem_singleton]<;>grind
theorem Xa{N:Nat}(hN:1300<N)(f:Func){l:List Int}(hl:l.length<=10){c:Int}(hc:c=l.length)(ht:∀t,t∈l->-1<=t/\t<ts.length):(l.all (λt=>decide (kd ts t=2))=true/\f67.bP N N (l,c,0,ts,xs,fs,f.1,f.2.1,f.2.2.1,f.2.2.2.1,f.2.2.2.2.1,f.2.2.2.2.2.1,f.2.2.2.2.2.2)=some (.inr ()))\/(l.all (λt=>decide (kd ts t=2))=false/\∃i:Nat,f67.bP N N (l,c,0,ts,xs,fs,f.1,f.2.1,f.2.2.1,f.2.2.2.1,f.2.2.2.2.1,f.2.2.2.2.2.1,f.2.2.2.2.2.2)=some (.inl (i:Int))):=by subst hc;refine mw (N:=N) (l:=l) (q:=(λt=>decide (kd ts t=2))) (r:=.inr ()) (h:=λi=>.inl i) (Lf:=λk i=>f67.bP N k (l,(l.length:Int),i,ts,xs,fs,f.1,f.2.1,f.2.2.1,f.2.2.2.1,f.2.2.2.2.1,f.2.2.2.2.2.1,f.2.2.2.2.2.2)) (λk=>by simp only[f67.bP.eq_2,aM,aq]) (λk i x hx hm=>?_) (by omega);have hi:=az hx;simp only[f67.bP.eq_2,aJ hi,au,aE hx,Option.bind_some,Cl hN f (ht x hm) (show[2].length<=10by decide) (show¬(0:Int)∈[2]by decide),aj (show i<9223372036854775807by omega),List.mem_singleton]<;>grind
theorem Xb{N:Nat}(hN:1300<N)(f:Func){l:List Int}(hl:l.length<=10){c:Int}(hc:c=l.length)(ht:∀t,t∈l->-1<=t/\t<ts.length):(l.all (λt=>decide (kd ts t=2))=true/\f67.bR N N (l,c,0,ts,xs,fs,f.1,f.2.1,f.2.2.1,f.2.2.2.1,f.2.2.2.2.1,f.2.2.2.2.2.1,f.2.2.2.2.2.2)=some (.inr ()))\/(l.all (λt=>decide (kd ts t=2))=false/\∃i:Nat,f67.bR N N (l,c,0,ts,xs,fs,f.1,f.2.1,f.2.2.1,f.2.2.2.1,f.2.2.2.2.1,f.2.2.2.2.2.1,f.2.2.2.2.2.2)=some (.inl (i:Int))):=by subst hc;refine mw (N:=N) (l:=l) (q:=(λt=>decide (kd ts t=2))) (r:=.inr ()) (h:=λi=>.inl i) (Lf:=λk i=>f67.bR N k (l,(l.length:Int),i,ts,xs,fs,f.1,f.2.1,f.2.2.1,f.2.2.2.1,f.2.2.2.2.1,f.2.2.2.2.2.1,f.2.2.2.2.2.2)) (λk=>by simp only[f67.bR.eq_2,aM,aq]) (λk i x hx hm=>?_) (by omega);have hi:=az hx;simp only[f67.bR.eq_2,aJ hi,au,aE hx,Option.bind_some,Cl hN f (ht x hm) (show[2].length<=10by decide) (show¬(0:Int)∈[2]by decide),aj (show i<9223372036854775807by omega),List.mem_singleton]<;>grind
theorem Xc{N:Nat}(hN:1300<N)(f:Func){l:List Int}(hl:l.length<=10){c:Int}(hc:c=l.length)(ht:∀t,t∈l->-1<=t/\t<ts.length):(l.all (λt=>decide (kd ts t=2))=true/\f67.bQ N N (l,c,0,ts,xs,fs,f.1,f.2.1,f.2.2.1,f.2.2.2.1,f.2.2.2.2.1,f.2.2.2.2.2.1,f.2.2.2.2.2.2)=some (.inr (ts,xs,fs,f.1,f.2.1,f.2.2.1,f.2.2.2.1,f.2.2.2.2.1,f.2.2.2.2.2.1,f.2.2.2.2.2.2)))\/(l.all (λt=>decide (kd ts t=2))=false/\∃i:Nat,f67.bQ N N (l,c,0,ts,xs,fs,f.1,f.2.1,f.2.2.1,f.2.2.2.1,f.2.2.2.2.1,f.2.2.2.2.2.1,f.2.2.2.2.2.2)=some (.inl ((i:Int),ts,xs,fs,f.1,f.2.1,f.2.2.1,f.2.2.2.1,f.2.2.2.2.1,f.2.2.2.2.2.1,f.2.2.2.2.2.2))):=by subst hc;refine mw (N:=N) (l:=l) (q:=(λt=>decide (kd ts t=2))) (r:=.inr (ts,xs,fs,f.1,f.2.1,f.2.2.1,f.2.2.2.1,f.2.2.2.2.1,f.2.2.2.2.2.1,f.2.2.2.2.2.2)) (h:=λi=>.inl (i,ts,xs,fs,f.1,f.2.1,f.2.2.1,f.2.2.2.1,f.2.2.2.2.1,f.2.2.2.2.2.1,f.2.2.2.2.2.2)) (Lf:=λk i=>f67.bQ N k (l,(l.length:Int),i,ts,xs,fs,f.1,f.2.1,f.2.2.1,f.2.2.2.1,f.2.2.2.2.1,f.2.2.2.2.2.1,f.2.2.2.2.2.2)) (λk=>by simp only[f67.bQ.eq_2,aM,aq]) (λk i x hx hm=>?_) (by omega);have hi:=az hx;simp only[f67.bQ.eq_2,aJ hi,au,aE hx,Option.bind_some,Cl hN f (ht x hm) (show[2].length<=10by decide) (show¬(0:Int)∈[2]by decide),aj (show i<9223372036854775807by omega),List.mem_singleton]<;>grind
theorem ahI{N:Nat}(hN:1300<N)(hv:fE ts xs fs)(f:Func){t i o:Int}(h:-1<=t/\t<ts.length):OP N (ts,xs,fs,f.1,f.2.1,f.2.2.1,f.2.2.2.1,f.2.2.2.2.1,f.2.2.2.2.2.1,f.2.2.2.2.2.2,t,i,o)=some (decide (W2 ts t i o)):=by
 rw[OP.eq_1];simp only[Cl hN f h (show[5].length<=10by decide) (show¬(0:Int)∈[5]by decide),Option.bind_some,List.mem_singleton];by_cases h5:kd ts t=5
 .have h0:=Gy (ts:=ts) (t:=t) (by omega);rw[bI h5,au,oF ⟨h0,h.2⟩];simp only[Option.bind_some,Gx];by_cases hi:0<=i/\i<(dO ts t.toNat).2.2.2.length;.rw[bI hi,au,xS hi,Option.bind_some]<;>grind
  grind
 grind
theorem ahJ{N:Nat}(hv:fE ts xs fs){t i o:Int}(h:-1<=t/\t<ts.length)(ho:0<=o):(O4 N (ts,xs,fs,t,i)).bind (λA=>some (A==o))=some (decide (W2 ts t i o)):=by
 rw[O4.eq_1,Jv N h];simp only[Option.bind_some];by_cases h5:kd ts t=5
 .have h0:=Gy (ts:=ts) (t:=t) (by omega);rw[show(kd ts t !=5)=false by simp[h5],aq,oF ⟨h0,h.2⟩];simp only[Option.bind_some,dK];by_cases hi:0<=i/\i<(dO ts t.toNat).2.2.2.length;.rw[bE (show¬i<0 by omega),bE (show¬i>=((dO ts t.toNat).2.2.2.length:Int)by omega),Bool.or_self,aq,xS hi]<;>grind
  .rw[show(decide (i<0)||decide (i>=((dO ts t.toNat).2.2.2.length:Int)))=true by rw[<-Bool.decide_or];exact bI (by omega),au,Option.bind_some,bE (λh:(_/\_/\_)=>hi h.2.1),show((-1:Int)==o)=false by rw[beq_eq_false_iff_ne];omega]
 .rw[show(kd ts t !=5)=true by simp[bne,h5],au,Option.bind_some,au,Option.bind_some,bE (λh:(_/\_/\_)=>h5 h.1),show((-1:Int)==o)=false by rw[beq_eq_false_iff_ne];omega]
theorem Xd{N:Nat}(hN:1300<N)(f:Func){t o:Int}(h:-1<=t/\t<ts.length){K:List Int}(hK:K.length<=10)(h0:¬(0:Int)∈K):IQ N (ts,xs,fs,f.1,f.2.1,f.2.2.1,f.2.2.2.1,f.2.2.2.2.1,f.2.2.2.2.2.1,f.2.2.2.2.2.2,t,o,K)=some (decide (kd ts t∈K/\W1 ts t=o)):=by
 rw[IQ.eq_1];simp only[Cl hN f h hK h0,Option.bind_some];by_cases hk:kd ts t∈K;.have ht:=Gy (ts:=ts) (t:=t) (λe=>h0 (e▸hk));rw[bI hk,au,oF ⟨ht,h.2⟩];unfold W1;simp[hk,Cj]
 .rw[bE hk,aq,bE (λh:(_/\_)=>hk h.1)];rfl
theorem ofR{N:Nat}{t:Int}(h:-1<=t/\t<ts.length){a b:Int}(ha:a≠0)(hb:b≠0):IZ N (ts,xs,fs,t,a,b)=some (if kd ts t=a\/kd ts t=b then W1 ts t else-1):=by
 rw[IZ.eq_1,Jv N h];simp only[Option.bind_some,BT];by_cases hk:kd ts t=a\/kd ts t=b;.have ht:=Gy (ts:=ts) (t:=t) (λe=>by rcases hk with hk|hk<;>rw[e]at hk<;>first|exact ha hk.symm|exact hb hk.symm);rw[if_pos hk,bE (show¬t<0 by omega),show(bif(kd ts t !=a)then(kd ts t !=b)else false)=false by rcases hk with hk|hk<;>simp[hk]];simp[aq,oF (show 0<=t/\t<(ts.length:Int)by omega),Option.bind_some];rfl
 grind
theorem Pv{N:Nat}(hN:1300<N)(hv:fE ts xs fs)(f:Func){g:Func}(hg:eA ts.length g):Sz N (ts,xs,fs,f.1,f.2.1,f.2.2.1,f.2.2.2.1,f.2.2.2.2.1,f.2.2.2.2.2.1,f.2.2.2.2.2.2,g.1,g.2.1,g.2.2.1,g.2.2.2.1,g.2.2.2.2.1,g.2.2.2.2.2.1,g.2.2.2.2.2.2)=some (decide (Ci ts (sg g))):=by
 rw[Sz.eq_1];rw[show decide (Ci ts (sg g))=decide (g.2.2.1<0/\(g.2.1=0\/g.2.1=1/\Js (kd ts (fl g.2.2.2.1 0).2)))from decide_eq_decide.2 Iff.rfl];by_cases h1:g.2.2.1<0
 .rw[bI h1,au];by_cases h2:g.2.1=0;.grind
  .rw[show(g.2.1==(0:Int))=false by simpa using h2,aq];by_cases h3:g.2.1=1
   .have hl:(0:Int)<=0/\(0:Int)<g.2.2.2.1.length:=by have:=hg.2.2.2.1.2;omega
    have hm:fl g.2.2.2.1 0∈g.2.2.2.1:=by unfold fl<;>grind
    have hr:=hg.2.2.2.2.2.1 _ hm;have e:=xS hl;simp at e;rw[show(g.2.1==(1:Int))=true by simpa using h3,e];simp only[Option.bind_some,Cl hN f (show-1<=(fl g.2.2.2.1 0).2/\(fl g.2.2.2.1 0).2<(ts.length:Int)by omega) (show[1,2,4].length<=10by decide) (show¬(0:Int)∈[1,2,4]by decide)]<;>grind
   grind
 grind
theorem Pw{N:Nat}(hv:fE ts xs fs){i:Int}{g:Func}(hi:idx fs i=some g)(hg:eA ts.length g):Th N (ts,xs,fs,i)=some (decide (Ci ts (sg g))):=by
 rw[Th.eq_1,hi];rw[show decide (Ci ts (sg g))=decide (g.2.2.1<0/\(g.2.1=0\/g.2.1=1/\Js (kd ts (fl g.2.2.2.1 0).2)))from decide_eq_decide.2 Iff.rfl];simp only[Option.bind_some];have CL:=hg.2.2.2.2.1.1;by_cases h1:g.2.2.1<0
 .rw[show(g.2.2.1==(-1:Int))=true by rw[beq_iff_eq];omega];by_cases h2:g.2.1=0;.grind
  .rw[show(g.2.1==(0:Int))=false by simpa using h2];by_cases h3:g.2.1=1
   .have hl:(0:Int)<=0/\(0:Int)<g.2.2.2.1.length:=by have:=hg.2.2.2.1.2;omega
    have hm:fl g.2.2.2.1 0∈g.2.2.2.1:=by unfold fl<;>grind
    have hr:=hg.2.2.2.2.2.1 _ hm;have e:=xS hl;simp at e;rw[au,e];simp[Option.bind_some,oF hr,O3.eq_1,dK];rw[<-Zw hr.1]<;>grind
   grind
 grind
theorem acn{N:Nat}(hN:1300<N)(hv:fE ts xs fs){f:Func}(hf:eA ts.length f){x:Instr}(hc:dD x=true)(hn:kJ xs.length (eL fs) f.2.2.2.1 x):F67 N (ts,xs,fs,f.1,f.2.1,f.2.2.1,f.2.2.2.1,f.2.2.2.2.1,f.2.2.2.2.2.1,f.2.2.2.2.2.2,x.1,x.2.1,x.2.2.1,x.2.2.2)=some (Cn ts (eL fs) f.2.2.2.1 f.2.2.1 x):=by
 have hr:=hf.2.2.2.2.2.1;have hA:=uN hr x.2.1;have hB:=uN hr x.2.2.1;have hC:=uN hr x.2.2.2;rw[F67.eq_1];simp only[Zu,Option.bind_some,dK];unfold Cn;refine aV (λh=>?_) (λ_=>?_)
 .rcases W5 hN f (l:=[eT f.2.2.2.1 x.2.1]) (by simp) (c:=1) rfl (λt ht=>by rw[List.mem_singleton.1 ht];exact hA)with⟨e1,e2⟩|⟨e1,i,e2⟩;.rw[e2];show some true=_;congr 1;simp_all
  .rw[e2];show some (!decide ((i:Int)>=0))=_;rw[bI (show(i:Int)>=0 by omega)];congr 1;simp_all
 refine aV (λh=>?_) (λ_=>?_);.rw[Cl hN f hA (show[3].length<=10by decide) (show¬(0:Int)∈[3]by decide),Option.bind_some];congr 1;simp
 refine aV (λh=>?_) (λ_=>?_);.rw[Cl hN f hA (show[1].length<=10by decide) (show¬(0:Int)∈[1]by decide),Option.bind_some];congr 1;simp
 refine aV (λh=>?_) (λ_=>?_);.rw[Cj]
 refine aV (λh=>?_) (λ_=>?_)
 .rcases W6 hN f (l:=[eT f.2.2.2.1 x.2.1,eT f.2.2.2.1 x.2.2.1,eT f.2.2.2.1 x.2.2.2]) (by simp) (c:=3) rfl (λt ht=>by simp only[List.mem_cons,List.not_mem_nil,or_false]at ht;rcases ht with rfl|rfl|rfl<;>assumption)with⟨e1,e2⟩|⟨e1,i,e2⟩;.rw[e2];show some true=_;congr 1;simp_all
  .rw[e2];show some (!decide ((i:Int)>=0))=_;rw[bI (show(i:Int)>=0 by omega)];congr 1;simp_all
 refine aV (λh=>?_) (λ_=>?_)
 .rw[Cl hN f hA (show[1].length<=10by decide) (show¬(0:Int)∈[1]by decide),Option.bind_some];by_cases hk:kd ts (eT f.2.2.2.1 x.2.1)=1
  .rw[bI (show kd ts (eT f.2.2.2.1 x.2.1)∈[1]by simpa using hk),au];rcases W7 hN f (l:=[eT f.2.2.2.1 x.2.2.1,eT f.2.2.2.1 x.2.2.2]) (by simp) (c:=2) rfl (λt ht=>by simp only[List.mem_cons,List.not_mem_nil,or_false]at ht;rcases ht with rfl|rfl<;>assumption)with⟨e1,e2⟩|⟨e1,i,e2⟩;.rw[e2];show some true=_;congr 1;simp_all
   .rw[e2];show some (!decide ((i:Int)>=0))=_;rw[bI (show(i:Int)>=0 by omega)];congr 1;simp_all
  .rw[bE (show¬kd ts (eT f.2.2.2.1 x.2.1)∈[1]by simpa using hk),aq,bE (λh:(_/\_/\_)=>hk h.1)]
 refine aV (λh=>?_) (λ_=>?_);.rw[Cl hN f hA (show[1].length<=10by decide) (show¬(0:Int)∈[1]by decide),Option.bind_some,Cl hN f hB (show[2,1,4].length<=10by decide) (show¬(0:Int)∈[2,1,4]by decide),Option.bind_some,BT,BT];congr 1;by_cases h1:kd ts (eT f.2.2.2.1 x.2.1)=1<;>by_cases h2:eT f.2.2.2.1 x.2.2.1=eT f.2.2.2.1 x.2.2.2<;>simp[h1,h2,Js,or_left_comm]
 refine aV (λh=>?_) (λ_=>?_);.rw[Cl hN f hA (show[1].length<=10by decide) (show¬(0:Int)∈[1]by decide),Option.bind_some,Cl hN f hB (show[1].length<=10by decide) (show¬(0:Int)∈[1]by decide),Option.bind_some,mK];congr 1;simp
 refine aV (λh=>?_) (λ_=>?_);.rw[ahI hN hv f hB,Option.bind_some]
 refine aV (λh=>?_) (λ_=>?_);.rw[ahI hN hv f hA,Option.bind_some]
 refine aV (λh=>?_) (λ_=>?_);.rw[Cl hN f hA (show[4].length<=10by decide) (show¬(0:Int)∈[4]by decide),Option.bind_some];congr 1;simp
 refine aV (λh=>?_) (λ_=>?_);.rw[Xd hN f hB (show[4].length<=10by decide) (show¬(0:Int)∈[4]by decide),Option.bind_some];congr 1;simp
 refine aV (λh=>?_) (λ_=>?_);.rw[Xd hN f hA (show[4].length<=10by decide) (show¬(0:Int)∈[4]by decide),Option.bind_some];congr 1;simp
 refine aV (λh=>?_) (λ_=>?_)
 .rw[Cl hN f hA (show[7].length<=10by decide) (show¬(0:Int)∈[7]by decide),Option.bind_some];by_cases hk:kd ts (eT f.2.2.2.1 x.2.1)=7
  .rw[bI (show kd ts (eT f.2.2.2.1 x.2.1)∈[7]by simpa using hk),au];rcases W8 hN f (l:=[eT f.2.2.2.1 x.2.2.1]) (by simp) (c:=1) rfl (λt ht=>by rw[List.mem_singleton.1 ht];exact hB)with⟨e1,e2⟩|⟨e1,i,e2⟩;.rw[e2];show some true=_;congr 1;simp_all
   .rw[e2];show some (!decide ((i:Int)>=0))=_;rw[bI (show(i:Int)>=0 by omega)];congr 1;simp_all
  .rw[bE (show¬kd ts (eT f.2.2.2.1 x.2.1)∈[7]by simpa using hk),aq,bE (λh:(_/\_)=>hk h.1)]
 refine aV (λh=>?_) (λ_=>?_)
 .rw[Xd hN f hB (show[7,6].length<=10by decide) (show¬(0:Int)∈[7,6]by decide),Option.bind_some];by_cases hk:kd ts (eT f.2.2.2.1 x.2.2.1)∈[7,6]/\W1 ts (eT f.2.2.2.1 x.2.2.1)=eT f.2.2.2.1 x.2.1
  .rw[bI hk,au];rcases W9 hN f (l:=[eT f.2.2.2.1 x.2.2.2]) (by simp) (c:=1) rfl (λt ht=>by rw[List.mem_singleton.1 ht];exact hC)with⟨e1,e2⟩|⟨e1,i,e2⟩;.rw[e2];show some true=_;congr 1;simp_all
   .rw[e2];show some (!decide ((i:Int)>=0))=_;rw[bI (show(i:Int)>=0 by omega)];congr 1;simp_all
  .rw[bE hk,aq,bE (λh:(_/\_/\_)=>hk ⟨by simpa using h.1,h.2.1⟩)]
 refine aV (λh=>?_) (λ_=>?_)
 .rw[Xd hN f hA (show[7,6].length<=10by decide) (show¬(0:Int)∈[7,6]by decide),Option.bind_some];by_cases hk:kd ts (eT f.2.2.2.1 x.2.1)∈[7,6]/\W1 ts (eT f.2.2.2.1 x.2.1)=eT f.2.2.2.1 x.2.2.2
  .rw[bI hk,au];rcases Xa hN f (l:=[eT f.2.2.2.1 x.2.2.1]) (by simp) (c:=1) rfl (λt ht=>by rw[List.mem_singleton.1 ht];exact hB)with⟨e1,e2⟩|⟨e1,i,e2⟩;.rw[e2];show some true=_;congr 1;simp_all
   .rw[e2];show some (!decide ((i:Int)>=0))=_;rw[bI (show(i:Int)>=0 by omega)];congr 1;simp_all
  .rw[bE hk,aq,bE (λh:(_/\_/\_)=>hk ⟨by simpa using h.1,h.2.1⟩)]
 refine aV (λh=>?_) (λ_=>?_)
 .rcases Xc hN f (l:=[eT f.2.2.2.1 x.2.1]) (by simp) (c:=1) rfl (λt ht=>by rw[List.mem_singleton.1 ht];exact hA)with⟨e1,e2⟩|⟨e1,i,e2⟩;.rw[e2];simp only[Option.bind_some,Cl hN f hB (show[3,7,6].length<=10by decide) (show¬(0:Int)∈[3,7,6]by decide)];congr 1;simp_all
  .rw[e2];simp only[Option.bind_some,bI (show(i:Int)>=0 by omega),Bool.not_true,aq];congr 1;simp_all
 refine aV (λh=>?_) (λ_=>?_)
 .have CG:x.1=25:=by simpa using h
  have hcl:called x=x.2.2.1:=by unfold called;rw[if_pos CG]
  have h0:0<=x.2.2.1:=by have e:vX 25=some (103,99,45):=rfl;simp only[dD,CG,e,fits,Bool.and_eq_true,decide_eq_true_eq]at hc;exact hc.2.1.1
  have h2:=hn.2.1;rw[hcl,oG]at h2;obtain⟨g,g1,_,g3⟩:=Ck (fs:=fs) ⟨h0,h2⟩;rw[g1,g3];simp only[Option.bind_some,dK,sg];congr 1;by_cases e:x.2.1<0<;>simp[e,Cj]
 refine aV (λh=>?_) (λ_=>?_)
 .have CG:x.1=26\/x.1=27:=by simpa using h
  have hcl:called x=x.2.1:=by unfold called;rw[if_neg (by omega),if_pos CG]
  have h0:0<=x.2.1:=by
   rcases CG with CG|CG;.have e:vX 26=some (99,45,45):=rfl;simp only[dD,CG,e,fits,Bool.and_eq_true,decide_eq_true_eq]at hc;exact hc.1.1
   .have e:vX 27=some (99,45,45):=rfl;simp only[dD,CG,e,fits,Bool.and_eq_true,decide_eq_true_eq]at hc;exact hc.1.1
  have h2:=hn.2.1;rw[hcl,oG]at h2;obtain⟨g,g1,g2,g3⟩:=Ck (fs:=fs) ⟨h0,h2⟩;rw[g1,g3];simp only[Option.bind_some,Pv hN hv f (hv.get g2)]
 refine aV (λh=>?_) (λ_=>?_);.rw[Cl hN f hA (show[2,1,3].length<=10by decide) (show¬(0:Int)∈[2,1,3]by decide),Option.bind_some];congr 1;simp
 refine aV (λh=>?_) (λ_=>?_)
 .rw[Cl hN f hA (show[1].length<=10by decide) (show¬(0:Int)∈[1]by decide),Option.bind_some];by_cases hk:kd ts (eT f.2.2.2.1 x.2.1)=1
  .rw[bI (show kd ts (eT f.2.2.2.1 x.2.1)∈[1]by simpa using hk),au];rcases Xb hN f (l:=[eT f.2.2.2.1 x.2.2.1]) (by simp) (c:=1) rfl (λt ht=>by rw[List.mem_singleton.1 ht];exact hB)with⟨e1,e2⟩|⟨e1,i,e2⟩;.rw[e2];show some true=_;congr 1;simp_all
   .rw[e2];show some (!decide ((i:Int)>=0))=_;rw[bI (show(i:Int)>=0 by omega)];congr 1;simp_all
  .rw[bE (show¬kd ts (eT f.2.2.2.1 x.2.1)∈[1]by simpa using hk),aq,bE (λh:(_/\_)=>hk h.1)]
 refine aV (λh=>?_) (λ_=>?_);.congr 1;by_cases e:x.2.1<0<;>simp[e,Cj]
 rfl
theorem aco{N:Nat}{i:Int}(hv:fE ts xs fs){f:Func}(hf:eA ts.length f){x:Instr}(hc:dD x=true)(hn:kJ xs.length (eL fs) f.2.2.2.1 x)(hfi:idx fs i=some f):Ti N (ts,xs,fs,i,x.1,x.2.1,x.2.2.1,x.2.2.2)=some (Cn ts (eL fs) f.2.2.2.1 f.2.2.1 x):=by
 have hr:=hf.2.2.2.2.2.1;have hA:=uN hr x.2.1;have hB:=uN hr x.2.2.1;have hC:=uN hr x.2.2.2;rw[Ti.eq_1];simp only[Zv N hfi,Jv N hA,Jv N hB,Jv N hC,Option.bind_some,dK];refine aV (λh=>?_) (λ_=>?_);.rw[Cj]
 refine aV (λh=>?_) (λ_=>?_);.rw[Cj]
 refine aV (λh=>?_) (λ_=>?_);.rw[Cj]
 refine aV (λh=>?_) (λ_=>?_);.rw[Cj]
 refine aV (λh=>?_) (λ_=>?_);.grind
 refine aV (λh=>?_) (λ_=>?_);.grind
 refine aV (λh=>?_) (λ_=>?_)
 .have h11:x.1=11:=by grind
  obtain⟨_,s2,_⟩:=iz hc (p:=119) (q:=114) (r:=114) (by rw[h11];rfl);obtain⟨b0,b1⟩:=s2 (.inr rfl);have hb:=oS hr ⟨b0,hn.1 _ b1⟩;simp only[oF hb,Option.bind_some,O3.eq_1,dK,mK];rw[<-Zw hb.1];congr 1;grind
 refine aV (λh=>?_) (λ_=>?_);.grind
 refine aV (λh=>?_) (λ_=>?_)
 .have hk:x.1=13:=by grind
  obtain⟨s1,_,_⟩:=iz hc (p:=119) (q:=114) (r:=102) (by rw[hk];rfl);obtain⟨b0,b1⟩:=s1 (.inl rfl);exact ahJ hv hB (oS hr ⟨b0,hn.1 _ b1⟩).1
 refine aV (λh=>?_) (λ_=>?_)
 .have hk:x.1=14:=by grind
  obtain⟨_,_,s3⟩:=iz hc (p:=114) (q:=102) (r:=114) (by rw[hk];rfl);obtain⟨b0,b1⟩:=s3 (.inr rfl);exact ahJ hv hA (oS hr ⟨b0,hn.1 _ b1⟩).1
 refine aV (λh=>?_) (λ_=>?_);.rw[Cj]
 refine aV (λh=>?_) (λ_=>?_)
 .have hk:x.1=16:=by grind
  obtain⟨s1,_,_⟩:=iz hc (p:=119) (q:=114) (r:=45) (by rw[hk];rfl);obtain⟨b0,b1⟩:=s1 (.inl rfl);have ho:=(oS hr ⟨b0,hn.1 _ b1⟩).1;rw[ofR hB (show(4:Int)≠0 by decide) (show(4:Int)≠0 by decide),Option.bind_some];congr 1;grind
 refine aV (λh=>?_) (λ_=>?_)
 .have hk:x.1=17:=by grind
  obtain⟨_,s1,_⟩:=iz hc (p:=114) (q:=114) (r:=45) (by rw[hk];rfl);obtain⟨b0,b1⟩:=s1 (.inr rfl);have ho:=(oS hr ⟨b0,hn.1 _ b1⟩).1;rw[ofR hA (show(4:Int)≠0 by decide) (show(4:Int)≠0 by decide),Option.bind_some];congr 1;grind
 refine aV (λh=>?_) (λ_=>?_);.grind
 refine aV (λh=>?_) (λ_=>?_)
 .have hk:x.1=19:=by grind
  obtain⟨s1,_,_⟩:=iz hc (p:=119) (q:=114) (r:=114) (by rw[hk];rfl);obtain⟨b0,b1⟩:=s1 (.inl rfl);have ho:=(oS hr ⟨b0,hn.1 _ b1⟩).1;rw[ofR hB (show(7:Int)≠0 by decide) (show(6:Int)≠0 by decide),Option.bind_some]<;>grind
 refine aV (λh=>?_) (λ_=>?_)
 .have hk:x.1=20:=by grind
  obtain⟨_,_,s1⟩:=iz hc (p:=114) (q:=114) (r:=114) (by rw[hk];rfl);obtain⟨b0,b1⟩:=s1 (.inr rfl);have ho:=(oS hr ⟨b0,hn.1 _ b1⟩).1;rw[ofR hA (show(7:Int)≠0 by decide) (show(6:Int)≠0 by decide),Option.bind_some]<;>grind
 refine aV (λh=>?_) (λ_=>?_);.simp only[dK,mK,Option.bind_some];simp[Cj]
 refine aV (λh=>?_) (λ_=>?_)
 .have CG:x.1=25:=by grind
  have hcl:called x=x.2.2.1:=by unfold called<;>grind
  have h0:0<=x.2.2.1:=by have e:vX 25=some (103,99,45):=rfl;simp[dD,CG,e,fits,Bool.and_eq_true,decide_eq_true_eq]at hc;exact hc.2.1.1
  have h2:=hn.2.1;rw[hcl,oG]at h2;obtain⟨g,g1,_,g3⟩:=Ck (fs:=fs) ⟨h0,h2⟩;rw[g1,g3];simp[Option.bind_some,dK,sg];have hm:-1<=x.2.1:=by have e:vX 25=some (103,99,45):=rfl;simp[dD,CG,e,fits,Bool.and_eq_true,decide_eq_true_eq]at hc;exact hc.1.1
  grind
 refine aV (λh=>?_) (λ_=>?_)
 .have CG:x.1=26\/x.1=27:=by grind
  have hcl:called x=x.2.1:=by unfold called<;>grind
  have h0:0<=x.2.1:=by
   rcases CG with CG|CG;.have e:vX 26=some (99,45,45):=rfl;simp[dD,CG,e,fits,Bool.and_eq_true,decide_eq_true_eq]at hc;exact hc.1.1
   .have e:vX 27=some (99,45,45):=rfl;simp[dD,CG,e,fits,Bool.and_eq_true,decide_eq_true_eq]at hc;exact hc.1.1
  have h2:=hn.2.1;rw[hcl,oG]at h2;obtain⟨g,g1,g2,g3⟩:=Ck (fs:=fs) ⟨h0,h2⟩;rw[g3];rw[Pw hv g1 (hv.get g2)];rfl
 refine aV (λh=>?_) (λ_=>?_);.simp[Cj]
 refine aV (λh=>?_) (λ_=>?_);.grind
 refine aV (λh=>?_) (λ_=>?_)
 .have hk:x.1=34:=by grind
  have hm:-1<=x.2.1:=by have e:vX 34=some (101,45,45):=rfl;simp[dD,hk,e,fits,Bool.and_eq_true,decide_eq_true_eq]at hc;exact hc.1.1
  rw[hfi];by_cases e:x.2.1<0<;>grind
 rfl
end
end Go.Proofs.YtgkllgjmfpjeoaaGreatDoor
