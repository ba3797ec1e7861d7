/- The checker: types. -/
import Derived.Test.YtkdilffhbejjaaaGreatLaw21tg2
set_option linter.unusedVariables false
set_option linter.unusedSimpArgs false
namespace Go.Proofs.YtkdilffhbejjaaaGreat
open Go Go.bM Go.Sym
open Classical
noncomputable def Kq(ts:List aA)(S:List Sg)(sl:List Field)(re:Int)(x:Instr):Bool:=bif x.1==1||x.1==32then decide (kd ts (fh sl x.2.1)=2)else bif x.1==2then decide (kd ts (fh sl x.2.1)=3)else bif x.1==3||x.1==23then decide (kd ts (fh sl x.2.1)=1)else bif x.1==5then decide (fh sl x.2.1=fh sl x.2.2.1)else bif x.1==6||(x.1==7||(x.1==8||x.1==9))then decide (kd ts (fh sl x.2.1)=2/\kd ts (fh sl x.2.2.1)=2/\kd ts (fh sl x.2.2.2)=2)else bif x.1==10then decide (kd ts (fh sl x.2.1)=1/\kd ts (fh sl x.2.2.1)=2/\kd ts (fh sl x.2.2.2)=2)else bif x.1==11then decide (kd ts (fh sl x.2.1)=1/\fh sl x.2.2.1=fh sl x.2.2.2/\Kl (kd ts (fh sl x.2.2.1)))else bif x.1==12then decide (kd ts (fh sl x.2.1)=1/\kd ts (fh sl x.2.2.1)=1)else bif x.1==13then decide (Y4 ts (fh sl x.2.2.1) x.2.2.2 (fh sl x.2.1))else bif x.1==14then decide (Y4 ts (fh sl x.2.1) x.2.2.1 (fh sl x.2.2.2))else bif x.1==15then decide (kd ts (fh sl x.2.1)=4)else bif x.1==16then decide (kd ts (fh sl x.2.2.1)=4/\Y3 ts (fh sl x.2.2.1)=fh sl x.2.1)else bif x.1==17then decide (kd ts (fh sl x.2.1)=4/\Y3 ts (fh sl x.2.1)=fh sl x.2.2.1)else bif x.1==18then decide (kd ts (fh sl x.2.1)=7/\kd ts (fh sl x.2.2.1)=2)else bif x.1==19then decide ((kd ts (fh sl x.2.2.1)=7\/kd ts (fh sl x.2.2.1)=6)/\Y3 ts (fh sl x.2.2.1)=fh sl x.2.1/\kd ts (fh sl x.2.2.2)=2)else bif x.1==20then decide ((kd ts (fh sl x.2.1)=7\/kd ts (fh sl x.2.1)=6)/\Y3 ts (fh sl x.2.1)=fh sl x.2.2.2/\kd ts (fh sl x.2.2.1)=2)else bif x.1==21then decide (kd ts (fh sl x.2.1)=2/\(kd ts (fh sl x.2.2.1)=3\/kd ts (fh sl x.2.2.1)=7\/kd ts (fh sl x.2.2.1)=6))else bif x.1==25then decide (x.2.1<0\/(MI S x.2.2.1).2.1=fh sl x.2.1)else bif x.1==26||x.1==27then decide (Dr ts (MI S x.2.1))else bif x.1==28then decide (kd ts (fh sl x.2.1)=2\/kd ts (fh sl x.2.1)=1\/kd ts (fh sl x.2.1)=3)else bif x.1==29||x.1==33then decide (kd ts (fh sl x.2.1)=1/\kd ts (fh sl x.2.2.1)=2)else bif x.1==34then decide (x.2.1<0\/re=fh sl x.2.1)else true
theorem nC{β:Type}{l:List Int}{q:Int->Bool}{r:β}{h:Int->β}{Lf:Nat->Int->Option β}(h0:∀k,Lf (k+1) (l.length:Int)=some r)(hs:∀k(i:Nat)x,l[i]?=some x->x∈l->Lf (k+1) (i:Int)=if q x=true then Lf k ((i+1:Nat):Int)else some (h (i:Int))){N:Nat}(hN:l.length<N):(l.all q=true/\Lf N 0=some r)\/(l.all q=false/\∃i:Nat,Lf N 0=some (h (i:Int))):=by
 rcases de (l:=l) (g:=λ_:Unit=>r) (Out:=λz=>l.all q=false/\∃i:Nat,z=h (i:Int)) (Inv:=λi _=>∀j x,j<i->l[j]?=some x->q x=true) (Lf:=λk i _=>Lf k i) (λk _ _=>h0 k) (λk i x _ hx hI=>by cases hq:q x with|false=>exact .inl ⟨_,⟨by rw[List.all_eq_false];exact⟨x,aU hx,by rw[hq];exact Bool.false_ne_true⟩,i,rfl⟩,by show Lf _ _=_;rw[hs k i x hx (aU hx),hq];rfl⟩|true=>
  refine .inr ⟨(),λj y hj hy=>?_,by show Lf _ _=_;rw[hs k i x hx (aU hx),hq];rfl⟩;by_cases e:j=i;.subst e;rw[hx]at hy;rw[<-fb hy];exact hq
  .exact hI j y (by omega) hy) (k:=N) (s:=()) (λj x hj=>by omega) hN with⟨z,⟨h1,i,rfl⟩,h2⟩|⟨_,h1,h2⟩;.grind
 .refine .inl ⟨km.2 λx hx=>?_,h2⟩;obtain⟨i,hi,rfl⟩:=f8.1 hx<;>simp_all
section
variable{ts:List aA}{xs:List (List UInt8)}{fs:List Func}
theorem Y7{N:Nat}(hN:1300<N)(f:Func){l:List Int}(hl:l.length<=10){c:Int}(hc:c=l.length)(ht:∀t,t∈l->-1<=t/\t<ts.length):(l.all (λt=>decide (kd ts t=2))=true/\f108.bS N N (l,c,0,ts,xs,fs,f.1,f.2.1,f.2.2.1,f.2.2.2.1,f.2.2.2.2.1,f.2.2.2.2.2.1,f.2.2.2.2.2.2)=some (.inr ()))\/(l.all (λt=>decide (kd ts t=2))=false/\∃i:Nat,f108.bS N N (l,c,0,ts,xs,fs,f.1,f.2.1,f.2.2.1,f.2.2.2.1,f.2.2.2.2.1,f.2.2.2.2.2.1,f.2.2.2.2.2.2)=some (.inl (i:Int))):=by subst hc;refine nC (N:=N) (l:=l) (q:=(λt=>decide (kd ts t=2))) (r:=.inr ()) (h:=λi=>.inl i) (Lf:=λk i=>f108.bS N k (l,(l.length:Int),i,ts,xs,fs,f.1,f.2.1,f.2.2.1,f.2.2.2.1,f.2.2.2.2.1,f.2.2.2.2.2.1,f.2.2.2.2.2.2)) (λk=>by simp only[f108.bS.eq_2,aJ,af]) (λk i x hx hm=>?_) (by omega);have hi:=aC hx;simp only[f108.bS.eq_2,aG hi,aq,aD hx,ae,Du hN f (ht x hm) (show[2].length<=10by decide) (show¬(0:Int)∈[2]by decide),ai (show i<9223372036854775807by omega),bo]<;>grind
theorem Y8{N:Nat}(hN:1300<N)(f:Func){l:List Int}(hl:l.length<=10){c:Int}(hc:c=l.length)(ht:∀t,t∈l->-1<=t/\t<ts.length):(l.all (λt=>decide (kd ts t=2))=true/\f108.bT N N (l,c,0,ts,xs,fs,f.1,f.2.1,f.2.2.1,f.2.2.2.1,f.2.2.2.2.1,f.2.2.2.2.2.1,f.2.2.2.2.2.2)=some (.inr ()))\/(l.all (λt=>decide (kd ts t=2))=false/\∃i:Nat,f108.bT N N (l,c,0,ts,xs,fs,f.1,f.2.1,f.2.2.1,f.2.2.2.1,f.2.2.2.2.1,f.2.2.2.2.2.1,f.2.2.2.2.2.2)=some (.inl (i:Int))):=by subst hc;refine nC (N:=N) (l:=l) (q:=(λt=>decide (kd ts t=2))) (r:=.inr ()) (h:=λi=>.inl i) (Lf:=λk i=>f108.bT N k (l,(l.length:Int),i,ts,xs,fs,f.1,f.2.1,f.2.2.1,f.2.2.2.1,f.2.2.2.2.1,f.2.2.2.2.2.1,f.2.2.2.2.2.2)) (λk=>by simp only[f108.bT.eq_2,aJ,af]) (λk i x hx hm=>?_) (by omega);have hi:=aC hx;simp only[f108.bT.eq_2,aG hi,aq,aD hx,ae,Du hN f (ht x hm) (show[2].length<=10by decide) (show¬(0:Int)∈[2]by decide),ai (show i<9223372036854775807by omega),bo]<;>grind
theorem Y9{N:Nat}(hN:1300<N)(f:Func){l:List Int}(hl:l.length<=10){c:Int}(hc:c=l.length)(ht:∀t,t∈l->-1<=t/\t<ts.length):(l.all (λt=>decide (kd ts t=2))=true/\f108.bU N N (l,c,0,ts,xs,fs,f.1,f.2.1,f.2.2.1,f.2.2.2.1,f.2.2.2.2.1,f.2.2.2.2.2.1,f.2.2.2.2.2.2)=some (.inr ()))\/(l.all (λt=>decide (kd ts t=2))=false/\∃i:Nat,f108.bU N N (l,c,0,ts,xs,fs,f.1,f.2.1,f.2.2.1,f.2.2.2.1,f.2.2.2.2.1,f.2.2.2.2.2.1,f.2.2.2.2.2.2)=some (.inl (i:Int))):=by subst hc;refine nC (N:=N) (l:=l) (q:=(λt=>decide (kd ts t=2))) (r:=.inr ()) (h:=λi=>.inl i) (Lf:=λk i=>f108.bU N k (l,(l.length:Int),i,ts,xs,fs,f.1,f.2.1,f.2.2.1,f.2.2.2.1,f.2.2.2.2.1,f.2.2.2.2.2.1,f.2.2.2.2.2.2)) (λk=>by simp only[f108.bU.eq_2,aJ,af]) (λk i x hx hm=>?_) (by omega);have hi:=aC hx;simp only[f108.bU.eq_2,aG hi,aq,aD hx,ae,Du hN f (ht x hm) (show[2].length<=10by decide) (show¬(0:Int)∈[2]by decide),ai (show i<9223372036854775807by omega),bo]<;>grind
theorem Za{N:Nat}(hN:1300<N)(f:Func){l:List Int}(hl:l.length<=10){c:Int}(hc:c=l.length)(ht:∀t,t∈l->-1<=t/\t<ts.length):(l.all (λt=>decide (kd ts t=2))=true/\f108.bV N N (l,c,0,ts,xs,fs,f.1,f.2.1,f.2.2.1,f.2.2.2.1,f.2.2.2.2.1,f.2.2.2.2.2.1,f.2.2.2.2.2.2)=some (.inr ()))\/(l.all (λt=>decide (kd ts t=2))=false/\∃i:Nat,f108.bV N N (l,c,0,ts,xs,fs,f.1,f.2.1,f.2.2.1,f.2.2.2.1,f.2.2.2.2.1,f.2.2.2.2.2.1,f.2.2.2.2.2.2)=some (.inl (i:Int))):=by subst hc;refine nC (N:=N) (l:=l) (q:=(λt=>decide (kd ts t=2))) (r:=.inr ()) (h:=λi=>.inl i) (Lf:=λk i=>f108.bV N k (l,(l.length:Int),i,ts,xs,fs,f.1,f.2.1,f.2.2.1,f.2.2.2.1,f.2.2.2.2.1,f.2.2.2.2.2.1,f.2.2.2.2.2.2)) (λk=>by simp only[f108.bV.eq_2,aJ,af]) (λk i x hx hm=>?_) (by omega);have hi:=aC hx;simp only[f108.bV.eq_2,aG hi,aq,aD hx,ae,Du hN f (ht x hm) (show[2].length<=10by decide) (show¬(0:Int)∈[2]by decide),ai (show i<9223372036854775807by omega),bo]<;>grind
theorem Zb{N:Nat}(hN:1300<N)(f:Func){l:List Int}(hl:l.length<=10){c:Int}(hc:c=l.length)(ht:∀t,t∈l->-1<=t/\t<ts.length):(l.all (λt=>decide (kd ts t=2))=true/\f108.bW N N (l,c,0,ts,xs,fs,f.1,f.2.1,f.2.2.1,f.2.2.2.1,f.2.2.2.2.1,f.2.2.2.2.2.1,f.2.2.2.2.2.2)=some (.inr ()))\/(l.all (λt=>decide (kd ts t=2))=false/\∃i:Nat,f108.bW N N (l,c,0,ts,xs,fs,f.1,f.2.1,f.2.2.1,f.2.2.2.1,f.2.2.2.2.1,f.2.2.2.2.2.1,f.2.2.2.2.2.2)=some (.inl (i:Int))):=by subst hc;refine nC (N:=N) (l:=l) (q:=(λt=>decide (kd ts t=2))) (r:=.inr ()) (h:=λi=>.inl i) (Lf:=λk i=>f108.bW N k (l,(l.length:Int),i,ts,xs,fs,f.1,f.2.1,f.2.2.1,f.2.2.2.1,f.2.2.2.2.1,f.2.2.2.2.2.1,f.2.2.2.2.2.2)) (λk=>by simp only[f108.bW.eq_2,aJ,af]) (λk i x hx hm=>?_) (by omega);have hi:=aC hx;simp only[f108.bW.eq_2,aG hi,aq,aD hx,ae,Du hN f (ht x hm) (show[2].length<=10by decide) (show¬(0:Int)∈[2]by decide),ai (show i<9223372036854775807by omega),bo]<;>grind
theorem Zc{N:Nat}(hN:1300<N)(f:Func){l:List Int}(hl:l.length<=10){c:Int}(hc:c=l.length)(ht:∀t,t∈l->-1<=t/\t<ts.length):(l.all (λt=>decide (kd ts t=2))=true/\f108.bX N N (l,c,0,ts,xs,fs,f.1,f.2.1,f.2.2.1,f.2.2.2.1,f.2.2.2.2.1,f.2.2.2.2.2.1,f.2.2.2.2.2.2)=some (.inr ()))\/(l.all (λt=>decide (kd ts t=2))=false/\∃i:Nat,f108.bX N N (l,c,0,ts,xs,fs,f.1,f.2.1,f.2.2.1,f.2.2.2.1,f.2.2.2.2.1,f.2.2.2.2.2.1,f.2.2.2.2.2.2)=some (.inl (i:Int))):=by subst hc;refine nC (N:=N) (l:=l) (q:=(λt=>decide (kd ts t=2))) (r:=.inr ()) (h:=λi=>.inl i) (Lf:=λk i=>f108.bX N k (l,(l.length:Int),i,ts,xs,fs,f.1,f.2.1,f.2.2.1,f.2.2.2.1,f.2.2.2.2.1,f.2.2.2.2.2.1,f.2.2.2.2.2.2)) (λk=>by simp only[f108.bX.eq_2,aJ,af]) (λk i x hx hm=>?_) (by omega);have hi:=aC hx;simp only[f108.bX.eq_2,aG hi,aq,aD hx,ae,Du hN f (ht x hm) (show[2].length<=10by decide) (show¬(0:Int)∈[2]by decide),ai (show i<9223372036854775807by omega),bo]<;>grind
theorem Zd{N:Nat}(hN:1300<N)(f:Func){l:List Int}(hl:l.length<=10){c:Int}(hc:c=l.length)(ht:∀t,t∈l->-1<=t/\t<ts.length):(l.all (λt=>decide (kd ts t=2))=true/\f108.bZ N N (l,c,0,ts,xs,fs,f.1,f.2.1,f.2.2.1,f.2.2.2.1,f.2.2.2.2.1,f.2.2.2.2.2.1,f.2.2.2.2.2.2)=some (.inr ()))\/(l.all (λt=>decide (kd ts t=2))=false/\∃i:Nat,f108.bZ N N (l,c,0,ts,xs,fs,f.1,f.2.1,f.2.2.1,f.2.2.2.1,f.2.2.2.2.1,f.2.2.2.2.2.1,f.2.2.2.2.2.2)=some (.inl (i:Int))):=by subst hc;refine nC (N:=N) (l:=l) (q:=(λt=>decide (kd ts t=2))) (r:=.inr ()) (h:=λi=>.inl i) (Lf:=λk i=>f108.bZ N k (l,(l.length:Int),i,ts,xs,fs,f.1,f.2.1,f.2.2.1,f.2.2.2.1,f.2.2.2.2.1,f.2.2.2.2.2.1,f.2.2.2.2.2.2)) (λk=>by simp only[f108.bZ.eq_2,aJ,af]) (λk i x hx hm=>?_) (by omega);have hi:=aC hx;simp only[f108.bZ.eq_2,aG hi,aq,aD hx,ae,Du hN f (ht x hm) (show[2].length<=10by decide) (show¬(0:Int)∈[2]by decide),ai (show i<9223372036854775807by omega),bo]<;>grind
theorem Ze{N:Nat}(hN:1300<N)(f:Func){l:List Int}(hl:l.length<=10){c:Int}(hc:c=l.length)(ht:∀t,t∈l->-1<=t/\t<ts.length):(l.all (λt=>decide (kd ts t=2))=true/\f108.bY N N (l,c,0,ts,xs,fs,f.1,f.2.1,f.2.2.1,f.2.2.2.1,f.2.2.2.2.1,f.2.2.2.2.2.1,f.2.2.2.2.2.2)=some (.inr (ts,xs,fs,f.1,f.2.1,f.2.2.1,f.2.2.2.1,f.2.2.2.2.1,f.2.2.2.2.2.1,f.2.2.2.2.2.2)))\/(l.all (λt=>decide (kd ts t=2))=false/\∃i:Nat,f108.bY N N (l,c,0,ts,xs,fs,f.1,f.2.1,f.2.2.1,f.2.2.2.1,f.2.2.2.2.1,f.2.2.2.2.2.1,f.2.2.2.2.2.2)=some (.inl ((i:Int),ts,xs,fs,f.1,f.2.1,f.2.2.1,f.2.2.2.1,f.2.2.2.2.1,f.2.2.2.2.2.1,f.2.2.2.2.2.2))):=by subst hc;refine nC (N:=N) (l:=l) (q:=(λt=>decide (kd ts t=2))) (r:=.inr (ts,xs,fs,f.1,f.2.1,f.2.2.1,f.2.2.2.1,f.2.2.2.2.1,f.2.2.2.2.2.1,f.2.2.2.2.2.2)) (h:=λi=>.inl (i,ts,xs,fs,f.1,f.2.1,f.2.2.1,f.2.2.2.1,f.2.2.2.2.1,f.2.2.2.2.2.1,f.2.2.2.2.2.2)) (Lf:=λk i=>f108.bY N k (l,(l.length:Int),i,ts,xs,fs,f.1,f.2.1,f.2.2.1,f.2.2.2.1,f.2.2.2.2.1,f.2.2.2.2.2.1,f.2.2.2.2.2.2)) (λk=>by simp only[f108.bY.eq_2,aJ,af]) (λk i x hx hm=>?_) (by omega);have hi:=aC hx;simp only[f108.bY.eq_2,aG hi,aq,aD hx,ae,Du hN f (ht x hm) (show[2].length<=10by decide) (show¬(0:Int)∈[2]by decide),ai (show i<9223372036854775807by omega),bo]<;>grind
theorem alj{N:Nat}(hN:1300<N)(hv:gS ts xs fs)(f:Func){t i o:Int}(h:-1<=t/\t<ts.length):Py N (ts,xs,fs,f.1,f.2.1,f.2.2.1,f.2.2.2.1,f.2.2.2.2.1,f.2.2.2.2.2.1,f.2.2.2.2.2.2,t,i,o)=some (decide (Y4 ts t i o)):=by
 rw[Py.eq_1];simp only[Du hN f h (show[5].length<=10by decide) (show¬(0:Int)∈[5]by decide),ae,bo];by_cases h5:kd ts t=5
 .have h0:=HC (ts:=ts) (t:=t) (by omega);rw[aS h5,aq,pI ⟨h0,h.2⟩];simp only[ae,HA];by_cases hi:0<=i/\i<(dQ ts t.toNat).2.2.2.length;.rw[aS hi,aq,yL hi,ae]<;>grind
  grind
 grind
theorem alk{N:Nat}(hv:gS ts xs fs){t i o:Int}(h:-1<=t/\t<ts.length)(ho:0<=o):(PU N (ts,xs,fs,t,i)).bind (λA=>some (A==o))=some (decide (Y4 ts t i o)):=by
 rw[PU.eq_1,Kp N h];simp only[ae];by_cases h5:kd ts t=5
 .have h0:=HC (ts:=ts) (t:=t) (by omega);rw[show(kd ts t !=5)=false by simp[h5],af,pI ⟨h0,h.2⟩];simp only[ae,dg];by_cases hi:0<=i/\i<(dQ ts t.toNat).2.2.2.length;.rw[aM (show¬i<0 by omega),aM (show¬i>=((dQ ts t.toNat).2.2.2.length:Int)by omega),xt,af,yL hi]<;>grind
  .rw[show(decide (i<0)||decide (i>=((dQ ts t.toNat).2.2.2.length:Int)))=true by rw[<-Bool.decide_or];exact aS (by omega),aq,ae,aM (λh:(_/\_/\_)=>hi h.2.1),show((-1:Int)==o)=false by rw[lj];omega]
 .rw[show(kd ts t !=5)=true by simp[bne,h5],aq,ae,aq,ae,aM (λh:(_/\_/\_)=>h5 h.1),show((-1:Int)==o)=false by rw[lj];omega]
theorem Zf{N:Nat}(hN:1300<N)(f:Func){t o:Int}(h:-1<=t/\t<ts.length){K:List Int}(hK:K.length<=10)(h0:¬(0:Int)∈K):JF N (ts,xs,fs,f.1,f.2.1,f.2.2.1,f.2.2.2.1,f.2.2.2.2.1,f.2.2.2.2.2.1,f.2.2.2.2.2.2,t,o,K)=some (decide (kd ts t∈K/\Y3 ts t=o)):=by
 rw[JF.eq_1];simp only[Du hN f h hK h0,ae];by_cases hk:kd ts t∈K;.have ht:=HC (ts:=ts) (t:=t) (λe=>h0 (e▸hk));rw[aS hk,aq,pI ⟨ht,h.2⟩];unfold Y3;simp[hk,Ds]
 .rw[aM hk,af,aM (λh:(_/\_)=>hk h.1)];rfl
theorem ofR{N:Nat}{t:Int}(h:-1<=t/\t<ts.length){a b:Int}(ha:a≠0)(hb:b≠0):JM N (ts,xs,fs,t,a,b)=some (if kd ts t=a\/kd ts t=b then Y3 ts t else-1):=by
 rw[JM.eq_1,Kp N h];simp only[ae,ym];by_cases hk:kd ts t=a\/kd ts t=b;.have ht:=HC (ts:=ts) (t:=t) (λe=>by rcases hk with hk|hk<;>rw[e]at hk<;>first|exact ha hk.symm|exact hb hk.symm);rw[bb hk,aM (show¬t<0 by omega),show(bif(kd ts t !=a)then(kd ts t !=b)else false)=false by rcases hk with hk|hk<;>simp[hk]];simp[af,pI (show 0<=t/\t<(ts.length:Int)by omega),ae];rfl
 grind
theorem Qw{N:Nat}(hN:1300<N)(hv:gS ts xs fs)(f:Func){g:Func}(hg:eX ts.length g):Tq N (ts,xs,fs,f.1,f.2.1,f.2.2.1,f.2.2.2.1,f.2.2.2.2.1,f.2.2.2.2.2.1,f.2.2.2.2.2.2,g.1,g.2.1,g.2.2.1,g.2.2.2.1,g.2.2.2.2.1,g.2.2.2.2.2.1,g.2.2.2.2.2.2)=some (decide (Dr ts (sg g))):=by
 rw[Tq.eq_1];rw[show decide (Dr ts (sg g))=decide (g.2.2.1<0/\(g.2.1=0\/g.2.1=1/\Kl (kd ts (fl g.2.2.2.1 0).2)))from ka.2 xr];by_cases h1:g.2.2.1<0
 .rw[aS h1,aq];by_cases h2:g.2.1=0;.grind
  .rw[show(g.2.1==(0:Int))=false by simpa using h2,af];by_cases h3:g.2.1=1
   .have hl:(0:Int)<=0/\(0:Int)<g.2.2.2.1.length:=by have:=hg.2.2.2.1.2;omega
    have hm:fl g.2.2.2.1 0∈g.2.2.2.1:=by unfold fl<;>grind
    have hr:=hg.2.2.2.2.2.1 _ hm;have e:=yL hl;simp at e;rw[show(g.2.1==(1:Int))=true by simpa using h3,e];simp only[ae,Du hN f (show-1<=(fl g.2.2.2.1 0).2/\(fl g.2.2.2.1 0).2<(ts.length:Int)by omega) (show[1,2,4].length<=10by decide) (show¬(0:Int)∈[1,2,4]by decide)]<;>grind
   grind
 grind
theorem Qx{N:Nat}(hv:gS ts xs fs){i:Int}{g:Func}(hi:idx fs i=some g)(hg:eX ts.length g):UJ N (ts,xs,fs,i)=some (decide (Dr ts (sg g))):=by
 rw[UJ.eq_1,hi];rw[show decide (Dr ts (sg g))=decide (g.2.2.1<0/\(g.2.1=0\/g.2.1=1/\Kl (kd ts (fl g.2.2.2.1 0).2)))from ka.2 xr];simp only[ae];have DQ:=hg.2.2.2.2.1.1;by_cases h1:g.2.2.1<0
 .rw[show(g.2.2.1==(-1:Int))=true by rw[kv];omega];by_cases h2:g.2.1=0;.grind
  .rw[show(g.2.1==(0:Int))=false by simpa using h2];by_cases h3:g.2.1=1
   .have hl:(0:Int)<=0/\(0:Int)<g.2.2.2.1.length:=by have:=hg.2.2.2.1.2;omega
    have hm:fl g.2.2.2.1 0∈g.2.2.2.1:=by unfold fl<;>grind
    have hr:=hg.2.2.2.2.2.1 _ hm;have e:=yL hl;simp at e;rw[aq,e];simp[ae,pI hr,PT.eq_1,dg];rw[<-aa9 hr.1]<;>grind
   grind
 grind
theorem aeK{N:Nat}(hN:1300<N)(hv:gS ts xs fs){f:Func}(hf:eX ts.length f){x:Instr}(hc:eA x=true)(hn:nB xs.length (fD fs) f.2.2.2.1 x):TC N (ts,xs,fs,f.1,f.2.1,f.2.2.1,f.2.2.2.1,f.2.2.2.2.1,f.2.2.2.2.2.1,f.2.2.2.2.2.2,x.1,x.2.1,x.2.2.1,x.2.2.2)=some (Kq ts (fD fs) f.2.2.2.1 f.2.2.1 x):=by
 have hr:=hf.2.2.2.2.2.1;have hA:=vB hr x.2.1;have hB:=vB hr x.2.2.1;have hC:=vB hr x.2.2.2;rw[TC.eq_1];simp only[aa7,ae,dg];unfold Kq;refine bp (λh=>?_) (λ_=>?_)
 .rcases Y7 hN f (l:=[fh f.2.2.2.1 x.2.1]) (by simp) (c:=1) rfl (λt ht=>by rw[bo.1 ht];exact hA)with⟨e1,e2⟩|⟨e1,i,e2⟩;.rw[e2];show some true=_;congr 1;simp_all
  .rw[e2];show some (!decide ((i:Int)>=0))=_;rw[aS (show(i:Int)>=0 by omega)];congr 1;simp_all
 refine bp (λh=>?_) (λ_=>?_);.rw[Du hN f hA (show[3].length<=10by decide) (show¬(0:Int)∈[3]by decide),ae];congr 1;simp
 refine bp (λh=>?_) (λ_=>?_);.rw[Du hN f hA (show[1].length<=10by decide) (show¬(0:Int)∈[1]by decide),ae];congr 1;simp
 refine bp (λh=>?_) (λ_=>?_);.rw[Ds]
 refine bp (λh=>?_) (λ_=>?_)
 .rcases Y8 hN f (l:=[fh f.2.2.2.1 x.2.1,fh f.2.2.2.1 x.2.2.1,fh f.2.2.2.1 x.2.2.2]) (by simp) (c:=3) rfl (λt ht=>by simp only[dk,dC,jp]at ht;rcases ht with rfl|rfl|rfl<;>assumption)with⟨e1,e2⟩|⟨e1,i,e2⟩;.rw[e2];show some true=_;congr 1;simp_all
  .rw[e2];show some (!decide ((i:Int)>=0))=_;rw[aS (show(i:Int)>=0 by omega)];congr 1;simp_all
 refine bp (λh=>?_) (λ_=>?_)
 .rw[Du hN f hA (show[1].length<=10by decide) (show¬(0:Int)∈[1]by decide),ae];by_cases hk:kd ts (fh f.2.2.2.1 x.2.1)=1
  .rw[aS (show kd ts (fh f.2.2.2.1 x.2.1)∈[1]by simpa using hk),aq];rcases Y9 hN f (l:=[fh f.2.2.2.1 x.2.2.1,fh f.2.2.2.1 x.2.2.2]) (by simp) (c:=2) rfl (λt ht=>by simp only[dk,dC,jp]at ht;rcases ht with rfl|rfl<;>assumption)with⟨e1,e2⟩|⟨e1,i,e2⟩;.rw[e2];show some true=_;congr 1;simp_all
   .rw[e2];show some (!decide ((i:Int)>=0))=_;rw[aS (show(i:Int)>=0 by omega)];congr 1;simp_all
  .rw[aM (show¬kd ts (fh f.2.2.2.1 x.2.1)∈[1]by simpa using hk),af,aM (λh:(_/\_/\_)=>hk h.1)]
 refine bp (λh=>?_) (λ_=>?_);.rw[Du hN f hA (show[1].length<=10by decide) (show¬(0:Int)∈[1]by decide),ae,Du hN f hB (show[2,1,4].length<=10by decide) (show¬(0:Int)∈[2,1,4]by decide),ae,ym,ym];congr 1;by_cases h1:kd ts (fh f.2.2.2.1 x.2.1)=1<;>by_cases h2:fh f.2.2.2.1 x.2.2.1=fh f.2.2.2.1 x.2.2.2<;>simp[h1,h2,Kl,or_left_comm]
 refine bp (λh=>?_) (λ_=>?_);.rw[Du hN f hA (show[1].length<=10by decide) (show¬(0:Int)∈[1]by decide),ae,Du hN f hB (show[1].length<=10by decide) (show¬(0:Int)∈[1]by decide),ae,fP];congr 1;simp
 refine bp (λh=>?_) (λ_=>?_);.rw[alj hN hv f hB,ae]
 refine bp (λh=>?_) (λ_=>?_);.rw[alj hN hv f hA,ae]
 refine bp (λh=>?_) (λ_=>?_);.rw[Du hN f hA (show[4].length<=10by decide) (show¬(0:Int)∈[4]by decide),ae];congr 1;simp
 refine bp (λh=>?_) (λ_=>?_);.rw[Zf hN f hB (show[4].length<=10by decide) (show¬(0:Int)∈[4]by decide),ae];congr 1;simp
 refine bp (λh=>?_) (λ_=>?_);.rw[Zf hN f hA (show[4].length<=10by decide) (show¬(0:Int)∈[4]by decide),ae];congr 1;simp
 refine bp (λh=>?_) (λ_=>?_)
 .rw[Du hN f hA (show[7].length<=10by decide) (show¬(0:Int)∈[7]by decide),ae];by_cases hk:kd ts (fh f.2.2.2.1 x.2.1)=7
  .rw[aS (show kd ts (fh f.2.2.2.1 x.2.1)∈[7]by simpa using hk),aq];rcases Za hN f (l:=[fh f.2.2.2.1 x.2.2.1]) (by simp) (c:=1) rfl (λt ht=>by rw[bo.1 ht];exact hB)with⟨e1,e2⟩|⟨e1,i,e2⟩;.rw[e2];show some true=_;congr 1;simp_all
   .rw[e2];show some (!decide ((i:Int)>=0))=_;rw[aS (show(i:Int)>=0 by omega)];congr 1;simp_all
  .rw[aM (show¬kd ts (fh f.2.2.2.1 x.2.1)∈[7]by simpa using hk),af,aM (λh:(_/\_)=>hk h.1)]
 refine bp (λh=>?_) (λ_=>?_)
 .rw[Zf hN f hB (show[7,6].length<=10by decide) (show¬(0:Int)∈[7,6]by decide),ae];by_cases hk:kd ts (fh f.2.2.2.1 x.2.2.1)∈[7,6]/\Y3 ts (fh f.2.2.2.1 x.2.2.1)=fh f.2.2.2.1 x.2.1
  .rw[aS hk,aq];rcases Zb hN f (l:=[fh f.2.2.2.1 x.2.2.2]) (by simp) (c:=1) rfl (λt ht=>by rw[bo.1 ht];exact hC)with⟨e1,e2⟩|⟨e1,i,e2⟩;.rw[e2];show some true=_;congr 1;simp_all
   .rw[e2];show some (!decide ((i:Int)>=0))=_;rw[aS (show(i:Int)>=0 by omega)];congr 1;simp_all
  .rw[aM hk,af,aM (λh:(_/\_/\_)=>hk ⟨by simpa using h.1,h.2.1⟩)]
 refine bp (λh=>?_) (λ_=>?_)
 .rw[Zf hN f hA (show[7,6].length<=10by decide) (show¬(0:Int)∈[7,6]by decide),ae];by_cases hk:kd ts (fh f.2.2.2.1 x.2.1)∈[7,6]/\Y3 ts (fh f.2.2.2.1 x.2.1)=fh f.2.2.2.1 x.2.2.2
  .rw[aS hk,aq];rcases Zc hN f (l:=[fh f.2.2.2.1 x.2.2.1]) (by simp) (c:=1) rfl (λt ht=>by rw[bo.1 ht];exact hB)with⟨e1,e2⟩|⟨e1,i,e2⟩;.rw[e2];show some true=_;congr 1;simp_all
   .rw[e2];show some (!decide ((i:Int)>=0))=_;rw[aS (show(i:Int)>=0 by omega)];congr 1;simp_all
  .rw[aM hk,af,aM (λh:(_/\_/\_)=>hk ⟨by simpa using h.1,h.2.1⟩)]
 refine bp (λh=>?_) (λ_=>?_)
 .rcases Ze hN f (l:=[fh f.2.2.2.1 x.2.1]) (by simp) (c:=1) rfl (λt ht=>by rw[bo.1 ht];exact hA)with⟨e1,e2⟩|⟨e1,i,e2⟩;.rw[e2];simp only[ae,Du hN f hB (show[3,7,6].length<=10by decide) (show¬(0:Int)∈[3,7,6]by decide)];congr 1;simp_all
  .rw[e2];simp only[ae,aS (show(i:Int)>=0 by omega),da,af];congr 1;simp_all
 refine bp (λh=>?_) (λ_=>?_)
 .have HQ:x.1=25:=by simpa using h
  have nM:called x=x.2.2.1:=by unfold called;rw[bb HQ]
  have h0:0<=x.2.2.1:=by have e:wZ 25=some (103,99,45):=rfl;simp only[eA,HQ,e,fits,am,db]at hc;exact hc.2.1.1
  have h2:=hn.2.1;rw[nM,pJ]at h2;obtain⟨g,g1,_,g3⟩:=Dt (fs:=fs) ⟨h0,h2⟩;rw[g1,g3];simp only[ae,dg,sg];congr 1;by_cases e:x.2.1<0<;>simp[e,Ds]
 refine bp (λh=>?_) (λ_=>?_)
 .have HQ:x.1=26\/x.1=27:=by simpa using h
  have nM:called x=x.2.1:=by unfold called;rw[be (by omega),bb HQ]
  have h0:0<=x.2.1:=by
   rcases HQ with HQ|HQ;.have e:wZ 26=some (99,45,45):=rfl;simp only[eA,HQ,e,fits,am,db]at hc;exact hc.1.1
   .have e:wZ 27=some (99,45,45):=rfl;simp only[eA,HQ,e,fits,am,db]at hc;exact hc.1.1
  have h2:=hn.2.1;rw[nM,pJ]at h2;obtain⟨g,g1,g2,g3⟩:=Dt (fs:=fs) ⟨h0,h2⟩;rw[g1,g3];simp only[ae,Qw hN hv f (hv.get g2)]
 refine bp (λh=>?_) (λ_=>?_);.rw[Du hN f hA (show[2,1,3].length<=10by decide) (show¬(0:Int)∈[2,1,3]by decide),ae];congr 1;simp
 refine bp (λh=>?_) (λ_=>?_)
 .rw[Du hN f hA (show[1].length<=10by decide) (show¬(0:Int)∈[1]by decide),ae];by_cases hk:kd ts (fh f.2.2.2.1 x.2.1)=1
  .rw[aS (show kd ts (fh f.2.2.2.1 x.2.1)∈[1]by simpa using hk),aq];rcases Zd hN f (l:=[fh f.2.2.2.1 x.2.2.1]) (by simp) (c:=1) rfl (λt ht=>by rw[bo.1 ht];exact hB)with⟨e1,e2⟩|⟨e1,i,e2⟩;.rw[e2];show some true=_;congr 1;simp_all
   .rw[e2];show some (!decide ((i:Int)>=0))=_;rw[aS (show(i:Int)>=0 by omega)];congr 1;simp_all
  .rw[aM (show¬kd ts (fh f.2.2.2.1 x.2.1)∈[1]by simpa using hk),af,aM (λh:(_/\_)=>hk h.1)]
 refine bp (λh=>?_) (λ_=>?_);.congr 1;by_cases e:x.2.1<0<;>simp[e,Ds]
 rfl
theorem aeL{N:Nat}{i:Int}(hv:gS ts xs fs){f:Func}(hf:eX ts.length f){x:Instr}(hc:eA x=true)(hn:nB xs.length (fD fs) f.2.2.2.1 x)(hfi:idx fs i=some f):UK N (ts,xs,fs,i,x.1,x.2.1,x.2.2.1,x.2.2.2)=some (Kq ts (fD fs) f.2.2.2.1 f.2.2.1 x):=by
 have hr:=hf.2.2.2.2.2.1;have hA:=vB hr x.2.1;have hB:=vB hr x.2.2.1;have hC:=vB hr x.2.2.2;rw[UK.eq_1];simp only[aa8 N hfi,Kp N hA,Kp N hB,Kp N hC,ae,dg];refine bp (λh=>?_) (λ_=>?_);.rw[Ds]
 refine bp (λh=>?_) (λ_=>?_);.rw[Ds]
 refine bp (λh=>?_) (λ_=>?_);.rw[Ds]
 refine bp (λh=>?_) (λ_=>?_);.rw[Ds]
 refine bp (λh=>?_) (λ_=>?_);.grind
 refine bp (λh=>?_) (λ_=>?_);.grind
 refine bp (λh=>?_) (λ_=>?_)
 .have h11:x.1=11:=by grind
  obtain⟨_,s2,_⟩:=iV hc (p:=119) (q:=114) (r:=114) (by rw[h11];rfl);obtain⟨b0,b1⟩:=s2 (.inr rfl);have hb:=pV hr ⟨b0,hn.1 _ b1⟩;simp only[pI hb,ae,PT.eq_1,dg,fP];rw[<-aa9 hb.1];congr 1;grind
 refine bp (λh=>?_) (λ_=>?_);.grind
 refine bp (λh=>?_) (λ_=>?_)
 .have hk:x.1=13:=by grind
  obtain⟨s1,_,_⟩:=iV hc (p:=119) (q:=114) (r:=102) (by rw[hk];rfl);obtain⟨b0,b1⟩:=s1 (.inl rfl);exact alk hv hB (pV hr ⟨b0,hn.1 _ b1⟩).1
 refine bp (λh=>?_) (λ_=>?_)
 .have hk:x.1=14:=by grind
  obtain⟨_,_,s3⟩:=iV hc (p:=114) (q:=102) (r:=114) (by rw[hk];rfl);obtain⟨b0,b1⟩:=s3 (.inr rfl);exact alk hv hA (pV hr ⟨b0,hn.1 _ b1⟩).1
 refine bp (λh=>?_) (λ_=>?_);.rw[Ds]
 refine bp (λh=>?_) (λ_=>?_)
 .have hk:x.1=16:=by grind
  obtain⟨s1,_,_⟩:=iV hc (p:=119) (q:=114) (r:=45) (by rw[hk];rfl);obtain⟨b0,b1⟩:=s1 (.inl rfl);have ho:=(pV hr ⟨b0,hn.1 _ b1⟩).1;rw[ofR hB (show(4:Int)≠0 by decide) (show(4:Int)≠0 by decide),ae];congr 1;grind
 refine bp (λh=>?_) (λ_=>?_)
 .have hk:x.1=17:=by grind
  obtain⟨_,s1,_⟩:=iV hc (p:=114) (q:=114) (r:=45) (by rw[hk];rfl);obtain⟨b0,b1⟩:=s1 (.inr rfl);have ho:=(pV hr ⟨b0,hn.1 _ b1⟩).1;rw[ofR hA (show(4:Int)≠0 by decide) (show(4:Int)≠0 by decide),ae];congr 1;grind
 refine bp (λh=>?_) (λ_=>?_);.grind
 refine bp (λh=>?_) (λ_=>?_)
 .have hk:x.1=19:=by grind
  obtain⟨s1,_,_⟩:=iV hc (p:=119) (q:=114) (r:=114) (by rw[hk];rfl);obtain⟨b0,b1⟩:=s1 (.inl rfl);have ho:=(pV hr ⟨b0,hn.1 _ b1⟩).1;rw[ofR hB (show(7:Int)≠0 by decide) (show(6:Int)≠0 by decide),ae]<;>grind
 refine bp (λh=>?_) (λ_=>?_)
 .have hk:x.1=20:=by grind
  obtain⟨_,_,s1⟩:=iV hc (p:=114) (q:=114) (r:=114) (by rw[hk];rfl);obtain⟨b0,b1⟩:=s1 (.inr rfl);have ho:=(pV hr ⟨b0,hn.1 _ b1⟩).1;rw[ofR hA (show(7:Int)≠0 by decide) (show(6:Int)≠0 by decide),ae]<;>grind
 refine bp (λh=>?_) (λ_=>?_);.simp only[dg,fP,ae];simp[Ds]
 refine bp (λh=>?_) (λ_=>?_)
 .have HQ:x.1=25:=by grind
  have nM:called x=x.2.2.1:=by unfold called<;>grind
  have h0:0<=x.2.2.1:=by have e:wZ 25=some (103,99,45):=rfl;simp[eA,HQ,e,fits,am,db]at hc;exact hc.2.1.1
  have h2:=hn.2.1;rw[nM,pJ]at h2;obtain⟨g,g1,_,g3⟩:=Dt (fs:=fs) ⟨h0,h2⟩;rw[g1,g3];simp[ae,dg,sg];have hm:-1<=x.2.1:=by have e:wZ 25=some (103,99,45):=rfl;simp[eA,HQ,e,fits,am,db]at hc;exact hc.1.1
  grind
 refine bp (λh=>?_) (λ_=>?_)
 .have HQ:x.1=26\/x.1=27:=by grind
  have nM:called x=x.2.1:=by unfold called<;>grind
  have h0:0<=x.2.1:=by
   rcases HQ with HQ|HQ;.have e:wZ 26=some (99,45,45):=rfl;simp[eA,HQ,e,fits,am,db]at hc;exact hc.1.1
   .have e:wZ 27=some (99,45,45):=rfl;simp[eA,HQ,e,fits,am,db]at hc;exact hc.1.1
  have h2:=hn.2.1;rw[nM,pJ]at h2;obtain⟨g,g1,g2,g3⟩:=Dt (fs:=fs) ⟨h0,h2⟩;rw[g3];rw[Qx hv g1 (hv.get g2)];rfl
 refine bp (λh=>?_) (λ_=>?_);.simp[Ds]
 refine bp (λh=>?_) (λ_=>?_);.grind
 refine bp (λh=>?_) (λ_=>?_)
 .have hk:x.1=34:=by grind
  have hm:-1<=x.2.1:=by have e:wZ 34=some (101,45,45):=rfl;simp[eA,hk,e,fits,am,db]at hc;exact hc.1.1
  rw[hfi];by_cases e:x.2.1<0<;>grind
 rfl
end
end Go.Proofs.YtkdilffhbejjaaaGreat
