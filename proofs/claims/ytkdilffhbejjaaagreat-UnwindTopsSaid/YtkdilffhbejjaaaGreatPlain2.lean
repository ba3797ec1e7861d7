/- A part of the proof: Plain, Plain2. -/
import Derived.Test.YtkdilffhbejjaaaGreatTab21t
import Derived.IntWalk
set_option linter.unusedVariables false
set_option linter.unusedSimpArgs false
namespace Go.Sym
open Go Go.bM
theorem aI{n:Int}(h:-9223372036854775808<=n/\n<=9223372036854775807):av n=n:=IntWalk.i64_in n h
theorem aR{n:Int}(h:0<=n/\n<=18446744073709551615):aL n=n:=IntWalk.u64_in n h
theorem AU{a b:Int}(h:0<=a):Int.tdiv a b=a/b:=Int.tdiv_eq_ediv_of_nonneg h
theorem nW{a b:Int}(h:0<=a):Int.tmod a b=a%b:=Int.tmod_eq_emod_of_nonneg h
theorem rz{α:Type}(pre:List α)(x:α)(r:List α):idx (pre++x::r) (pre.length:Int)=some x:=by simp[idx]
theorem ni{α:Type}{l pre:List α}{x:α}{r:List α}{i:Int}(hl:l=pre++x::r)(hi:i=(pre.length:Int)):idx l i=some x:=by grind[idx]
theorem oG{α:Type}{l:List α}{i:Int}{x:α}(h0:0<=i)(h:l[i.toNat]?=some x):idx l i=some x:=by simp[idx,h0,h]
theorem NL{n b:Nat}(h1:n<=9223372036854775807)(h2:n*b<=140737488355328):room n b=true:=by simp[room,fm,ku,h1,h2]
theorem aj{α:Type}(k:Option α):aF true k=k:=rfl
theorem jD{α:Type}{b:Bool}{k r:Option α}(h1:b=true)(h2:k=r):aF b k=r:=by rw[h1];exact h2
theorem jP{β:Type}{n:Nat}{Lf:Nat->Int->Option β}{g:Nat->Option β}(h0:∀k,Lf (k+1) (n:Int)=g n)(hs:∀k i,i<n->Lf k ((i+1:Nat):Int)=g (i+1)->Lf (k+1) (i:Int)=g i):∀k i,i<=n->n-i<k->Lf k (i:Int)=g i
 |0,_,_,h=>by omega|k+1,i,hi,hk=>by
  by_cases he:i=n;.grind
  .exact hs k i (by omega) (jP h0 hs k (i+1) (by omega) (by omega))
theorem YD{σ β:Type}{n:Nat}{I:Nat->σ->Prop}{Lf:Nat->Int->σ->Option β}{g:Nat->σ->Option β}(h0:∀k s,I n s->Lf (k+1) (n:Int) s=g n s)(hs:∀k i s,i<n->I i s->(∀s',I (i+1) s'->Lf k ((i+1:Nat):Int) s'=g (i+1) s')->Lf (k+1) (i:Int) s=g i s):∀k i s,I i s->i<=n->n-i<k->Lf k (i:Int) s=g i s
 |0,_,_,_,_,h=>by omega|k+1,i,s,hI,hi,hk=>by
  by_cases he:i=n;.grind
  .exact hs k i s (by omega) hI λs' hI'=>YD h0 hs k (i+1) s' hI' (by omega) (by omega)
theorem uk{α β:Type}[DecidableEq α]{l m:List α}[Decidable (l=m)]{a b:β}{Lf:Nat->Int->Option β}(hl:l.length=m.length)(h0:∀k,Lf (k+1) (l.length:Int)=some a)(hs:∀(k i:Nat)x y,x∈l->y∈m->l[i]?=some x->m[i]?=some y->Lf (k+1) (i:Int)=if x=y then Lf k ((i+1:Nat):Int)else some b):∀k,l.length<k->Lf k 0=some (if l=m then a else b):=by
 classical intro k hk;have:=jP (n:=l.length) (Lf:=Lf) (g:=λi=>some (if l.drop i=m.drop i then a else b)) (λk=>by rw[h0 k];simp[hl]) (λk i hi ih=>by
  have e1:=al hi;have e2:=al (l:=m) (i:=i) (by omega);rw[hs k i _ _ (f2 hi) (f2 _) e1 e2,ih,ib hi,ib (l:=m) (i:=i) (by omega)];simp only[List.cons.injEq];by_cases h:l[i]=m[i]'(by omega);.simp only[h,ii,true_and]
  .simp only[h,m6,false_and]) k 0 (by omega) (by omega);grind
theorem JO{α β:Type}{l:List α}{a b:β}{p:α->Bool}{Lf:Nat->Int->Option β}(h0:∀k,Lf (k+1) (l.length:Int)=some a)(hs:∀(k i:Nat)x,x∈l->l[i]?=some x->Lf (k+1) (i:Int)=if p x then some b else Lf k ((i+1:Nat):Int)):∀k,l.length<k->Lf k 0=some (if l.any p then b else a):=by
 intro k hk;have:=jP (n:=l.length) (Lf:=Lf) (g:=λi=>some (if(l.drop i).any p then b else a)) (λk=>by rw[h0 k];simp) (λk i hi ih=>by
  have e1:=al hi;rw[hs k i _ (f2 hi) e1,ih,ib hi];rw[List.any_cons];by_cases h:p l[i]=true;.rw[h];rfl
  .rw[pu]at h;rw[h];rfl) k 0 (by omega) (by omega);grind
theorem um{α β:Type}{l:List α}{a b:β}{P:α->Prop}{n:Nat}{Lf:Nat->Int->Option β}(hn:n<=l.length)(h0:∀k,Lf (k+1) (n:Int)=some a)(hs:∀(k i:Nat)x,i<n->x∈l->l[i]?=some x->Lf (k+1) (i:Int)=some b\/(P x/\Lf (k+1) (i:Int)=Lf k ((i+1:Nat):Int))):∀k,n<k->Lf k 0=some b\/(Lf k 0=some a/\∀(i:Nat)x,i<n->l[i]?=some x->P x):=by
 have key:∀k i,i<=n->n-i<k->Lf k (i:Int)=some b\/(Lf k (i:Int)=some a/\∀(j:Nat)x,i<=j->j<n->l[j]?=some x->P x):=by intro k;induction k with|zero=>omega|succ k ih=>
   intro i hi hk;by_cases he:i=n;.subst he;exact .inr ⟨h0 k,λj x h1 h2=>by omega⟩
   .have hl:i<l.length:=by omega
    have e1:=al hl;rcases hs k i _ (by omega) (f2 hl) e1 with h|⟨hp,h⟩;.exact .inl h
    .rw[h];rcases ih (i+1) (by omega) (by omega)with h|⟨h,h2⟩;.exact .inl h
     .refine .inr ⟨h,λj x h3 h4 h5=>?_⟩;by_cases hj:j=i;.subst hj;simp_all
      .exact h2 j x (by omega) h4 h5
 intro k hk;rcases key k 0 (by omega) (by omega)with h|⟨h,h2⟩<;>grind
theorem aD{α:Type}{l:List α}{i:Nat}{x:α}(h:l[i]?=some x):idx l (i:Int)=some x:=oG (by omega) (by grind)
theorem cl{n i:Nat}(h:i<n):ga (i:Int) n=true:=by simp[ga,h]
theorem ai{i:Nat}(h:i<9223372036854775807):av ((i:Int)+1)=((i+1:Nat):Int):=by rw[aI (by omega)];rfl
theorem aG{i n:Nat}(h:i<n):decide ((i:Int)<(n:Int))=true:=bm (by omega)
theorem aJ(n:Nat):decide ((n:Int)<(n:Int))=false:=bv (by omega)
theorem CY{α:Type}{l:List α}{i:Nat}{x:α}(h:l[i]?=some x):l.set i x=l:=by obtain⟨h1,h2⟩:=cf.1 h;rw[<-h2];exact List.set_getElem_self h1
end Go.Sym
namespace Go.Sym
open Go Go.bM
theorem aC{α:Type}{l:List α}{i:Nat}{x:α}(h:l[i]?=some x):i<l.length:=(cf.1 h).1
theorem aU{α:Type}{l:List α}{i:Nat}{x:α}(h:l[i]?=some x):x∈l:=f7 h
theorem take_succ{α:Type}{l:List α}{i:Nat}{x:α}(h:l[i]?=some x):l.take (i+1)=l.take i++[x]:=by obtain⟨h1,h2⟩:=cf.1 h;rw[List.take_succ_eq_append_getElem h1,h2]
theorem ak{n b:Nat}(h1:n<=10000000)(h2:b<=1000):room n b=true:=by refine NL (by omega) ?_;have:=Nat.mul_le_mul h1 h2;omega
theorem mA{α:Type}{l:List α}{i:Nat}(h:i<l.length):∃x,l[i]?=some x:=⟨_,al h⟩
open Classical in theorem gx{β:Type}{n:Nat}{a b:β}{q:Nat->Bool}{Lf:Nat->Int->Option β}(h0:∀k,(∀j,j<n->q j=false)->Lf (k+1) (n:Int)=some a)(hs:∀(k i:Nat),i<n->(∀j,j<i->q j=false)->Lf (k+1) (i:Int)=if q i=true then some b else Lf k ((i+1:Nat):Int)){k:Nat}(hk:n<k):Lf k 0=some (if∃i,i<n/\q i=true then b else a):=by
 have key:∀k i,i<=n->n-i<k->(∀j,j<i->q j=false)->Lf k (i:Int)=some (if∃j,j<n/\q j=true then b else a):=by intro k;induction k with|zero=>omega|succ k ih=>
   intro i hi hk hq;by_cases he:i=n;.subst he;rw[h0 k hq,be (λ⟨j,h1,h2⟩=>by rw[hq j h1]at h2;cases h2)]
   .rw[hs k i (by omega) hq];by_cases hb:q i=true;.rw[bb hb,bb ⟨i,by omega,hb⟩]
    .rw[be hb];refine ih (i+1) (by omega) (by omega) λj hj=>?_;by_cases hji:j=i;.subst hji;simpa using hb
     .exact hq j (by omega)
 exact key k 0 (by omega) (by omega) λj hj=>by omega
open Classical in theorem fN{α β:Type}{l:List α}{a b:β}{p:α->Bool}{Lf:Nat->Int->Option β}(h0:∀k,(∀x,x∈l->p x=false)->Lf (k+1) (l.length:Int)=some a)(hs:∀(k i:Nat)x,l[i]?=some x->x∈l->Lf (k+1) (i:Int)=if p x=true then some b else Lf k ((i+1:Nat):Int)){k:Nat}(hk:l.length<k):Lf k 0=some (if∃x,x∈l/\p x=true then b else a):=by
 rw[gx (n:=l.length) (a:=a) (b:=b) (q:=λi=>((l[i]?).map p).getD false) (Lf:=Lf) (λk hq=>h0 k λx hx=>?_) (λk i hi _=>?_) hk];.have hiff:(∃i,i<l.length/\((l[i]?).map p).getD false=true)↔∃x,x∈l/\p x=true:=⟨λ⟨i,h1,h2⟩=>by obtain⟨x,hx⟩:=mA h1;rw[hx]at h2;exact⟨x,aU hx,h2⟩,λ⟨x,h1,h2⟩=>by obtain⟨i,h3,rfl⟩:=f8.1 h1;exact⟨i,h3,by rw[al h3];exact h2⟩⟩;simp_all
 .obtain⟨i,h3,rfl⟩:=f8.1 hx<;>grind
 grind
theorem gO{α β γ:Type}{l:List α}{Lf:Nat->Int->List γ->Option β}{enc:α->List γ}{g:List γ->β}{B m:Nat}(h0:∀k s,Lf (k+1) (l.length:Int) s=some (g s))(hs:∀k(i:Nat)x s,l[i]?=some x->x∈l->s.length<=B->Lf (k+1) (i:Int) s=Lf k ((i+1:Nat):Int) (s++enc x))(hm:∀x,x∈l->(enc x).length<=m){k:Nat}{s:List γ}(hk:l.length<k)(hB:s.length+l.length*m<=B):Lf k 0 s=some (g (s++l.flatMap enc)):=by
 have key:∀k(i:Nat)s,i<=l.length->l.length-i<k->s.length+(l.length-i)*m<=B->Lf k (i:Int) s=some (g (s++(l.drop i).flatMap enc)):=by intro k;induction k with|zero=>omega|succ k ih=>
   intro i s hi hk hB;by_cases he:i=l.length;.grind
   .have hl:i<l.length:=by omega
    have e1:=al hl;have Rf:=hm _ (f2 hl);have e3:(l.length-i)*m=m+(l.length-(i+1))*m:=by rw[show l.length-i=1+(l.length-(i+1))by omega,d6,yi]
    rw[hs k i _ s e1 (f2 hl) (by omega),ih (i+1) _ (by omega) (by omega) (by rw[ba];omega)];rw[ib hl,d7,bi]
 have:=key k 0 s (by omega) (by omega) (by rw[wy];exact hB)<;>grind
theorem gW{α γ:Type}{l:List α}{enc:α->List γ}{m:Nat}(h:∀x,x∈l->(enc x).length<=m):(l.flatMap enc).length<=l.length*m:=by induction l with|nil=>simp|cons x r ih=>rw[d7,ba,eQ,d6]<;>grind
theorem fO{α σ β:Type}{l:List α}{Lf:Nat->Int->σ->Option β}{Inv:Nat->σ->Prop}{g:σ->β}(h0:∀k s,Inv l.length s->Lf (k+1) (l.length:Int) s=some (g s))(hs:∀k(i:Nat)x s,l[i]?=some x->Inv i s->∃s',Inv (i+1) s'/\Lf (k+1) (i:Int) s=Lf k ((i+1:Nat):Int) s'){k:Nat}{s:σ}(h:Inv 0 s)(hk:l.length<k):∃s',Inv l.length s'/\Lf k 0 s=some (g s'):=by
 have key:∀k(i:Nat)s,i<=l.length->l.length-i<k->Inv i s->∃s',Inv l.length s'/\Lf k (i:Int) s=some (g s'):=by intro k;induction k with|zero=>omega|succ k ih=>
  intro i s hi hk hI;by_cases he:i=l.length;.grind
  .obtain⟨s',h1,h2⟩:=hs k i _ s (al (by omega)) hI<;>grind
 exact key k 0 s (by omega) (by omega) h
theorem de{α σ β:Type}{l:List α}{Lf:Nat->Int->σ->Option β}{Inv:Nat->σ->Prop}{Out:β->Prop}{g:σ->β}(h0:∀k s,Inv l.length s->Lf (k+1) (l.length:Int) s=some (g s))(hs:∀k(i:Nat)x s,l[i]?=some x->Inv i s->(∃r,Out r/\Lf (k+1) (i:Int) s=some r)\/∃s',Inv (i+1) s'/\Lf (k+1) (i:Int) s=Lf k ((i+1:Nat):Int) s'){k:Nat}{s:σ}(h:Inv 0 s)(hk:l.length<k):(∃r,Out r/\Lf k 0 s=some r)\/∃s',Inv l.length s'/\Lf k 0 s=some (g s'):=by
 have key:∀k(i:Nat)s,i<=l.length->l.length-i<k->Inv i s->(∃r,Out r/\Lf k (i:Int) s=some r)\/∃s',Inv l.length s'/\Lf k (i:Int) s=some (g s'):=by intro k;induction k with|zero=>omega|succ k ih=>
  intro i s hi hk hI;by_cases he:i=l.length;.grind
  .rcases hs k i _ s (al (by omega)) hI with h|⟨s',h1,h2⟩<;>grind
 exact key k 0 s (by omega) (by omega) h
def wX:Nat->Nat->List Int|0,n=>[(n:Int)]|k+1,n=>if n<128then[(n:Int)]else((n%128+128:Nat):Int)::wX k (n/128)
def V(n:Nat):List Int:=wX 9 n
theorem JP:∀k n,1<=(wX k n).length/\(wX k n).length<=k+1|0,n=>by simp[wX]|k+1,n=>by have:=JP k (n/128)<;>grind[wX]
theorem cR(n:Nat):1<=(V n).length/\(V n).length<=10:=JP 9 n
theorem rA(n:Nat):W1 (n:Int)=((n%256:Nat):Int):=by show IntKind.u8.wrap (n:Int)=_;rw[IntKind.wrap_u8];omega
theorem nj{n:Nat}(h:n<18446744073709551616):aL (n:Int)=(n:Int):=aR (by omega)
theorem Vv:∀a:Nat,a<256->Ct .u8 ((a:Nat):Int) (128:Int)=((a%128+128:Nat):Int):=by decide+kernel
theorem wY(a b:Nat):Int.fdiv (a:Int) (b:Int)=((a/b:Nat):Int):=by grind
theorem JQ(a b:Nat):Int.tdiv (a:Int) (b:Int)=((a/b:Nat):Int):=by rfl
theorem JR(a b:Nat):Int.tmod (a:Int) (b:Int)=((a%b:Nat):Int):=by rfl
def HO(n:Int):Nat:=if 0<=n then(2*n).toNat else(-2*n-1).toNat
theorem Md{n:Int}(h:-9223372036854775808<=n/\n<=9223372036854775807):HO n<18446744073709551616:=by grind[HO]
theorem NM{α:Type}{p q:Prop}{ip:Decidable p}{iq:Decidable q}{a b:α}(h:p↔q):@ite α p ip a b=@ite α q iq a b:=by grind
theorem aS{p:Prop}{i:Decidable p}(h:p):@decide p i=true:=bm h
theorem aM{p:Prop}{i:Decidable p}(h:¬p):@decide p i=false:=bv h
theorem Vw{a b:Nat}(h:a+b<=9223372036854775807):av ((a:Int)+(b:Int))=((a+b:Nat):Int):=by rw[aI (by omega)];rfl
theorem cT(s:List UInt8):(bK s).length=s.length:=by simp[bK]
theorem YE{α:Type}{l:List α}{i:Int}(h0:0<=i)(h:i<l.length):∃x,idx l i=some x/\x∈l/\l[i.toNat]?=some x:=by simp_all[idx]
end Go.Sym
