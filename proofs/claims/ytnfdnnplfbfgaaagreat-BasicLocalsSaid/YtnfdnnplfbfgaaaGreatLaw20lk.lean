/- Parts of the proof. -/
import Derived.Test.YtnfdnnplfbfgaaaGreatTab20l
import Derived.IntWalk
import Derived.Test.YtnfdnnplfbfgaaaGreatGen20l
set_option linter.unusedVariables false
set_option linter.unusedSimpArgs false
set_option linter.defProp false
noncomputable section
namespace Go.Sym
open Go Go.bS
def aJ{n:Int}(h:-9223372036854775808<=n/\n<=9223372036854775807):au n=n:=IntWalk.i64_in n h
def aQ{n:Int}(h:0<=n/\n<=18446744073709551615):aK n=n:=IntWalk.u64_in n h
def ag2{n:Int}(h:0<=n/\n<=255):Sb n=n:=IntWalk.u8_in n h
def BH{a b:Int}(h:0<=a):Int.tdiv a b=a/b:=Int.tdiv_eq_ediv_of_nonneg h
def kG{a b:Int}(h:0<=a):Int.tmod a b=a%b:=Int.tmod_eq_emod_of_nonneg h
def sr{α:Type}(pre:List α)(x:α)(r:List α):idx (pre++x::r) (pre.length:Int)=some x:=by simp[idx]
def l9{α:Type}{l pre:List α}{x:α}{r:List α}{i:Int}(hl:l=pre++x::r)(hi:i=(pre.length:Int)):idx l i=some x:=by grind[idx]
def pM{α:Type}{l:List α}{i:Int}{x:α}(h0:0<=i)(h:l[i.toNat]?=some x):idx l i=some x:=by simp[idx,h0,h]
def OT{n b:Nat}(h1:n<=9223372036854775807)(h2:n*b<=140737488355328):room n b=true:=by simp[room,fN,kP,h1,h2]
def ah{α:Type}(k:Option α):aH true k=k:=rfl
def j6{α:Type}{b:Bool}{k r:Option α}(h1:b=true)(h2:k=r):aH b k=r:=by rw[h1];exact h2
def dI{β:Type}{n:Nat}{Lf:Nat->Int->Option β}{g:Nat->Option β}(h0:∀k,Lf (k+1) (n:Int)=g n)(hs:∀k i,i<n->Lf k ((i+1:Nat):Int)=g (i+1)->Lf (k+1) (i:Int)=g i):∀k i,i<=n->n-i<k->Lf k (i:Int)=g i
 |0,_,_,h=>by omega|k+1,i,hi,hk=>by
  by_cases he:i=n;.grind
  .exact hs k i (by omega) (dI h0 hs k (i+1) (by omega) (by omega))
def aaF{σ β:Type}{n:Nat}{I:Nat->σ->Prop}{Lf:Nat->Int->σ->Option β}{g:Nat->σ->Option β}(h0:∀k s,I n s->Lf (k+1) (n:Int) s=g n s)(hs:∀k i s,i<n->I i s->(∀s',I (i+1) s'->Lf k ((i+1:Nat):Int) s'=g (i+1) s')->Lf (k+1) (i:Int) s=g i s):∀k i s,I i s->i<=n->n-i<k->Lf k (i:Int) s=g i s
 |0,_,_,_,_,h=>by omega|k+1,i,s,hI,hi,hk=>by
  by_cases he:i=n;.grind
  .exact hs k i s (by omega) hI λs' hI'=>aaF h0 hs k (i+1) s' hI' (by omega) (by omega)
def uZ{α β:Type}[DecidableEq α]{l m:List α}[Decidable (l=m)]{a b:β}{Lf:Nat->Int->Option β}(hl:l.length=m.length)(h0:∀k,Lf (k+1) (l.length:Int)=some a)(hs:∀(k i:Nat)x y,x∈l->y∈m->l[i]?=some x->m[i]?=some y->Lf (k+1) (i:Int)=if x=y then Lf k ((i+1:Nat):Int)else some b):∀k,l.length<k->Lf k 0=some (if l=m then a else b):=by
 classical intro k hk;have:=dI (n:=l.length) (Lf:=Lf) (g:=λi=>some (if l.drop i=m.drop i then a else b)) (λk=>by rw[h0 k];simp[hl]) (λk i hi ih=>by
  have e1:=aw hi;have e2:=aw (l:=m) (i:=i) (by omega);rw[hs k i _ _ (fw hi) (fw _) e1 e2,ih,km hi,km (l:=m) (i:=i) (by omega)];simp only[List.cons.injEq];by_cases h:l[i]=m[i]'(by omega);.simp only[h,kp,true_and]
  .simp only[h,n3,false_and]) k 0 (by omega) (by omega);grind
def KN{α β:Type}{l:List α}{a b:β}{p:α->Bool}{Lf:Nat->Int->Option β}(h0:∀k,Lf (k+1) (l.length:Int)=some a)(hs:∀(k i:Nat)x,x∈l->l[i]?=some x->Lf (k+1) (i:Int)=if p x then some b else Lf k ((i+1:Nat):Int)):∀k,l.length<k->Lf k 0=some (if l.any p then b else a):=by
 intro k hk;have:=dI (n:=l.length) (Lf:=Lf) (g:=λi=>some (if(l.drop i).any p then b else a)) (λk=>by rw[h0 k];simp) (λk i hi ih=>by
  have e1:=aw hi;rw[hs k i _ (fw hi) e1,ih,km hi];rw[List.any_cons];by_cases h:p l[i]=true;.rw[h];rfl
  .rw[ro]at h;rw[h];rfl) k 0 (by omega) (by omega);grind
def u0{α β:Type}{l:List α}{a b:β}{P:α->Prop}{n:Nat}{Lf:Nat->Int->Option β}(hn:n<=l.length)(h0:∀k,Lf (k+1) (n:Int)=some a)(hs:∀(k i:Nat)x,i<n->x∈l->l[i]?=some x->Lf (k+1) (i:Int)=some b\/(P x/\Lf (k+1) (i:Int)=Lf k ((i+1:Nat):Int))):∀k,n<k->Lf k 0=some b\/(Lf k 0=some a/\∀(i:Nat)x,i<n->l[i]?=some x->P x):=by
 have key:∀k i,i<=n->n-i<k->Lf k (i:Int)=some b\/(Lf k (i:Int)=some a/\∀(j:Nat)x,i<=j->j<n->l[j]?=some x->P x):=by intro k;induction k with|zero=>omega|succ k ih=>
      intro i hi hk;by_cases he:i=n;.subst he;exact .inr ⟨h0 k,λj x h1 h2=>by omega⟩
      . have hl:i<l.length:=by omega
        have e1:=aw hl;rcases hs k i _ (by omega) (fw hl) e1 with h|⟨hp,h⟩;.exact .inl h
        . rw[h];rcases ih (i+1) (by omega) (by omega)with h|⟨h,h2⟩;.exact .inl h
          . refine .inr ⟨h,λj x h3 h4 h5=>?_⟩;by_cases hj:j=i;.subst hj;simp_all
            .exact h2 j x (by omega) h4 h5
 intro k hk;rcases key k 0 (by omega) (by omega)with h|⟨h,h2⟩<;>grind
def aB{α:Type}{l:List α}{i:Nat}{x:α}(h:l[i]?=some x):idx l (i:Int)=some x:=pM (by omega) (by grind)
def bQ{n i:Nat}(h:i<n):fM (i:Int) n=true:=by simp[fM,h]
def aj{i:Nat}(h:i<9223372036854775807):au ((i:Int)+1)=((i+1:Nat):Int):=by rw[aJ (by omega)];rfl
def aD{i n:Nat}(h:i<n):decide ((i:Int)<(n:Int))=true:=bv (by omega)
def aG(n:Nat):decide ((n:Int)<(n:Int))=false:=cb (by omega)
def DK{α:Type}{l:List α}{i:Nat}{x:α}(h:l[i]?=some x):l.set i x=l:=by obtain⟨h1,h2⟩:=db.1 h;rw[<-h2];exact List.set_getElem_self h1
def aC{α:Type}{l:List α}{i:Nat}{x:α}(h:l[i]?=some x):i<l.length:=(db.1 h).1
def aS{α:Type}{l:List α}{i:Nat}{x:α}(h:l[i]?=some x):x∈l:=jn h
def take_succ{α:Type}{l:List α}{i:Nat}{x:α}(h:l[i]?=some x):l.take (i+1)=l.take i++[x]:=by obtain⟨h1,h2⟩:=db.1 h;rw[List.take_succ_eq_append_getElem h1,h2]
def ak{n b:Nat}(h1:n<=10000000)(h2:b<=1000):room n b=true:=by refine OT (by omega) ?_;have:=rb h1 h2;omega
def di{α:Type}{l:List α}{i:Nat}(h:i<l.length):∃x,l[i]?=some x:=⟨_,aw h⟩
open Classical in theorem gJ{β:Type}{n:Nat}{a b:β}{q:Nat->Bool}{Lf:Nat->Int->Option β}(h0:∀k,(∀j,j<n->q j=false)->Lf (k+1) (n:Int)=some a)(hs:∀(k i:Nat),i<n->(∀j,j<i->q j=false)->Lf (k+1) (i:Int)=if q i=true then some b else Lf k ((i+1:Nat):Int)){k:Nat}(hk:n<k):Lf k 0=some (if∃i,i<n/\q i=true then b else a):=by
 have key:∀k i,i<=n->n-i<k->(∀j,j<i->q j=false)->Lf k (i:Int)=some (if∃j,j<n/\q j=true then b else a):=by intro k;induction k with|zero=>omega|succ k ih=>
      intro i hi hk hq;by_cases he:i=n;.subst he;rw[h0 k hq,bi (λ⟨j,h1,h2⟩=>by rw[hq j h1]at h2;cases h2)]
      . rw[hs k i (by omega) hq];by_cases hb:q i=true;.rw[be hb,be ⟨i,by omega,hb⟩]
        . rw[bi hb];refine ih (i+1) (by omega) (by omega) λj hj=>?_;by_cases hji:j=i;.subst hji;simpa using hb
          .exact hq j (by omega)
 exact key k 0 (by omega) (by omega) λj hj=>by omega
open Classical in theorem gn{α β:Type}{l:List α}{a b:β}{p:α->Bool}{Lf:Nat->Int->Option β}(h0:∀k,(∀x,x∈l->p x=false)->Lf (k+1) (l.length:Int)=some a)(hs:∀(k i:Nat)x,l[i]?=some x->x∈l->Lf (k+1) (i:Int)=if p x=true then some b else Lf k ((i+1:Nat):Int)){k:Nat}(hk:l.length<k):Lf k 0=some (if∃x,x∈l/\p x=true then b else a):=by
 rw[gJ (n:=l.length) (a:=a) (b:=b) (q:=λi=>((l[i]?).map p).getD false) (Lf:=Lf) (λk hq=>h0 k λx hx=>?_) (λk i hi _=>?_) hk];.have hiff:(∃i,i<l.length/\((l[i]?).map p).getD false=true)↔∃x,x∈l/\p x=true:=⟨λ⟨i,h1,h2⟩=>by obtain⟨x,hx⟩:=di h1;rw[hx]at h2;exact⟨x,aS hx,h2⟩,λ⟨x,h1,h2⟩=>by obtain⟨i,h3,rfl⟩:=jp.1 h1;exact⟨i,h3,by rw[aw h3];exact h2⟩⟩;simp_all
 .obtain⟨i,h3,rfl⟩:=jp.1 hx<;>grind
 grind
def fH{α β γ:Type}{l:List α}{Lf:Nat->Int->List γ->Option β}{enc:α->List γ}{g:List γ->β}{B m:Nat}(h0:∀k s,Lf (k+1) (l.length:Int) s=some (g s))(hs:∀k(i:Nat)x s,l[i]?=some x->x∈l->s.length<=B->Lf (k+1) (i:Int) s=Lf k ((i+1:Nat):Int) (s++enc x))(hm:∀x,x∈l->(enc x).length<=m){k:Nat}{s:List γ}(hk:l.length<k)(hB:s.length+l.length*m<=B):Lf k 0 s=some (g (s++l.flatMap enc)):=by
 have key:∀k(i:Nat)s,i<=l.length->l.length-i<k->s.length+(l.length-i)*m<=B->Lf k (i:Int) s=some (g (s++(l.drop i).flatMap enc)):=by intro k;induction k with|zero=>omega|succ k ih=>
      intro i s hi hk hB;by_cases he:i=l.length;.grind
      . have hl:i<l.length:=by omega
        have e1:=aw hl;have Py:=hm _ (fw hl);have e3:(l.length-i)*m=m+(l.length-(i+1))*m:=by rw[show l.length-i=1+(l.length-(i+1))by omega,d9,ul]
        rw[hs k i _ s e1 (fw hl) (by omega),ih (i+1) _ (by omega) (by omega) (by rw[bc];omega)];rw[km hl,eQ,bj]
 have:=key k 0 s (by omega) (by omega) (by rw[GT];exact hB)<;>grind
def iy{α γ:Type}{l:List α}{enc:α->List γ}{m:Nat}(h:∀x,x∈l->(enc x).length<=m):(l.flatMap enc).length<=l.length*m:=by induction l with|nil=>simp|cons x r ih=>rw[eQ,bc,eK,d9]<;>grind
def fI{α σ β:Type}{l:List α}{Lf:Nat->Int->σ->Option β}{Inv:Nat->σ->Prop}{g:σ->β}(h0:∀k s,Inv l.length s->Lf (k+1) (l.length:Int) s=some (g s))(hs:∀k(i:Nat)x s,l[i]?=some x->Inv i s->∃s',Inv (i+1) s'/\Lf (k+1) (i:Int) s=Lf k ((i+1:Nat):Int) s'){k:Nat}{s:σ}(h:Inv 0 s)(hk:l.length<k):∃s',Inv l.length s'/\Lf k 0 s=some (g s'):=by
 have key:∀k(i:Nat)s,i<=l.length->l.length-i<k->Inv i s->∃s',Inv l.length s'/\Lf k (i:Int) s=some (g s'):=by intro k;induction k with|zero=>omega|succ k ih=>
  intro i s hi hk hI;by_cases he:i=l.length;.grind
  .obtain⟨s',h1,h2⟩:=hs k i _ s (aw (by omega)) hI<;>grind
 exact key k 0 s (by omega) (by omega) h
def cL{α σ β:Type}{l:List α}{Lf:Nat->Int->σ->Option β}{Inv:Nat->σ->Prop}{Out:β->Prop}{g:σ->β}(h0:∀k s,Inv l.length s->Lf (k+1) (l.length:Int) s=some (g s))(hs:∀k(i:Nat)x s,l[i]?=some x->Inv i s->(∃r,Out r/\Lf (k+1) (i:Int) s=some r)\/∃s',Inv (i+1) s'/\Lf (k+1) (i:Int) s=Lf k ((i+1:Nat):Int) s'){k:Nat}{s:σ}(h:Inv 0 s)(hk:l.length<k):(∃r,Out r/\Lf k 0 s=some r)\/∃s',Inv l.length s'/\Lf k 0 s=some (g s'):=by
 have key:∀k(i:Nat)s,i<=l.length->l.length-i<k->Inv i s->(∃r,Out r/\Lf k (i:Int) s=some r)\/∃s',Inv l.length s'/\Lf k (i:Int) s=some (g s'):=by intro k;induction k with|zero=>omega|succ k ih=>
  intro i s hi hk hI;by_cases he:i=l.length;.grind
  .rcases hs k i _ s (aw (by omega)) hI with h|⟨s',h1,h2⟩<;>grind
 exact key k 0 s (by omega) (by omega) h
def yb:Nat->Nat->List Int|0,n=>[(n:Int)]|k+1,n=>if n<128then[(n:Int)]else((n%128+128:Nat):Int)::yb k (n/128)
def V(n:Nat):List Int:=yb 9 n
def KO:∀k n,1<=(yb k n).length/\(yb k n).length<=k+1|0,n=>by simp[yb]|k+1,n=>by have:=KO k (n/128)<;>grind[yb]
def cZ(n:Nat):1<=(V n).length/\(V n).length<=10:=KO 9 n
def su(n:Nat):Sb (n:Int)=((n%256:Nat):Int):=by show IntKind.u8.wrap (n:Int)=_;rw[IntKind.wrap_u8];omega
def nY{n:Nat}(h:n<18446744073709551616):aK (n:Int)=(n:Int):=aQ (by omega)
def Xs:∀a:Nat,a<256->BD .u8 ((a:Nat):Int) (128:Int)=((a%128+128:Nat):Int):=by decide+kernel
def yc(a b:Nat):Int.fdiv (a:Int) (b:Int)=((a/b:Nat):Int):=by grind
def KP(a b:Nat):Int.tdiv (a:Int) (b:Int)=((a/b:Nat):Int):=by rfl
def KQ(a b:Nat):Int.tmod (a:Int) (b:Int)=((a%b:Nat):Int):=by rfl
def IT(n:Int):Nat:=if 0<=n then(2*n).toNat else(-2*n-1).toNat
def Nj{n:Int}(h:-9223372036854775808<=n/\n<=9223372036854775807):IT n<18446744073709551616:=by grind[IT]
def OU{α:Type}{p q:Prop}{ip:Decidable p}{iq:Decidable q}{a b:α}(h:p↔q):@ite α p ip a b=@ite α q iq a b:=by grind
def aP{p:Prop}{i:Decidable p}(h:p):@decide p i=true:=bv h
def aL{p:Prop}{i:Decidable p}(h:¬p):@decide p i=false:=cb h
def DL{a b:Nat}(h:a+b<=9223372036854775807):au ((a:Int)+(b:Int))=((a+b:Nat):Int):=by rw[aJ (by omega)];rfl
def dc(s:List UInt8):(bP s).length=s.length:=by simp[bP]
def aaG{α:Type}{l:List α}{i:Int}(h0:0<=i)(h:i<l.length):∃x,idx l i=some x/\x∈l/\l[i.toNat]?=some x:=by simp_all[idx]
end Go.Sym
namespace Go.Proofs.YtnfdnnplfbfgaaaGreat
open Go Go.bS Go.Sym
def cW(a b:Bool):(bif a then some true else some b:Option Bool)=some (a||b):=by grind
def fT(a b:Bool):(bif a then some b else some false:Option Bool)=some (a&&b):=by grind
def zo{α:Type}(c:Bool)(a b:α):(bif c then some a else some b)=some (bif c then a else b):=by grind
def aaH{α:Type}(o:Option α):(Option.bind o λx=>some x)=o:=by grind
def aq{α:Type}(a b:α):(bif true then a else b)=a:=rfl
def af{α:Type}(a b:α):(bif false then a else b)=b:=rfl
def U(c:UInt8):Int×Int×Bool×Bool:=if c=119then(0,15,false,true)else if c=114then(0,15,true,false)else if c=110then(-9223372036854775808,9223372036854775807,false,false)else if c=116then(0,31,false,false)else if c=99then(0,31,false,false)else if c=98then(0,1,false,false)else if c=102then(0,7,false,false)else if c=105then(0,199,false,false)else if c=103then(-1,15,false,true)else if c=101then(-1,15,true,false)else(0,0,false,false)
def mb(c:UInt8):Bool:=[119,114,110,116,99,98,102,105,103,101,45].contains c
def ag3:List (UInt8×UInt8×UInt8):=[(119,110,45),(119,116,45),(119,98,45),(119,45,45),(119,114,45),(119,114,114),(119,114,114),(119,114,114),(119,114,114),(119,114,114),(119,114,114),(119,114,45),(119,114,102),(114,102,114),(119,45,45),(119,114,45),(114,114,45),(119,114,45),(119,114,114),(114,114,114),(119,114,45),(105,45,45),(114,105,45),(114,45,45),(103,99,45),(99,45,45),(99,45,45),(114,45,45),(119,119,45),(45,45,45),(45,45,45),(114,45,45),(119,114,45),(101,45,45)]
def yd(op:Int):Option (UInt8×UInt8×UInt8):=if 1<=op/\op<=34then ag3[(op-1).toNat]?else none
def Gr(p0:Int):(1<=p0/\p0<=34)\/∀k:Int,1<=k->k<=34->(p0==k)=false:=by grind
def KS{N:Nat}{p0:Int}(ne:∀k:Int,1<=k->k<=34->(p0==k)=false):Ie N p0=some []:=by simp[Ie.eq_1,ne 1 (by decide) (by decide),ne 2 (by decide) (by decide),ne 3 (by decide) (by decide),ne 4 (by decide) (by decide),ne 5 (by decide) (by decide),ne 6 (by decide) (by decide),ne 7 (by decide) (by decide),ne 8 (by decide) (by decide),ne 9 (by decide) (by decide),ne 10 (by decide) (by decide),ne 11 (by decide) (by decide),ne 12 (by decide) (by decide),ne 13 (by decide) (by decide),ne 14 (by decide) (by decide),ne 15 (by decide) (by decide),ne 16 (by decide) (by decide),ne 17 (by decide) (by decide),ne 18 (by decide) (by decide),ne 19 (by decide) (by decide),ne 20 (by decide) (by decide),ne 21 (by decide) (by decide),ne 22 (by decide) (by decide),ne 23 (by decide) (by decide),ne 24 (by decide) (by decide),ne 25 (by decide) (by decide),ne 26 (by decide) (by decide),ne 27 (by decide) (by decide),ne 28 (by decide) (by decide),ne 29 (by decide) (by decide),ne 30 (by decide) (by decide),ne 31 (by decide) (by decide),ne 32 (by decide) (by decide),ne 33 (by decide) (by decide),ne 34 (by decide) (by decide),af,cW,EQ,ae]
def Nk{N:Nat}{p0:Int}(ne:∀k:Int,1<=k->k<=34->(p0==k)=false):Ib N p0=some ((0:Int),(0:Int),false,false,(0:Int),(0:Int),false,false,(0:Int),(0:Int),false,false,(-1:Int)):=by simp[Ib.eq_1,ne 1 (by decide) (by decide),ne 2 (by decide) (by decide),ne 3 (by decide) (by decide),ne 4 (by decide) (by decide),ne 5 (by decide) (by decide),ne 6 (by decide) (by decide),ne 7 (by decide) (by decide),ne 8 (by decide) (by decide),ne 9 (by decide) (by decide),ne 10 (by decide) (by decide),ne 11 (by decide) (by decide),ne 12 (by decide) (by decide),ne 13 (by decide) (by decide),ne 14 (by decide) (by decide),ne 15 (by decide) (by decide),ne 16 (by decide) (by decide),ne 17 (by decide) (by decide),ne 18 (by decide) (by decide),ne 19 (by decide) (by decide),ne 20 (by decide) (by decide),ne 21 (by decide) (by decide),ne 22 (by decide) (by decide),ne 23 (by decide) (by decide),ne 24 (by decide) (by decide),ne 25 (by decide) (by decide),ne 26 (by decide) (by decide),ne 27 (by decide) (by decide),ne 28 (by decide) (by decide),ne 29 (by decide) (by decide),ne 30 (by decide) (by decide),ne 31 (by decide) (by decide),ne 32 (by decide) (by decide),ne 33 (by decide) (by decide),ne 34 (by decide) (by decide),af,cW,EQ,ae]
def OV{p0:Int}(ne:∀k:Int,1<=k->k<=34->(p0==k)=false):yd p0=none:=by unfold yd<;>grind
def uA(N:Nat)(p0:Int):Ie N p0=some (match yd p0 with|some (a,b,c)=>[a,b,c]|none=>[]):=by
  rcases Gr p0 with h|ne
  . have:p0=1\/p0=2\/p0=3\/p0=4\/p0=5\/p0=6\/p0=7\/p0=8\/p0=9\/p0=10\/p0=11\/p0=12\/p0=13\/p0=14\/p0=15\/p0=16\/p0=17\/p0=18\/p0=19\/p0=20\/p0=21\/p0=22\/p0=23\/p0=24\/p0=25\/p0=26\/p0=27\/p0=28\/p0=29\/p0=30\/p0=31\/p0=32\/p0=33\/p0=34:=by omega
    rcases this with rfl|rfl|rfl|rfl|rfl|rfl|rfl|rfl|rfl|rfl|rfl|rfl|rfl|rfl|rfl|rfl|rfl|rfl|rfl|rfl|rfl|rfl|rfl|rfl|rfl|rfl|rfl|rfl|rfl|rfl|rfl|rfl|rfl|rfl<;>(simp only[Ie.eq_1];rfl)
  .rw[KS ne,OV ne]
def OW:(ag3.all λs=>(mb s.1&&(mb s.2.1&&mb s.2.2))&&((!(s.1==45)||s.2.1==45)&&(!(s.2.1==45)||s.2.2==45)))=true:=by decide
def OX{p0:Int}{s:UInt8×UInt8×UInt8}(h:yd p0=some s):s∈ag3:=by
 unfold yd at h;split at h;.exact jn h
 grind
def Nl{p0:Int}{a b c:UInt8}(h:yd p0=some (a,b,c)):mb a=true/\mb b=true/\mb c=true:=by have:=lx.1 OW _ (OX h)<;>grind
def cnt(a b c:UInt8):Int:=if c≠45then 3 else if b≠45then 2 else if a≠45then 1 else 0
def ag4(a b c:UInt8):decide (cnt a b c<0)=false:=by unfold cnt<;>grind
def wE(N:Nat)(p0:Int):Ib N p0=some (match yd p0 with|some (a,b,c)=>((U a).1,(U a).2.1,(U a).2.2.1,(U a).2.2.2,(U b).1,(U b).2.1,(U b).2.2.1,(U b).2.2.2,(U c).1,(U c).2.1,(U c).2.2.1,(U c).2.2.2,cnt a b c)|none=>((0:Int),(0:Int),false,false,(0:Int),(0:Int),false,false,(0:Int),(0:Int),false,false,(-1:Int))):=by
  rcases Gr p0 with h|ne
  . have:p0=1\/p0=2\/p0=3\/p0=4\/p0=5\/p0=6\/p0=7\/p0=8\/p0=9\/p0=10\/p0=11\/p0=12\/p0=13\/p0=14\/p0=15\/p0=16\/p0=17\/p0=18\/p0=19\/p0=20\/p0=21\/p0=22\/p0=23\/p0=24\/p0=25\/p0=26\/p0=27\/p0=28\/p0=29\/p0=30\/p0=31\/p0=32\/p0=33\/p0=34:=by omega
    rcases this with rfl|rfl|rfl|rfl|rfl|rfl|rfl|rfl|rfl|rfl|rfl|rfl|rfl|rfl|rfl|rfl|rfl|rfl|rfl|rfl|rfl|rfl|rfl|rfl|rfl|rfl|rfl|rfl|rfl|rfl|rfl|rfl|rfl|rfl<;>(simp only[Ib.eq_1,zk.eq_1,aaq.eq_1,Dk.eq_1,ud.eq_1,ae];rfl)
  .rw[Nk ne,OV ne]
def KT{p0:Int}{a b c:UInt8}(h:yd p0=some (a,b,c)):(a=45->b=45)/\(b=45->c=45):=by have:=lx.1 OW _ (OX h)<;>grind
def i64(v:Int):Prop:=-9223372036854775808<=v/\v<=9223372036854775807
def fits(c:UInt8)(v:Int):Bool:=decide ((U c).1<=v)&&decide (v<=(U c).2.1)
def eT(x:Instr):Bool:=match yd x.1with|some (a,b,c)=>fits a x.2.1&&(fits b x.2.2.1&&fits c x.2.2.2)|none=>false
def okI(x:Instr):Prop:=i64 x.2.1/\i64 x.2.2.1/\i64 x.2.2.2
def apb(c:UInt8)(v:Int):(decide (v<(U c).1)||decide (v>(U c).2.1))=!fits c v:=by unfold fits<;>grind
def Xt{α:Type}(a:Bool)(x y:α):(bif !a then x else y)=bif a then y else x:=by grind
def u5(N:Nat)(x:Instr):Ku N (x.1,x.2.1,x.2.2.1,x.2.2.2)=some (bif eT x then 0 else 8):=by rw[Ku.eq_1,wE];unfold eT;cases yd x.1with|none=>rfl|some s=>obtain⟨a,b,c⟩:=s;simp only[Kt.eq_1,ae,ag4,af,cW,apb]<;>grind
def ag5(v:Int)(lo n:Int):(decide (v>=lo)&&decide (v<n))=(decide (lo<=v)&&decide (v<=n-1)):=by grind
def zp{N:Nat}{c:UInt8}{v:Int}(hc:mb c=true)(hv:i64 v):Nc N ((c.toNat:Int),v)=some (fits c v):=by
 have h:c=119\/c=114\/c=110\/c=116\/c=99\/c=98\/c=102\/c=105\/c=103\/c=101\/c=45:=by simpa[mb]using hc
 rw[Nc.eq_1];simp[fT,cW,aaH,ae,ag5];rcases h with rfl|rfl|rfl|rfl|rfl|rfl|rfl|rfl|rfl|rfl|rfl;all_goals first
    |rfl|(simp[fits,U,hv.1,hv.2];done)
    | (show some (v==0)=some (decide (0<=v)&&decide (v<=0));by_cases h:v=0;.subst h;rfl
       . rw[show(v==0)=false by simpa using h];by_cases h1:0<=v;.simp[show¬v<=0 by omega]
         .simp[h1])
def DM(N:Nat){x:Instr}(hx:okI x):QU N (x.1,x.2.1,x.2.2.1,x.2.2.2)=some (bif eT x then 0 else 8):=by rw[QU.eq_1,uA,ae,KG.eq_1];unfold eT;cases h:yd x.1with|none=>rfl|some s=>obtain⟨a,b,c⟩:=s;obtain⟨h1,h2,h3⟩:=Nl h;have e0:idx [a,b,c] 0=some a:=rfl;have e1:idx [a,b,c] 1=some b:=rfl;have e2:idx [a,b,c] 2=some c:=rfl;simp only[show((([a,b,c]:List UInt8).length:Int)!=3)=false from rfl,af,e0,e1,e2,ae,zp h1 hx.1,zp h2 hx.2.1,zp h3 hx.2.2,Xt]<;>grind
def Gs(N:Nat):∀(j k n:Nat)(pre:List Int),n<128^(j+1)->j<k->pre.length+j<=1000->∃(m:Nat)(l:List Int),ax4 N k ((n:Int),pre)=some ((m:Int),pre++l)/\yb j n=l++[(m:Int)]/\m<128/\l.length<=j
 |j,0,n,pre,_,h,_=>by omega|0,k+1,n,pre,hn,_,_=>by refine⟨n,[],?_,rfl,by omega,by simp⟩;rw[ax4.eq_2,cb (by omega),af,dv]|j+1,k+1,n,pre,hn,hk,hp=>by
  rw[ax4.eq_2];by_cases h:n<128;.refine⟨n,[],?_,by rw[yb,be h];rfl,h,by simp⟩<;>grind
  .obtain⟨m,l,h1,h2,h3,h4⟩:=Gs N j k (n/128) (pre++[((n%128+128:Nat):Int)]) (by rw[Nat.pow_succ]at hn;omega) (by omega) (by simp;omega);refine⟨m,((n%128+128:Nat):Int)::l,?_,by rw[yb,bi h,h2];rfl,h3,by simp;omega⟩;rw[bv (by omega),aq,ak (by omega) (by omega),su,Xs _ (At _ (by omega)),show(128:Int)=((128:Nat):Int)from rfl,yc,show n%256%128=n%128by omega,h1,bj];rfl
def ye{N n:Nat}(hN:20<N)(hn:n<18446744073709551616):ig N (n:Int)=some (V n):=by
 rw[ig.eq_1];unfold V;by_cases h:n<128;.rw[cb (by omega),af,ak (by omega) (by omega),ah,yb,be h,su,rm (by omega)]
 .rw[bv (by omega),aq,ak (by omega) (by omega),ah];obtain⟨m,l,h1,h2,h3,h4⟩:=Gs N 8 N (n/128) [((n%128+128:Nat):Int)] (by omega) (by omega) (by simp);rw[su,Xs _ (At _ (by omega)),show(128:Int)=((128:Nat):Int)from rfl,yc,show n%256%128=n%128by omega,h1,ae,ak (by simp;omega) (by omega),ah,yb,bi h,h2,su,show m%256=m by omega];rfl
def yf(N:Nat):∀(j k n:Nat)(pre:List Int),n<128^(j+1)->n<18446744073709551616->j<k->pre.length+j<=1000->∃(m:Nat)(l:List Int),aA6 N k ((n:Int),pre)=some ((m:Int),pre++l)/\yb j n=l++[(m:Int)]/\m<128/\l.length<=j
 |j,0,n,pre,_,_,h,_=>by omega|0,k+1,n,pre,hn,_,_,_=>by refine⟨n,[],?_,rfl,by omega,by simp⟩;rw[aA6.eq_2,cb (by omega),af,dv]|j+1,k+1,n,pre,hn,h64,hk,hp=>by
    rw[aA6.eq_2];by_cases h:n<128;.refine⟨n,[],?_,by rw[yb,be h];rfl,h,by simp⟩;rw[cb (by omega),af,dv]
    . obtain⟨m,l,h1,h2,h3,h4⟩:=yf N j k (n/128) (pre++[((n%128+128:Nat):Int)]) (by rw[Nat.pow_succ]at hn;omega) (by omega) (by omega) (by simp;omega);refine⟨m,((n%128+128:Nat):Int)::l,?_,by rw[yb,bi h,h2];rfl,h3,by simp;omega⟩;have e:Sb ((Sb (Int.tmod (n:Int) (128:Int)))+(128:Int))=((n%128+128:Nat):Int):=by rw[show(128:Int)=((128:Nat):Int)from rfl,KQ,su,show((n%128%256:Nat):Int)+((128:Nat):Int)=((n%128+128:Nat):Int)by omega,su];omega
      rw[bv (by omega),aq,ak (by omega) (by omega),ah,e,show(128:Int)=((128:Nat):Int)from rfl,KP,nY (by omega),h1,bj];rfl
def kM{N n:Nat}(hN:20<N)(hn:n<18446744073709551616):iY N (n:Int)=some (V n):=by rw[iY.eq_1];unfold V;obtain⟨m,l,h1,h2,h3,h4⟩:=yf N 9 N n [] (by omega) hn (by omega) (by simp);rw[h1,ae,ak (by simp;omega) (by omega),ah,h2,su,show m%256=m by omega];rfl
def oU{N n:Nat}(hN:20<N)(hn:n<18446744073709551616):wB N (n:Int)=some (V n):=by rw[wB.eq_1,nY hn,kM hN hn];rfl
def said(s:List UInt8):List Int:=V s.length++bP s
def nZ(s:List UInt8):(said s).length<=10+s.length:=by have:=cZ s.length;rw[said,bc,dc];omega
def Ih{N:Nat}{s:List UInt8}(hN:20<N)(hs:s.length<=1000000):Nd N s=some (said s):=by have:=cZ s.length;rw[Nd.eq_1,nY (by omega),kM hN (by omega),ae,ak (by rw[dc];omega) (by omega)];rfl
def wrap_u64(n:Int):IntKind.u64.wrap n=n%18446744073709551616:=rfl
def Xu{n:Int}(h:-9223372036854775808<=n/\n<=9223372036854775807):aae .u64 (aK ((aK n)*2)) (aK (Int.fdiv n 9223372036854775808))=(IT n:Int):=by
  unfold IT;by_cases h0:0<=n
  . rw[be h0,aQ (n:=n) (by omega),se _ (by omega),Int.ediv_eq_zero_of_lt h0 (by omega),aQ (n:=n*2) (by omega),aQ (n:=0) (by omega)];have e:n*2=(((2*n).toNat:Nat):Int):=by omega
    rw[e];unfold aae;have e2:(BitVec.ofInt IntKind.u64.bits (((2*n).toNat:Nat):Int)^^^BitVec.ofInt IntKind.u64.bits 0).toNat=(2*n).toNat:=by show(BitVec.ofInt 64 (((2*n).toNat:Nat):Int)^^^BitVec.ofInt 64 0).toNat=(2*n).toNat;grind
    rw[e2];exact aQ (by omega)
  . rw[bi h0];have e1:aK n=n+18446744073709551616:=by show IntKind.u64.wrap n=_;rw[wrap_u64];omega
    have e3:Int.fdiv n 9223372036854775808=-1:=by grind
    have e4:aK (-1)=18446744073709551615:=by decide
    have e5:aK ((n+18446744073709551616)*2)=((18446744073709551615-(-2*n-1).toNat:Nat):Int):=by show IntKind.u64.wrap _=_;rw[wrap_u64];omega
    rw[e1,e3,e4,e5];unfold aae;have hlt:(-2*n-1).toNat<18446744073709551616:=by omega
    generalize(-2*n-1).toNat=m at hlt;have e2:(BitVec.ofInt IntKind.u64.bits ((18446744073709551615-m:Nat):Int)^^^BitVec.ofInt IntKind.u64.bits 18446744073709551615).toNat=m:=by show(BitVec.ofInt 64 ((18446744073709551615-m:Nat):Int)^^^BitVec.ofInt 64 18446744073709551615).toNat=m;rw[show BitVec.ofInt 64 18446744073709551615=BitVec.allOnes 64from by decide,BitVec.xor_allOnes,BitVec.toNat_not,ns,pd];omega
    rw[e2];exact aQ (by omega)
def Gt{N:Nat}{n:Int}(hN:20<N)(h:-9223372036854775808<=n/\n<=9223372036854775807):sk N n=some (V (IT n)):=by rw[sk.eq_1,Xu h,ye hN (Nj h)];rfl
def Gu{N:Nat}{n:Int}(h:-9223372036854775808<=n/\n<=9223372036854775807):sn N n=some (IT n:Int):=by
 rw[sn.eq_1];unfold IT;by_cases h0:0<=n;.rw[bv h0,aq,be h0,aQ (n:=n) (by omega),aQ (by omega)]<;>grind
 .rw[cb h0,af,bi h0,aJ (n:=n+1) (by omega),aJ (n:=0-(n+1)) (by omega),aQ (n:=0-(n+1)) (by omega),aQ (n:=(0-(n+1))*2) (by omega),aQ (by omega)]<;>grind
def n4{N:Nat}{v:Int}(hN:20<N)(h:0<=v/\v<=9223372036854775807):ig N (aK v)=some (V v.toNat):=by obtain⟨n,rfl⟩:=bo h.1;rw[nY (by omega),ye hN (by omega)];rfl
def A0{N:Nat}{v:Int}(hN:20<N)(h:0<=v/\v<=9223372036854775807):iY N (aK v)=some (V v.toNat):=by obtain⟨n,rfl⟩:=bo h.1;rw[nY (by omega),kM hN (by omega)];rfl
def pN{N:Nat}{v:Int}(hN:20<N)(h:0<=v/\v<=9223372036854775807):wB N v=some (V v.toNat):=by obtain⟨n,rfl⟩:=bo h.1;rw[oU hN (by omega)];rfl
def fJ:((0:Int)!=(0:Int))=false:=rfl
def sW(c:UInt8)(v:Int):List Int:=if c=45then[]else if c=110\/c=103\/c=101then V (IT v)else V v.toNat
def encI(x:Instr):List Int:=match yd x.1with|some (a,b,c)=>x.1::(sW a x.2.1++(sW b x.2.2.1++sW c x.2.2.2))|none=>[x.1]
def pO(x:Instr):(encI x).length<=31:=by
 have hk:∀c v,(sW c v).length<=10:=λc v=>by
    unfold sW;split;.simp
    . split;.exact(cZ _).2
      .exact(cZ _).2
 unfold encI<;>grind
def Y3(c:UInt8):Bool:=c==110||(c==103||c==101)
def BI{c:UInt8}:Y3 c=true↔c=110\/c=103\/c=101:=by simp[Y3]
def OY(c:UInt8):decide ((U c).1<0)=Y3 c:=by
 unfold U Y3;repeat' split
 all_goals first|(subst_vars;rfl)|(rename_i h1 h2 h3 h4 h5 h6 h7 h8 h9 YY;simp[h3,h9,YY])
def apc(c:UInt8):((c.toNat:Int)==45)=(c==45):=by
 by_cases h:c=45;.subst h;rfl
 .rw[show(c==45)=false by simpa using h,ml];intro e;exact h (UInt8.toNat_inj.1 (by show c.toNat=45;omega))
def Xv{N:Nat}{c:UInt8}(hc:mb c=true):vh N ((c.toNat:Nat):Int)=some (Y3 c):=by
 have h:c=119\/c=114\/c=110\/c=116\/c=99\/c=98\/c=102\/c=105\/c=103\/c=101\/c=45:=by simpa[mb]using hc
 rcases h with rfl|rfl|rfl|rfl|rfl|rfl|rfl|rfl|rfl|rfl|rfl<;>rfl
def yg(v:Int):sW 45 v=[]:=rfl
def rA(c:UInt8)(v:Int):(sW c v).length<=10:=by
  unfold sW;split;.simp
  . split;.exact(cZ _).2
    .exact(cZ _).2
def KU{c:UInt8}{v:Int}(h:fits c v=true)(hs:Y3 c=false):0<=v:=by rw[<-OY,mt]at hs;unfold fits at h<;>grind
def DN{α β:Type}(c:Bool)(x y:Option α)(k:α->Option β):(bif c then Option.bind x k else Option.bind y k)=Option.bind (bif c then x else y) k:=by grind
def zq{α β γ:Type}(c:Bool)(x:Option γ)(f:γ->Option α)(y:Option α)(k:α->Option β):(bif c then Option.bind x (λu=>Option.bind (f u) k)else Option.bind y k)=Option.bind (bif c then Option.bind x f else y) k:=by grind
def opO{N:Nat}(hN:20<N){c:UInt8}{v:Int}(h:fits c v=true)(h45:c≠45)(hv:i64 v):(bif Y3 c then sk N v else ig N (aK v))=some (sW c v):=by unfold sW;rw[bi h45];cases hs:Y3 c with|true=>rw[aq,be (BI.1 hs),Gt hN hv]|false=>rw[af,bi (λe=>by rw[BI.2 e]at hs;cases hs),n4 hN ⟨KU h hs,hv.2⟩]
def op6{N:Nat}(hN:20<N){c:UInt8}{v:Int}(h:fits c v=true)(h45:c≠45)(hv:i64 v):(bif Y3 c then Option.bind (sn N v) (λu=>iY N u)else iY N (aK v))=some (sW c v):=by unfold sW;rw[bi h45];cases hs:Y3 c with|true=>rw[aq,be (BI.1 hs),Gu hv,ae,kM hN (Nj hv)]|false=>rw[af,bi (λe=>by rw[BI.2 e]at hs;cases hs),A0 hN ⟨KU h hs,hv.2⟩]
def OZ{x:Instr}(hc:eT x=true):∃a b c,yd x.1=some (a,b,c)/\fits a x.2.1=true/\fits b x.2.2.1=true/\fits c x.2.2.2=true:=by unfold eT at hc<;>grind
def O0{a b c:UInt8}(h:(a=45->b=45)/\(b=45->c=45)):(a=45/\b=45/\c=45)\/(a≠45/\b=45/\c=45)\/(a≠45/\b≠45/\c=45)\/(a≠45/\b≠45/\c≠45):=by grind
def zu(c:UInt8)(v:Int):room (1+(sW c v).length) 1=true:=by have:=rA c v;exact ak (by omega) (by omega)
def Ii(p:Int)(c d:UInt8)(v w:Int):room (([p]++sW c v).length+(sW d w).length) 1=true:=by have:=rA c v;have:=rA d w;exact ak (by simp only[bc,dl];omega) (by omega)
def Xw(p:Int)(c d e:UInt8)(v w u:Int):room ((([p]++sW c v)++sW d w).length+(sW e u).length) 1=true:=by have:=rA c v;have:=rA d w;have:=rA e u;exact ak (by simp only[bc,dl];omega) (by omega)
def aaJ{N:Nat}(hN:20<N){x:Instr}(hx:okI x)(hc:eT x=true):Up N (x.1,x.2.1,x.2.2.1,x.2.2.2)=some (encI x,0):=by
 rw[Up.eq_1,u5,hc];obtain⟨a,b,c,hs,h1,h2,h3⟩:=OZ hc;obtain⟨i1,i2,i3⟩:=hx;have g00:decide ((0:Int)>=0)=true:=rfl;have g01:decide ((0:Int)>=1)=false:=rfl;have g02:decide ((0:Int)>=2)=false:=rfl;have g03:decide ((0:Int)>=3)=false:=rfl;have g10:decide ((1:Int)>=0)=true:=rfl;have g11:decide ((1:Int)>=1)=true:=rfl;have g12:decide ((1:Int)>=2)=false:=rfl;have g13:decide ((1:Int)>=3)=false:=rfl;have g20:decide ((2:Int)>=0)=true:=rfl;have g21:decide ((2:Int)>=1)=true:=rfl;have g22:decide ((2:Int)>=2)=true:=rfl;have g23:decide ((2:Int)>=3)=false:=rfl;simp only[aq,fJ,af,ae,wE,hs,Kt.eq_1,encI,OY];rcases O0 (KT hs)with⟨rfl,rfl,rfl⟩|⟨ha,rfl,rfl⟩|⟨ha,hb,rfl⟩|⟨ha,hb,hc⟩;.simp[show cnt 45 45 45=0from rfl,g00,g10,g20,aq,yg,dv]
 .simp only[show cnt a 45 45=1by simp[cnt,ha],g01,g11,g21,aq,af,DN,opO hN h1 ha i1,ae,zu,ah,yg,dv]<;>grind
 .simp only[show cnt a b 45=2by simp[cnt,hb],g02,g12,g22,aq,af,DN,opO hN h1 ha i1,opO hN h2 hb i2,ae,zu,Ii,ah,yg,dv]<;>grind
 .simp only[show cnt a b c=3by simp[cnt,hc],g03,g13,g23,af,DN,opO hN h1 ha i1,opO hN h2 hb i2,opO hN h3 hc i3,ae,zu,Ii,Xw,ah]<;>grind
def ag6{α:Type}(a b c:α):idx [a,b,c] 0=some a/\idx [a,b,c] 1=some b/\idx [a,b,c] 2=some c:=⟨rfl,rfl,rfl⟩
def Nn{N:Nat}(hN:20<N){x:Instr}(hx:okI x)(hc:eT x=true):VZ N (x.1,x.2.1,x.2.2.1,x.2.2.2)=some (encI x):=by
 rw[VZ.eq_1,uA];obtain⟨a,b,c,hs,h1,h2,h3⟩:=OZ hc;obtain⟨i1,i2,i3⟩:=hx;obtain⟨k1,k2,k3⟩:=Nl hs;simp only[ae,hs,KG.eq_1,(ag6 a b c).1,(ag6 a b c).2.1,(ag6 a b c).2.2,apc,Xv k1,Xv k2,Xv k3,encI];rcases O0 (KT hs)with⟨rfl,rfl,rfl⟩|⟨ha,rfl,rfl⟩|⟨ha,hb,rfl⟩|⟨ha,hb,hc⟩;.rfl
 .simp only[show(a==45)=false by simpa using ha,im,aq,af,zq,op6 hN h1 ha i1,ae,zu,ah,yg];simp
 .simp only[show(a==45)=false by simpa using ha,show(b==45)=false by simpa using hb,im,aq,af,zq,op6 hN h1 ha i1,op6 hN h2 hb i2,ae,zu,Ii,ah,yg];simp
 .simp only[show(a==45)=false by simpa using ha,show(b==45)=false by simpa using hb,show(c==45)=false by simpa using hc,af,zq,op6 hN h1 ha i1,op6 hN h2 hb i2,op6 hN h3 hc i3,ae,zu,Ii,Xw,ah];simp
open Classical
def bK{α:Type}{l:List α}{i:Nat}(d:α)(h:i<l.length):idx l (i:Int)=some (l.getD i d):=by grind[idx]
def mc{α:Type}{l:List α}{i:Nat}(d:α)(h:i<l.length):l.getD i d∈l:=by grind
def rB{α:Type}{l:List α}{x:α}(d:α)(h:x∈l):∃i,i<l.length/\l.getD i d=x:=by obtain⟨i,hi,rfl⟩:=jp.1 h;exact⟨i,hi,by rw[da,aw hi];rfl⟩
def u6{i:Nat}(h0:0<i)(h:i<=9223372036854775807):au ((i:Int)-1)=((i-1:Nat):Int):=by rw[aJ (by omega)];omega
def Ij{α:Type}{l:List α}(h:¬l.length=0):((l.length:Int)==(0:Int))=false:=by grind
def rn(l:List e8)(i:Nat):e8:=l.getD i (0,0)
def dP(l:List e8)(n:Int):Prop:=0<l.length/\(rn l 0).1=0/\(∀i,i+1<l.length->(rn l i).1<(rn l (i+1)).1/\(rn l i).2≠(rn l (i+1)).2)/\∀i,i<l.length->(rn l i).1<n
def dP.mono{l:List e8}{n:Int}(h:dP l n){i:Nat}:∀{j:Nat},i<=j->j<l.length->(rn l i).1<=(rn l j).1
 |0,h1,_=>by grind|j+1,h1,h2=>by
  by_cases e:i=j+1;.grind
  .have:=h.mono (i:=i) (j:=j) (by omega) (by omega);have:=(h.2.2.1 j h2).1;omega
def Xx{N:Nat}{l:List e8}{n:Int}(hN:l.length<N)(hl:l.length<=1000000):F78 N (l,n)=some (decide (dP l n)):=by
 rw[F78.eq_1];by_cases h0:l.length=0;.rw[show((l.length:Int)==(0:Int))=true by rw[h0];rfl,aq,ae,aq,cb λh=>by have:=h.1;omega]
 .have e0:idx l (0:Int)=some (rn l 0):=bK (i:=0) (0,0) (by omega);have e1:idx l (au ((l.length:Int)-1))=some (rn l (l.length-1)):=by rw[u6 (by omega) (by omega)];exact bK _ (by omega)
  rw[Ij h0,af,e0,ae,e1,ae];by_cases h1:(rn l 0).1=0
  .rw[show((rn l 0).1!=(0:Int))=false by simp[h1],af,ae];by_cases h2:(rn l (l.length-1)).1>=n;.rw[bv h2,aq,cb λh=>by have:=h.2.2.2 (l.length-1) (by omega);omega]
   .rw[cb h2,af,ae,bv (show 1<=l.length by omega),ah];have hd:(l.drop 1).length=l.length-1:=by simp
    have key:=gJ (n:=(l.drop 1).length) (a:=(.inr ():Bool⊕Unit)) (b:=.inl false) (q:=λi=>decide ((rn l (i+1)).1<=(rn l i).1)||((rn l (i+1)).2==(rn l i).2)) (Lf:=λk i=>aw9 N k (l.drop 1,((l.drop 1).length:Int),i,(rn l i.toNat).1,(rn l i.toNat).2)) (λk _=>by simp only[aw9.eq_2,aG,af]) (λk i hi _=>by
      have e:idx (l.drop 1) (i:Int)=some (rn l (i+1)):=by refine aB ?_;rw[sa,rn,da,Nat.add_comm 1 i,aw (by omega)];rfl
      simp only[aw9.eq_2,aD hi,aq,e,ae,aj (show i<9223372036854775807by omega),am,im,ft,lA];by_cases ha:(rn l (i+1)).1<=(rn l i).1;.simp[ha]
      .cases hb:((rn l (i+1)).2==(rn l i).2)<;>simp[ha]) (k:=N) (by omega);simp only[Int.toNat_zero]at key;rw[key,ae];by_cases hex:∃i,i<(l.drop 1).length/\(decide ((rn l (i+1)).1<=(rn l i).1)||((rn l (i+1)).2==(rn l i).2))=true
    .rw[be hex,cb];rintro⟨_,_,h3,_⟩;obtain⟨i,hi,hq⟩:=hex;obtain⟨g1,g2⟩:=h3 i (by omega);rw[ib,dj,ll]at hq;rcases hq with hq|hq;.omega
     .exact g2 hq.symm
    .rw[bi hex,bv];have h3:∀i,i+1<l.length->(rn l i).1<(rn l (i+1)).1/\(rn l i).2≠(rn l (i+1)).2:=λi hi=>by have:¬(decide ((rn l (i+1)).1<=(rn l i).1)||((rn l (i+1)).2==(rn l i).2))=true:=λh=>hex ⟨i,by omega,h⟩;rw[ib,dj,ll,tl]at this;exact⟨by omega,λh=>this.2 h.symm⟩
     have m:∀j,j<l.length->∀i,i<=j->(rn l i).1<=(rn l j).1:=by intro j;induction j with|zero=>intro _ i hi;rw[Nat.le_zero.1 hi];exact yk _|succ j ih=>
       intro hj i hi;by_cases e:i=j+1;.rw[e];exact yk _
       .have:=ih (by omega) i (by omega);have:=(h3 j hj).1;omega
     exact⟨by omega,h1,h3,λi hi=>by have:=m (l.length-1) (by omega) i (by omega);omega⟩
  .rw[show((rn l 0).1!=(0:Int))=true by simp[h1],aq,ae,aq,cb λh=>h1 h.2.1]
def u7{N:Nat}{l:List e8}{n:Nat}(hN:l.length<N)(hl:l.length<=1000000):F35 N (l,(n:Int))=some (if n<1\/n>200then 2 else if dP l n then 0 else 8):=by rw[F35.eq_1,F77.eq_1,Xx hN hl]<;>grind
def Gv{N:Nat}{l:List e8}{n:Int}(hN:l.length<N)(hl:l.length<=1000000):QV N (l,n)=some (decide (dP l n)):=by
 rw[QV.eq_1];by_cases h0:l.length=0;.rw[show decide ((l.length:Int)<1)=true by rw[h0];rfl,aq,ae,aq,cb λh=>by have:=h.1;omega]
 .have e0:idx l (0:Int)=some (rn l 0):=bK (i:=0) (0,0) (by omega);rw[cb (show¬(l.length:Int)<1by omega),af,e0,ae,ae];by_cases h1:(rn l 0).1=0
  .rw[show((rn l 0).1!=(0:Int))=false by simp[h1],af];have key:=gJ (n:=l.length) (a:=(.inr ():Bool⊕Unit)) (b:=.inl false) (q:=λi=>decide ((rn l i).1>=n\/0<i/\((rn l (i-1)).1>=(rn l i).1\/(rn l (i-1)).2=(rn l i).2))) (Lf:=λk i=>aA2 N k (l,n,i)) (λk _=>by simp only[aA2.eq_2,aG,af]) (λk i hi _=>by
     have e:idx l (i:Int)=some (rn l i):=bK _ hi;simp only[aA2.eq_2,aD hi,aq,e,ae,aj (show i<9223372036854775807by omega)];by_cases ha:(rn l i).1>=n;.simp[ha]
     .by_cases hz:0<i
      .have e':idx l (au ((i:Int)-1))=some (rn l (i-1)):=by rw[u6 hz (by omega)];exact bK _ (by omega)
       simp only[ha,e',tx,af,bv (show(i:Int)>0 by omega),aq,ae,hz,true_and,false_or];by_cases hb:(rn l (i-1)).1>=(rn l i).1;.simp[hb]
       .by_cases hd:(rn l (i-1)).2=(rn l i).2;.simp[hb,hd]
        .rw[show((rn l (i-1)).2==(rn l i).2)=false by simpa using hd];simp[hb,hd]
      .simp only[ha,tx,af,cb (show¬(i:Int)>0 by omega),ae,hz,false_and,or_self];simp) (k:=N) hN;rw[key,ae];by_cases hex:∃i,i<l.length/\decide ((rn l i).1>=n\/0<i/\((rn l (i-1)).1>=(rn l i).1\/(rn l (i-1)).2=(rn l i).2))=true
   .rw[be hex,cb];rintro⟨_,_,h3,h4⟩;obtain⟨i,hi,hq⟩:=hex;rcases dE hq with hq|⟨hz,hq⟩;.have:=h4 i hi;omega
    .obtain⟨g1,g2⟩:=h3 (i-1) (by omega);rw[show i-1+1=i by omega]at g1 g2;rcases hq with hq|hq;.omega
     .exact g2 hq
   .rw[bi hex,bv];have hno:∀i,i<l.length->¬((rn l i).1>=n\/0<i/\((rn l (i-1)).1>=(rn l i).1\/(rn l (i-1)).2=(rn l i).2)):=λi hi h=>hex ⟨i,hi,bv h⟩;refine⟨by omega,h1,λi hi=>?_,λi hi=>?_⟩;.have:=hno (i+1) hi;simp only[Nat.add_sub_cancel,tl,not_and]at this;have:=this.2 (by omega);exact⟨by omega,this.2⟩
    .have:=hno i hi;simp only[tl]at this;omega
  .rw[show((rn l 0).1!=(0:Int))=true by simp[h1],aq,cb λh=>h1 h.2.1]
def n5{l:List e8}{n:Nat}(h:dP l n):l.length<=n:=by
 have key:∀i:Nat,i<l.length->(i:Int)<=(rn l i).1:=by intro i;induction i with|zero=>have:=h.2.1;omega|succ i ih=>intro hi;have:=(h.2.2.1 i hi).1;omega
 have h0:=h.1;have:=key (l.length-1) (by omega);have:=h.2.2.2 (l.length-1) (by omega);omega
def DO:Int->List e8->List Int|_,[]=>[]|was,x::r=>V (x.1-was).toNat++(V x.2.toNat++DO x.1 r)
def sN(l:List e8):List Int:=V l.length++DO 0 l
def Inc:Int->List e8->Prop|_,[]=>True|was,x::r=>was<=x.1/\x.1<=1000/\(0<=x.2/\x.2<=18446744073709551615)/\Inc x.1 r
def Ik(l:List e8):Prop:=∀x∈l,0<=x.2/\x.2<=18446744073709551615
def KV:∀(was:Int)(l:List e8),(DO was l).length<=l.length*20|_,[]=>by simp[DO]|was,x::r=>by have:=cZ (x.1-was).toNat;have:=cZ x.2.toNat;have:=KV x.1 r;simp[DO,bc,eK];omega
def oV(l:List e8):(sN l).length<=10+l.length*20:=by have:=cZ l.length;have:=KV 0 l;rw[sN,bc];omega
def dP.inc{l:List e8}{n:Int}(h:dP l n)(hn:n<=1000)(hr:Ik l):Inc 0 l:=by
 have key:∀(m i:Nat)(was:Int),m=l.length-i->was>=0->(i<l.length->was<=(rn l i).1)->Inc was (l.drop i):=by intro m;induction m with|zero=>intro i was hm _ _;rw[List.drop_eq_nil_of_le (by omega)];trivial|succ m ih=>
  intro i was hm hw hle;have hi:i<l.length:=by omega
  have e:l[i]=rn l i:=by rw[rn,da,aw hi];rfl
  rw[km hi,e];refine⟨hle hi,by have:=h.2.2.2 i hi;omega,hr _ (mc _ hi),ih (i+1) _ (by omega) (by have:=hle hi;omega) λhi'=>?_⟩;have:=(h.2.2.1 i hi').1;omega
 have:=key l.length 0 0 (by omega) (by omega) λ_=>by rw[h.2.1];exact yk _
 grind
def Xy{a b:Int}(h:0<=b/\b<=a/\a<=1000):au (a-b)=a-b:=aJ (by omega)
def Gw{N:Nat}(hN:20<N){l:List e8}(hl:l.length<=100000):∀(r pre:List e8)(was:Int)(out:List Int)(k:Nat),l=pre++r->Inc was r->0<=was->r.length<k->out.length<=100000+pre.length*20->ax5 N k (was,l,(l.length:Int),(pre.length:Int),out)=some (out++DO was r)
 |[],pre,was,out,k+1,he,_,_,_,_=>by rw[dv]at he;subst he;rw[ax5.eq_2,aG,af,DO,dv]|x::r,pre,was,out,k+1,he,hi,hw,hk,ho=>by
  obtain⟨i1,i2,i3,i4⟩:=hi;have hlen:pre.length+(r.length+1)=l.length:=by rw[he];simp
  have:=cZ (x.1-was).toNat;have:=cZ x.2.toNat;have ih:=Gw hN hl r (pre++[x]) x.1 (out++V (x.1-was).toNat++V x.2.toNat) k (by rw[he];simp) i4 (by omega) (by simp at hk;omega) (by simp only[bc,dl];omega);obtain⟨v,hv⟩:=bo i3.1;rw[ax5.eq_2,aD (by omega),aq,he,sr,ae,<-he,Xy ⟨hw,i1,i2⟩,n4 hN (by omega),ae,ak (by omega) (by omega),ah,hv,ye hN (by omega),ae,ak (by simp only[bc];have:=cZ v;omega) (by omega),ah,aj (by omega)];rw[show((pre++[x]).length:Int)=((pre.length+1:Nat):Int)by simp]at ih;rw[hv]at ih;simp only[am]at ih;rw[ih,DO,hv];simp[bj]|_,_,_,_,0,_,_,_,h,_=>by omega
def DP{N:Nat}(hN:20<N){l:List e8}(hl:l.length<=100000):∀(r pre:List e8)(was:Int)(out:List Int)(k:Nat),l=pre++r->Inc was r->0<=was->r.length<k->out.length<=100000+pre.length*20->aA8 N k (l,was,(pre.length:Int),out)=some (out++DO was r)
 |[],pre,was,out,k+1,he,_,_,_,_=>by rw[dv]at he;subst he;rw[aA8.eq_2,aG,af,DO,dv]|x::r,pre,was,out,k+1,he,hi,hw,hk,ho=>by
  obtain⟨i1,i2,i3,i4⟩:=hi;have hlen:pre.length+(r.length+1)=l.length:=by rw[he];simp
  have:=cZ (x.1-was).toNat;have:=cZ x.2.toNat;have ih:=DP hN hl r (pre++[x]) x.1 (out++V (x.1-was).toNat++V x.2.toNat) k (by rw[he];simp) i4 (by omega) (by simp at hk;omega) (by simp only[bc,dl];omega);obtain⟨v,hv⟩:=bo i3.1;have hx:idx l (pre.length:Int)=some x:=by rw[he];exact sr _ _ _
  simp only[aA8.eq_2,aD (show pre.length<l.length by omega),aq,hx,ae,Xy ⟨hw,i1,i2⟩,A0 hN (show 0<=x.1-was/\x.1-was<=9223372036854775807by omega),ak (show out.length+(V (x.1-was).toNat).length<=10000000by omega) (show 1<=1000by omega),ah,hv,kM hN (show v<18446744073709551616by omega),ak (show(out++V (x.1-was).toNat).length+(V v).length<=10000000by simp only[bc];have:=cZ v;omega) (show 1<=1000by omega),aj (show pre.length<9223372036854775807by omega)];rw[show((pre++[x]).length:Int)=((pre.length+1:Nat):Int)by simp]at ih;rw[hv]at ih;simp only[am]at ih;rw[ih,DO,hv];simp[bj]|_,_,_,_,0,_,_,_,h,_=>by omega
def aaK{N:Nat}(hN:1000<N){l:List e8}{n:Nat}(hl:l.length<=1000)(h:dP l n)(h1:1<=n)(h2:n<=200)(hr:Ik l):Ur N (l,(n:Int))=some (sN l,0):=by have hi:=h.inc (by omega) hr;have hv:=cZ l.length;rw[Ur.eq_1,u7 (by omega) (by omega),bi (by omega),be h,ae,fJ,nY (by omega),ye (by omega) (by omega),ae];have:=Gw (N:=N) (by omega) (l:=l) (by omega) l [] 0 (V l.length) N rfl hi (by omega) (by omega) (by simp;omega);simp at this;rw[this];rfl
def DQ{N:Nat}(hN:1000<N){l:List e8}{n:Nat}(hl:l.length<=1000)(h:dP l n)(h2:n<=200)(hr:Ik l):QX N l=some (sN l):=by have hi:=h.inc (by omega) hr;have hv:=cZ l.length;rw[QX.eq_1,nY (by omega),kM (by omega) (by omega),ae];have:=DP (N:=N) (by omega) (l:=l) (by omega) l [] 0 (V l.length) N rfl hi (by omega) (by omega) (by simp;omega);simp at this;rw[this];rfl
def KW(n:Nat):Bool:=(decide (97<=n)&&decide (n<=122))||(decide (65<=n)&&decide (n<=90))
def uB(n:Nat):Bool:=KW n||(decide (48<=n)&&decide (n<=57))
def mE(s:List UInt8):Bool:=decide (1<=s.length)&&(decide (s.length<=16)&&(KW ((s.getD 0 0).toNat)&&s.all λc=>uB c.toNat))
def Xz:∀n:Nat,n<256->(bif(decide (((n:Nat):Int)>=(97:Int)))then(bif(decide (((n:Nat):Int)<=(122:Int)))then some true else(bif(decide (((n:Nat):Int)>=(65:Int)))then some (decide (((n:Nat):Int)<=(90:Int)))else some false))else(bif(decide (((n:Nat):Int)>=(65:Int)))then some (decide (((n:Nat):Int)<=(90:Int)))else some false))=some (KW n):=by decide+kernel
def Gx(N:Nat)(c:UInt8):QM N (c.toNat:Int)=some (KW c.toNat):=by rw[QM.eq_1,Xz _ c.toNat_lt];rfl
def XA:∀n:Nat,n<256->((bif(decide ((BD .u8 ((n:Nat):Int) (32:Int))<(97:Int)))then(bif(decide (((n:Nat):Int)<(48:Int)))then some true else some (decide (((n:Nat):Int)>(57:Int))))else(bif(decide ((BD .u8 ((n:Nat):Int) (32:Int))>(122:Int)))then(bif(decide (((n:Nat):Int)<(48:Int)))then some true else some (decide (((n:Nat):Int)>(57:Int))))else(bif((tZ .u8 ((n:Nat):Int) (64:Int))==(0:Int))then(bif(decide (((n:Nat):Int)<(48:Int)))then some true else some (decide (((n:Nat):Int)>(57:Int))))else some false))):Option Bool)=some (!uB n):=by decide+kernel
def Rh:∀n:Nat,n<256->((!decide (((n:Nat):Int)<=57))&&uB n)=(KW n&&uB n):=by decide+kernel
def sv{α:Type}{n:Nat}{q:Nat->Bool}{a b:α}:(if∃i,i<n/\(!q i)=true then b else a)=if∀i,i<n->q i=true then a else b:=by
 by_cases h:∀i,i<n->q i=true;.grind
 .rw[bi h,be]<;>grind
def oK{α β:Type}{l:List α}{p:α->Bool}{a b:β}:(if∃x,x∈l/\(!p x)=true then b else a)=if∀x,x∈l->p x=true then a else b:=by
 by_cases h:∀x,x∈l->p x=true;.grind
 .rw[bi h,be]<;>grind
def XB{α:Type}{l:List α}{p:α->Bool}:(if∃x,x∈l/\(!p x)=true then(Sum.inl false:Bool⊕Unit)else .inr ())=if l.all p=true then .inr ()else .inl false:=by by_cases h:l.all p=true<;>simp_all
def DS{N:Nat}{s:List UInt8}(hN:100<N):MZ N s=some (mE s):=by
 rw[MZ.eq_1];unfold mE;by_cases h0:s.length=0;.rw[show((s.length:Int)==(0:Int))=true by rw[h0];rfl,aq,ae,aq,cb (by omega),pp]
 .rw[Ij h0,af,bv (show 1<=s.length by omega),ft];by_cases h1:s.length<=16
  .have e0:idx s (0:Int)=some (s.getD 0 0):=bK (i:=0) 0 (by omega);rw[cb (show¬(s.length:Int)>16by omega),af,e0,ae,ae,bv h1,ft];have hlt:=(s.getD 0 0).toNat_lt;have hall:s.all (λc=>uB c.toNat)=true->uB (s.getD 0 0).toNat=true:=λh=>lx.1 h _ (mc 0 (by omega));have hf:=Rh _ hlt;have key:=gn (l:=bP s) (a:=(.inr ():Bool⊕Unit)) (b:=.inl false) (p:=λx=>!uB x.toNat) (Lf:=λk i=>aw4 N k (bP s,((bP s).length:Int),i)) (λk _=>by simp only[aw4.eq_2,aG,af]) (λk i x hx hm=>by obtain⟨c,hc,rfl⟩:=j1.1 hm;have hi:=aC hx;rw[dc]at hi;simp only[aw4.eq_2,aD (aC hx),aq,aB hx,ae,XA _ c.toNat_lt,aj (show i<9223372036854775807by omega),am];by_cases hb:uB c.toNat=true<;>simp[hb]) (k:=N) (by rw[dc];omega);rw[key,XB (p:=λx:Int=>uB x.toNat)];have e2:(bP s).all (λx=>uB x.toNat)=s.all λc=>uB c.toNat:=by unfold bP;rw[List.all_map];rfl
   rw[e2];cases ha:s.all λc=>uB c.toNat;.rw[bi (by simp),i6,ae];cases decide (((s.getD 0 0).toNat:Int)<=57)<;>rfl
   .rw[hall ha,lA,lA]at hf;rw[be rfl,lA,ae,<-hf];cases decide (((s.getD 0 0).toNat:Int)<=57)<;>rfl
  .rw[bv (show(s.length:Int)>16by omega),aq,ae,aq,cb h1];rfl
def XC:∀n:Nat,n<256->(bif(!KW n)then(bif(decide (((n:Nat):Int)<(48:Int)))then some true else some (decide (((n:Nat):Int)>(57:Int))))else some false)=some (!uB n):=by decide+kernel
def DT{N:Nat}{s:List UInt8}(hN:100<N):QN N s=some (mE s):=by
 rw[QN.eq_1];unfold mE;by_cases h0:1<=s.length
 .rw[cb (show¬(s.length:Int)<1by omega),af,bv h0,ft];by_cases h1:s.length<=16
  .have e0:idx s (0:Int)=some (s.getD 0 0):=bK (i:=0) 0 (by omega);rw[cb (show¬(s.length:Int)>16by omega),af,e0,ae,Gx,ae,ae,bv h1,ft];have key:=gn (l:=s) (a:=(.inr ():Bool⊕Unit)) (b:=.inl false) (p:=λc=>!uB c.toNat) (Lf:=λk i=>az7 N k (s,i)) (λk _=>by simp only[az7.eq_2,aG,af]) (λk i x hx hm=>by have hi:=aC hx;simp only[az7.eq_2,aD (aC hx),aq,aB hx,ae,Gx,XC _ x.toNat_lt,aj (show i<9223372036854775807by omega)];by_cases hb:uB x.toNat=true<;>simp[hb]) (k:=N) (by omega);rw[key,XB (p:=λc:UInt8=>uB c.toNat)];cases ha:s.all λc=>uB c.toNat;.rw[bi (by simp),i6];cases KW (s.getD 0 0).toNat<;>rfl
   .rw[be rfl,lA];cases KW (s.getD 0 0).toNat<;>rfl
  .rw[bv (show(s.length:Int)>16by omega),aq,ae,aq,cb h1];rfl
 .rw[bv (show(s.length:Int)<1by omega),aq,ae,aq,cb h0,pp]
def nq{s:List UInt8}(h:mE s=true):s.length<=16:=by unfold mE at h<;>grind
def fl(l:List Field)(i:Nat):Field:=l.getD i ([],0)
def KX(l:List Field)(i:Nat):Prop:=∃j,j<i/\(fl l j).1=(fl l i).1
def okF(l:List Field)(i:Nat):Bool:=mE (fl l i).1&&!decide (KX l i)
def cx(l:List Field):Prop:=∀i,i<l.length->okF l i=true
def DU{N:Nat}{l:List Field}{i:Nat}(hi:i<=l.length)(hN:l.length<N)(hl:l.length<=1000000)(s:List UInt8)(v:Int):(∃j:Int,0<=j/\LE N N (l.take i,((l.take i).length:Int),0,s,v)=some (.inl j)/\∃j,j<i/\(fl l j).1=s)\/(LE N N (l.take i,((l.take i).length:Int),0,s,v)=some (.inr ())/\¬∃j,j<i/\(fl l j).1=s):=by
 have hlen:(l.take i).length=i:=by grind
 have key:∀k j,j<=i->i-j<k->(∀m,m<j->(fl l m).1≠s)->(∃q:Int,0<=q/\LE N k (l.take i,((l.take i).length:Int),(j:Int),s,v)=some (.inl q)/\∃j,j<i/\(fl l j).1=s)\/(LE N k (l.take i,((l.take i).length:Int),(j:Int),s,v)=some (.inr ())/\¬∃j,j<i/\(fl l j).1=s):=by intro k;induction k with|zero=>omega|succ k ih=>
   intro j hj hk hm;by_cases he:j=i;.subst he;refine .inr ⟨?_,λ⟨m,h1,h2⟩=>hm m h1 h2⟩;rw[LE.eq_2,hlen,aG,af]
   .have e:idx (l.take i) (j:Int)=some (fl l j):=by refine aB ?_;rw[gg,be (by omega),fl,da,aw (by omega)];rfl
    rw[LE.eq_2,hlen,aD (by omega),aq,e,ae];by_cases hq:(fl l j).1=s;.rw[show((fl l j).1==s)=true by simpa using hq,aq];exact .inl ⟨j,by omega,rfl,j,by omega,hq⟩
    .rw[show((fl l j).1==s)=false by simpa using hq,af,aj (by omega)];have:=ih (j+1) (by omega) (by omega) λm h=>by
      by_cases e:m=j;.subst e;exact hq
      .exact hm m (by omega)
     rw[hlen]at this;exact this
 exact key N 0 (by omega) (by omega) λm h=>by omega
def KY{N:Nat}{l:List Field}(hN:l.length+100<N)(hl:l.length<=1000000):Ug N l=some (decide (cx l)):=by
 rw[Ug.eq_1];have key:=gJ (n:=l.length) (a:=(.inr ():Bool⊕Unit)) (b:=.inl false) (q:=λi=>!okF l i) (Lf:=λk i=>Pl N k (l,l,(l.length:Int),i)) (λk _=>by simp only[Pl.eq_2,aG,af]) (λk i hi _=>by
   have e:idx l (i:Int)=some (fl l i):=bK _ hi;simp only[Pl.eq_2,aD hi,aq,e,ae,DS (show 100<N by omega)];cases hn:mE (fl l i).1;.simp[okF,hn]
   .rw[dk,af,bv (show(0:Int)<=(i:Int)by omega),ah,am,bv (show i<=l.length by omega),ah,aj (by omega)];rcases DU (l:=l) (i:=i) (by omega) (show l.length<N by omega) hl (fl l i).1 (fl l i).2with⟨j,h1,h2,h3⟩|⟨h2,h3⟩;.rw[h2,ae];simp only[bv (show j>=0from h1),aq];rw[be (by unfold okF;rw[bv (show KX l i from h3)];simp)]
    .rw[h2,ae];simp only;rw[bi (by unfold okF;rw[hn,cb (show¬KX l i from h3)];simp)]) (k:=N) (by omega);rw[key,sv,ae];by_cases h:cx l;.rw[be (show∀i,i<l.length->okF l i=true from h),bv h]
 .rw[bi (show¬∀i,i<l.length->okF l i=true from h),cb h]
def uC{N:Nat}{l:List Field}(hN:l.length+100<N)(hl:l.length<=1000000)(m:Int):QO N (l,m)=some (decide ((l.length:Int)<=m/\cx l)):=by
 rw[QO.eq_1];by_cases hm:(l.length:Int)<=m
 .rw[cb (show¬(l.length:Int)>m by omega),af];have key:=gJ (n:=l.length) (a:=(.inr ():Bool⊕Unit)) (b:=.inl false) (q:=λi=>!okF l i) (Lf:=λk i=>aq1 N k (l,i)) (λk _=>by simp only[aq1.eq_2,aG,af]) (λk i hi _=>by
    have e:idx l (i:Int)=some (fl l i):=bK _ hi;simp only[aq1.eq_2,aD hi,aq,e,ae,DT (show 100<N by omega)];cases hn:mE (fl l i).1;.simp[okF,hn]
    .have inner:=gJ (n:=i) (a:=(.inr (l,(i:Int)):Bool⊕(List Field×Int))) (b:=.inl false) (q:=λj=>(fl l j).1==(fl l i).1) (Lf:=λk j=>az8 N k (l,(i:Int),j)) (λk _=>by simp only[az8.eq_2,aG,af]) (λk j hj _=>by have ej:idx l (j:Int)=some (fl l j):=bK _ (by omega);simp only[az8.eq_2,aD hj,aq,e,ej,ae,aj (show j<9223372036854775807by omega)];by_cases hb:((fl l j).1==(fl l i).1)=true<;>simp[hb]) (k:=N) (by omega);rw[dk,af,inner,ae];by_cases hd:KX l i;.rw[be,be (by unfold okF;rw[bv hd];simp)];obtain⟨j,h1,h2⟩:=hd;exact⟨j,h1,by simpa using h2⟩
     .rw[bi,bi (by unfold okF;rw[hn,cb hd];simp)];.simp only;rw[aj (by omega)]
      .rintro⟨j,h1,h2⟩;exact hd ⟨j,h1,by simpa using h2⟩) (k:=N) (by omega);rw[key,sv,ae];by_cases h:cx l;.rw[be (show∀i,i<l.length->okF l i=true from h),bv ⟨hm,h⟩]
  .rw[bi (show¬∀i,i<l.length->okF l i=true from h),cb λh'=>h h'.2]
 grind
def BJ{N:Nat}{l:List Int}(hN:l.length<N)(hl:l.length<=1000):Kr N l=some (l.all λx=>x==0):=by
 rw[Kr.eq_1];have key:∀(r pre:List Int)k,l=pre++r->r.length<k->(r.all (λx=>x==0)=true/\ah8 N k (l,(l.length:Int),(pre.length:Int))=some (.inr ()))\/(r.all (λx=>x==0)=false/\∃j:Int,0<=j/\ah8 N k (l,(l.length:Int),(pre.length:Int))=some (.inl j)):=by intro r;induction r with|nil=>intro pre k he hk;obtain⟨k,rfl⟩:∃k',k=k'+1:=⟨k-1,by simp at hk;omega⟩;simp at he;subst he;exact .inl ⟨rfl,by rw[ah8.eq_2,aG,af]⟩|cons x r ih=>
  intro pre k he hk;obtain⟨k,rfl⟩:∃k',k=k'+1:=⟨k-1,by simp at hk;omega⟩;have hlen:pre.length+(r.length+1)=l.length:=by rw[he];simp
  have hx:idx l (pre.length:Int)=some x:=by rw[he];exact sr _ _ _
  rw[ah8.eq_2,aD (by omega),aq,hx,ae,aap.eq_1,ae];by_cases h0:x=0;.rw[show(x !=0)=false by simp[h0],af,aj (by omega),fg,show(x==0)=true by simp[h0],ft];have:=ih (pre++[x]) k (by rw[he];simp) (by simp at hk;omega);rwa[show((pre++[x]).length:Int)=((pre.length+1:Nat):Int)by simp]at this
  .rw[show(x !=0)=true by simp[h0],aq,fg,show(x==0)=false by simp[h0],pp];exact .inr ⟨rfl,pre.length,by omega,rfl⟩
 rcases key l [] N rfl hN with⟨h1,h2⟩|⟨h1,j,h2,h3⟩<;>grind
def Gy(N:Nat)(a b:Int):Kq N (a,b)=some (decide (0<=a/\a<b)):=by rw[Kq.eq_1,fT,ae]<;>simp_all
def ty0:aA:=(0,0,0,[])
def bJ(l:List aA)(i:Nat):aA:=l.getD i ty0
def cO(n i:Nat)(t:aA):Prop:=if t.1=1\/t.1=2\/t.1=3then t.2.1=0/\t.2.2.1=0/\t.2.2.2.length=0 else if t.1=4\/t.1=7then(0<=t.2.1/\t.2.1<n)/\t.2.2.1=0/\t.2.2.2.length=0 else if t.1=6then(0<=t.2.1/\t.2.1<i)/\(1<=t.2.2.1/\t.2.2.1<=16)/\t.2.2.2.length=0 else if t.1=5then t.2.1=0/\t.2.2.1=0/\(0<t.2.2.2.length/\t.2.2.2.length<=8)/\cx t.2.2.2/\∀f,f∈t.2.2.2->0<=f.2/\f.2<i else False
def GA{l:List Field}{i:Nat}(hi:i<l.length):hasB ((l.take i).map (·.1)) (fl l i).1=decide (KX l i):=by
 unfold hasB;by_cases h:KX l i;.rw[bv h,mn];obtain⟨j,h1,h2⟩:=h;refine⟨(fl l j).1,j1.2 ⟨fl l j,?_,rfl⟩,bv h2.symm⟩;rw[fl,da,aw (by omega)];exact pv.2 ⟨j,by omega,rfl⟩
 .rw[cb h];cases ha:((l.take i).map (·.1)).any λq=>decide ((fl l i).1=q)with|false=>rfl|true=>exfalso;obtain⟨q,h1,h2⟩:=mn.1 ha;obtain⟨f,h3,rfl⟩:=j1.1 h1;obtain⟨j,h4,rfl⟩:=pv.1 h3;refine h ⟨j,by omega,?_⟩;rw[dE h2];rw[fl,da,aw (by omega)];rfl
def ag7{l:List Field}{i:Nat}(hi:i<l.length):l[i]?=some (fl l i):=by rw[fl,da,aw hi];rfl
def Ri{l:List Field}{i:Nat}(hi:i<l.length)(h:¬KX l i):tc ((l.take i).map (·.1)) (fl l i).1=(l.take (i+1)).map (·.1):=by unfold tc;rw[GA hi,cb h,take_succ (ag7 hi),fx];rfl
def KZ{N:Nat}{l:List Field}{p:Nat}(hN:l.length+100<N)(hl:l.length<=1000000)(a b c:Int):ah9 N N ((p:Int),l,(l.length:Int),(0:Int),a,b,c,l,([]:List (List UInt8)))=some (if cx l/\(∀f,f∈l->0<=f.2/\f.2<p)then .inr (a,b,c,l)else .inl false):=by
 have key:=gJ (n:=l.length) (a:=(.inr (a,b,c,l):Bool⊕(Int×Int×Int×List Field))) (b:=.inl false) (q:=λi=>!(okF l i&&decide (0<=(fl l i).2/\(fl l i).2<p))) (Lf:=λk i=>ah9 N k ((p:Int),l,(l.length:Int),i,a,b,c,l,(l.take i.toNat).map (·.1))) (λk _=>by simp only[ah9.eq_2,aG,af]) (λk i hi _=>by
   have e:idx l (i:Int)=some (fl l i):=bK _ hi;simp only[ah9.eq_2,aD hi,aq,e,ae,DS (show 100<N by omega),am,GA hi,Gy,aj (show i<9223372036854775807by omega)];cases hn:mE (fl l i).1;.simp[okF,hn]
   .by_cases hd:KX l i;.simp[okF,hd]
    .rw[Ri hi hd];unfold okF;rw[hn,cb hd];cases decide (0<=(fl l i).2/\(fl l i).2<(p:Int))<;>rfl) (k:=N) (by omega);rw[show(0:Int).toNat=0from rfl,Do,lc]at key;rw[key,sv];have hiff:(∀i,i<l.length->(okF l i&&decide (0<=(fl l i).2/\(fl l i).2<(p:Int)))=true)↔cx l/\∀f,f∈l->0<=f.2/\f.2<(p:Int):=by simp only[ba,dj];refine⟨λh=>⟨λi hi=>(h i hi).1,λf hf=>?_⟩,λh i hi=>⟨h.1 i hi,h.2 _ (mc _ hi)⟩⟩;obtain⟨i,hi,rfl⟩:=rB ([],0) hf;exact(h i hi).2
 grind
def Np{N:Nat}{l:List Field}{p:Nat}(hN:l.length<N)(hl:l.length<=1000000)(a b c:Int):aq5 N N ((p:Int),(0:Int),a,b,c,l)=some (if∀f,f∈l->0<=f.2/\f.2<p then .inr (a,b,c,l)else .inl false):=by
 have key:=gn (l:=l) (a:=(.inr (a,b,c,l):Bool⊕(Int×Int×Int×List Field))) (b:=.inl false) (p:=λf=>!decide (0<=f.2/\f.2<(p:Int))) (Lf:=λk i=>aq5 N k ((p:Int),i,a,b,c,l)) (λk _=>by simp only[aq5.eq_2,aG,af]) (λk i x hx hm=>by
   simp only[aq5.eq_2,aD (aC hx),aq,aB hx,ae,aj (show i<9223372036854775807by have:=aC hx;omega)];by_cases h1:x.2<0;.rw[bv h1,cb (show¬(0<=x.2/\x.2<(p:Int))by omega)];rfl
   .by_cases h2:x.2>=(p:Int);.rw[cb h1,bv h2,cb (show¬(0<=x.2/\x.2<(p:Int))by omega)];rfl
    .rw[cb h1,cb h2,bv (show 0<=x.2/\x.2<(p:Int)by omega)];rfl) (k:=N) hN;rw[key,oK]<;>grind
def BK(a b:Int):(a==b)=decide (a=b):=by grind
def ag8{v:Int}(h:i64 v):decide (0<=au (v-1)/\au (v-1)<16)=decide (1<=v/\v<=16):=by
 unfold i64 at h;by_cases h1:v=-9223372036854775808;.subst h1;rfl
 .rw[aJ (by omega)]<;>grind
def XD{N:Nat}{l:List aA}{i:Nat}(hN:1100<N)(hi:i<l.length)(hf:(bJ l i).2.2.2.length<=1000)(hb:i64 (bJ l i).2.2.1):T8 N (l,(i:Int))=some (decide (cO l.length i (bJ l i))):=by
 have e:idx l (i:Int)=some (bJ l i):=bK _ hi;rw[T8.eq_1,e,ae];unfold cO;generalize bJ l i=t at hf hb;obtain⟨k,el,le,fs⟩:=t;simp only at hf hb⊢;rw[KZ (by omega) (by omega)];simp only[BK,cW,ae,Gy,BJ (show[el,le,(fs.length:Int)].length<N by simp;omega) (by simp),BJ (show[le,(fs.length:Int)].length<N by simp;omega) (by simp),BJ (show[(fs.length:Int)].length<N by simp;omega) (by simp),ag8 hb,fg,wy,lA];by_cases h1:k=1\/k=2\/k=3;.rw[show(decide (k=1)||(decide (k=2)||decide (k=3)))=true by simpa using h1,aq,be h1];congr 1;by_cases a1:el=0<;>by_cases a2:le=0<;>by_cases a3:fs.length=0<;>simp[a1,a2,a3];all_goals(intro h;simp[h]at a3)
 .rw[show(decide (k=1)||(decide (k=2)||decide (k=3)))=false by simpa using h1,af,bi h1];by_cases h2:k=4\/k=7;.rw[show(decide (k=4)||decide (k=7))=true by simpa using h2,aq,be h2,fT];congr 1;by_cases a1:0<=el/\el<(l.length:Int)<;>by_cases a2:le=0<;>by_cases a3:fs.length=0<;>simp[a1,a2,a3];all_goals(intro h;simp[h]at a3)
  .rw[show(decide (k=4)||decide (k=7))=false by simpa using h2,af,bi h2];by_cases h3:k=6;.rw[bv h3,aq,be h3];by_cases a1:0<=el/\el<(i:Int)<;>by_cases a2:1<=le/\le<=16<;>by_cases a3:fs.length=0<;>simp[a1,a2,a3];all_goals(intro h;simp[h]at a3)
   .rw[cb h3,af,bi h3];by_cases h4:k=5
    .rw[bv h4,aq,be h4];by_cases hq:cx fs/\∀f,f∈fs->0<=f.2/\f.2<(i:Int)
     .rw[be hq];simp only;rw[BJ (show[el,le].length<N by simp;omega) (by simp),ae];simp only[fg,wy,lA];have g3:decide ((fs.length:Int)>0)=decide (0<fs.length):=by rw[la];omega
      have g4:decide ((fs.length:Int)<=8)=decide (fs.length<=8):=by rw[la];omega
      rw[g3,g4];by_cases a1:el=0
      .by_cases a2:le=0
       .by_cases a3:0<fs.length
        .by_cases a4:fs.length<=8;.rw[aP (p:=el=0/\le=0/\(0<fs.length/\fs.length<=8)/\cx fs/\∀f,f∈fs->0<=f.2/\f.2<(i:Int)) ⟨a1,a2,⟨a3,a4⟩,hq⟩];simp[a1,a2,a3,a4]
         .rw[aL (p:=el=0/\le=0/\(0<fs.length/\fs.length<=8)/\cx fs/\∀f,f∈fs->0<=f.2/\f.2<(i:Int)) λh=>a4 h.2.2.1.2];simp[a1,a2,a3,a4]
        .rw[aL (p:=el=0/\le=0/\(0<fs.length/\fs.length<=8)/\cx fs/\∀f,f∈fs->0<=f.2/\f.2<(i:Int)) λh=>a3 h.2.2.1.1,cb a3];simp[a1,a2]
       .rw[aL (p:=el=0/\le=0/\(0<fs.length/\fs.length<=8)/\cx fs/\∀f,f∈fs->0<=f.2/\f.2<(i:Int)) λh=>a2 h.2.1,show(le==0)=false by simpa using a2,i6];rfl
      .rw[aL (p:=el=0/\le=0/\(0<fs.length/\fs.length<=8)/\cx fs/\∀f,f∈fs->0<=f.2/\f.2<(i:Int)) λh=>a1 h.1,show(el==0)=false by simpa using a1,pp];rfl
     .rw[bi hq,aL (p:=el=0/\le=0/\(0<fs.length/\fs.length<=8)/\cx fs/\∀f,f∈fs->0<=f.2/\f.2<(i:Int)) λh=>hq ⟨h.2.2.2.1,h.2.2.2.2⟩]
    .rw[cb h4,af,bi h4,aL (p:=False) id]
def Rj{N:Nat}{l:List aA}{i:Nat}(hN:1200<N)(hi:i<l.length)(hf:(bJ l i).2.2.2.length<=1000):VE N (l,(i:Int))=some (decide (cO l.length i (bJ l i))):=by
 have e:idx l (i:Int)=some (bJ l i):=bK _ hi;rw[VE.eq_1,e,ae];unfold cO;generalize bJ l i=t at hf;obtain⟨k,el,le,fs⟩:=t;simp only at hf⊢;rw[Np (by omega) (by omega)];simp only[BK,cW,fT,ae,uC (show fs.length+100<N by omega) (show fs.length<=1000000by omega)];have g0:decide ((fs.length:Int)=0)=decide (fs.length=0):=by rw[la];omega
 by_cases h1:k=1\/k=2\/k=3;.rw[show(decide (k=1)||(decide (k=2)||decide (k=3)))=true by simpa using h1,aq,be h1,g0];congr 1;by_cases a1:el=0<;>by_cases a2:le=0<;>by_cases a3:fs.length=0<;>simp[a1,a2,a3];all_goals(intro h;simp[h]at a3)
 .rw[show(decide (k=1)||(decide (k=2)||decide (k=3)))=false by simpa using h1,af,bi h1];by_cases h2:k=4\/k=7;.rw[show(decide (k=4)||decide (k=7))=true by simpa using h2,aq,be h2,g0];congr 1;by_cases b1:0<=el<;>by_cases b2:el<(l.length:Int)<;>by_cases a2:le=0<;>by_cases a3:fs.length=0<;>simp[b1,b2,a2,a3];all_goals(intro h;simp[h]at a3)
  .rw[show(decide (k=4)||decide (k=7))=false by simpa using h2,af,bi h2];by_cases h3:k=6;.rw[bv h3,aq,be h3,g0];congr 1;by_cases b1:0<=el<;>by_cases b2:el<(i:Int)<;>by_cases a1:1<=le<;>by_cases a2:le<=16<;>by_cases a3:fs.length=0<;>simp[b1,b2,a1,a2,a3];all_goals(intro h;simp[h]at a3)
   .rw[cb h3,af,bi h3];by_cases h4:k=5
    .rw[bv h4,aq,be h4];have g3:decide ((fs.length:Int)>0)=decide (0<fs.length):=by rw[la];omega
     by_cases hq:∀f,f∈fs->0<=f.2/\f.2<(i:Int)
     .rw[be hq];simp only[g3,uC (show fs.length+100<N by omega) (show fs.length<=1000000by omega),ae,fT];by_cases a5:cx fs;.by_cases a1:el=0<;>by_cases a2:le=0<;>by_cases a3:0<fs.length<;>by_cases a4:fs.length<=8;all_goals first|(rw[aP (p:=el=0/\le=0/\(0<fs.length/\fs.length<=8)/\cx fs/\∀f,f∈fs->0<=f.2/\f.2<(i:Int)) ⟨a1,a2,⟨a3,a4⟩,a5,hq⟩,aP a1,aP a2,aP a3,aP (p:=(fs.length:Int)<=8/\cx fs) ⟨by omega,a5⟩];rfl)|(rw[aL (p:=el=0/\le=0/\(0<fs.length/\fs.length<=8)/\cx fs/\∀f,f∈fs->0<=f.2/\f.2<(i:Int)) λh=>a1 h.1,aL a1,pp];done)|(rw[aL (p:=el=0/\le=0/\(0<fs.length/\fs.length<=8)/\cx fs/\∀f,f∈fs->0<=f.2/\f.2<(i:Int)) λh=>a2 h.2.1,aL a2,pp,i6];done)|(rw[aL (p:=el=0/\le=0/\(0<fs.length/\fs.length<=8)/\cx fs/\∀f,f∈fs->0<=f.2/\f.2<(i:Int)) λh=>a3 h.2.2.1.1,aL a3,pp,i6,i6];done)|(rw[aL (p:=el=0/\le=0/\(0<fs.length/\fs.length<=8)/\cx fs/\∀f,f∈fs->0<=f.2/\f.2<(i:Int)) λh=>a4 h.2.2.1.2,aL (p:=(fs.length:Int)<=8/\cx fs) λh=>a4 (by omega),i6,i6,i6];done)
      .rw[aL (p:=el=0/\le=0/\(0<fs.length/\fs.length<=8)/\cx fs/\∀f,f∈fs->0<=f.2/\f.2<(i:Int)) λh=>a5 h.2.2.2.1,aL (p:=(fs.length:Int)<=8/\cx fs) λh=>a5 h.2,i6,i6,i6]
     .rw[bi hq,aL (p:=el=0/\le=0/\(0<fs.length/\fs.length<=8)/\cx fs/\∀f,f∈fs->0<=f.2/\f.2<(i:Int)) λh=>hq h.2.2.2.2]
    .rw[cb h4,af,bi h4,aL (p:=False) id]
def cO.fields{n i:Nat}{t:aA}(h:cO n i t):(t.1=5\/t.2.2.2=[])/\t.2.2.2.length<=8/\∀f,f∈t.2.2.2->0<=f.2/\f.2<i:=by
 have nil:t.2.2.2.length=0->(t.1=5\/t.2.2.2=[])/\t.2.2.2.length<=8/\∀f,f∈t.2.2.2->0<=f.2/\f.2<i:=λh=>by have e:=fa h;rw[e];exact⟨.inr rfl,by simp,λf hf=>by cases hf⟩
 unfold cO at h<;>grind
def cO.ptr{n i:Nat}{t:aA}(h:cO n i t)(hk:t.1=4\/t.1=7):0<=t.2.1/\t.2.1<n:=by unfold cO at h<;>grind
def cO.arr{n i:Nat}{t:aA}(h:cO n i t)(hk:t.1=6):(0<=t.2.1/\t.2.1<i)/\1<=t.2.2.1/\t.2.2.1<=16:=by unfold cO at h<;>grind
def pT(out:List Int):List Field->Int|[]=>0|f::r=>out.getD f.2.toNat 0+pT out r
def A1(below out:List Int)(t:aA):Int:=min (1+(if t.1=4then below.getD t.2.1.toNat 0 else if t.1=7then 16*below.getD t.2.1.toNat 0 else if t.1=6then t.2.2.1*out.getD t.2.1.toNat 0 else 0)+pT out t.2.2.2) 5001
def jS(below:List Int)(l:List aA):Nat->List Int|0=>[]|i+1=>jS below l i++[A1 below (jS below l i) (bJ l i)]
def W(l:List Int):Prop:=∀x,x∈l->0<=x/\x<=5001
def uD(below:List Int)(l:List aA):∀i,(jS below l i).length=i|0=>rfl|i+1=>by simp[jS,uD below l i]
def W.getD{l:List Int}(h:W l)(i:Nat):0<=l.getD i 0/\l.getD i 0<=5001:=by rw[da];cases e:l[i]?with|none=>simp|some x=>exact h x (aS e)
def BL{out:List Int}(h:W out):∀fs:List Field,0<=pT out fs/\pT out fs<=fs.length*5001|[]=>by simp[pT]|f::r=>by have:=BL h r;have:=h.getD f.2.toNat;simp only[pT,eK];omega
def XE{below out:List Int}{n i:Nat}{t:aA}(hb:W below)(ho:W out)(ht:cO n i t):0<=A1 below out t/\A1 below out t<=5001:=by
 unfold A1;have:=BL ho t.2.2.2;have h1:=hb.getD t.2.1.toNat;have h2:=ho.getD t.2.1.toNat;have:0<=(if t.1=4then below.getD t.2.1.toNat 0 else if t.1=7then 16*below.getD t.2.1.toNat 0 else if t.1=6then t.2.2.1*out.getD t.2.1.toNat 0 else 0):=by
  split;.omega
  .split;.omega
   .split;.rename_i h6;exact vx (by have:=ht.arr h6;omega) h2.1
    .omega
 omega
def zw{below:List Int}{l:List aA}(hb:W below):∀i,i<=l.length->(∀j,j<l.length->cO l.length j (bJ l j))->W (jS below l i)
 |0,_,_=>λx hx=>by cases hx|i+1,hi,ht=>λx hx=>by
  simp[jS,bm,ca]at hx;rcases hx with hx|rfl;.exact zw hb i (by omega) ht x hx
  .exact XE hb (zw hb i (by omega) ht) (ht i (by omega))
def DV{α:Type}{a b:List α}{i:Nat}(d:α)(h:i<a.length):(a++b).getD i d=a.getD i d:=by grind
def K0{a b:List Int}:∀{fs:List Field},(∀f,f∈fs->0<=f.2/\f.2<a.length)->pT (a++b) fs=pT a fs|[],_=>rfl|f::r,h=>by have:=h f ci;rw[pT,pT,DV _ (by omega),K0 λg hg=>h g (dp _ hg)]
def me{l:List Int}{i:Nat}(h:i<l.length):l[i]?=some (l.getD i 0):=by grind
def qj{x:Int}{n:Nat}(h:0<=x/\x<n):fM x n=true:=by grind[fM]
def XF{N:Nat}{fs:List Field}{now below:List Int}(auU:W now)(a:List aA)(b c:Int)(d:List aA)(e g:Int)(hl:fs.length<=1000):∀(r pre:List Field)(n:Int)(k:Nat),fs=pre++r->(∀f,f∈r->0<=f.2/\f.2<now.length)->0<=n->n<=100000+pre.length*5001->r.length<k->ai0 N k (a,b,n,c,d,e,g,fs,(fs.length:Int),(pre.length:Int),below,now)=some (a,b,n+pT now r,c,d,e,g,below,now):=by intro r;induction r with|nil=>intro pre n k he _ _ _ hk;obtain⟨k,rfl⟩:∃k',k=k'+1:=⟨k-1,by simp at hk;omega⟩;simp at he;subst he;rw[ai0.eq_2,aG,af,pT,pu]|cons x r ih=>
 intro pre n k he hf h0 hn hk;obtain⟨k,rfl⟩:∃k',k=k'+1:=⟨k-1,by simp at hk;omega⟩;have hlen:pre.length+(r.length+1)=fs.length:=by rw[he];simp
 have hx:idx fs (pre.length:Int)=some x:=by rw[he];exact sr _ _ _
 have hx2:=hf x ci;have hg:=auU.getD x.2.toNat;have ih:=ih (pre++[x]) (n+now.getD x.2.toNat 0) k (by rw[he];simp) (λf h=>hf f (dp _ h)) (by omega) (by rw[bc,dl];omega) (by simp at hk;omega);rw[ai0.eq_2,aD (by omega),aq,hx,ae,qj hx2,ah,me (by omega),ae,aJ (by omega),aj (by omega)];rw[show((pre++[x]).length:Int)=((pre.length+1:Nat):Int)by simp]at ih;rw[ih,pT,Int.add_assoc]
def O1(n:Nat):W (List.replicate n 0):=λx hx=>by grind
def W.app{a b:List Int}(ha:W a)(hb:W b):W (a++b):=λx hx=>(bm.1 hx).elim (ha x) (hb x)
def O2{a:List Int}{n i:Nat}{v:Int}(ha:a.length=i)(hi:i<n):(a++List.replicate (n-i) 0).set i v=(a++[v])++List.replicate (n-(i+1)) 0:=by rw[rl _ _ (by omega),show n-i=(n-(i+1))+1by omega,py,show i-a.length=0 by omega,bj];rfl
def zx(l:List aA):Prop:=∀i,i<l.length->cO l.length i (bJ l i)
def ag9{N:Nat}{l:List aA}{below:List Int}(hN:1000<N)(hl:l.length<=100)(ht:zx l)(hb:W below)(Fk:below.length=l.length)(r:Int):
 Ly N N (l,r,l,(l.length:Int),(0:Int),below,List.replicate l.length 0)=some (l,r,jS below l l.length):=by have key:=dI (n:=l.length) (Lf:=λk i=>Ly N k (l,r,l,(l.length:Int),i,below,jS below l i.toNat++List.replicate (l.length-i.toNat) 0)) (g:=λ_=>some (l,r,jS below l l.length)) (λk=>by simp only[Ly.eq_2,aG,af,am,qr,m8,dv]) (λk i hi ih=>by
   have e:idx l (i:Int)=some (bJ l i):=bK _ hi;have ht':=ht i hi;have hf:=ht'.fields;have hW:=zw (i:=i) (l:=l) hb (by omega) ht;have K1:=uD below l i;have hnl:(jS below l i++List.replicate (l.length-i) (0:Int)).length=l.length:=by simp[K1];omega
   have hWn:W (jS below l i++List.replicate (l.length-i) 0):=hW.app (O1 _);have auV:pT (jS below l i++List.replicate (l.length-i) 0) (bJ l i).2.2.2=pT (jS below l i) (bJ l i).2.2.2:=K0 λf h=>by have:=hf.2.2 f h;rw[K1];exact this
   have Nq:∀v:Int,(jS below l i++List.replicate (l.length-i) 0).set i v=(jS below l i++[v])++List.replicate (l.length-(i+1)) 0:=λv=>O2 K1 hi;have fin:∀n:Int,0<=n->n<=100000->1+(if(bJ l i).1=4then below.getD (bJ l i).2.1.toNat 0 else if(bJ l i).1=7then 16*below.getD (bJ l i).2.1.toNat 0 else if(bJ l i).1=6then(bJ l i).2.2.1*(jS below l i).getD (bJ l i).2.1.toNat 0 else 0)=n->(Option.bind (ai0 N N (l,(i:Int),n,r,l,(l.length:Int),(i:Int),(bJ l i).2.2.2,((bJ l i).2.2.2.length:Int),(0:Int),below,jS below l i++List.replicate (l.length-i) 0)) λRk=>(aH (fM Rk.2.1 Rk.2.2.2.2.2.2.2.2.length) ((Option.bind (Rk.2.2.2.2.2.2.2.2[(Int.toNat Rk.2.1)]?) λx32=>Ly N k (Rk.1,Rk.2.2.2.1,Rk.2.2.2.2.1,Rk.2.2.2.2.2.1,(au (Rk.2.2.2.2.2.2.1+(1:Int))),Rk.2.2.2.2.2.2.2.1,(Rk.2.2.2.2.2.2.2.2.set (Int.toNat Rk.2.1) (min Rk.2.2.1 (5001:Int))))))))=some (l,r,jS below l l.length):=by intro n h0 hn he;have:=XF (N:=N) (below:=below) hWn l (i:Int) r l (l.length:Int) (i:Int) (fs:=(bJ l i).2.2.2) (by omega) (bJ l i).2.2.2 [] n N rfl (λf h=>by rw[hnl];have:=hf.2.2 f h;omega) h0 (by simp;omega) (by omega);rw[show(([]:List Field).length:Int)=0from rfl]at this;rw[this,ae];simp only[am];rw[hnl,bQ hi,ah,me (by rw[hnl];exact hi),ae,aj (by omega),Nq,auV];simp only[am]at ih;rw[jS,A1,he]at ih;exact ih
   have hbd:=hb.getD (bJ l i).2.1.toNat;have hod:=hW.getD (bJ l i).2.1.toNat;simp only[Ly.eq_2,aD hi,aq,e,ae,am];by_cases h4:(bJ l i).1=4;.have hp:=ht'.ptr (.inl h4);rw[be h4]at fin;rw[show((bJ l i).1==(4:Int))=true by simp[h4],aq,qj (by omega),ah,me (by omega),ae,aJ (by omega)];exact fin _ (by omega) (by omega) rfl
   .rw[show((bJ l i).1==(4:Int))=false by simp[h4],af];rw[bi h4]at fin;by_cases h7:(bJ l i).1=7;.have hp:=ht'.ptr (.inr h7);rw[be h7]at fin;rw[show((bJ l i).1==(7:Int))=true by simp[h7],aq,qj (by omega),ah,me (by omega),ae,aJ (n:=16*_) (by omega),aJ (by omega)];exact fin _ (by omega) (by omega) rfl
    .rw[show((bJ l i).1==(7:Int))=false by simp[h7],af];rw[bi h7]at fin;by_cases h6:(bJ l i).1=6;.have hp:=ht'.arr h6;rw[be h6]at fin;have hm:0<=(bJ l i).2.2.1*(jS below l i).getD (bJ l i).2.1.toNat 0/\(bJ l i).2.2.1*(jS below l i).getD (bJ l i).2.1.toNat 0<=16*5001:=⟨vx (by omega) hod.1,vy (by omega) hod.2 hod.1 (by omega)⟩;rw[show((bJ l i).1==(6:Int))=true by simp[h6],aq,qj (by rw[hnl];omega),ah,me (by rw[hnl];omega),ae,DV _ (by rw[K1];omega),aJ (n:=(bJ l i).2.2.1*_) (by omega),aJ (by omega)];exact fin _ (by omega) (by omega) rfl
     .rw[show((bJ l i).1==(6:Int))=false by simp[h6],af];rw[bi h6]at fin;exact fin 1 (by omega) (by omega) rfl) N 0 (by omega) (by omega);simpa[jS]using key
def wR(l:List aA):Nat->List Int|0=>jS (List.replicate l.length 0) l l.length|d+1=>jS (wR l d) l l.length
def DW{l:List aA}(ht:zx l):∀d,W (wR l d)/\(wR l d).length=l.length|0=>⟨zw (O1 _) _ (by omega) ht,uD _ _ _⟩|d+1=>⟨zw (DW ht d).1 _ (by omega) ht,uD _ _ _⟩
def Rl{N:Nat}{l:List aA}(hN:1000<N)(hl:l.length<=100)(ht:zx l):Uc N l=some (wR l 3):=by
 have hr:(decide (Int.toNat (l.length:Int)<=Int.toNat (l.length:Int))&&room (Int.toNat (l.length:Int)) 8)=true:=by rw[bv (bd _),ak (by omega) (by omega)];rfl
 have h0:decide (0<=(l.length:Int))=true:=bv (by omega);have step:∀(j:Nat)(b:List Int)k,j<4->W b->b.length=l.length->Pi N (k+1) (l,(j:Int),b)=Pi N k (l,((j+1:Nat):Int),jS b l l.length):=λj b k hj hb Fk=>by rw[Pi.eq_2,bv (by omega),aq,h0,ah,ah,hr,ah,am,ag9 hN hl ht hb Fk,ae];simp only;rw[aj (by omega)]
 obtain⟨k,rfl⟩:∃k,N=k+5:=⟨N-5,by omega⟩;rw[Uc.eq_1,h0,ah,hr,ah,am];have s0:=step 0 (List.replicate l.length 0) (k+4) (by omega) (O1 _) (by simp);have s1:=step 1 _ (k+3) (by omega) (DW ht 0).1 (DW ht 0).2;have s2:=step 2 _ (k+2) (by omega) (DW ht 1).1 (DW ht 1).2;have s3:=step 3 _ (k+1) (by omega) (DW ht 2).1 (DW ht 2).2;have e:Pi (k+5) (k+5) (l,(0:Int),List.replicate l.length 0)=some (wR l 3):=by refine s0.trans (s1.trans (s2.trans (s3.trans ?_)));rfl
 rw[e];rfl
def partsOf(t:aA):List Int:=(if t.1=6then[t.2.1]else[])++t.2.2.2.map (·.2)
def n6{α β:Type}(g:α->β):∀fs:List α,fs.flatMap (λf=>[g f])=fs.map g|[]=>rfl|x::r=>by rw[eQ,n6 g r];rfl
def K2{N:Nat}{t:aA}(hN:1100<N)(hf:t.2.2.2.length<=1000):QS N (t.1,t.2.1,t.2.2.1,t.2.2.2)=some (partsOf t):=by
 obtain⟨k,el,le,fs⟩:=t;simp only at hf⊢;rw[QS.eq_1];have key:=λs(hs:s.length<=1)=>fH (l:=fs) (enc:=λf:Field=>[f.2]) (g:=id) (B:=10000) (m:=1) (Lf:=λk' i(s:List Int)=>aq6 N k' (i,k,el,le,fs,s)) (λk' s=>by simp only[aq6.eq_2,aG,af];rfl) (λk' i x s hx hm hs=>by simp only[aq6.eq_2,aD (aC hx),aq,aB hx,ae,ak (show s.length+1<=10000000by omega) (show 8<=1000by omega),ah,aj (show i<9223372036854775807by have:=aC hx;omega)]) (λx _=>by simp) (k:=N) (s:=s) (by omega) (by omega);rw[n6]at key;unfold partsOf;by_cases h:k=6;.rw[show(k==(6:Int))=true by simp[h],aq,ak (by omega) (by omega),ah,ge,key [el] (by simp)];simp[h]
 .rw[show(k==(6:Int))=false by simp[h],af,key [] (by simp)];simp[h]
def Il(t:aA):Int:=if t.1=6then t.2.2.1else 1
def EU(out:List Int)(t:aA):Int->List Int->Int|n,[]=>n|n,q::r=>EU out t (min (n+Il t*out.getD q.toNat 0) 5001) r
def ape{n i:Nat}{t:aA}(h:cO n i t):1<=Il t/\Il t<=16:=by
 unfold Il;split;.exact(h.arr ‹_›).2
 .omega
def aha{a b:Int}(ha:1<=a/\a<=16)(hb:0<=b/\b<=5001):0<=a*b/\a*b<=80016:=⟨vx (by omega) hb.1,Hb (vy ha.2 hb.2 hb.1 (by omega)) (by omega)⟩
def Nr{N:Nat}{R:List aA×Int->Option (List Int)}{l:List aA}{i:Nat}(hi:i<l.length)(ht:cO l.length i (bJ l i)){out:List Int}(ho:W out)(d:Int)(below:List Int)(ps:List Int)(hl:ps.length<=1000):∀(r pre:List Int)(n:Int)(k:Nat),ps=pre++r->(∀q,q∈r->0<=q/\q<out.length)->0<=n->n<=5001->r.length<k->ac8 N R k (l,d,below,out,(i:Int),n,ps,(pre.length:Int))=some (l,d,below,out,(i:Int),EU out (bJ l i) n r):=by intro r;have e:idx l (i:Int)=some (bJ l i):=bK _ hi;induction r with|nil=>intro pre n k he _ _ _ hk;obtain⟨k,rfl⟩:∃k',k=k'+1:=⟨k-1,by simp at hk;omega⟩;simp at he;subst he;rw[ac8.eq_2,aG,af,EU]|cons x r ih=>
 intro pre n k he hf h0 hn hk;obtain⟨k,rfl⟩:∃k',k=k'+1:=⟨k-1,by simp at hk;omega⟩;have hlen:pre.length+(r.length+1)=ps.length:=by rw[he];simp
 have hx:idx ps (pre.length:Int)=some x:=by rw[he];exact sr _ _ _
 have hx2:=hf x ci;have hg:=aha (ape ht) (ho.getD x.toNat);have ih:=ih (pre++[x]) (min (n+Il (bJ l i)*out.getD x.toNat 0) 5001) k (by rw[he];simp) (λf h=>hf f (dp _ h)) (by omega) (by omega) (by simp at hk;omega);have hb:(Option.bind ((bif((bJ l i).1==(6:Int))then(Option.bind (idx l (i:Int)) λx17=>some x17.2.2.1)else some (1:Int))) λb18=>(Option.bind (idx ps (pre.length:Int)) λx19=>(Option.bind (idx out x19) λx20=>ac8 N R k (l,d,below,out,(i:Int),(min (au (n+(au (b18*x20)))) (5001:Int)),ps,(au ((pre.length:Int)+(1:Int)))))))=ac8 N R k (l,d,below,out,(i:Int),min (n+Il (bJ l i)*out.getD x.toNat 0) 5001,ps,((pre.length+1:Nat):Int)):=by
  have ex:idx out x=some (out.getD x.toNat 0):=pM hx2.1 (me (by omega));unfold Il at hg⊢;by_cases h6:(bJ l i).1=6;.rw[be h6]at hg⊢;rw[show((bJ l i).1==(6:Int))=true by simp[h6],aq,e,ae,ae,hx,ae,ex,ae,aJ (n:=(bJ l i).2.2.1*_) (by omega),aJ (by omega),aj (by omega)]
  .rw[bi h6]at hg⊢;rw[show((bJ l i).1==(6:Int))=false by simp[h6],af,ae,hx,ae,ex,ae,aJ (n:=1*_) (by omega),aJ (by omega),aj (by omega)]
 rw[ac8.eq_2,aD (by omega),aq,e,ae,<-e,hb];rw[show((pre++[x]).length:Int)=((pre.length+1:Nat):Int)by simp]at ih;rw[ih,EU]
def A2{out:List Int}{t:aA}(ho:W out)(h6:t.1≠6):∀(fs:List Field)(n:Int),0<=n->n<=5001->EU out t n (fs.map (·.2))=min (n+pT out fs) 5001|[],n,h0,hn=>by rw[lc,EU,pT];omega|f::r,n,h0,hn=>by have hg:=ho.getD f.2.toNat;have hs:=BL ho r;rw[gc,EU,Il,bi h6,A2 ho h6 r _ (by omega) (by omega),pT];omega
def ahb{out:List Int}{n i:Nat}{t:aA}(ho:W out)(ht:cO n i t):EU out t 1 (partsOf t)=min (1+(if t.1=6then t.2.2.1*out.getD t.2.1.toNat 0 else 0)+pT out t.2.2.2) 5001:=by
 unfold partsOf;by_cases h6:t.1=6;.have hf:t.2.2.2=[]:=ht.fields.1.resolve_left (by omega);rw[be h6,hf,lc,dv,EU,EU,Il,be h6,pT];omega
 .rw[bi h6,ge,A2 ho h6 _ _ (by omega) (by omega)];omega
def XG(n i:Nat):(List.replicate n (0:Int)).getD i 0=0:=by grind
def La{N:Nat}{R:List aA×Int->Option (List Int)}{l:List aA}(hN:1100<N)(hl:l.length<=100)(ht:zx l)(hf:∀i,i<l.length->(bJ l i).2.2.2.length<=1000){d:Nat}{below b':List Int}(hb':W b')(hd:d=0/\b'=List.replicate l.length 0\/0<d/\d<=10/\below=b'/\b'.length=l.length):
 If N R N (l,(d:Int),below,[],(0:Int))=some (jS b' l l.length):=by have key:=dI (n:=l.length) (Lf:=λk i=>If N R k (l,(d:Int),below,jS b' l i.toNat,i)) (g:=λ_=>some (jS b' l l.length)) (λk=>by simp only[If.eq_2,aG,af,am]) (λk i hi ih=>by
   have e:idx l (i:Int)=some (bJ l i):=bK _ hi;have ht':=ht i hi;have Zo:=ht'.fields;have hW:=zw (i:=i) (l:=l) hb' (by omega) ht;have K1:=uD b' l i;have hps:∀q,q∈partsOf (bJ l i)->0<=q/\q<(jS b' l i).length:=by
    intro q hq;rw[K1];unfold partsOf at hq;rw[bm]at hq;rcases hq with hq|hq
    .split at hq;.rw[ca]at hq;subst hq;exact(ht'.arr ‹_›).1
     .cases hq
    .obtain⟨f,h1,rfl⟩:=j1.1 hq;exact Zo.2.2 f h1
   have hpl:(partsOf (bJ l i)).length<=1000:=by
    unfold partsOf;rw[bc,iv];split;.simp;omega
    .simp;omega
   have hin:=Nr (N:=N) (R:=R) hi ht' hW (d:Int) below (partsOf (bJ l i)) hpl (partsOf (bJ l i)) [] 1 N rfl hps (by omega) (by omega) (by omega);rw[show(([]:List Int).length:Int)=0from rfl,ahb hW ht']at hin;simp only[am]at ih⊢;rw[jS]at ih;have hbd:=hb'.getD (bJ l i).2.1.toNat;have hod:=hW.getD (bJ l i).2.1.toNat;have hsb:=BL hW (bJ l i).2.2.2;have hroom:room ((jS b' l i).length+1) 8=true:=ak (by omega) (by omega);have fin:∀b31:Int,b31=A1 b' (jS b' l i) (bJ l i)->If N R k (l,(d:Int),below,jS b' l i++[b31],((i+1:Nat):Int))=some (jS b' l l.length):=by rintro _ rfl;exact ih
   simp only[If.eq_2,aD hi,aq,e,ae,K2 (t:=bJ l i) hN (hf i hi),hin,hroom,ah,aj (show i<9223372036854775807by omega)];rcases hd with⟨rfl,hd⟩|⟨hd,aBp,rfl,Fk⟩;.rw[show decide (((0:Nat):Int)>0)=false from rfl,af,af,ae,af,ae,ae,af,ae];refine fin _ ?_;unfold A1;rw[hd,XG];split<;>(try split)<;>(try split)<;>first|omega|rfl
   .rw[bv (show(d:Int)>0 by omega),aq,aq,ae];unfold A1 at fin;by_cases h4:(bJ l i).1=4;.have hp:=ht'.ptr (.inl h4);have hfs:(bJ l i).2.2.2=[]:=Zo.1.resolve_left (by omega);rw[show((bJ l i).1==(4:Int))=true by simp[h4],aq,pM hp.1 (me (by omega)),ae,ae,ae,show((bJ l i).1==(7:Int))=false by simp[h4],af,ae,bi (by omega)];refine fin _ ?_;rw[be h4,hfs,pT,aJ (by omega)];omega
    .rw[show((bJ l i).1==(4:Int))=false by simp[h4],af,ae,ae];rw[bi h4]at fin;by_cases h7:(bJ l i).1=7;.have hp:=ht'.ptr (.inr h7);have hfs:(bJ l i).2.2.2=[]:=Zo.1.resolve_left (by omega);rw[show((bJ l i).1==(7:Int))=true by simp[h7],aq,pM hp.1 (me (by omega)),ae,ae,bi (by omega)];refine fin _ ?_;rw[be h7,hfs,pT,aJ (n:=16*_) (by omega),aJ (by omega)];omega
     .rw[show((bJ l i).1==(7:Int))=false by simp[h7],af,ae];rw[bi h7]at fin;exact fin _ rfl) N 0 (by omega) (by omega);simpa[jS]using key
def A3{l:List aA}(hl:l.length<=100)(ht:zx l)(hf:∀i,i<l.length->(bJ l i).2.2.2.length<=1000):∀(d N:Nat),d<=10->1200+d<N->DA N (l,(d:Int))=some (wR l d)|0,N,_,hN=>by obtain⟨N,rfl⟩:∃k,N=k+1:=⟨N-1,by omega⟩;rw[DA.eq_2,show decide (((0:Nat):Int)>0)=false from rfl,af,La (by omega) hl ht hf (O1 l.length) (.inl ⟨rfl,rfl⟩)];rfl|d+1,N,hd,hN=>by obtain⟨N,rfl⟩:∃k,N=k+1:=⟨N-1,by omega⟩;rw[DA.eq_2,bv (by omega),aq,aJ (by omega),show((d+1:Nat):Int)-1=(d:Int)by omega,A3 hl ht hf d N (by omega) (by omega),ae,La (by omega) hl ht hf (DW ht d).1 (.inr ⟨by omega,by omega,rfl,(DW ht d).2⟩)];rfl
def eC(l:List aA):Prop:=l.length<=32/\zx l/\∀x,x∈wR l 3->x<=5000
def uE(l:List aA):Prop:=l.length<=100/\∀i,i<l.length->(bJ l i).2.2.2.length<=1000/\i64 (bJ l i).2.2.1
def u9{N:Nat}{l:List aA}(hN:1300<N)(hl:uE l):F74 N l=some (if eC l then 0 else 8):=by
 rw[F74.eq_1];by_cases Rm:l.length<=32
 .rw[cb (show¬(l.length:Int)>32by omega),af];have key:=gJ (n:=l.length) (a:=(.inr l:Int⊕List aA)) (b:=.inl 8) (q:=λi=>!decide (cO l.length i (bJ l i))) (Lf:=λk i=>aw5 N k (l,(l.length:Int),i)) (λk _=>by simp only[aw5.eq_2,aG,af]) (λk i hi _=>by
    simp only[aw5.eq_2,aD hi,aq,XD (show 1100<N by omega) hi (hl.2 i hi).1 (hl.2 i hi).2,ae,aj (show i<9223372036854775807by omega)];by_cases ht:cO l.length i (bJ l i);.rw[aP ht];rfl
    .rw[aL ht];rfl) (k:=N) (by omega);rw[key,sv,ae];by_cases hall:zx l
  .rw[be (show∀i,i<l.length->decide (cO l.length i (bJ l i))=true fromλi hi=>aP (hall i hi))];simp;rw[Rl (by omega) hl.1 hall,ae];have hW:=DW hall 3;have Ns:=gn (l:=wR l 3) (a:=(.inr ():Int⊕Unit)) (b:=.inl 8) (p:=λx=>!decide (x<=5000)) (Lf:=λk i=>aw6 N k (wR l 3,((wR l 3).length:Int),i)) (λk _=>by simp only[aw6.eq_2,aG,af]) (λk i x hx hm=>by
     simp only[aw6.eq_2,aD (aC hx),aq,aB hx,ae,aj (show i<9223372036854775807by have:=aC hx;omega)];by_cases h5:x<=5000;.rw[aL (show¬x>5000by omega),aP h5];rfl
     .rw[aP (show x>5000by omega),aL h5];rfl) (k:=N) (by omega);rw[Ns,oK,ae];by_cases h5:∀x,x∈wR l 3->x<=5000;.rw[be λx hx=>aP (h5 x hx),be ⟨Rm,hall,h5⟩]
   .rw[bi λh=>h5 λx hx=>dE (h x hx),bi λh=>h5 h.2.2]
  .rw[bi λh=>hall λi hi=>dE (h i hi),bi λh=>hall h.2.1]
 .rw[bv (show(l.length:Int)>32by omega),aq,bi λh=>Rm h.1]
def DX{N:Nat}{l:List aA}(hN:1300<N)(hl:uE l):QT N l=some (if eC l then 0 else 8):=by
 rw[QT.eq_1];by_cases Rm:l.length<=32
 .rw[cb (show¬(l.length:Int)>32by omega),af];have key:=gJ (n:=l.length) (a:=(.inr l:Int⊕List aA)) (b:=.inl 8) (q:=λi=>!decide (cO l.length i (bJ l i))) (Lf:=λk i=>aA0 N k (l,i)) (λk _=>by simp only[aA0.eq_2,aG,af]) (λk i hi _=>by
    simp only[aA0.eq_2,aD hi,aq,Rj (show 1200<N by omega) hi (hl.2 i hi).1,ae,aj (show i<9223372036854775807by omega)];by_cases ht:cO l.length i (bJ l i);.rw[aP ht];rfl
    .rw[aL ht];rfl) (k:=N) (by omega);rw[key,sv,ae];by_cases hall:zx l
  .rw[be (show∀i,i<l.length->decide (cO l.length i (bJ l i))=true fromλi hi=>aP (hall i hi))];simp;have hw:=A3 hl.1 hall (λi hi=>(hl.2 i hi).1) 3 N (by omega) (by omega);simp at hw;rw[hw,ae];have hW:=DW hall 3;have Ns:=gn (l:=wR l 3) (a:=(.inr ():Int⊕Unit)) (b:=.inl 8) (p:=λx=>!decide (x<=5000)) (Lf:=λk i=>aA1 N k (l,wR l 3,i)) (λk _=>by simp only[aA1.eq_2,hW.2,aG,af]) (λk i x hx hm=>by
     have:=aC hx;rw[hW.2]at this;simp only[aA1.eq_2,aD this,aq,aB hx,ae,aj (show i<9223372036854775807by omega)];by_cases h5:x<=5000;.rw[aL (show¬x>5000by omega),aP h5];rfl
     .rw[aP (show x>5000by omega),aL h5];rfl) (k:=N) (by omega);rw[Ns,oK,ae];by_cases h5:∀x,x∈wR l 3->x<=5000;.rw[be λx hx=>aP (h5 x hx),be ⟨Rm,hall,h5⟩]
   .rw[bi λh=>h5 λx hx=>dE (h x hx),bi λh=>h5 h.2.2]
  .rw[bi λh=>hall λi hi=>dE (h i hi),bi λh=>hall h.2.1]
 .rw[bv (show(l.length:Int)>32by omega),aq,bi λh=>Rm h.1]
def up(a s:Int):Int:=(s+a-1)/a*a
def Im(s:Int):up 1 s=s:=by unfold up;omega
def yh(s:Int):up 8 s=(s+7)/8*8:=by unfold up;omega
def AL(a:Int):Prop:=a=1\/a=8
def oF{a s:Int}(ha:AL a)(hs:0<=s):s<=up a s/\up a s<=s+7:=by
 rcases ha with rfl|rfl;.rw[Im];omega
 .rw[yh];omega
def Io{a s C:Int}(ha:AL a)(hC:C%8=0)(hs:s<=C):up a s<=C:=by
 rcases ha with rfl|rfl;.rw[Im];omega
 .rw[yh];omega
def aaL(n:Nat)(hn:n<18446744073709551616):(BitVec.ofNat 64 n&&&~~~(7#64)).toNat=n/8*8:=by
 have e:n/8*8=(n>>>3)<<<3:=by omega
 rw[e];refine Nat.eq_of_testBit_eq λk=>?_;rw[BitVec.toNat_and,Nat.testBit_and,pd,rm hn,BitVec.testBit_toNat,BitVec.getLsbD_not,Nat.testBit_shiftLeft,Nat.testBit_shiftRight];rcases i9 k 64with h|h
 .rw[bv h,ft];by_cases h3:k<3
  .have:k=0\/k=1\/k=2:=by omega
   rcases this with rfl|rfl|rfl<;>simp
  .rw[bv (show k>=3by omega),ft,show 3+(k-3)=k by omega];have:(7#64).getLsbD k=false:=by rw[BitVec.getLsbD_ofNat,t6 (x:=7) (i:=k) (lj (show 7<2^3by omega) (po (by omega) (by omega))),i6]
   grind
 .have h1:n.testBit k=false:=t6 (lj hn (by rw[show 18446744073709551616=2^64by decide];exact po (by omega) h))<;>grind
def sw{a s:Int}(ha:AL a)(hs:0<=s/\s<=4000000):qf .i64 (au ((au (s+a))-(1:Int))) (au (a-(1:Int)))=up a s:=by
 rcases ha with rfl|rfl
 .rw[aJ (n:=s+1) (by omega),show s+1-1=s by omega,aJ (by omega),show au ((1:Int)-1)=0from by decide,Im];obtain⟨n,rfl⟩:=bo hs.1;unfold qf;have e:(BitVec.ofInt IntKind.i64.bits ((n:Nat):Int)&&&~~~(BitVec.ofInt IntKind.i64.bits 0)).toNat=n:=by show(BitVec.ofInt 64 ((n:Nat):Int)&&&~~~(BitVec.ofInt 64 0)).toNat=n;rw[show~~~(BitVec.ofInt 64 0)=BitVec.allOnes 64by decide,BitVec.and_allOnes,ns,pd];omega
  rw[e];exact aJ (by omega)
 .rw[aJ (n:=s+8) (by omega),show s+8-1=s+7by omega,aJ (by omega),show au ((8:Int)-1)=7from by decide,yh];obtain⟨n,rfl⟩:=bo hs.1;unfold qf;have e:(BitVec.ofInt IntKind.i64.bits ((n:Int)+7)&&&~~~(BitVec.ofInt IntKind.i64.bits 7)).toNat=(n+7)/8*8:=by show(BitVec.ofInt 64 ((n:Int)+7)&&&~~~(BitVec.ofInt 64 7)).toNat=_;rw[show(n:Int)+7=((n+7:Nat):Int)by omega,ns];exact aaL _ (by omega)
  rw[e,show IntKind.i64.wrap (((n+7)/8*8:Nat):Int)=(((n+7)/8*8:Nat):Int)from aJ (by omega)];omega
def BM{N:Nat}{a s:Int}(ha:AL a)(hs:0<=s/\s<=4000000):Na N (s,a)=some (up a s):=by
 rw[Na.eq_1];rcases ha with rfl|rfl;.rw[show(!decide ((1:Int)=0))=true from rfl,ah,aJ (n:=s+1) (by omega),show s+1-1=s by omega,aJ (n:=s) (by omega),Int.tdiv_one,aJ (n:=s) (by omega),aJ (by omega),Im,Int.mul_one]
 .rw[show(!decide ((8:Int)=0))=true from rfl,ah,aJ (n:=s+8) (by omega),show s+8-1=s+7by omega,aJ (n:=s+7) (by omega),Int.tdiv_eq_ediv_of_nonneg (by omega),aJ (n:=(s+7)/8) (by omega),aJ (by omega),yh]
abbrev Ex:=Int×Int
def eD(x:List Ex)(i:Int):Ex:=x.getD i.toNat (0,1)
def fu(C:Int)(x:List Ex):Int->Int->List Field->List Int×Int×Int|s,a,[]=>([],s,a)|s,a,f::r=>let q:=fu C x (min C (up (eD x f.2).2 s+(eD x f.2).1)) (max a (eD x f.2).2) r;(up (eD x f.2).2 s::q.1,q.2.1,q.2.2)
def EX(C:Int)(x:List Ex):Prop:=∀e,e∈x->AL e.2/\0<=e.1/\e.1<=C
def EX.get{C:Int}(hC:0<=C){x:List Ex}(h:EX C x)(i:Int):AL (eD x i).2/\0<=(eD x i).1/\(eD x i).1<=C:=by unfold eD;rw[da];cases e:x[i.toNat]?with|none=>exact⟨.inl rfl,by show(0:Int)<=0;omega,hC⟩|some y=>exact h y (aS e)
def AL.max{a b:Int}(ha:AL a)(hb:AL b):AL (max a b):=by grind
def oL{C:Int}(hC:0<=C){x:List Ex}(hx:EX C x):∀(fs:List Field)(s a:Int),0<=s->s<=C->AL a->(0<=(fu C x s a fs).2.1/\(fu C x s a fs).2.1<=C)/\AL (fu C x s a fs).2.2/\(fu C x s a fs).1.length=fs.length|[],s,a,h0,hs,ha=>⟨⟨h0,hs⟩,ha,rfl⟩|f::r,s,a,h0,hs,ha=>by obtain⟨e1,e2,e3⟩:=hx.get hC f.2;have hu:=oF e1 h0;obtain⟨g1,g2,g3⟩:=oL hC hx r (min C (up (eD x f.2).2 s+(eD x f.2).1)) (max a (eD x f.2).2) (by omega) (by omega) (ha.max e1);simp only[fu]<;>grind
def oM{x:List Ex}{i:Int}(h:0<=i/\i<x.length):idx x i=some (eD x i):=by refine pM h.1 ?_;unfold eD<;>grind
def yj{a b:List Ex}{i:Int}(h:0<=i/\i<a.length):eD (a++b) i=eD a i:=DV _ (by omega)
def XH{N:Nat}{x b:List Ex}(hx:EX 1048576 x){fs:List Field}(hl:fs.length<=1000)(c1 c2:Int):∀(r pre:List Field)(os:List Int)(s a:Int)(k:Nat),fs=pre++r->os.length=pre.length->(∀f,f∈r->0<=f.2/\f.2<x.length)->0<=s->s<=1048576->AL a->r.length<k->aw7 N k (x++b,fs,(fs.length:Int),(pre.length:Int),c1,c2,os++List.replicate r.length 0,s,a)=some (c1,c2,os++(fu 1048576 x s a r).1,(fu 1048576 x s a r).2.1,(fu 1048576 x s a r).2.2):=by intro r;induction r with|nil=>intro pre os s a k he _ _ _ _ _ hk;obtain⟨k,rfl⟩:∃k',k=k'+1:=⟨k-1,by simp at hk;omega⟩;simp at he;subst he;rw[aw7.eq_2,aG];rfl|cons f r ih=>
 intro pre os s a k he ho hf h0 hs ha hk;obtain⟨k,rfl⟩:∃k',k=k'+1:=⟨k-1,by simp at hk;omega⟩;have hlen:pre.length+(r.length+1)=fs.length:=by rw[he];simp
 have hxf:idx fs (pre.length:Int)=some f:=by rw[he];exact sr _ _ _
 have hf2:=hf f ci;have hif:idx (x++b) f.2=some (eD x f.2):=by rw[oM (by rw[bc];omega),yj hf2]
 obtain⟨e1,e2,e3⟩:=hx.get (by omega) f.2;have hu:=oF e1 h0;have huc:=Io (C:=1048576) e1 (by omega) hs;have K1:(os++List.replicate (f::r).length (0:Int)).length=fs.length:=by simp[ho];omega
 have Nq:∀v:Int,(os++List.replicate (f::r).length (0:Int)).set pre.length v=(os++[v])++List.replicate r.length 0:=λv=>by rw[rl _ _ (by omega),eK,py,show pre.length-os.length=0 by omega,wd,bj];rfl
 have ih:=ih (pre++[f]) (os++[up (eD x f.2).2 s]) (min 1048576 (up (eD x f.2).2 s+(eD x f.2).1)) (max a (eD x f.2).2) k (by rw[he];simp) (by simp[ho]) (λg h=>hf g (dp _ h)) (by omega) (by omega) (ha.max e1) (by simp at hk;omega);rw[aw7.eq_2,aD (by omega),aq,hxf,ae,hif,ae,qj (by rw[K1];omega),ah,sw e1 ⟨h0,by omega⟩,am,me (by rw[K1];omega),ae,Nq,qj (by simp[ho];omega),ah];have hg:(os++[up (eD x f.2).2 s]++List.replicate r.length (0:Int))[pre.length]?=some (up (eD x f.2).2 s):=by rw[bj,lL (by omega),ho,qr];rfl
 rw[hg,ae,aj (by omega),aJ (by omega)];rw[show((pre++[f]).length:Int)=((pre.length+1:Nat):Int)by simp]at ih;rw[ih];simp only[fu];rw[bj];rfl
def XI{N:Nat}{x b:List Ex}(hN:1100<N)(hx:EX 1048576 x){fs:List Field}(hl:fs.length<=1000)(hf:∀f,f∈fs->0<=f.2/\f.2<x.length):F76 N (x++b,fs)=some ((fu 1048576 x 0 1 fs).1,up (fu 1048576 x 0 1 fs).2.2 (fu 1048576 x 0 1 fs).2.1,(fu 1048576 x 0 1 fs).2.2):=by
 have h0:decide (0<=(fs.length:Int))=true:=bv (by omega);have hr:(decide (Int.toNat (fs.length:Int)<=Int.toNat (fs.length:Int))&&room (Int.toNat (fs.length:Int)) 8)=true:=by rw[bv (bd _),ak (by omega) (by omega)];rfl
 have:=XH (N:=N) (b:=b) hx hl 0 0 fs [] [] 0 1 N rfl rfl hf (by omega) (by omega) (.inl rfl) (by omega);simp at this;obtain⟨b1,b2,_⟩:=oL (C:=1048576) (by omega) hx fs 0 1 (by omega) (by omega) (.inl rfl);rw[F76.eq_1,h0,ah,ah,hr,ah,am,this,ae];rw[sw b2 ⟨b1.1,by omega⟩]
def oN{α β:Type}{g:α->β}{x:List α}{i:Int}{y:α}(h:idx x i=some y):idx (x.map g) i=some (g y):=by grind[idx]
def XJ{N:Nat}{x:List Ex}(hx:EX 1000000 x){fs:List Field}(hl:fs.length<=1000):∀(r pre:List Field)(os:List Int)(s a:Int)(k:Nat),fs=pre++r->os.length=pre.length->(∀f,f∈r->0<=f.2/\f.2<x.length)->0<=s->s<=1000000->AL a->r.length<k->aq9 N k (x.map (·.1),x.map (·.2),fs,os,s,a,(pre.length:Int))=some (os++(fu 1000000 x s a r).1,(fu 1000000 x s a r).2.1,(fu 1000000 x s a r).2.2):=by intro r;induction r with|nil=>intro pre os s a k he _ _ _ _ _ hk;obtain⟨k,rfl⟩:∃k',k=k'+1:=⟨k-1,by simp at hk;omega⟩;simp at he;subst he;rw[aq9.eq_2,aG,af];simp[fu,dv]|cons f r ih=>
 intro pre os s a k he ho hf h0 hs ha hk;obtain⟨k,rfl⟩:∃k',k=k'+1:=⟨k-1,by simp at hk;omega⟩;have hlen:pre.length+(r.length+1)=fs.length:=by rw[he];simp
 have hxf:idx fs (pre.length:Int)=some f:=by rw[he];exact sr _ _ _
 have hf2:=hf f ci;obtain⟨e1,e2,e3⟩:=hx.get (by omega) f.2;have hu:=oF e1 h0;have huc:=Io (C:=1000000) e1 (by omega) hs;have hi:=oM hf2;have ih:=ih (pre++[f]) (os++[up (eD x f.2).2 s]) (min 1000000 (up (eD x f.2).2 s+(eD x f.2).1)) (max a (eD x f.2).2) k (by rw[he];simp) (by simp[ho]) (λg h=>hf g (dp _ h)) (by omega) (by omega) (ha.max e1) (by simp at hk;omega);rw[aq9.eq_2,aD (by omega),aq,hxf,ae,oN (g:=λe:Ex=>e.2) hi,ae,BM e1 ⟨h0,by omega⟩,ae,ak (by omega) (by omega),ah,oN (g:=λe:Ex=>e.1) hi,ae,ae,aj (by omega),aJ (by omega)];rw[show((pre++[f]).length:Int)=((pre.length+1:Nat):Int)by simp]at ih;rw[ih];simp only[fu];rw[bj];rfl
def XK{N:Nat}{x:List Ex}(hN:1100<N)(hx:EX 1000000 x){fs:List Field}(hl:fs.length<=1000)(hf:∀f,f∈fs->0<=f.2/\f.2<x.length):Nb N (x.map (·.1),x.map (·.2),fs)=some ((fu 1000000 x 0 1 fs).1,up (fu 1000000 x 0 1 fs).2.2 (fu 1000000 x 0 1 fs).2.1,(fu 1000000 x 0 1 fs).2.2):=by have:=XJ (N:=N) hx hl fs [] [] 0 1 N rfl rfl hf (by omega) (by omega) (.inl rfl) (by omega);obtain⟨b1,b2,_⟩:=oL (C:=1000000) (by omega) hx fs 0 1 (by omega) (by omega) (.inl rfl);have:=Io (C:=1000000) b2 (by omega) b1.2;rw[Nb.eq_1,‹aq9 N N _=_›,ae,BM b2 ⟨b1.1,by omega⟩,ae]<;>grind
def mg(C:Int)(out:List Ex)(t:aA):Ex:=if t.1=1then(1,1)else if t.1=3then(16,8)else if t.1=7then(24,8)else if t.1=6then(min C (t.2.2.1*(eD out t.2.1).1),(eD out t.2.1).2)else if t.1=5then(up (fu C out 0 1 t.2.2.2).2.2 (fu C out 0 1 t.2.2.2).2.1,(fu C out 0 1 t.2.2.2).2.2)else(8,8)
def bV(C:Int)(l:List aA):Nat->List Ex|0=>[]|i+1=>bV C l i++[mg C (bV C l i) (bJ l i)]
def dB(C:Int)(l:List aA):∀i,(bV C l i).length=i|0=>rfl|i+1=>by simp[bV,dB C l i]
def DY{a b C:Int}(ha:1<=a/\a<=16)(hb:0<=b/\b<=C)(_hC:0<=C):0<=a*b/\a*b<=16*C:=⟨vx (by omega) hb.1,vy ha.2 hb.2 hb.1 (by omega)⟩
def XL{C:Int}(hC:1000<=C)(h8:C%8=0){out:List Ex}(ho:EX C out){n i:Nat}{t:aA}(ht:cO n i t):AL (mg C out t).2/\0<=(mg C out t).1/\(mg C out t).1<=C:=by
 unfold mg;have ha:=ho.get (by omega) t.2.1;obtain⟨b1,b2,_⟩:=oL (C:=C) (by omega) ho t.2.2.2 0 1 (by omega) (by omega) (.inl rfl);have hc:=Io b2 h8 b1.2;have hu:=oF b2 b1.1;split;.exact⟨.inl rfl,by show(0:Int)<=1;omega,by show(1:Int)<=C;omega⟩
 .split;.exact⟨.inr rfl,by show(0:Int)<=16;omega,by show(16:Int)<=C;omega⟩
  .split;.exact⟨.inr rfl,by show(0:Int)<=24;omega,by show(24:Int)<=C;omega⟩
   .split;.rename_i h6;have:=DY (ht.arr h6).2 ha.2 (by omega)<;>grind
    .split;.grind
     .exact⟨.inr rfl,by show(0:Int)<=8;omega,by show(8:Int)<=C;omega⟩
def ju{C:Int}(hC:1000<=C)(h8:C%8=0){l:List aA}(ht:zx l):∀i,i<=l.length->EX C (bV C l i)
 |0,_=>λe he=>by cases he|i+1,hi=>λe he=>by
  simp[bV,bm,ca]at he;rcases he with he|rfl;.exact ju hC h8 ht i (by omega) e he
  .exact XL hC h8 (ju hC h8 ht i (by omega)) (ht i (by omega))
def Lb{C:Int}{a b:List Ex}:∀(fs:List Field)(s m:Int),(∀f,f∈fs->0<=f.2/\f.2<a.length)->fu C (a++b) s m fs=fu C a s m fs|[],_,_,_=>rfl|f::r,s,m,h=>by have hf:=yj (b:=b) (h f ci);simp only[fu];rw[hf,Lb r _ _ λg hg=>h g (dp _ hg)]
def ahc{a:List Ex}{n i:Nat}{v:Ex}(ha:a.length=i)(hi:i<n):(a++List.replicate (n-i) (0,0)).set i v=(a++[v])++List.replicate (n-(i+1)) (0,0):=by rw[rl _ _ (by omega),show n-i=(n-(i+1))+1by omega,py,show i-a.length=0 by omega,bj];rfl
def uF{n i:Nat}{t:aA}(h:cO n i t):t.1=1\/t.1=2\/t.1=3\/t.1=4\/t.1=5\/t.1=6\/t.1=7:=by unfold cO at h<;>grind
def DZ{N:Nat}{l:List aA}(hN:1100<N)(hl:l.length<=100)(ht:zx l):F75 N l=some (bV 1048576 l l.length):=by
 have h0:decide (0<=(l.length:Int))=true:=bv (by omega);have hr:(decide (Int.toNat (l.length:Int)<=Int.toNat (l.length:Int))&&room (Int.toNat (l.length:Int)) 16)=true:=by rw[bv (bd _),ak (by omega) (by omega)];rfl
 rw[F75.eq_1,h0,ah,hr,ah,am];have key:=dI (n:=l.length) (Lf:=λk i=>Hm N k (l,(l.length:Int),i,bV 1048576 l i.toNat++List.replicate (l.length-i.toNat) (0,0))) (g:=λ_=>some (bV 1048576 l l.length)) (λk=>by simp only[Hm.eq_2,aG,af,am,qr,m8,dv]) (λk i hi ih=>by
   have e:idx l (i:Int)=some (bJ l i):=bK _ hi;have ht':=ht i hi;have Zo:=ht'.fields;have hE:=ju (C:=1048576) (by omega) (by omega) ht i (by omega);have K1:=dB 1048576 l i;have hnl:(bV 1048576 l i++List.replicate (l.length-i) ((0:Int),(0:Int))).length=l.length:=by simp[K1];omega
   have Nq:∀v:Ex,(bV 1048576 l i++List.replicate (l.length-i) (0,0)).set i v=(bV 1048576 l i++[v])++List.replicate (l.length-(i+1)) (0,0):=λv=>ahc K1 hi;obtain⟨w,hw⟩:=di (l:=bV 1048576 l i++List.replicate (l.length-i) ((0:Int),(0:Int))) (i:=i) (by omega);simp only[am]at ih⊢;rw[bV]at ih;have fin:∀v:Ex,v=mg 1048576 (bV 1048576 l i) (bJ l i)->Hm N k (l,(l.length:Int),((i+1:Nat):Int),(bV 1048576 l i++[v])++List.replicate (l.length-(i+1)) (0,0))=some (bV 1048576 l l.length):=by rintro _ rfl;exact ih
   have hin:fM (i:Int) (bV 1048576 l i++List.replicate (l.length-i) ((0:Int),(0:Int))).length=true:=by rw[hnl];exact bQ hi
   simp only[Hm.eq_2,aD hi,aq,e,ae,am,hin,hw,Nq,ah,aj (show i<9223372036854775807by omega),cW];unfold mg at fin;rcases uF ht' with h|h|h|h|h|h|h;.rw[h];exact fin _ (by rw[be h])
   .rw[h];exact fin _ (by rw[h];rfl)
   .rw[h];exact fin _ (by rw[h];rfl)
   .rw[h];exact fin _ (by rw[h];rfl)
   .rw[h]at fin⊢;have:=XI (N:=N) (b:=List.replicate (l.length-i) (0,0)) hN hE (fs:=(bJ l i).2.2.2) (by omega) (λf hf=>by rw[K1];exact Zo.2.2 f hf);have hq:(Option.bind (F76 N (bV 1048576 l i++List.replicate (l.length-i) (0,0),(bJ l i).2.2.2)) λy12=>Hm N k (l,(l.length:Int),((i+1:Nat):Int),(bV 1048576 l i++[y12.2])++List.replicate (l.length-(i+1)) (0,0)))=some (bV 1048576 l l.length):=by rw[this,ae];exact fin _ rfl
    exact hq
   .have hp:=ht'.arr h;have ha:=hE.get (by omega) (bJ l i).2.1;have hm:=DY hp.2 ha.2 (by omega);have hx:(bV 1048576 l i++List.replicate (l.length-i) ((0:Int),(0:Int)))[(bJ l i).2.1.toNat]?=some (eD (bV 1048576 l i) (bJ l i).2.1):=by have:=(tP (oM (x:=bV 1048576 l i++List.replicate (l.length-i) ((0:Int),(0:Int))) (i:=(bJ l i).2.1) (by rw[hnl];omega))).2;rw[this,yj (by rw[K1];exact hp.1)]
    have hq:(aH (fM (bJ l i).2.1 (bV 1048576 l i++List.replicate (l.length-i) ((0:Int),(0:Int))).length) (Option.bind ((bV 1048576 l i++List.replicate (l.length-i) ((0:Int),(0:Int)))[(Int.toNat (bJ l i).2.1)]?) λx10=>Hm N k (l,(l.length:Int),((i+1:Nat):Int),(bV 1048576 l i++[((min (1048576:Int) (au ((bJ l i).2.2.1*x10.1))),x10.2)])++List.replicate (l.length-(i+1)) (0,0))))=some (bV 1048576 l l.length):=by rw[qj (by rw[hnl];omega),ah,hx,ae];refine fin _ ?_;rw[aJ (by omega),h];rfl
    rw[h];exact hq
   .rw[h];exact fin _ (by rw[h];rfl)) N 0 (by omega) (by omega);have:Hm N N (l,(l.length:Int),(0:Int),List.replicate l.length (0,0))=some (bV 1048576 l l.length):=by simpa[bV]using key
 rw[this];rfl
def uG{N:Nat}{l:List aA}(hN:1100<N)(hl:l.length<=100)(ht:zx l):ET N l=some ((bV 1000000 l l.length).map (·.1),(bV 1000000 l l.length).map (·.2)):=by
 rw[ET.eq_1];have key:=dI (n:=l.length) (Lf:=λk i=>Hn N k (l,(bV 1000000 l i.toNat).map (·.1),(bV 1000000 l i.toNat).map (·.2),i)) (g:=λ_=>some ((bV 1000000 l l.length).map (·.1),(bV 1000000 l l.length).map (·.2))) (λk=>by simp only[Hn.eq_2,aG,af,am]) (λk i hi ih=>by
   have e:idx l (i:Int)=some (bJ l i):=bK _ hi;have ht':=ht i hi;have Zo:=ht'.fields;have hE:=ju (C:=1000000) (by omega) (by omega) ht i (by omega);have K1:=dB 1000000 l i;simp only[am]at ih⊢;rw[bV,fx,fx,gc,gc,lc,lc]at ih;have fin:∀a b:Int,(a,b)=mg 1000000 (bV 1000000 l i) (bJ l i)->Hn N k (l,(bV 1000000 l i).map (·.1)++[a],(bV 1000000 l i).map (·.2)++[b],((i+1:Nat):Int))=some ((bV 1000000 l l.length).map (·.1),(bV 1000000 l l.length).map (·.2)):=by intro a b h;rw[<-h]at ih;exact ih
   have r1:room (((bV 1000000 l i).map (·.1)).length+1) 8=true:=ak (by rw[iv];omega) (by omega);have r2:room (((bV 1000000 l i).map (·.2)).length+1) 8=true:=ak (by rw[iv];omega) (by omega);simp only[Hn.eq_2,aD hi,aq,e,ae,r1,r2,ah,aj (show i<9223372036854775807by omega)];unfold mg at fin;rcases uF ht' with h|h|h|h|h|h|h;.rw[h];exact fin _ _ (by rw[be h])
   .rw[h];exact fin _ _ (by rw[h];rfl)
   .rw[h];exact fin _ _ (by rw[h];rfl)
   .rw[h];exact fin _ _ (by rw[h];rfl)
   .have:=XK (N:=N) hN hE (fs:=(bJ l i).2.2.2) (by omega) (λf hf=>by rw[K1];exact Zo.2.2 f hf);have hq:(Option.bind (Nb N ((bV 1000000 l i).map (·.1),(bV 1000000 l i).map (·.2),(bJ l i).2.2.2)) λy11=>Hn N k (l,(bV 1000000 l i).map (·.1)++[y11.2.1],(bV 1000000 l i).map (·.2)++[y11.2.2],((i+1:Nat):Int)))=some ((bV 1000000 l l.length).map (·.1),(bV 1000000 l l.length).map (·.2)):=by rw[this,ae];exact fin _ _ (by rw[h];rfl)
    rw[h];exact hq
   .have hp:=ht'.arr h;have ha:=hE.get (by omega) (bJ l i).2.1;have hm:=DY hp.2 ha.2 (by omega);have hi2:idx (bV 1000000 l i) (bJ l i).2.1=some (eD (bV 1000000 l i) (bJ l i).2.1):=oM (by rw[K1];exact hp.1);have hq:(Option.bind (idx ((bV 1000000 l i).map (·.1)) (bJ l i).2.1) λx7=>(Option.bind (idx ((bV 1000000 l i).map (·.2)) (bJ l i).2.1) λx9=>Hn N k (l,(bV 1000000 l i).map (·.1)++[(min (1000000:Int) (au ((bJ l i).2.2.1*x7)))],(bV 1000000 l i).map (·.2)++[x9],((i+1:Nat):Int))))=some ((bV 1000000 l l.length).map (·.1),(bV 1000000 l l.length).map (·.2)):=by rw[oN (g:=λe:Ex=>e.1) hi2,ae,oN (g:=λe:Ex=>e.2) hi2,ae,aJ (by omega)];exact fin _ _ (by rw[h];rfl)
    rw[h];exact hq
   .rw[h];exact fin _ _ (by rw[h];rfl)) N 0 (by omega) (by omega);have:Hn N N (l,[],[],(0:Int))=some ((bV 1000000 l l.length).map (·.1),(bV 1000000 l l.length).map (·.2)):=by simpa[bV]using key
 grind
def Rel(a b:Ex):Prop:=(a.1=b.1\/(256<a.1/\256<b.1))/\a.2=b.2
def Lc{x y:List Ex}(hx:EX 1048576 x)(hy:EX 1000000 y)(h:∀i:Int,Rel (eD x i) (eD y i)):∀(fs:List Field)(s s' a:Int),(s=s'\/(256<s/\256<s'))->0<=s->0<=s'->s<=1048576->s'<=1000000->AL a->((fu 1048576 x s a fs).2.1=(fu 1000000 y s' a fs).2.1\/(256<(fu 1048576 x s a fs).2.1/\256<(fu 1000000 y s' a fs).2.1))/\(fu 1048576 x s a fs).2.2=(fu 1000000 y s' a fs).2.2|[],s,s',a,hs,_,_,_,_,_=>⟨hs,rfl⟩|f::r,s,s',a,hs,h0,h0',hc,Ew,ha=>by obtain⟨e1,e2,e3⟩:=hx.get (by omega) f.2;obtain⟨g1,g2,g3⟩:=hy.get (by omega) f.2;obtain⟨r1,r2⟩:=h f.2;simp[fu];rw[<-r2]at g1⊢;have u1:=oF e1 h0;have u2:=oF e1 h0';refine Lc hx hy h r _ _ _ ?_ (by omega) (by omega) (by omega) (by omega) (ha.max e1)<;>grind
def Rn{x y:List Ex}(hx:EX 1048576 x)(hy:EX 1000000 y)(h:∀i:Int,Rel (eD x i) (eD y i)){n i:Nat}{t:aA}(ht:cO n i t):Rel (mg 1048576 x t) (mg 1000000 y t):=by
 unfold mg;split;.exact⟨.inl rfl,rfl⟩
 .split;.exact⟨.inl rfl,rfl⟩
  .split;.exact⟨.inl rfl,rfl⟩
   .split
    .rename_i h6;obtain⟨r1,r2⟩:=h t.2.1;have e:=hx.get (by omega) t.2.1;have g:=hy.get (by omega) t.2.1;have hl:=(ht.arr h6).2;have k1:(eD x t.2.1).1<=t.2.2.1*(eD x t.2.1).1:=by have:=Int.mul_le_mul_of_nonneg_right hl.1 e.2.1<;>omega
     have k2:(eD y t.2.1).1<=t.2.2.1*(eD y t.2.1).1:=by have:=Int.mul_le_mul_of_nonneg_right hl.1 g.2.1<;>omega
     refine⟨?_,r2⟩<;>grind
    .split
     .obtain⟨q1,q2⟩:=Lc hx hy h t.2.2.2 0 0 1 (.inl rfl) (by omega) (by omega) (by omega) (by omega) (.inl rfl);obtain⟨b1,b2,_⟩:=oL (C:=1048576) (by omega) hx t.2.2.2 0 1 (by omega) (by omega) (.inl rfl);obtain⟨c1,c2,_⟩:=oL (C:=1000000) (by omega) hy t.2.2.2 0 1 (by omega) (by omega) (.inl rfl);refine⟨?_,q2⟩;rcases q1 with q1|q1;.grind
      .have:=oF b2 b1.1;have:=oF c2 c1.1<;>grind
     .exact⟨.inl rfl,rfl⟩
def yl{a:List Ex}{v:Ex}(i:Int):eD (a++[v]) i=if i.toNat<a.length then eD a i else if i.toNat=a.length then v else(0,1):=by unfold eD<;>grind
def uH{l:List aA}(ht:zx l):∀i,i<=l.length->∀j:Int,Rel (eD (bV 1048576 l i) j) (eD (bV 1000000 l i) j)
 |0,_,j=>⟨.inl rfl,rfl⟩|i+1,hi,j=>by
  rw[bV,bV,yl,yl,dB,dB];split;.exact uH ht i (by omega) j
  .split;.exact Rn (ju (by omega) (by omega) ht i (by omega)) (ju (by omega) (by omega) ht i (by omega)) (uH ht i (by omega)) (ht i (by omega))
   .exact⟨.inl rfl,rfl⟩
def exs(l:List aA):List Ex:=bV 1048576 l l.length
def iZ(l:List aA):Prop:=∀i:Nat,i<l.length->(eD (exs l) i).1<=256
def O3(l:List aA):(exs l).length=l.length:=dB _ _ _
def Ip{N:Nat}{l:List aA}(hN:1300<N)(hl:uE l)(ht:eC l){i:Int}(hi:0<=i/\i<l.length):Ud N (l,i)=some (if(eD (exs l) i).1<=256then((eD (exs l) i).1,(eD (exs l) i).2,0)else(0,0,16)):=by have e:idx (exs l) i=some (eD (exs l) i):=oM (by rw[O3];exact hi);rw[Ud.eq_1,F85.eq_1,u9 hN hl,be ht,ae,fJ,af,cb (show¬i<0 by omega),af,ae,cb (show¬i>=(l.length:Int)by omega),af,DZ (by omega) hl.1 ht.2.1,ae,show bV 1048576 l l.length=exs l from rfl,e,ae]<;>grind
def jl(l:List Field)(n:Nat):Prop:=∀f,f∈l->0<=f.2/\f.2<n
def fo(n:Nat)(f:Func):Prop:=mE f.1=true/\f.2.2.2.1.length<=16/\cx f.2.2.2.1/\(0<=f.2.1/\f.2.1<=f.2.2.2.1.length)/\(-1<=f.2.2.1/\f.2.2.1<n)/\jl f.2.2.2.1 n/\(1<=f.2.2.2.2.1.length/\f.2.2.2.2.1.length<=200)/\(∀x,x∈f.2.2.2.2.1->eT x=true)/\dP f.2.2.2.2.2.1 f.2.2.2.2.1.length/\dP f.2.2.2.2.2.2 f.2.2.2.2.1.length
def sO(f:Func):Prop:=f.2.2.2.1.length<=300/\f.2.2.2.2.1.length<=1000/\f.2.2.2.2.2.1.length<=1000/\f.2.2.2.2.2.2.length<=1000/\(∀x,x∈f.2.2.2.2.1->okI x)/\Ik f.2.2.2.2.2.1/\Ik f.2.2.2.2.2.2
def XM{N:Nat}{l:List Field}{ts:List aA}(hN:l.length<N)(hl:l.length<=1000)(a:List UInt8)(b c:Int)(d:List Field)(e:List Instr)(f g:List e8):ai1 N N (ts,l,(l.length:Int),(0:Int),a,b,c,d,e,f,g)=some (if jl l ts.length then .inr (a,b,c,d,e,f,g)else .inl false):=by
 have key:=gn (l:=l) (a:=(.inr (a,b,c,d,e,f,g):Bool⊕(List UInt8×Int×Int×List Field×List Instr×List e8×List e8))) (b:=.inl false) (p:=λx=>!decide (0<=x.2/\x.2<(ts.length:Int))) (Lf:=λk i=>ai1 N k (ts,l,(l.length:Int),i,a,b,c,d,e,f,g)) (λk _=>by simp only[ai1.eq_2,aG,af]) (λk i x hx hm=>by
   simp only[ai1.eq_2,aD (aC hx),aq,aB hx,ae,aj (show i<9223372036854775807by have:=aC hx;omega),cW];by_cases h:0<=x.2/\x.2<(ts.length:Int);.rw[aP h,aL (show¬x.2<0 by omega),aL (show¬x.2>=(ts.length:Int)by omega)];rfl
   .rw[aL h];by_cases h1:x.2<0;.rw[aP h1];rfl
    .rw[aP (show x.2>=(ts.length:Int)by omega),xa];rfl) (k:=N) hN;rw[key,oK];simp only[dj];exact kw some (OU Hc)
def Nt{N:Nat}{l:List Field}{ts:List aA}(hN:l.length<N)(hl:l.length<=1000)(a:List UInt8)(b c:Int)(e:List Instr)(f g:List e8):as1 N N (ts,(0:Int),a,b,c,l,e,f,g)=some (if jl l ts.length then .inr (a,b,c,l,e,f,g)else .inl false):=by
 have key:=gn (l:=l) (a:=(.inr (a,b,c,l,e,f,g):Bool⊕(List UInt8×Int×Int×List Field×List Instr×List e8×List e8))) (b:=.inl false) (p:=λx=>!decide (0<=x.2/\x.2<(ts.length:Int))) (Lf:=λk i=>as1 N k (ts,i,a,b,c,l,e,f,g)) (λk _=>by simp only[as1.eq_2,aG,af]) (λk i x hx hm=>by
   simp only[as1.eq_2,aD (aC hx),aq,aB hx,ae,aj (show i<9223372036854775807by have:=aC hx;omega),cW];by_cases h:0<=x.2/\x.2<(ts.length:Int);.rw[aP h,aL (show¬x.2<0 by omega),aL (show¬x.2>=(ts.length:Int)by omega)];rfl
   .rw[aL h];by_cases h1:x.2<0;.rw[aP h1];rfl
    .rw[aP (show x.2>=(ts.length:Int)by omega),xa];rfl) (k:=N) hN;rw[key,oK];simp only[dj];exact kw some (OU Hc)
def aaM{N:Nat}{l:List Instr}(hN:l.length<N)(hl:l.length<=1000)(a:List UInt8)(b c:Int)(d:List Field)(e:List Instr)(f g:List e8):ai2 N N (l,(l.length:Int),(0:Int),a,b,c,d,e,f,g)=some (if∀x,x∈l->eT x=true then .inr (a,b,c,d,e,f,g)else .inl false):=by
 have key:=gn (l:=l) (a:=(.inr (a,b,c,d,e,f,g):Bool⊕(List UInt8×Int×Int×List Field×List Instr×List e8×List e8))) (b:=.inl false) (p:=λx=>!eT x) (Lf:=λk i=>ai2 N k (l,(l.length:Int),i,a,b,c,d,e,f,g)) (λk _=>by simp only[ai2.eq_2,aG,af]) (λk i x hx hm=>by
  simp only[ai2.eq_2,aD (aC hx),aq,aB hx,ae,aj (show i<9223372036854775807by have:=aC hx;omega),u5];by_cases h:eT x=true;.simp[h]
  .simp[h]) (k:=N) hN;rw[key,oK]
def Ro{N:Nat}{l:List Instr}(hN:l.length<N)(hl:l.length<=1000)(hx:∀x,x∈l->okI x)(a:List UInt8)(b c:Int)(d:List Field)(f g:List e8):as8 N N ((0:Int),a,b,c,d,l,f,g)=some (if∀x,x∈l->eT x=true then .inr (a,b,c,d,l,f,g)else .inl false):=by
 have key:=gn (l:=l) (a:=(.inr (a,b,c,d,l,f,g):Bool⊕(List UInt8×Int×Int×List Field×List Instr×List e8×List e8))) (b:=.inl false) (p:=λx=>!eT x) (Lf:=λk i=>as8 N k (i,a,b,c,d,l,f,g)) (λk _=>by simp only[as8.eq_2,aG,af]) (λk i x hx' hm=>by
  simp only[as8.eq_2,aD (aC hx'),aq,aB hx',ae,aj (show i<9223372036854775807by have:=aC hx';omega),DM N (hx x hm)];by_cases h:eT x=true;.simp[h]
  .simp[h]) (k:=N) hN;rw[key,oK]
def Ld{N:Nat}{ts:List aA}{f:Func}(hN:1300<N)(hf:sO f):Uj N (ts,f.1,f.2.1,f.2.2.1,f.2.2.2.1,f.2.2.2.2.1,f.2.2.2.2.2.1,f.2.2.2.2.2.2)=some (decide (fo ts.length f)):=by
 obtain⟨nm,pa,re,sl,co,si,li⟩:=f;obtain⟨g1,g2,g3,g4,g5,g6,g7⟩:=hf;simp only at g1 g2 g3 g4 g5 g6 g7⊢;rw[Uj.eq_1,DS (by omega),KY (by omega) (by omega)];simp only[ae,cW];have no:∀{p:Prop},(fo ts.length (nm,pa,re,sl,co,si,li)->p)->¬p->decide (fo ts.length (nm,pa,re,sl,co,si,li))=false:=λh hp=>aL λh'=>hp (h h');by_cases hA:mE nm=true/\sl.length<=16/\cx sl/\(0<=pa/\pa<=sl.length)/\-1<=re/\re<ts.length
 .obtain⟨a1,a2,a3,a4,a5,a6⟩:=hA;rw[a1,aL (show¬(sl.length:Int)>16by omega),aP a3,aL (show¬pa<0 by omega),aL (show¬pa>(sl.length:Int)by omega),aL (show¬re< -1by omega),aL (show¬re>=(ts.length:Int)by omega),show(!true||(false||(!true||(false||(false||(false||false))))))=false from rfl,af,XM (by omega) (by omega),ae];by_cases hr:jl sl ts.length
  .rw[be hr];simp only;rw[aaM (by omega) (by omega),ae];by_cases hc:∀x,x∈co->eT x=true
   .rw[be hc];simp only;rw[u7 (by omega) (by omega),u7 (by omega) (by omega),ae,ae];by_cases hn:co.length<1\/co.length>200;.rw[be hn,no (p:=1<=co.length/\co.length<=200) (λh=>h.2.2.2.2.2.2.1) (by omega)];rfl
    .rw[bi hn,bi hn];by_cases hs:dP si co.length
     .rw[be hs];by_cases hv:dP li co.length;.rw[be hv,aP (show fo ts.length (nm,pa,re,sl,co,si,li)from⟨a1,a2,a3,a4,⟨a5,a6⟩,hr,by simp only;omega,hc,hs,hv⟩)];rfl
      .rw[bi hv,no (λh=>h.2.2.2.2.2.2.2.2.2) hv];rfl
     .rw[bi hs,no (λh=>h.2.2.2.2.2.2.2.2.1) hs];rfl
   .rw[bi hc,no (λh=>h.2.2.2.2.2.2.2.1) hc]
  .rw[bi hr,no (λh=>h.2.2.2.2.2.1) hr]
 .rw[no (λh=>⟨h.1,h.2.1,h.2.2.1,h.2.2.2.1,h.2.2.2.2.1.1,h.2.2.2.2.1.2⟩) hA];have:(!mE nm||(decide ((sl.length:Int)>16)||(!decide (cx sl)||(decide (pa<0)||(decide (pa>(sl.length:Int))||(decide (re< -1)||decide (re>=(ts.length:Int))))))))=true:=by false_or_by_contra;rename_i h;apply hA;simp only[ro,kh,pB,mt,dj]at h;obtain⟨k1,k2,k3,k4,k5,k6,k7⟩:=h;exact⟨k1,by omega,k3,by omega,by omega,by omega⟩
  rw[this,aq]
def EV{N:Nat}{ts:List aA}{f:Func}(hN:1300<N)(hf:sO f):VQ N (ts,f.1,f.2.1,f.2.2.1,f.2.2.2.1,f.2.2.2.2.1,f.2.2.2.2.2.1,f.2.2.2.2.2.2)=some (decide (fo ts.length f)):=by
 obtain⟨nm,pa,re,sl,co,si,li⟩:=f;obtain⟨g1,g2,g3,g4,g5,g6,g7⟩:=hf;simp only at g1 g2 g3 g4 g5 g6 g7⊢;rw[VQ.eq_1,DT (by omega),uC (by omega) (by omega)];simp only[ae,cW];have no:∀{p:Prop},(fo ts.length (nm,pa,re,sl,co,si,li)->p)->¬p->decide (fo ts.length (nm,pa,re,sl,co,si,li))=false:=λh hp=>aL λh'=>hp (h h');by_cases hA:mE nm=true/\((sl.length:Int)<=16/\cx sl)/\(0<=pa/\pa<=sl.length)/\(-1<=re/\re<ts.length)/\1<=co.length/\co.length<=200
 .obtain⟨a1,a3,a4,a5,a6⟩:=hA;rw[a1,aP a3,aL (show¬pa<0 by omega),aL (show¬pa>(sl.length:Int)by omega),aL (show¬re< -1by omega),aL (show¬re>=(ts.length:Int)by omega),aL (show¬(co.length:Int)<1by omega),aL (show¬(co.length:Int)>200by omega),show(!true||(!true||(false||(false||(false||(false||(false||false)))))))=false from rfl,af,Nt (by omega) (by omega),ae];by_cases hr:jl sl ts.length
  .rw[be hr];simp only;rw[Ro (by omega) (by omega) g5,ae];by_cases hc:∀x,x∈co->eT x=true
   .rw[be hc];simp only;rw[Gv (by omega) (by omega),Gv (by omega) (by omega),ae,ae];by_cases hs:dP si co.length
    .rw[aP hs];by_cases hv:dP li co.length;.rw[aP hv,aP (show fo ts.length (nm,pa,re,sl,co,si,li)from⟨a1,by simp only;omega,a3.2,a4,a5,hr,a6,hc,hs,hv⟩)];rfl
     .rw[aL hv,no (λh=>h.2.2.2.2.2.2.2.2.2) hv];rfl
    .rw[aL hs,no (λh=>h.2.2.2.2.2.2.2.2.1) hs];rfl
   .rw[bi hc,no (λh=>h.2.2.2.2.2.2.2.1) hc]
  .rw[bi hr,no (λh=>h.2.2.2.2.2.1) hr]
 .rw[no (λh=>⟨h.1,⟨by have:=h.2.1;simp only at this;omega,h.2.2.1⟩,h.2.2.2.1,h.2.2.2.2.1,h.2.2.2.2.2.2.1⟩) hA];have:(!mE nm||(!decide ((sl.length:Int)<=16/\cx sl)||(decide (pa<0)||(decide (pa>(sl.length:Int))||(decide (re< -1)||(decide (re>=(ts.length:Int))||(decide ((co.length:Int)<1)||decide ((co.length:Int)>200))))))))=true:=by false_or_by_contra;rename_i h;apply hA;simp only[ro,kh,pB,mt,dj]at h;obtain⟨k1,k2,k3,k4,k5,k6,k7,k8⟩:=h;exact⟨k1,k2,by omega,by omega,by omega⟩
  rw[this,aq]
def fn0:Func:=([],0,0,[],[],[],[])
def gp(l:List Func)(i:Nat):Func:=l.getD i fn0
def Rp(l:List Func)(i:Nat):Prop:=∃j,j<i/\(gp l j).1=(gp l i).1
def Iq(n:Nat)(l:List Func)(i:Nat):Bool:=decide (fo n (gp l i))&&!decide (Rp l i)
def dG(ts:List aA)(xs:List (List UInt8))(fs:List Func):Prop:=eC ts/\xs.length<=32/\(1<=fs.length/\fs.length<=32)/\iZ ts/\(∀s,s∈xs->s.length<=64)/\∀i,i<fs.length->Iq ts.length fs i=true
def Nu(ts:List aA)(xs:List (List UInt8))(fs:List Func):Prop:=uE ts/\xs.length<=50/\(∀s,s∈xs->s.length<=1000)/\fs.length<=50/\∀f,f∈fs->sO f
def D0{l:List Func}{i:Nat}(hi:i<l.length):hasB ((l.take i).map (·.1)) (gp l i).1=decide (Rp l i):=by
 unfold hasB;by_cases h:Rp l i;.rw[bv h,mn];obtain⟨j,h1,h2⟩:=h;refine⟨(gp l j).1,j1.2 ⟨gp l j,?_,rfl⟩,bv h2.symm⟩;rw[gp,da,aw (by omega)];exact pv.2 ⟨j,by omega,rfl⟩
 .rw[cb h];cases ha:((l.take i).map (·.1)).any λq=>decide ((gp l i).1=q)with|false=>rfl|true=>exfalso;obtain⟨q,h1,h2⟩:=mn.1 ha;obtain⟨f,h3,rfl⟩:=j1.1 h1;obtain⟨j,h4,rfl⟩:=pv.1 h3;refine h ⟨j,by omega,?_⟩;rw[dE h2];rw[gp,da,aw (by omega)];rfl
def aaN{l:List Func}{i:Nat}(hi:i<l.length):l[i]?=some (gp l i):=by rw[gp,da,aw hi];rfl
def Nv{l:List Func}{i:Nat}(hi:i<l.length)(h:¬Rp l i):tc ((l.take i).map (·.1)) (gp l i).1=(l.take (i+1)).map (·.1):=by unfold tc;rw[D0 hi,cb h,take_succ (aaN hi),fx];rfl
def aaO{N:Nat}{ts:List aA}{xs:List (List UInt8)}{fs:List Func}(hN:1300<N)(hm:Nu ts xs fs):Un N (ts,xs,fs)=some (decide (dG ts xs fs)):=by
 obtain⟨m1,m2,m3,m4,m5⟩:=hm;have no:∀{p:Prop},(dG ts xs fs->p)->¬p->decide (dG ts xs fs)=false:=λh hp=>aL λh'=>hp (h h');have htl:=m1.1;rw[Un.eq_1,u9 hN m1];simp[ae,cW];by_cases hA:eC ts/\xs.length<=32/\1<=fs.length/\fs.length<=32
 .obtain⟨a1,a2,a3,a4⟩:=hA;rw[be a1,fJ,aL (show¬(xs.length:Int)>32by omega),Ij (show¬fs.length=0 by omega),aL (show¬(fs.length:Int)>32by omega),show(false||(false||(false||false)))=false from rfl,af];have key:=gJ (n:=ts.length) (a:=(.inr (ts,xs,fs):Bool⊕(List aA×List (List UInt8)×List Func))) (b:=.inl false) (q:=λi=>!decide ((eD (exs ts) i).1<=256)) (Lf:=λk i=>ax0 N k ((ts.length:Int),i,ts,xs,fs)) (λk _=>by simp only[ax0.eq_2,aG,af]) (λk i hi _=>by
    simp only[ax0.eq_2,aD hi,aq,Ip hN m1 a1 (show 0<=(i:Int)/\(i:Int)<ts.length by omega),ae,aj (show i<9223372036854775807by omega)];by_cases h:(eD (exs ts) i).1<=256;.rw[be h,aP h];rfl
    .rw[bi h,aL h];rfl) (k:=N) (by omega);rw[key,sv,ae];by_cases hs:iZ ts
  .rw[be λi hi=>aP (hs i hi)];simp;have Ns:=gn (l:=xs) (a:=(.inr (ts,xs,fs):Bool⊕(List aA×List (List UInt8)×List Func))) (b:=.inl false) (p:=λs=>!decide (s.length<=64)) (Lf:=λk i=>ax1 N k (xs,(xs.length:Int),i,ts,xs,fs)) (λk _=>by simp only[ax1.eq_2,aG,af]) (λk i x hx hm=>by
     simp only[ax1.eq_2,aD (aC hx),aq,aB hx,ae,aj (show i<9223372036854775807by have:=aC hx;omega)];by_cases h:x.length<=64;.rw[aP h,aL (show¬(x.length:Int)>64by omega)];rfl
     .rw[aL h,aP (show(x.length:Int)>64by omega)];rfl) (k:=N) (by omega);rw[Ns,oK,ae];by_cases hx:∀s,s∈xs->s.length<=64
   .rw[be λs h=>aP (hx s h)];simp;have aaP:=gJ (n:=fs.length) (a:=(.inr ():Bool⊕Unit)) (b:=.inl false) (q:=λi=>!Iq ts.length fs i) (Lf:=λk i=>ax3 N k (fs,(fs.length:Int),i,ts,xs,fs,(fs.take i.toNat).map (·.1))) (λk _=>by simp only[ax3.eq_2,aG,af]) (λk i hi _=>by
      have e:idx fs (i:Int)=some (gp fs i):=bK _ hi;simp only[ax3.eq_2,aD hi,aq,e,ae,am,D0 hi,aj (show i<9223372036854775807by omega)];have hfk:=Ld (ts:=ts) hN (m5 _ (mc fn0 hi));rw[show fs.getD i fn0=gp fs i from rfl]at hfk;rw[hfk,ae];unfold Iq;by_cases hd:Rp fs i;.rw[aP hd,dk,i6];rfl
      .rw[Nv hi hd,aL hd];by_cases hk:fo ts.length (gp fs i);.rw[aP hk];rfl
       .rw[aL hk];rfl) (k:=N) (by omega);rw[show(0:Int).toNat=0from rfl,Do,lc]at aaP;rw[aaP,sv,ae];by_cases hf:∀i,i<fs.length->Iq ts.length fs i=true;.rw[be hf,aP (show dG ts xs fs from⟨a1,a2,⟨a3,a4⟩,hs,hx,hf⟩)]
    .rw[bi hf,no (λh=>h.2.2.2.2.2) hf]
   .rw[bi λh=>hx λs hs=>dE (h s hs),no (λh=>h.2.2.2.2.1) hx]
  .rw[bi λh=>hs λi hi=>dE (h i hi),no (λh=>h.2.2.2.1) hs]
 .rw[no (λh=>⟨h.1,h.2.1,h.2.2.1⟩) hA]<;>grind
def aaQ{x:List Ex}{i:Nat}(h:i<x.length):(x.map (·.1))[i]?=some (eD x i).1:=by rw[eI,eD,am,da,aw h];rfl
def Rq{N:Nat}{ts:List aA}{xs:List (List UInt8)}{fs:List Func}(hN:1300<N)(hm:Nu ts xs fs):VW N (ts,xs,fs)=some (decide (dG ts xs fs)):=by
 obtain⟨m1,m2,m3,m4,m5⟩:=hm;have no:∀{p:Prop},(dG ts xs fs->p)->¬p->decide (dG ts xs fs)=false:=λh hp=>aL λh'=>hp (h h');have htl:=m1.1;rw[VW.eq_1,DX hN m1];simp[ae,cW];by_cases hA:eC ts/\xs.length<=32/\1<=fs.length/\fs.length<=32
 .obtain⟨a1,a2,a3,a4⟩:=hA;rw[be a1,fJ,aL (show¬(xs.length:Int)>32by omega),aL (show¬(fs.length:Int)<1by omega),aL (show¬(fs.length:Int)>32by omega),show(false||(false||(false||false)))=false from rfl,af,uG (by omega) htl a1.2.1,ae];have hlen:((bV 1000000 ts ts.length).map (·.1)).length=ts.length:=by rw[iv,dB]
  have key:=gJ (n:=ts.length) (a:=(.inr (ts,xs,fs):Bool⊕(List aA×List (List UInt8)×List Func))) (b:=.inl false) (q:=λi=>!decide ((eD (exs ts) i).1<=256)) (Lf:=λk i=>aA3 N k ((bV 1000000 ts ts.length).map (·.1),i,ts,xs,fs)) (λk _=>by simp only[aA3.eq_2,hlen,aG,af]) (λk i hi _=>by
    have e:idx ((bV 1000000 ts ts.length).map (·.1)) (i:Int)=some (eD (bV 1000000 ts ts.length) i).1:=aB (aaQ (by rw[dB];exact hi));simp only[aA3.eq_2,hlen,aD hi,aq,e,ae,aj (show i<9223372036854775807by omega)];obtain⟨r1,_⟩:=uH a1.2.1 ts.length (bd _) (i:Int);rw[show bV 1048576 ts ts.length=exs ts from rfl]at r1;by_cases h:(eD (exs ts) i).1<=256;.rw[aL (show¬(eD (bV 1000000 ts ts.length) i).1>256by omega),aP h];rfl
    .rw[aP (show(eD (bV 1000000 ts ts.length) i).1>256by omega),aL h];rfl) (k:=N) (by omega);rw[key,sv,ae];by_cases hs:iZ ts
  .rw[be λi hi=>aP (hs i hi)];simp;have Ns:=gn (l:=xs) (a:=(.inr (ts,xs,fs):Bool⊕(List aA×List (List UInt8)×List Func))) (b:=.inl false) (p:=λs=>!decide (s.length<=64)) (Lf:=λk i=>aA4 N k (i,ts,xs,fs)) (λk _=>by simp only[aA4.eq_2,aG,af]) (λk i x hx hm=>by
     simp only[aA4.eq_2,aD (aC hx),aq,aB hx,ae,aj (show i<9223372036854775807by have:=aC hx;omega)];by_cases h:x.length<=64;.rw[aP h,aL (show¬(x.length:Int)>64by omega)];rfl
     .rw[aL h,aP (show(x.length:Int)>64by omega)];rfl) (k:=N) (by omega);rw[Ns,oK,ae];by_cases hx:∀s,s∈xs->s.length<=64
   .rw[be λs h=>aP (hx s h)];simp;have aaP:=gJ (n:=fs.length) (a:=(.inr ():Bool⊕Unit)) (b:=.inl false) (q:=λi=>!Iq ts.length fs i) (Lf:=λk i=>as9 N k (i,ts,xs,fs)) (λk _=>by simp only[as9.eq_2,aG,af]) (λk i hi _=>by
      have e:idx fs (i:Int)=some (gp fs i):=bK _ hi;have hfk:=EV (ts:=ts) hN (m5 _ (mc fn0 hi));rw[show fs.getD i fn0=gp fs i from rfl]at hfk;simp only[as9.eq_2,aD hi,aq,e,ae,hfk];unfold Iq;by_cases hk:fo ts.length (gp fs i)
      .rw[aP hk,dk,af,ft];have inner:=gJ (n:=i) (a:=(.inr ((i:Int),ts,xs,fs):Bool⊕(Int×List aA×List (List UInt8)×List Func))) (b:=.inl false) (q:=λj=>(gp fs j).1==(gp fs i).1) (Lf:=λk j=>aA5 N k ((i:Int),j,ts,xs,fs)) (λk _=>by simp only[aA5.eq_2,aG,af]) (λk j hj _=>by have ej:idx fs (j:Int)=some (gp fs j):=bK _ (by omega);simp only[aA5.eq_2,aD hj,aq,e,ej,ae,aj (show j<9223372036854775807by omega)];by_cases hb:((gp fs j).1==(gp fs i).1)=true<;>simp[hb]) (k:=N) (by omega);rw[inner,ae];by_cases hd:Rp fs i
       .rw[be,aP hd];.rfl
        .obtain⟨j,h1,h2⟩:=hd;exact⟨j,h1,by simpa using h2⟩
       .rw[bi,aL hd];.simp only;rw[aj (by omega)];rfl
        .rintro⟨j,h1,h2⟩;exact hd ⟨j,h1,by simpa using h2⟩
      .rw[aL hk];rfl) (k:=N) (by omega);rw[aaP,sv,ae];by_cases hf:∀i,i<fs.length->Iq ts.length fs i=true;.rw[be hf,aP (show dG ts xs fs from⟨a1,a2,⟨a3,a4⟩,hs,hx,hf⟩)]
    .rw[bi hf,no (λh=>h.2.2.2.2.2) hf]
   .rw[bi λh=>hx λs hs=>dE (h s hs),no (λh=>h.2.2.2.2.1) hx]
  .rw[bi λh=>hs λi hi=>dE (h i hi),no (λh=>h.2.2.2.1) hs]
 .rw[no (λh=>⟨h.1,h.2.1,h.2.2.1⟩) hA]<;>grind
def nu(f:Field):List Int:=said f.1++V f.2.toNat
def oO(l:List Field):List Int:=V l.length++l.flatMap nu
def sP(t:aA):List Int:=[t.1]++if t.1=4\/t.1=7then V t.2.1.toNat else if t.1=6then V t.2.1.toNat++V t.2.2.1.toNat else if t.1=5then oO t.2.2.2else[]
def sQ(f:Func):List Int:=said f.1++(V f.2.1.toNat++(V (IT f.2.2.1)++(oO f.2.2.2.1++(V f.2.2.2.2.1.length++(f.2.2.2.2.1.flatMap encI++(sN f.2.2.2.2.2.1++sN f.2.2.2.2.2.2))))))
def wG(ts:List aA)(xs:List (List UInt8))(fs:List Func):List Int:=V ts.length++(ts.flatMap sP++(V xs.length++(xs.flatMap said++(V fs.length++fs.flatMap sQ))))
def kC{N n:Nat}(hN:20<N)(hn:n<=1000000):ig N (aK (n:Int))=some (V n):=by rw[nY (by omega),ye hN (by omega)]
def pP{f:Field}(h:mE f.1=true):(nu f).length<=40:=by have:=nq h;have:=nZ f.1;have:=cZ f.2.toNat;rw[nu,bc];omega
def FW(l:List Field):Prop:=l.length<=16/\∀f,f∈l->mE f.1=true/\0<=f.2/\f.2<=1000
def ym{l:List Field}(h:cx l):∀f,f∈l->mE f.1=true:=λf hf=>by obtain⟨i,hi,rfl⟩:=rB ([],0) hf;have:=h i hi;unfold okF at this;simp at this;exact this.1
def qk{l:List Field}(h:FW l):(oO l).length<=700:=by have:=cZ l.length;have:=iy (l:=l) (enc:=nu) (m:=40) λf hf=>pP (h.2 f hf).1;have:=h.1;rw[oO,bc];omega
def cO.FW{n i:Nat}{t:aA}(h:cO n i t)(hi:i<=32)(h5:t.1=5):FW t.2.2.2:=by have hf:=h.fields;unfold cO at h;rw[bi (by omega),bi (by omega),bi (by omega),be h5]at h;have hn:=ym h.2.2.2.1;exact⟨by omega,λf hm=>⟨hn f hm,by have:=hf.2.2 f hm;omega⟩⟩
def zy{n i:Nat}{t:aA}(h:cO n i t)(hi:i<=32):(sP t).length<=800:=by
 have:=cZ t.2.1.toNat;have:=cZ t.2.2.1.toNat;unfold sP;rw[bc,dl];split;.omega
 .split;.grind
  .split;.have:=qk (h.FW hi ‹_›);omega
   .simp
def fo.FW{n:Nat}{f:Func}(h:fo n f)(hn:n<=32):FW f.2.2.2.1:=⟨h.2.1,λg hg=>⟨ym h.2.2.1 g hg,by have:=h.2.2.2.2.2.1 g hg;omega⟩⟩
def zz{n:Nat}{f:Func}(h:fo n f)(hn:n<=32)(hf:sO f):(sQ f).length<=30000:=by have:=cZ f.2.1.toNat;have:=cZ (IT f.2.2.1);have:=cZ f.2.2.2.2.1.length;have:=qk (h.FW hn);have:=nZ f.1;have:=nq h.1;have Ir:=h.2.2.2.2.2.2.1;have:=iy (l:=f.2.2.2.2.1) (enc:=encI) (m:=31) λx _=>pO x;have:=oV f.2.2.2.2.2.1;have:=oV f.2.2.2.2.2.2;have:=n5 h.2.2.2.2.2.2.2.2.1;have:=n5 h.2.2.2.2.2.2.2.2.2;simp only[sQ,bc];omega
section
variable{N:Nat}
def Rr(hN:1300<N){l:List Field}(hl:FW l){s:List Int}(hs:s.length<=4000000)(a:List aA)(b:List (List UInt8))(c:List Func):ai9 N N (l,(l.length:Int),(0:Int),s,a,b,c)=some (s++l.flatMap nu,a,b,c):=by have A4:=hl.1;refine fH (l:=l) (enc:=nu) (g:=λs=>(s,a,b,c)) (B:=5000000) (m:=40) (Lf:=λk i s=>ai9 N k (l,(l.length:Int),i,s,a,b,c)) (λk s=>by simp only[ai9.eq_2,aG,af]) (λk i x s hx hm hB=>?_) (λx hx=>pP (hl.2 x hx).1) (by omega) (by omega);have hx2:=hl.2 x hm;have hnl:=nq hx2.1;have v1:=cZ x.1.length;have v2:=cZ x.2.toNat;simp only[ai9.eq_2,aD (aC hx),aq,aB hx,ae,kC (show 20<N by omega) (show x.1.length<=1000000by omega),n4 (show 20<N by omega) (show 0<=x.2/\x.2<=9223372036854775807by omega),ak (show s.length+(V x.1.length).length<=10000000by omega) (show 1<=1000by omega),ak (show(s++V x.1.length).length+(bP x.1).length<=10000000by grind[bP,V]) (show 1<=1000by omega),ak (show((s++V x.1.length)++bP x.1).length+(V x.2.toNat).length<=10000000by grind[bP,V]) (show 1<=1000by omega),ah,aj (show i<9223372036854775807by grind)];simp[nu,said,bj]
def XN(hN:1300<N){l:List Field}(hl:FW l){s:List Int}(hs:s.length<=4000000)(nm:List UInt8)(pa re:Int)(sl:List Field)(co:List Instr)(si li:List e8):al6 N N (l,(l.length:Int),(0:Int),s,nm,pa,re,sl,co,si,li)=some (s++l.flatMap nu,nm,pa,re,sl,co,si,li):=by have A4:=hl.1;refine fH (l:=l) (enc:=nu) (g:=λs=>(s,nm,pa,re,sl,co,si,li)) (B:=5000000) (m:=40) (Lf:=λk i s=>al6 N k (l,(l.length:Int),i,s,nm,pa,re,sl,co,si,li)) (λk s=>by simp only[al6.eq_2,aG,af]) (λk i x s hx hm hB=>?_) (λx hx=>pP (hl.2 x hx).1) (by omega) (by omega);have hx2:=hl.2 x hm;have hnl:=nq hx2.1;have v1:=cZ x.1.length;have v2:=cZ x.2.toNat;simp only[al6.eq_2,aD (aC hx),aq,aB hx,ae,kC (show 20<N by omega) (show x.1.length<=1000000by omega),n4 (show 20<N by omega) (show 0<=x.2/\x.2<=9223372036854775807by omega),ak (show s.length+(V x.1.length).length<=10000000by omega) (show 1<=1000by omega),ak (show(s++V x.1.length).length+(bP x.1).length<=10000000by grind[bP,V]) (show 1<=1000by omega),ak (show((s++V x.1.length)++bP x.1).length+(V x.2.toNat).length<=10000000by grind[bP,V]) (show 1<=1000by omega),ah,aj (show i<9223372036854775807by grind)];simp[nu,said,bj]
def D1(hN:1300<N){l:List Field}(hl:FW l):QW N l=some (oO l):=by have A4:=hl.1;have v0:=cZ l.length;rw[QW.eq_1,oU (by omega) (by omega),ae];have:=fH (l:=l) (enc:=nu) (g:=id) (B:=5000000) (m:=40) (Lf:=λk i s=>aA7 N k (l,i,s)) (λk s=>by simp only[aA7.eq_2,aG,af];rfl) (λk i x s hx hm hB=>by have hx2:=hl.2 x hm;have hnl:=nq hx2.1;have v1:=nZ x.1;have v2:=cZ x.2.toNat;simp only[aA7.eq_2,aD (aC hx),aq,aB hx,ae,Ih (show 20<N by omega) (show x.1.length<=1000000by omega),pN (show 20<N by omega) (show 0<=x.2/\x.2<=9223372036854775807by omega),ak (show s.length+(said x.1).length<=10000000by omega) (show 1<=1000by omega),ak (show(s++said x.1).length+(V x.2.toNat).length<=10000000by rw[bc];omega) (show 1<=1000by omega),ah,aj (show i<9223372036854775807by have:=aC hx;omega)];simp only[nu,bj]) (λx hx=>pP (hl.2 x hx).1) (k:=N) (s:=V l.length) (by omega) (by omega);rw[this];rfl
def TW(ts:List aA):Prop:=ts.length<=32/\∀t,t∈ts->∃n i,i<=32/\n<=32/\cO n i t
def eC.TW{ts:List aA}(h:eC ts):TW ts:=⟨h.1,λt ht=>by obtain⟨i,hi,rfl⟩:=rB ty0 ht;exact⟨ts.length,i,by have:=h.1;omega,h.1,h.2.1 i hi⟩⟩
def XO(hN:1300<N){l:List aA}(hl:TW l){s:List Int}(hs:s.length<=1000000)(a:List aA)(b:List (List UInt8))(c:List Func):H1 N N (l,(l.length:Int),(0:Int),s,a,b,c)=some (a,b,c,s++l.flatMap sP):=by
 have A4:=hl.1;refine fH (l:=l) (enc:=sP) (g:=λs=>(a,b,c,s)) (B:=2000000) (m:=800) (Lf:=λk i s=>H1 N k (l,(l.length:Int),i,s,a,b,c)) (λk s=>by simp only[H1.eq_2,aG,af]) (λk i t s hx hm hB=>?_) (λx hx=>by obtain⟨n,i,hi,_,ht⟩:=hl.2 x hx;exact zy ht hi) (by omega) (by omega);obtain⟨n,j,hj,hn,ht⟩:=hl.2 t hm;have v1:=cZ t.2.1.toNat;have v2:=cZ t.2.2.1.toNat;have v3:=cZ t.2.2.2.length;have r0:room (s.length+1) 1=true:=ak (by omega) (by omega);have r1:room ((s++[t.1]).length+(V t.2.1.toNat).length) 1=true:=ak (by simp only[bc,dl];omega) (by omega);have r2:room (((s++[t.1])++V t.2.1.toNat).length+(V t.2.2.1.toNat).length) 1=true:=ak (by simp only[bc,dl];omega) (by omega);have r3:room ((s++[t.1]).length+(V t.2.2.2.length).length) 1=true:=ak (by simp only[bc,dl];omega) (by omega);simp only[H1.eq_2,aD (aC hx),aq,aB hx,ae,r0,ah,aj (show i<9223372036854775807by grind),cW,BK];unfold sP;by_cases XP:t.1=4\/t.1=7;.have hp:=ht.ptr XP;rw[be XP,show(decide (t.1=4)||decide (t.1=7))=true by simpa using XP,aq,n4 (by omega) (by omega),ae,r1,ah,bj]
 .rw[bi XP,show(decide (t.1=4)||decide (t.1=7))=false by simpa using XP,af];by_cases h6:t.1=6;.have hp:=ht.arr h6;rw[be h6,bv h6,aq,n4 (by omega) (by omega),ae,r1,ah,n4 (by omega) (by omega),ae,r2,ah,bj,bj]
  .rw[bi h6,cb h6,af];by_cases h5:t.1=5;.have hw:=ht.FW hj h5;rw[be h5,bv h5,aq,kC (by omega) (by have:=hw.1;omega),ae,r3,ah,Rr hN hw (by simp[bc,dl];omega),ae,oO,bj,bj]
   grind
def Rs(hN:1300<N){l:List aA}(hl:TW l){s:List Int}(hs:s.length<=1000000)(b:List (List UInt8))(c:List Func):IO N N ((0:Int),l,b,c,s)=some (l,b,c,s++l.flatMap sP):=by
 have A4:=hl.1;refine fH (l:=l) (enc:=sP) (g:=λs=>(l,b,c,s)) (B:=2000000) (m:=800) (Lf:=λk i s=>IO N k (i,l,b,c,s)) (λk s=>by simp only[IO.eq_2,aG,af]) (λk i t s hx hm hB=>?_) (λx hx=>by obtain⟨n,i,hi,_,ht⟩:=hl.2 x hx;exact zy ht hi) (by omega) (by omega);obtain⟨n,j,hj,hn,ht⟩:=hl.2 t hm;have v1:=cZ t.2.1.toNat;have v2:=cZ t.2.2.1.toNat;have r0:room (s.length+1) 1=true:=ak (by omega) (by omega);have r1:room ((s++[t.1]).length+(V t.2.1.toNat).length) 1=true:=ak (by simp only[bc,dl];omega) (by omega);have r2:room (((s++[t.1])++V t.2.1.toNat).length+(V t.2.2.1.toNat).length) 1=true:=ak (by simp only[bc,dl];omega) (by omega);simp only[IO.eq_2,aD (aC hx),aq,aB hx,ae,r0,ah,aj (show i<9223372036854775807by grind),cW,BK];unfold sP;by_cases XP:t.1=4\/t.1=7;.have hp:=ht.ptr XP;rw[be XP,show(decide (t.1=4)||decide (t.1=7))=true by simpa using XP,aq,pN (by omega) (by omega),ae,r1,ah,bj]
 .rw[bi XP,show(decide (t.1=4)||decide (t.1=7))=false by simpa using XP,af];by_cases h6:t.1=6;.have hp:=ht.arr h6;rw[be h6,bv h6,aq,pN (by omega) (by omega),ae,r1,ah,pN (by omega) (by omega),ae,r2,ah,bj,bj]
  .rw[bi h6,cb h6,af];by_cases h5:t.1=5;.have hw:=ht.FW hj h5;have hfl:=qk hw;rw[be h5,bv h5,aq,D1 hN hw,ae,ak (by simp[bc,dl];omega) (by omega),ah,bj]
   grind
def XW(xs:List (List UInt8)):Prop:=xs.length<=32/\∀s,s∈xs->s.length<=64
def XQ(hN:1300<N){l:List (List UInt8)}(hl:XW l){s:List Int}(hs:s.length<=1000000)(a:List aA)(b:List (List UInt8))(c:List Func):aj5 N N (l,(l.length:Int),(0:Int),a,b,c,s)=some (a,b,c,s++l.flatMap said):=by have A4:=hl.1;refine fH (l:=l) (enc:=said) (g:=λs=>(a,b,c,s)) (B:=2000000) (m:=100) (Lf:=λk i s=>aj5 N k (l,(l.length:Int),i,a,b,c,s)) (λk s=>by simp only[aj5.eq_2,aG,af]) (λk i x s hx hm hB=>?_) (λx hx=>by have:=nZ x;have:=hl.2 x hx;omega) (by omega) (by omega);have h64:=hl.2 x hm;have v1:=cZ x.length;simp only[aj5.eq_2,aD (aC hx),aq,aB hx,ae,kC (show 20<N by omega) (show x.length<=1000000by omega),ak (show s.length+(V x.length).length<=10000000by omega) (show 1<=1000by omega),ak (show(s++V x.length).length+(bP x).length<=10000000by grind[bP,V]) (show 1<=1000by omega),ah,aj (show i<9223372036854775807by grind)];simp[said,bj]
def Rt(hN:1300<N){l:List (List UInt8)}(hl:XW l){s:List Int}(hs:s.length<=1000000)(a:List aA)(c:List Func):au1 N N ((0:Int),a,l,c,s)=some (a,l,c,s++l.flatMap said):=by have A4:=hl.1;refine fH (l:=l) (enc:=said) (g:=λs=>(a,l,c,s)) (B:=2000000) (m:=100) (Lf:=λk i s=>au1 N k (i,a,l,c,s)) (λk s=>by simp only[au1.eq_2,aG,af]) (λk i x s hx hm hB=>?_) (λx hx=>by have:=nZ x;have:=hl.2 x hx;omega) (by omega) (by omega);have h64:=hl.2 x hm;have v1:=nZ x;simp only[au1.eq_2,aD (aC hx),aq,aB hx,ae,Ih (show 20<N by omega) (show x.length<=1000000by omega),ak (show s.length+(said x).length<=10000000by omega) (show 1<=1000by omega),ah,aj (show i<9223372036854775807by grind)]
def CW(l:List Instr):Prop:=l.length<=200/\∀x,x∈l->eT x=true/\okI x
def aaR(hN:1300<N){l:List Instr}(hl:CW l){s:List Int}(hs:s.length<=4000000)(nm:List UInt8)(pa re:Int)(sl:List Field)(co:List Instr)(si li:List e8):an0 N N (l,(l.length:Int),(0:Int),s,nm,pa,re,sl,co,si,li)=some (.inr (s++l.flatMap encI,nm,pa,re,sl,co,si,li)):=by have A4:=hl.1;refine fH (l:=l) (enc:=encI) (g:=λs=>(.inr (s,nm,pa,re,sl,co,si,li):(Int×List Int)⊕(List Int×List UInt8×Int×Int×List Field×List Instr×List e8×List e8))) (B:=5000000) (m:=31) (Lf:=λk i s=>an0 N k (l,(l.length:Int),i,s,nm,pa,re,sl,co,si,li)) (λk s=>by simp only[an0.eq_2,aG,af]) (λk i x s hx hm hB=>?_) (λx hx=>pO x) (by omega) (by omega);have hx2:=hl.2 x hm;have v1:=pO x;simp only[an0.eq_2,aD (aC hx),aq,aB hx,ae,aaJ (N:=N) (by omega) hx2.2 hx2.1,fJ,af,ak (show s.length+(encI x).length<=10000000by omega) (show 1<=1000by omega),ah,aj (show i<9223372036854775807by grind)]
def XR(hN:1300<N){l:List Instr}(hl:CW l){s:List Int}(hs:s.length<=4000000)(i0:Int)(a:List aA)(b:List (List UInt8))(c:List Func)(nm:List UInt8)(pa re:Int)(sl:List Field)(si li:List e8):au4 N N (i0,(0:Int),a,b,c,s,nm,pa,re,sl,l,si,li)=some (i0,a,b,c,s++l.flatMap encI,nm,pa,re,sl,l,si,li):=by have A4:=hl.1;refine fH (l:=l) (enc:=encI) (g:=λs=>(i0,a,b,c,s,nm,pa,re,sl,l,si,li)) (B:=5000000) (m:=31) (Lf:=λk i s=>au4 N k (i0,i,a,b,c,s,nm,pa,re,sl,l,si,li)) (λk s=>by simp only[au4.eq_2,aG,af]) (λk i x s hx hm hB=>?_) (λx hx=>pO x) (by omega) (by omega);have hx2:=hl.2 x hm;have v1:=pO x;simp only[au4.eq_2,aD (aC hx),aq,aB hx,ae,Nn (N:=N) (by omega) hx2.2 hx2.1,ak (show s.length+(encI x).length<=10000000by omega) (show 1<=1000by omega),ah,aj (show i<9223372036854775807by grind)]
def FnW(l:List Func):Prop:=l.length<=32/\∀f,f∈l->sO f/\i64 f.2.2.1/\∃n,n<=32/\fo n f
def GB{x:List e8}{j:Int}{l2:List (List e8)}(hN:1300<N){n:Nat}(h1:dP x n)(g1:x.length<=1000)(o1:Ik x){s:List Int}(hs:s.length<=4500000){co:List Instr}(hc:co.length=n)(hn:1<=n/\n<=200)(nm:List UInt8)(pa re:Int)(sl:List Field)(si li:List e8)(hj:decide (j<2)=true)(hx:idx l2 j=some x){j2:Int}(hj2:au (j+1)=j2)(k:Nat):LT N (k+1) (l2,(2:Int),j,s,nm,pa,re,sl,co,si,li)=LT N k (l2,(2:Int),j2,s++sN x,nm,pa,re,sl,co,si,li):=by subst hc;have e1:=aaK (N:=N) (by omega) g1 h1 hn.1 hn.2 o1;have l1:=oV x;rw[LT.eq_2,hj,aq,hx,ae,e1,ae];simp[fJ,af,ak (show s.length+(sN x).length<=10000000by omega) (show 1<=1000by omega),ah,hj2]
def aaS(hN:1300<N){si li:List e8}{n:Nat}(h1:dP si n)(h2:dP li n)(g1:si.length<=1000)(g2:li.length<=1000)(o1:Ik si)(o2:Ik li){s:List Int}(hs:s.length<=4000000){co:List Instr}(hc:co.length=n)(hn:1<=n/\n<=200)(nm:List UInt8)(pa re:Int)(sl:List Field):LT N N ([si,li],(2:Int),(0:Int),s,nm,pa,re,sl,co,si,li)=some (.inr (s++(sN si++sN li))):=by
 have l1:=oV si;have key:∀k,LT N (k+1+1+1) ([si,li],(2:Int),(0:Int),s,nm,pa,re,sl,co,si,li)=some (.inr (s++(sN si++sN li))):=λk=>by rw[GB hN h1 g1 o1 (by omega) hc hn nm pa re sl si li rfl rfl (j2:=1) (by decide),GB hN h2 g2 o2 (by rw[bc];omega) hc hn nm pa re sl si li rfl rfl (j2:=2) (by decide),LT.eq_2,show decide ((2:Int)<2)=false from rfl,af,bj]
 have:=key (N-3)<;>grind
def XS(hN:1300<N){l:List Func}(hl:FnW l){s:List Int}(hs:s.length<=1000000):H3 N N (l,(l.length:Int),(0:Int),s)=some (.inr (s++l.flatMap sQ)):=by have A4:=hl.1;refine fH (l:=l) (enc:=sQ) (g:=λs=>(.inr s:Int⊕List Int)) (B:=2500000) (m:=30000) (Lf:=λk i s=>H3 N k (l,(l.length:Int),i,s)) (λk s=>by simp only[H3.eq_2,aG,af]) (λk i x s hx hm hB=>?_) (λx hx=>by obtain⟨hf,_,n,hn,ho⟩:=hl.2 x hx;exact zz ho hn hf) (by omega) (by omega);obtain⟨⟨g1,g2,g3,g4,g5,g6,g7⟩,h64,n,hn,ho⟩:=hl.2 x hm;have hw:=ho.FW hn;have hnl:=nq ho.1;have hp:=ho.2.2.2.1;have Ir:=ho.2.2.2.2.2.2.1;have hcw:CW x.2.2.2.2.1:=⟨Ir.2,λy hy=>⟨ho.2.2.2.2.2.2.2.1 y hy,g5 y hy⟩⟩;have cr:=hw.1;have v1:=cZ x.1.length;have v2:=cZ x.2.1.toNat;have v3:=cZ (IT x.2.2.1);have v4:=cZ x.2.2.2.1.length;have v5:=cZ x.2.2.2.2.1.length;have v6:=iy (l:=x.2.2.2.1) (enc:=nu) (m:=40) λf hf=>pP (hw.2 f hf).1;have v7:=iy (l:=x.2.2.2.2.1) (enc:=encI) (m:=31) λy _=>pO y;have r1:room (s.length+(V x.1.length).length) 1=true:=ak (by omega) (by omega);have r2:room ((s++V x.1.length).length+(bP x.1).length) 1=true:=ak (by simp only[bc,dc];omega) (by omega);have r3:room (((s++V x.1.length)++bP x.1).length+(V x.2.1.toNat).length) 1=true:=ak (by simp only[bc,dc];omega) (by omega);have r4:room ((((s++V x.1.length)++bP x.1)++V x.2.1.toNat).length+(V (IT x.2.2.1)).length) 1=true:=ak (by simp only[bc,dc];omega) (by omega);have r5:room (((((s++V x.1.length)++bP x.1)++V x.2.1.toNat)++V (IT x.2.2.1)).length+(V x.2.2.2.1.length).length) 1=true:=ak (by simp only[bc,dc];omega) (by omega);simp only[H3.eq_2,aD (aC hx),aq,aB hx,ae,kC (show 20<N by omega) (show x.1.length<=1000000by omega),n4 (show 20<N by omega) (show 0<=x.2.1/\x.2.1<=9223372036854775807by omega),Gt (show 20<N by omega) h64,kC (show 20<N by omega) (show x.2.2.2.1.length<=1000000by omega),r1,r2,r3,r4,r5,ah,aj (show i<9223372036854775807by have:=aC hx;omega)];have e1:=XN hN hw (s:=((((s++V x.1.length)++bP x.1)++V x.2.1.toNat)++V (IT x.2.2.1))++V x.2.2.2.1.length) (by simp only[bc,dc];omega) x.1 x.2.1 x.2.2.1 x.2.2.2.1 x.2.2.2.2.1 x.2.2.2.2.2.1 x.2.2.2.2.2.2;rw[e1,ae];simp only;rw[kC (by omega) (by omega),ae,ak (by simp only[bc,dc];omega) (by omega),ah,aaR hN hcw (by simp only[bc,dc];omega),ae];simp only;rw[aaS hN ho.2.2.2.2.2.2.2.2.1 ho.2.2.2.2.2.2.2.2.2 g3 g4 g6 g7 (by simp only[bc,dc];omega) rfl Ir,ae];simp only[sQ,oO,said,bj]
def Ru(hN:1300<N){l:List Func}(hl:FnW l){s:List Int}(hs:s.length<=1000000)(a:List aA)(b:List (List UInt8)):ad5 N N ((0:Int),a,b,l,s)=some (s++l.flatMap sQ):=by have A4:=hl.1;refine fH (l:=l) (enc:=sQ) (g:=id) (B:=2500000) (m:=30000) (Lf:=λk i s=>ad5 N k (i,a,b,l,s)) (λk s=>by simp only[ad5.eq_2,aG,af];rfl) (λk i x s hx hm hB=>?_) (λx hx=>by obtain⟨hf,_,n,hn,ho⟩:=hl.2 x hx;exact zz ho hn hf) (by omega) (by omega);obtain⟨⟨g1,g2,g3,g4,g5,g6,g7⟩,h64,n,hn,ho⟩:=hl.2 x hm;have hw:=ho.FW hn;have hnl:=nq ho.1;have hp:=ho.2.2.2.1;have Ir:=ho.2.2.2.2.2.2.1;have hcw:CW x.2.2.2.2.1:=⟨Ir.2,λy hy=>⟨ho.2.2.2.2.2.2.2.1 y hy,g5 y hy⟩⟩;have cr:=hw.1;have v1:=nZ x.1;have v2:=cZ x.2.1.toNat;have v3:=cZ (IT x.2.2.1);have v4:=qk hw;have v5:=cZ x.2.2.2.2.1.length;have v7:=iy (l:=x.2.2.2.2.1) (enc:=encI) (m:=31) λy _=>pO y;have v8:=oV x.2.2.2.2.2.1;have v9:=oV x.2.2.2.2.2.2;have r1:room (s.length+(said x.1).length) 1=true:=ak (by omega) (by omega);have r2:room ((s++said x.1).length+(V x.2.1.toNat).length) 1=true:=ak (by simp only[bc];omega) (by omega);have r3:room (((s++said x.1)++V x.2.1.toNat).length+(V (IT x.2.2.1)).length) 1=true:=ak (by simp only[bc];omega) (by omega);have r4:room ((((s++said x.1)++V x.2.1.toNat)++V (IT x.2.2.1)).length+(oO x.2.2.2.1).length) 1=true:=ak (by simp only[bc];omega) (by omega);have r5:room (((((s++said x.1)++V x.2.1.toNat)++V (IT x.2.2.1))++oO x.2.2.2.1).length+(V x.2.2.2.2.1.length).length) 1=true:=ak (by simp only[bc];omega) (by omega);simp only[ad5.eq_2,aD (aC hx),aq,aB hx,ae,Ih (show 20<N by omega) (show x.1.length<=1000000by omega),pN (show 20<N by omega) (show 0<=x.2.1/\x.2.1<=9223372036854775807by omega),Gu (N:=N) h64,kM (show 20<N by omega) (Nj h64),D1 hN hw,oU (n:=x.2.2.2.2.1.length) (show 20<N by omega) (show x.2.2.2.2.1.length<18446744073709551616by omega),r1,r2,r3,r4,r5,ah];rw[XR hN hcw (by simp only[bc];omega),ae];simp only;rw[DQ (N:=N) (by omega) g3 ho.2.2.2.2.2.2.2.2.1 Ir.2 g6,ae,ak (by simp only[bc];omega) (by omega),ah,DQ (N:=N) (by omega) g4 ho.2.2.2.2.2.2.2.2.2 Ir.2 g7,ae,ak (by simp only[bc];omega) (by omega),ah,aj (by have:=aC hx;omega)];simp only[sQ,bj]
end
end Go.Proofs.YtnfdnnplfbfgaaaGreat
end
