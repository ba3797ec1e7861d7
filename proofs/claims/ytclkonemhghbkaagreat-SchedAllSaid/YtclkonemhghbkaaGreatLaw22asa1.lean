/- Parts of the proof. -/
import Derived.Test.YtclkonemhghbkaaGreatLaw22ag6
import Derived.Test.YtclkonemhghbkaaGreatLaw22al7c
import Derived.Test.YtclkonemhghbkaaGreatTab22a
set_option linter.unusedVariables false
set_option linter.unusedSimpArgs false
set_option linter.defProp false
noncomputable section
namespace Go.Proofs.YtclkonemhghbkaaGreat
open Go Go.bK Go.Sym
open Classical
structure RI(s:List fm)(i:Int)(y:Int):Prop where
 pos:0<s.length
 zero:(rn s 0).1=0inc:∀j,j+1<s.length->(rn s j).1<(rn s (j+1)).1/\(rn s j).2≠(rn s (j+1)).2low:∀j,j<s.length->(rn s j).1<i
 last:(rn s (s.length-1)).2=y
def RI.mono{s:List fm}{i j y:Int}(h:RI s i y)(hij:i<=j):RI s j y:=⟨h.pos,h.zero,h.inc,λk hk=>Int.lt_of_lt_of_le (h.low k hk) hij,h.last⟩
def yW{s:List fm}{x:fm}{j:Nat}(h:j<s.length):rn (s++[x]) j=rn s j:=by unfold rn<;>grind
def Jt{s:List fm}{x:fm}:rn (s++[x]) s.length=x:=by unfold rn<;>grind
def RI.one(x:Int):RI [(0,x)] 1 x:=by
 refine⟨by simp,rfl,λj hj=>by simp at hj,λj hj=>?_,rfl⟩;simp at hj;have:j=0:=by omega
 subst this;show(0:Int)<1;decide
def RI.snoc{s:List fm}{i y x:Int}(h:RI s i y)(hx:x≠y):RI (s++[(i,x)]) (i+1) x:=by
 have hp:=h.pos;refine⟨by simp,by rw[yW hp];exact h.zero,λj hj=>?_,λj hj=>?_,by rw[bb,dp,Nat.add_sub_cancel,Jt]⟩
 .simp at hj;by_cases he:j+1=s.length
  .rw[he,Jt,yW (by omega)];have e:j=s.length-1:=by omega
   refine⟨h.low j (by omega),λhh=>hx ?_⟩;rw[<-h.last,<-e,hh]
  .rw[yW (by omega),yW (by omega)];exact h.inc j (by omega)
 .simp at hj;by_cases he:j=s.length;.subst he;rw[Jt]<;>grind
  .rw[yW (by omega)];have:=h.low j (by omega);omega
def RI.ok{s:List fm}{i y:Int}(h:RI s i y):ee s i:=⟨h.pos,h.zero,h.inc,h.low⟩
def Cr(v:List Int):Nat->List fm|0=>[]|i+1=>if i=0\/v.getD i 0≠v.getD (i-1) 0then Cr v i++[((i:Int),v.getD i 0)]else Cr v i
def yX(v:List Int):List fm:=Cr v v.length
def Ju(v:List Int):∀i,(Cr v i).length<=i|0=>by simp[Cr]|i+1=>by have:=Ju v i;unfold Cr<;>grind
def Jv{v:List Int}:∀{i:Nat},i<=v.length->∀{x:fm},x∈Cr v i->x.2∈v
 |0,_,x,hx=>by simp[Cr]at hx|i+1,hi,x,hx=>by
  unfold Cr at hx;split at hx
  .rcases bj.1 hx with hx|hx;.exact Jv (by omega) hx
   grind
  .exact Jv (by omega) hx
def Zi(v:List Int):∀i:Nat,RI (Cr v (i+1)) ((i+1:Nat):Int) (v.getD i 0)
 |0=>by
  have e:Cr v 1=[]++[(((0:Nat):Int),v.getD 0 0)]:=by unfold Cr;rfl
  exact RI.one _|i+1=>by
  have h:=Zi v i;have e:Cr v (i+2)=if v.getD (i+1) 0≠v.getD i 0then Cr v (i+1)++[(((i+1:Nat):Int),v.getD (i+1) 0)]else Cr v (i+1):=by rw[Cr];simp
  rw[e];split;.rename_i hne;exact h.snoc hne
  .rename_i heq;rw[Decidable.not_not]at heq;rw[heq];exact h.mono (by omega)
def Zj{v:List Int}(h:1<=v.length):ee (yX v) (v.length:Int):=by obtain⟨n,hn⟩:∃n,v.length=n+1:=⟨v.length-1,by omega⟩;have:=(Zi v n).ok;unfold yX<;>grind
def QH{v:List Int}{x:fm}(h:x∈yX v):x.2∈v:=Jv (bc _) h
def yY{α:Type}{l:List α}{i:Nat}{x d:α}(h:l[i]?=some x):l.getD i d=x:=by grind
def ME{N:Nat}{v:List Int}(hN:500<N)(h1:1<=v.length)(h2:v.length<=200):Sw N v=some (yX v,0):=by rw[Sw.eq_1,Sp.eq_1];have e1:decide ((v.length:Int)<1)=false:=bo (by omega);have e2:decide ((v.length:Int)>200)=false:=bo (by omega);simp[e1,e2,af,ae,show((0:Int)!=0)=false from rfl];obtain⟨s,hs,he⟩:=gv (l:=v) (g:=λs:List fm=>s) (Inv:=λi s=>s=Cr v i) (Lf:=λk i s=>zP N k (v,s,(v.length:Int),i)) (λk s _=>by simp only[zP.eq_2,aN,af]) (λk i x s hx hs=>by
   have hi:=aE hx;have hl:=Ju v i;rw[<-hs]at hl;have hroom:room (s.length+1) 16=true:=aq (by omega) (by omega);have hg:v.getD i 0=x:=yY hx;refine⟨_,rfl,?_⟩;simp only[zP.eq_2,aM hi,au,aG hx,ae,ai (show i<9223372036854775807by omega)];by_cases h0:i=0;.subst h0;rw[show decide (((0:Nat):Int)>0)=false from rfl];simp only[af,ae,hroom,aj];rw[Cr,ba (.inl rfl),hg,<-hs]
   .have hw:av ((i:Int)-1)=((i-1:Nat):Int):=by rw[aO (by omega)];omega
    have hy:=aw (l:=v) (i:=i-1) (by omega);have hgy:v.getD (i-1) 0=v[i-1]:=yY hy;rw[aU (show(i:Int)>0 by omega)];simp only[au,hw,aG hy,ae];by_cases hxy:x=v[i-1];.rw[show(x==v[i-1])=true from lx.2 hxy];simp only[au];rw[Cr,be (by rw[hg,hgy];intro h;rcases h with h|h;exact h0 h;exact h hxy),<-hs]
    .rw[show(x==v[i-1])=false from mi.2 hxy];simp only[af,hroom,aj];rw[Cr,ba (.inr (by rw[hg,hgy];exact hxy)),hg,<-hs]) (k:=N) (s:=[]) rfl (by omega);rw[he,hs];rfl
def aef{N:Nat}{v:List Int}(hN:500<N)(h2:v.length<=200):F95 N v=some (yX v):=by rw[F95.eq_1];obtain⟨s,hs,he⟩:=gv (l:=v) (g:=λs:List fm=>s) (Inv:=λi s=>s=Cr v i) (Lf:=λk i s=>s6 N k (v,s,i)) (λk s _=>by simp only[s6.eq_2,aN,af]) (λk i x s hx hs=>by
   have hi:=aE hx;have hl:=Ju v i;rw[<-hs]at hl;have hroom:room (s.length+1) 16=true:=aq (by omega) (by omega);have hg:v.getD i 0=x:=yY hx;refine⟨_,rfl,?_⟩;simp only[s6.eq_2,aM hi,au,aG hx,ae,ai (show i<9223372036854775807by omega)];by_cases h0:i=0;.subst h0;rw[show(((0:Nat):Int)==0)=true from rfl];simp only[au,ae,hroom,aj];rw[Cr,ba (.inl rfl),hg,<-hs]
   .have hw:av ((i:Int)-1)=((i-1:Nat):Int):=by rw[aO (by omega)];omega
    have hy:=aw (l:=v) (i:=i-1) (by omega);have hgy:v.getD (i-1) 0=v[i-1]:=yY hy;rw[show((i:Int)==0)=false by rw[mi];omega];simp only[af,hw,aG hy,ae];by_cases hxy:x=v[i-1];.rw[show(x !=v[i-1])=false by simp[hxy]];simp only[af];rw[Cr,be (by rw[hg,hgy];intro h;rcases h with h|h;exact h0 h;exact h hxy),<-hs]
    .rw[show(x !=v[i-1])=true by simp[bne,hxy]];simp only[au,hroom,aj];rw[Cr,ba (.inr (by rw[hg,hgy];exact hxy)),hg,<-hs]) (k:=N) (s:=[]) rfl (by omega);rw[he,hs];rfl
def fK{α:Type}(p:Nat->α->Int):Nat->List α->Option (Nat×Int)|_,[]=>none|i,x::r=>if p i x≠0then some (i,p i x)else fK p (i+1) r
def qp{α:Type}{p:Nat->α->Int}:∀{l:List α}{i:Nat},fK p i l=none->∀(j:Nat)x,l[j]?=some x->p (i+j) x=0
 |[],_,_,j,x,hx=>by grind|y::r,i,h,j,x,hx=>by
  unfold fK at h;split at h;.cases h
  .rename_i hp;cases j with|zero=>grind|succ j=>have:=qp h j x hx<;>grind
def Ak{α:Type}{p:Nat->α->Int}:∀{l:List α}{i:Nat}{r:Nat×Int},fK p i l=some r->r.2≠0
 |[],_,_,h=>by cases h|y::r,i,q,h=>by
  unfold fK at h;split at h;.grind
  .exact Ak h
def sQ{α β:Type}{l:List α}{p:Nat->α->Int}{a:β}{out:Int->Int->β}{Lf:Nat->Int->Option β}(h0:∀k,Lf (k+1) (l.length:Int)=some a)(hs:∀k(i:Nat)x,l[i]?=some x->Lf (k+1) (i:Int)=if p i x≠0then some (out (i:Int) (p i x))else Lf k ((i+1:Nat):Int)){k:Nat}(hk:l.length<k):Lf k 0=some ((fK p 0 l).elim a λr=>out (r.1:Int) r.2):=by
 have key:∀k(i:Nat),i<=l.length->l.length-i<k->Lf k (i:Int)=some ((fK p i (l.drop i)).elim a λr=>out (r.1:Int) r.2):=by intro k;induction k with|zero=>omega|succ k ih=>
   intro i hi hk;by_cases he:i=l.length;.subst he;rw[h0,sf];rfl
   .have hlt:i<l.length:=by omega
    rw[hs k i _ (aw hlt),ib hlt,fK];split;.rfl
    .exact ih (i+1) (by omega) (by omega)
 exact key k 0 (by omega) (by omega)
def Zk(l:List Instr)(p s:Nat):List Nat:=if h:∃G,EJ l (2^p-1) (2^s-1) G then ql l h.choose else[]
def MF{l:List Instr}{p s:Nat}{G H:Nat->Nat}(hG:EJ l (2^p-1) (2^s-1) G)(hs:ZW l (2^p-1) H)(hm:∀S,ZW l (2^p-1) S->(∀k,sub (S k) (2^s-1))->∀k,Reach l k->sub (S k) (H k)):ql l H=Zk l p s:=by unfold Zk;have e:∃G,EJ l (2^p-1) (2^s-1) G:=⟨G,hG⟩;rw[dif_pos e];exact(Mu λk hk=>e.choose_spec.eq hs hm hk).symm
def Al(l:List Instr)(i:Nat):Prop:=Reach l i\/i=l.length-1
def sR(ts:List aB)(xs:List (List UInt8))(fs:List Func)(f:Func)(i:Nat)(x:Instr):Int:=if n7 xs.length (fZ fs) f.2.2.2.1 x then(if Al f.2.2.2.2.1 i then(if MA ts (fZ fs) f.2.2.2.1 f.2.2.1 x=true then 0 else 30)else 6)else 16
def rG(ms:List Nat)(i:Nat)(x:Instr):Int:=if∀s,s∈bp ng x->(O ms i).testBit s.toNat=true then 0 else 38
def cM(f:Func):List Nat:=Zk f.2.2.2.2.1 f.2.1.toNat f.2.2.2.1.length
abbrev Found:=List fm×List fm×Int×Int
def ga(ts:List aB)(xs:List (List UInt8))(fs:List Func)(f:Func)(g:Int):Found:=if kq f.2.2.2.2.1=true then if g=0/\(0<f.2.1\/0<=f.2.2.1)then([],[],-1,30)else(fK (sR ts xs fs f) 0 f.2.2.2.2.1).elim (if vI f.2.2.2.2.1 (fh ts fs f)then(fK (rG (cM f)) 0 f.2.2.2.2.1).elim (yX (vb ts fs f),yX (cN (cM f)),0,0) λr=>([],[],(r.1:Int),r.2)else([],[],-1,36)) λr=>([],[],(r.1:Int),r.2)else([],[],-1,12)
def Ta{l:List Instr}(hp:1<=l.length){k:Nat}(hk:k<l.length):((eT l).set (l.length-1) true)[k]?=some (decide (Al l k)):=by
 rw[oi,sM];by_cases h:l.length-1=k;.rw[ba h,ba (by omega),aU (.inr h.symm)]
 .rw[be h,kY hk];congr 1;exact ka.2 ⟨.inl,λh'=>h'.resolve_right λe=>h e.symm⟩
def EV{n:Nat}{l:List Int}(h:∀s,s∈l->0<=s/\s<n):∀{m:Nat},m<2^n->gR m l<2^n:=by unfold gR;induction l with|nil=>grind|cons s r ih=>intro m hm;refine ih (λx hx=>h x (ci _ hx)) ?_;have:=h s ca;exact rt hm (n3 (by omega) (by omega))
section
variable{ts:List aB}{xs:List (List UInt8)}{fs:List Func}{f:Func}
def Fn.fits(h:Fn ts xs fs f):Mq f.2.2.2.2.1 f.2.1 (f.2.2.2.1.length:Int)=0:=by
 have FB:=h.ok.2.1;have hp:=h.ok.2.2.2.1;have:oq f.2.2.2.2.1 (f.2.2.2.1.length:Int).toNat=true:=by unfold oq;rw[d6,rx];intro x hx;have hn:=(h.near x hx).1;have hs:=(ER (h.aL hx)).2;have hlt:ZV x<2^f.2.2.2.1.length:=EV (λs hs'=>by have:=hn s (bj.2 (.inr hs'));have:=hs s (bj.2 (.inr hs'));omega) (EV (λs hs'=>by have:=hn s (bj.2 (.inl hs'));have:=hs s (bj.2 (.inl hs'));omega) (Nat.two_pow_pos _));grind
 unfold Mq<;>grind
def Jw{N:Nat}(hN:14000000<N)(h:Fn ts xs fs f):LU N (f.2.2.2.2.1,f.2.1,(f.2.2.2.1.length:Int))=some (cN (cM f),0)/\(cM f).length=f.2.2.2.2.1.length/\∀k,O (cM f) k<2^64:=by
 have hl:=h.len;have key:=Zc (N:=N) hN (l:=f.2.2.2.2.1) (by omega) (λ_=>hl.2) f.2.1 (f.2.2.2.1.length:Int);rw[ba h.code,ba h.fits]at key;obtain⟨G,hVM,hG,he⟩:=key;have e:ql f.2.2.2.2.1 G=cM f:=MF hG hG.sol λS hS _ k hk=>hG.most S hS k hk;rw[e]at he;refine⟨he,by rw[<-e,Ag],λk=>?_⟩;rw[<-e];by_cases hk:k<f.2.2.2.2.1.length;.rw[HC hk];have:=hVM.lt (hG.M3 k)<;>grind
 .unfold O;rw[da,d8 (by rw[Ag];omega)]<;>grind
def Zl{N:Nat}(hN:14000000<N)(h:Fn ts xs fs f):LI N (f.2.2.2.2.1,f.2.1,(f.2.2.2.1.length:Int))=some (cN (cM f)):=by have hl:=h.len;have key:=Zc (N:=N) hN (l:=f.2.2.2.2.1) (by omega) (λ_=>hl.2) f.2.1 (f.2.2.2.1.length:Int);rw[ba h.code,ba h.fits]at key;obtain⟨G,hVM,hG,_⟩:=key;rw[bd]at hG hVM;obtain⟨H,h1,h2,h3⟩:=abU hVM hN;rw[rh (by have:=h.ok.2.2.2.1;omega)]at h3;rw[h3,MF hG h1 h2];rfl
theorem avy{m:Nat}{s:Int}(hm:m<2^64)(h0:0<=s)(hs:s<=15):((vF .u64 (Int.fdiv (m:Int) (2^min (Int.toNat s) 64)) 1)==0)=!(m.testBit s.toNat):=by rw[rb (by omega),show((2:Int)^s.toNat)=((2^s.toNat:Nat):Int)by rw[Int.natCast_pow];rfl,yG,show(1:Int)=((1:Nat):Int)from rfl,EH (Nat.lt_of_le_of_lt (Nat.div_le_self _ _) hm) (by omega),Nat.and_one_is_mod]<;>grind
theorem avz{m:Nat}{s:Int}(h0:0<=s)(hs:s<=15):((Int.tmod (Int.fdiv (m:Int) (2^min (Int.toNat s) 64)) 2)==0)=!(m.testBit s.toNat):=by grind
def apL{N:Nat}(hN:14000000<N)(hv:iD ts xs fs){g:Int}(hf:idx fs g=some f):XV N (ts,xs,fs,g)=some (ga ts xs fs f g):=by
 obtain⟨g0,mE⟩:=uo hf;have hok:=hv.get mE;obtain⟨hpos,hle⟩:=hok.2.2.2.2.2.2.1;have Tc:=hok.2.2.2.2.2.2.2.1;unfold ga;rw[XV.eq_1,hf];simp[ae,ahL (N:=N) (l:=f.2.2.2.2.1) (by omega) (by omega)];by_cases hval:kq f.2.2.2.2.1=true;case neg=>grind
 rw[ba hval,ba hval];by_cases MG:g=0/\(0<f.2.1\/0<=f.2.2.1);.grind
 rw[be MG];have hmn:(bif g==(0:Int)then(bif decide (f.2.1>0)then some true else some (decide (f.2.2.1>=0)))else some false:Option Bool)=some false:=by grind
 rw[hmn];have l1:=sQ (l:=f.2.2.2.2.1) (p:=sR ts xs fs f) (a:=(.inr (f.2.2.2.2.1,0,0,ts,xs,fs,f.1,f.2.1,f.2.2.1,f.2.2.2.1,f.2.2.2.2.1,f.2.2.2.2.2.1,f.2.2.2.2.2.2):(Int×Int)⊕_)) (out:=λi e=>.inl (i,e)) (Lf:=λk i=>PQ N k (f.2.2.2.2.1,(eT f.2.2.2.2.1).set (f.2.2.2.2.1.length-1) true,f.2.2.2.2.1,(f.2.2.2.2.1.length:Int),i,0,0,ts,xs,fs,f.1,f.2.1,f.2.2.1,f.2.2.2.1,f.2.2.2.2.1,f.2.2.2.2.2.1,f.2.2.2.2.2.2)) (λk=>by simp only[PQ.eq_2,aN,af]) (λk i x hx=>by
   have hi:=aE hx;have hc:=Tc x (aW hx);simp only[PQ.eq_2,aM hi,au,aG hx,ae,apD (show 1300<N by omega) f hc,ai (show i<9223372036854775807by omega)];unfold sR;by_cases hn:n7 xs.length (fZ fs) f.2.2.2.1 x
   .simp only[ba hn,show((0:Int)!=0)=false from rfl,af,aG (Ta hpos hi),ae];by_cases hr:Al f.2.2.2.2.1 i;.simp only[aU hr,dl,af,ba hr,ahR (show 1300<N by omega) hv hok hc hn,ae];cases MA ts (fZ fs) f.2.2.2.1 f.2.2.1 x<;>rfl
    .simp only[aQ hr,ge,au,be hr];rfl
   .simp only[be hn];rfl) (k:=N) (by omega);simp[l1,ae];cases he:fK (sR ts xs fs f) 0 f.2.2.2.2.1with
 |some r=>rfl
 |none=>have hz:=qp he;have hfn:Fn ts xs fs f:=⟨hv,hok,hval,λx hx=>by
   obtain⟨i,hi,rfl⟩:=io.1 hx;have:=hz i _ (aw hi);unfold sR at this;split at this;.assumption
   .cases this⟩;obtain⟨r,c,s1,s2,s3⟩:=Zh (show 1300<N by omega) hfn;obtain⟨m1,m2,m3⟩:=Jw hN hfn;simp[wn,s1,ae];cases c with|false=>grind|true=>
   rw[ba (s2.1 rfl),s3 rfl];simp[dl,af,m1,ae,show((0:Int)!=0)=false from rfl];have l3:∀(i:Nat)x,f.2.2.2.2.1[i]?=some x->zQ N N (vb ts fs f,cN (cM f),(i:Int),0,f.2.2.2.2.1,(f.2.2.2.2.1.length:Int),(i:Int),bp ng x,((bp ng x).length:Int),0,0,0)=some (if rG (cM f) i x≠0then .inl ((i:Int),38)else .inr (vb ts fs f,cN (cM f),f.2.2.2.2.1,(f.2.2.2.2.1.length:Int),(i:Int),0,0)):=λi x hx=>by
    have hi:=aE hx;have h15:=(pU (Tc x (aW hx))).1;have ZL:(cN (cM f))[i]?=some ((O (cM f) i:Nat):Int):=hD (by omega);have hrl:=kZ ng x;have:=gu (l:=bp ng x) (a:=(.inr (vb ts fs f,cN (cM f),f.2.2.2.2.1,(f.2.2.2.2.1.length:Int),(i:Int),0,0):(Int×Int)⊕_)) (b:=.inl ((i:Int),38)) (p:=λs=>!((O (cM f) i).testBit s.toNat)) (Lf:=λk j=>zQ N k (vb ts fs f,cN (cM f),(i:Int),0,f.2.2.2.2.1,(f.2.2.2.2.1.length:Int),(i:Int),bp ng x,((bp ng x).length:Int),j,0,0)) (λk _=>by simp only[zQ.eq_2,aN,af]) (λk j s hs hm=>by have hj:=aE hs;obtain⟨b0,b1⟩:=h15 s hm;simp only[zQ.eq_2,aM hj,au,aG hs,ae,show((0:Int)!=0)=false from rfl,af,aG ZL,show(!decide (s<0))=true by simp;omega,aj,avy (m3 i) b0 b1,ai (show j<9223372036854775807by omega)];cases(O (cM f) i).testBit s.toNat<;>rfl) (k:=N) (by omega);rw[this];unfold rG;by_cases hall:∀s,s∈bp ng x->(O (cM f) i).testBit s.toNat=true;.rw[ba hall,be (λ⟨s,h1,h2⟩=>by rw[hall s h1]at h2;cases h2),be (by decide)]
    .have hex:∃s,s∈bp ng x/\(!((O (cM f) i).testBit s.toNat))=true:=by rw[Classical.not_forall]at hall;obtain⟨s,hs⟩:=hall;rw[Classical.not_imp]at hs;exact⟨s,hs.1,by rw[d6];exact pA.2 hs.2⟩
     rw[ba hex,be hall,ba (show(38:Int)≠0 by decide)]
   have l2:=sQ (l:=f.2.2.2.2.1) (p:=rG (cM f)) (a:=(.inr (vb ts fs f,cN (cM f),0,0):(Int×Int)⊕_)) (out:=λi e=>.inl (i,e)) (Lf:=λk i=>DU N k (vb ts fs f,cN (cM f),f.2.2.2.2.1,(f.2.2.2.2.1.length:Int),i,0,0)) (λk=>by simp only[DU.eq_2,aN,af]) (λk i x hx=>by
     have hi:=aE hx;simp only[DU.eq_2,aM hi,au,aG hx,ae,OS,Tc x (aW hx),l3 i x hx];by_cases hz:rG (cM f) i x=0;.simp only[be (show¬rG (cM f) i x≠0fromλh=>h hz),ai (show i<9223372036854775807by omega)]
     .have e38:rG (cM f) i x=38:=by
       unfold rG at hz⊢;split at hz;.exact absurd rfl hz
       .rename_i h;rw[be h]
      simp only[ba (show rG (cM f) i x≠0from hz)];rw[e38]) (k:=N) (by omega);rw[l2];cases fK (rG (cM f)) 0 f.2.2.2.2.1with|some r=>rfl|none=>simp[wn,ae,ME (N:=N) (v:=vb ts fs f) (by omega) (by rw[qo];omega) (by rw[qo];omega),ME (N:=N) (v:=cN (cM f)) (by omega) (by rw[bO];omega) (by rw[bO];omega),show((0:Int)==0)=true from rfl,au]
end
section
variable{ts:List aB}{xs:List (List UInt8)}{fs:List Func}{f:Func}
def iD.fits(hv:iD ts xs fs){i:Nat}(h:fs[i]?=some f):u0 f:=hv.fit.1.2.2.2.2 f (aW h)
def instrR{N:Nat}(hN:1300<N)(hv:iD ts xs fs){g:Int}(hf:idx fs g=some f)(hok:fB ts.length f){i:Nat}{x:Instr}(hx:f.2.2.2.2.1[i]?=some x)(r:Bool):Sh N (ts,xs,fs,g,(i:Int),r)=some (if n7 xs.length (fZ fs) f.2.2.2.1 x then(if r=true then(if MA ts (fZ fs) f.2.2.2.1 f.2.2.1 x=true then 0 else 30)else 6)else 16):=by
 have hc:=hok.2.2.2.2.2.2.2.1 x (aW hx);rw[Sh.eq_1,hf];simp only[ae,aG hx,apE hN hf hc];by_cases hn:n7 xs.length (fZ fs) f.2.2.2.1 x;.rw[aU hn,ba hn,dl];cases r with|false=>rfl|true=>rw[ahS hv hok hc hn hf]<;>grind
 grind
def ah0{N:Nat}(hN:14000000<N)(hv:iD ts xs fs){g:Int}(hf:idx fs g=some f):F96 N (ts,xs,fs,g)=some ((ga ts xs fs f g).2.2.1,(ga ts xs fs f g).2.2.2):=by
 obtain⟨g0,mE⟩:=uo hf;have hok:=hv.get mE;have hfit:=hv.fits mE;obtain⟨hpos,hle⟩:=hok.2.2.2.2.2.2.1;have Tc:=hok.2.2.2.2.2.2.2.1;unfold ga;rw[F96.eq_1,hf];simp[ae,O4 (N:=N) (l:=f.2.2.2.2.1) (by omega) (by omega) hfit.2.2.2.2.1];by_cases hval:kq f.2.2.2.2.1=true;case neg=>grind
 rw[ba hval,hval];have hvc:=yO hval;have hp0:=hok.2.2.2.1.1;have hr0:=hok.2.2.2.2.1.1;by_cases MG:g=0/\(0<f.2.1\/0<=f.2.2.1);.grind
 rw[be MG];have hmn:(bif g==(0:Int)then(bif f.2.1!=0then some true else some (f.2.2.1!=-1))else some false:Option Bool)=some false:=by
  by_cases h0:g=0;.rw[show(g==(0:Int))=true by simpa using h0,au,dS];congr 1;grind
  grind
 rw[hmn];simp[ae,af,Ze hvc (show 500<N by omega),vD hpos (show f.2.2.2.2.1.length<=10000000by omega)];have l1:=sQ (l:=f.2.2.2.2.1) (p:=sR ts xs fs f) (a:=(.inr (g,ts,xs,fs,f.1,f.2.1,f.2.2.1,f.2.2.2.1,f.2.2.2.2.1,f.2.2.2.2.2.1,f.2.2.2.2.2.2):(Int×Int)⊕_)) (out:=λi e=>.inl (i,e)) (Lf:=λk i=>H3 N k (g,eT f.2.2.2.2.1,((f.2.2.2.2.1.length-1:Nat):Int),i,ts,xs,fs,f.1,f.2.1,f.2.2.1,f.2.2.2.1,f.2.2.2.2.1,f.2.2.2.2.2.1,f.2.2.2.2.2.2)) (λk=>by simp only[H3.eq_2,aN,af]) (λk i x hx=>by
   have hi:=aE hx;simp only[H3.eq_2,aM hi,au,aG (kY hi),ae,instrR (show 1300<N by omega) hv hf hok hx,ai (show i<9223372036854775807by omega),zR];have key:(bif decide (Reach f.2.2.2.2.1 i)then(if n7 xs.length (fZ fs) f.2.2.2.1 x then(if True then(if MA ts (fZ fs) f.2.2.2.1 f.2.2.1 x=true then 0 else 30)else 6)else 16:Int)else(if n7 xs.length (fZ fs) f.2.2.2.1 x then(if((i:Int)==((f.2.2.2.2.1.length-1:Nat):Int))=true then(if MA ts (fZ fs) f.2.2.2.1 f.2.2.1 x=true then 0 else 30)else 6)else 16:Int))=sR ts xs fs f i x:=by
    by_cases h1:Reach f.2.2.2.2.1 i;.rw[aU h1,au];unfold sR;rw[ba (show Al f.2.2.2.2.1 i from .inl h1),ba trivial]
    .rw[aQ h1,af];unfold sR;by_cases h2:i=f.2.2.2.2.1.length-1;.rw[ba (show Al f.2.2.2.2.1 i from .inr h2),ba (show((i:Int)==((f.2.2.2.2.1.length-1:Nat):Int))=true by rw[lx];omega)]
     .rw[be (show¬Al f.2.2.2.2.1 i fromλh=>h.elim h1 h2),be (show¬((i:Int)==((f.2.2.2.2.1.length-1:Nat):Int))=true by rw[lx];omega)]
   rw[key];by_cases hz:sR ts xs fs f i x=0;.rw[be (λh=>h hz),show(sR ts xs fs f i x !=0)=false by simp[hz],af]
   .rw[ba hz,show(sR ts xs fs f i x !=0)=true by simp[bne,hz],au]) (k:=N) (by omega);simp[l1,ae];cases he:fK (sR ts xs fs f) 0 f.2.2.2.2.1with
 |some r=>rfl
 |none=>have hz:=qp he;have hfn:Fn ts xs fs f:=⟨hv,hok,hval,λx hx=>by
   obtain⟨i,hi,rfl⟩:=io.1 hx;have:=hz i _ (aw hi);unfold sR at this;split at this;.assumption
   .cases this⟩;obtain⟨r,c,s1,s2,s3⟩:=MD (show 1300<N by omega) hfn hf;have m1:=Zl hN hfn;obtain⟨_,m2,m3⟩:=Jw hN hfn;simp[wn,s1,ae];cases c with|false=>grind|true=>
   rw[ba (s2.1 rfl)];simp[dl,af,m1,ae];have l3:∀(i:Nat)x,f.2.2.2.2.1[i]?=some x->uQ N N (cN (cM f),(i:Int),bp ng x,0,f.1,f.2.1,f.2.2.1,f.2.2.2.1,f.2.2.2.2.1,f.2.2.2.2.2.1,f.2.2.2.2.2.2)=some (if rG (cM f) i x≠0then .inl ((i:Int),38)else .inr (cN (cM f),(i:Int),f.1,f.2.1,f.2.2.1,f.2.2.2.1,f.2.2.2.2.1,f.2.2.2.2.2.1,f.2.2.2.2.2.2)):=λi x hx=>by
    have hi:=aE hx;have h15:=(pU (Tc x (aW hx))).1;have ZL:(cN (cM f))[i]?=some ((O (cM f) i:Nat):Int):=hD (by omega);have hrl:=kZ ng x;have:=gu (l:=bp ng x) (a:=(.inr (cN (cM f),(i:Int),f.1,f.2.1,f.2.2.1,f.2.2.2.1,f.2.2.2.2.1,f.2.2.2.2.2.1,f.2.2.2.2.2.2):(Int×Int)⊕_)) (b:=.inl ((i:Int),38)) (p:=λs=>!((O (cM f) i).testBit s.toNat)) (Lf:=λk j=>uQ N k (cN (cM f),(i:Int),bp ng x,j,f.1,f.2.1,f.2.2.1,f.2.2.2.1,f.2.2.2.2.1,f.2.2.2.2.2.1,f.2.2.2.2.2.2)) (λk _=>by simp only[uQ.eq_2,aN,af]) (λk j s hs hm=>by have hj:=aE hs;obtain⟨b0,b1⟩:=h15 s hm;simp only[uQ.eq_2,aM hj,au,aG hs,ae,aG ZL,show(!decide (s<0))=true by simp;omega,aj,avz b0 b1,ai (show j<9223372036854775807by omega)];cases(O (cM f) i).testBit s.toNat<;>rfl) (k:=N) (by omega);rw[this];unfold rG;by_cases hall:∀s,s∈bp ng x->(O (cM f) i).testBit s.toNat=true;.rw[ba hall,be (λ⟨s,h1,h2⟩=>by rw[hall s h1]at h2;cases h2),be (by decide)]
    .have hex:∃s,s∈bp ng x/\(!((O (cM f) i).testBit s.toNat))=true:=by rw[Classical.not_forall]at hall;obtain⟨s,hs⟩:=hall;rw[Classical.not_imp]at hs;exact⟨s,hs.1,by rw[d6];exact pA.2 hs.2⟩
     rw[ba hex,be hall,ba (show(38:Int)≠0 by decide)]
   have l2:=sQ (l:=f.2.2.2.2.1) (p:=rG (cM f)) (a:=(.inr ():(Int×Int)⊕Unit)) (out:=λi e=>.inl (i,e)) (Lf:=λk i=>uR N k (cN (cM f),i,f.1,f.2.1,f.2.2.1,f.2.2.2.1,f.2.2.2.2.1,f.2.2.2.2.2.1,f.2.2.2.2.2.2)) (λk=>by simp only[uR.eq_2,aN,af]) (λk i x hx=>by
     have hi:=aE hx;simp only[uR.eq_2,aM hi,au,aG hx,ae,w8 N (Tc x (aW hx)),l3 i x hx];by_cases hz:rG (cM f) i x=0;.simp only[be (show¬rG (cM f) i x≠0fromλh=>h hz),ai (show i<9223372036854775807by omega)]
     .have e38:rG (cM f) i x=38:=by
       unfold rG at hz⊢;split at hz;.exact absurd rfl hz
       .rename_i h;rw[be h]
      simp only[ba (show rG (cM f) i x≠0from hz)];rw[e38]) (k:=N) (by omega);rw[l2];cases fK (rG (cM f)) 0 f.2.2.2.2.1with|some r=>rfl|none=>rfl
structure Zm(ts:List aB)(xs:List (List UInt8))(fs:List Func)(f:Func):Prop where
 fn:Fn ts xs fs f
 sc:vI f.2.2.2.2.1 (fh ts fs f)
def EW(hv:iD ts xs fs)(hok:fB ts.length f){g:Int}(h:(ga ts xs fs f g).2.2.2=0):Zm ts xs fs f/\ga ts xs fs f g=(yX (vb ts fs f),yX (cN (cM f)),0,0):=by
 unfold ga at h⊢;split at h;case isFalse=>grind
 rename_i hval;rw[ba hval];split at h;.grind
 rename_i MG;rw[be MG];cases he:fK (sR ts xs fs f) 0 f.2.2.2.2.1with|some r=>rw[he]at h;exact absurd h (Ak he)|none=>
  rw[he]at h;split at h;case isFalse=>grind
  rename_i hsc;rw[ba hsc];have hz:=qp he;refine⟨⟨⟨hv,hok,hval,λx hx=>?_⟩,hsc⟩,?_⟩;.obtain⟨i,hi,rfl⟩:=io.1 hx;have:=hz i _ (aw hi);unfold sR at this<;>grind
  .cases hl:fK (rG (cM f)) 0 f.2.2.2.2.1with|some r=>rw[hl]at h;exact absurd h (Ak hl)|none=>rfl
def Zn{N:Nat}(hN:1300<N)(hm:jw ts xs fs):F62 N ts=some ts:=by obtain⟨⟨m1,m2,m3,m4,m5⟩,_⟩:=hm;have htl:=m1.1;have k1:=iA (l:=ts) (enc:=λt=>[t]) (g:=id) (B:=1000) (m:=1) (Lf:=λk i s=>D5 N k (ts,s,i)) (λk s=>by simp only[D5.eq_2,aN,af];rfl) (λk i x s hx TN hB=>by obtain⟨j,hj,rfl⟩:=rF ty0 TN;have hf:=(m1.2 j hj).1;simp only[ez]at hf;simp only[D5.eq_2,aM (aE hx),au,aG hx,ae,aq (show 0+(ts.getD j ty0).2.2.2.length<=10000000by omega) (show 24<=1000by omega),aq (show s.length+1<=10000000by omega) (show 48<=1000by omega),aj,ii,ai (show i<9223372036854775807by have:=aE hx;omega)]) (λx _=>by simp) (k:=N) (s:=[]) (by omega) (by simp;omega);rw[SP,ii]at k1;rw[F62.eq_1,k1,ae,id]
def MH(h:u0 f):room (0+f.2.2.2.1.length) 24=true/\room (0+f.2.2.2.2.1.length) 32=true/\room (0+f.2.2.2.2.2.1.length) 16=true/\room (0+f.2.2.2.2.2.2.length) 16=true:=by obtain⟨g1,g2,g3,g4,_⟩:=h;exact⟨aq (by omega) (by omega),aq (by omega) (by omega),aq (by omega) (by omega),aq (by omega) (by omega)⟩
def apM:room 1 128=true:=aq (by omega) (by omega)
def ab9{N:Nat}(hN:14000000<N)(h:Zm ts xs fs f){g:Nat}(hf:fs[g]?=some f):F97 N (ts,xs,fs,(g:Int))=some (f.1,f.2.1,f.2.2.1,f.2.2.2.1,f.2.2.2.2.1,yX (vb ts fs f),yX (cN (cM f))):=by
 have hv:=h.fn.img;obtain⟨hpos,hle⟩:=h.fn.len;have hgl:=aE hf;obtain⟨f0,h0⟩:∃f0,fs[0]?=some f0:=⟨_,aw (by omega)⟩;have h32:=hv.fns.2;have aBp:xs.length<=32:=hv.Jq.2.1;obtain⟨r1,r2,r3,r4⟩:=MH (hv.fits h0);have key:=kK (n:=fs.length) (Lf:=λk i=>H4 N k (i,ts,xs,fs,ts,xs,fs.take i.toNat,ts,xs,fs,[],0,0)) (g:=λ_=>some (ts,xs,fs,ts,xs,fs,[],0,0)) (λk=>by simp only[H4.eq_2,aN,af,bd,f4]) (λk i hi ih=>by have hx:=aw hi;obtain⟨q1,q2,q3,q4⟩:=MH (hv.fits hx);simp only[bd]at ih⊢;simp only[H4.eq_2,aM hi,au,aG hx,ae,q1,q2,q3,q4,aj,ii,aq (show(fs.take i).length+1<=10000000by rw[ft];omega) (show 128<=1000by omega),ai (show i<9223372036854775807by omega)];rw[<-ih,take_succ hx]) N 1 (by omega) (by omega);have htk:fs.take 1=[f0]:=by rw[take_succ h0];rfl
 rw[show(((1:Nat):Int)).toNat=1from rfl,htk,show((1:Nat):Int)=1from rfl]at key;obtain⟨r,c,s1,s2,s3⟩:=MD (show 1300<N by omega) h.fn (aG hf);have hc:=s2.2 h.sc;have hr:=s3 hc;subst hc hr;have k2:=gv (l:=(List.range f.2.2.2.2.1.length).map (HD f.2.2.2.2.1 (fh ts fs f))) (g:=λs:List Int=>(s,([]:List UInt8),(0:Int),(0:Int),f)) (Inv:=λi s=>s=(vb ts fs f).take i) (Lf:=λk i s=>uS N k ((List.range f.2.2.2.2.1.length).map (HD f.2.2.2.2.1 (fh ts fs f)),s,i,ts,xs,fs,[],0,0,f.1,f.2.1,f.2.2.1,f.2.2.2.1,f.2.2.2.2.1,f.2.2.2.2.2.1,f.2.2.2.2.2.2)) (λk s _=>by simp only[uS.eq_2,aN,af]) (λk i x s hx hs=>by
   have hi:=aE hx;have Ay:i<f.2.2.2.2.1.length:=by simpa using hi
   rw[fi,rf Ay]at hx;have hx:=fj hx;obtain⟨o1,o2⟩:=h.fn.Pc i;rw[hx]at o1 o2;obtain⟨b1,b2⟩:=o1.pW hv;have cv:s.length<=200:=by rw[hs,ft,qo];omega
   have hz:(vb ts fs f)[i]?=some (pW ts x):=by unfold vb;rw[fi,rf Ay,<-hx];rfl
   have hgx:idx ((List.range f.2.2.2.2.1.length).map (HD f.2.2.2.2.1 (fh ts fs f))) (i:Int)=some x:=aG (by rw[fi,rf Ay,<-hx];rfl);refine⟨s++[pW ts x],by rw[hs,take_succ hz],?_⟩;simp only[uS.eq_2,aM hi,au,hgx,ae,O9 (show 1300<N by omega) hv o1 (show x.length<=1000by omega),aq (show s.length+1<=10000000by omega) (show 8<=1000by omega),aj,aY (n:=pW ts x) (by omega),ai (show i<9223372036854775807by omega)]) (k:=N) (s:=[]) rfl (by simp;omega);obtain⟨s,hs,k2⟩:=k2;have hs:s=vb ts fs f:=by
  rw[hs];have:((List.range f.2.2.2.2.1.length).map (HD f.2.2.2.2.1 (fh ts fs f))).length=(vb ts fs f).length:=by simp[qo]
  rw[this,f4]
 subst hs;have m1:=Zl hN h.fn;obtain⟨_,m2,_⟩:=Jw hN h.fn;have d1:=aef (N:=N) (v:=vb ts fs f) (by omega) (by rw[qo];omega);have d2:=aef (N:=N) (v:=cN (cM f)) (by omega) (by rw[bO];omega);have e0:idx fs 0=some f0:=aG (i:=0) h0;rw[F97.eq_1,Zn (show 1300<N by omega) hv.fit];simp only[ae,aq (show 0+xs.length<=10000000by omega) (show 16<=1000by omega),aj,aU (show(0:Int)<(fs.length:Int)by omega),au,e0,r1,r2,r3,r4,apM,ii,key,cC hgl,bd,hf,s1,k2,d1,m1,d2]
end
def lay(ts:List aB)(sl:List Field):List Int×Int×Int:=gw 1048576 (exs ts) 0 1 sl
def vU(ts:List aB)(sl:List Field):Int:=up 8 (up (lay ts sl).2.2 (lay ts sl).2.1)
def Qz{x y:List Ex}:∀(fs:List Field)(s a:Int),(∀f,f∈fs->fF x f.2=fF y f.2/\AL (fF x f.2).2/\0<=(fF x f.2).1/\(fF x f.2).1<=256)->0<=s->s+fs.length*263<=10000->gw 1048576 x s a fs=gw 1000000 y s a fs/\(gw 1048576 x s a fs).2.1<=s+fs.length*263|[],s,a,_,_,_=>⟨rfl,by simp[gw]⟩|f::r,s,a,h,h0,hs=>by obtain⟨e1,e2,e3,e4⟩:=h f (ca ..);have hu:=pR e2 h0;simp at hs;obtain⟨g1,g2⟩:=Qz r (up (fF x f.2).2 s+(fF x f.2).1) (max a (fF x f.2).2) (λg hg=>h g (ci _ hg)) (by omega) (by omega);simp only[gw]<;>grind
section
variable{N:Nat}{ts:List aB}{xs:List (List UInt8)}{fs:List Func}
def OW(hT:kL ts)(hS:sI ts){i:Int}(hi:0<=i/\i<ts.length):fF (exs ts) i=fF (cQ 1000000 ts ts.length) i/\AL (fF (exs ts) i).2/\0<=(fF (exs ts) i).1/\(fF (exs ts) i).1<=256:=by
 obtain⟨n,rfl⟩:=dE hi.1;have h:=hS n (by omega);have hr:=uZ hT.2.1 ts.length (bc _) (n:Int);obtain⟨e1,e2,e3⟩:=(kM (C:=1048576) (by omega) (by omega) hT.2.1 ts.length (bc _)).get (by omega) (n:Int);refine⟨?_,e1,e2,h⟩;rcases hr with⟨hr|hr,hq⟩;.exact Prod.ext hr hq
 .have:(fF (exs ts) (n:Int)).1=(fF (cQ 1048576 ts ts.length) (n:Int)).1:=rfl;omega
def z8(hT:kL ts)(hS:sI ts){sl:List Field}(FB:sl.length<=16)(hr:ko sl ts.length):lay ts sl=gw 1000000 (cQ 1000000 ts ts.length) 0 1 sl/\(0<=(lay ts sl).2.1/\(lay ts sl).2.1<=4208)/\AL (lay ts sl).2.2/\(lay ts sl).1.length=sl.length:=by obtain⟨g1,g2⟩:=Qz (x:=exs ts) (y:=cQ 1000000 ts ts.length) sl 0 1 (λf hf=>OW hT hS (hr f hf)) (by omega) (by omega);obtain⟨b1,b2,b3⟩:=qi (C:=1048576) (by omega) (kM (by omega) (by omega) hT.2.1 ts.length (bc _)) sl 0 1 (by omega) (by omega) (.inl rfl);exact⟨g1,⟨b1.1,by unfold lay;omega⟩,b2,b3⟩
def u5(hT:kL ts)(hS:sI ts){sl:List Field}(FB:sl.length<=16)(hr:ko sl ts.length):(0<=up (lay ts sl).2.2 (lay ts sl).2.1/\up (lay ts sl).2.2 (lay ts sl).2.1<=4215)/\0<=vU ts sl/\vU ts sl<=4222:=by obtain⟨_,b1,b2,_⟩:=z8 hT hS FB hr;have h1:=pR b2 b1.1;have h2:=pR (a:=8) (s:=up (lay ts sl).2.2 (lay ts sl).2.1) (.inr rfl) (by omega);unfold vU;omega
def OX(hN:1300<N)(hl:Mf ts)(hT:kL ts)(hS:sI ts){sl:List Field}(FB:sl.length<=16)(hr:ko sl ts.length):Ya N (ts,sl)=some ((lay ts sl).1,up (lay ts sl).2.2 (lay ts sl).2.1,(lay ts sl).2.2,0):=by
 have hE:=kM (C:=1048576) (by omega) (by omega) hT.2.1 ts.length (bc _);have l1:DV N N (ts,sl,exs ts,sl,(sl.length:Int),0)=some (.inr (sl,exs ts)):=by have:=kK (n:=sl.length) (Lf:=λk i=>DV N k (ts,sl,exs ts,sl,(sl.length:Int),i)) (g:=λ_=>some (.inr (sl,exs ts))) (λk=>by simp only[DV.eq_2,aN,af]) (λk i hi ih=>by have hm:=aw hi;have hh:=hr _ (i7 hi);simp only[DV.eq_2,aM hi,au,aG hm,ae,aQ (show¬(sl[i]).2<0 by omega),af,aQ (show¬(sl[i]).2>=(ts.length:Int)by omega),ai (show i<9223372036854775807by omega)];exact ih) N 0 (by omega) (by omega);omega
 have l2:DW N N (sl,exs ts,sl,(sl.length:Int),0)=some (.inr (sl,exs ts)):=by have:=kK (n:=sl.length) (Lf:=λk i=>DW N k (sl,exs ts,sl,(sl.length:Int),i)) (g:=λ_=>some (.inr (sl,exs ts))) (λk=>by simp only[DW.eq_2,aN,af]) (λk i hi ih=>by have hm:=aw hi;have hh:=hr _ (i7 hi);have he:=(OW hT hS hh).2.2.2;simp only[DW.eq_2,aM hi,au,aG hm,ae,sH (x:=exs ts) (show 0<=(sl[i]).2/\(sl[i]).2<(exs ts).length by rw[Qu];exact hh),aQ (show¬(fF (exs ts) (sl[i]).2).1>256by omega),af,ai (show i<9223372036854775807by omega)];exact ih) N 0 (by omega) (by omega);omega
 have l3:=Yz (N:=N) (b:=[]) (by omega) hE (fs:=sl) (by omega) (λf hf=>by rw[fQ];exact hr f hf);simp at l3;rw[Ya.eq_1,zY hN hl,ba hT,ae,iC,af,aQ (show¬(sl.length:Int)>16by omega),Es (by omega) hl.1 hT.2.1,ae,show cQ 1048576 ts ts.length=exs ts from rfl,l1,ae];simp;rw[l2,ae];simp;rw[show exs ts=cQ 1048576 ts ts.length from rfl,l3];rfl
def YW{n:Int}(h:0<=n/\n<=4000000):LS N n=some (up 8 n,0):=by have e:=sG (a:=8) (s:=n) (.inr rfl) h;rw[aO (n:=n+8) (by omega),show n+8-1=n+7by omega,aO (n:=(8:Int)-1) (by decide)]at e;rw[LS.eq_1,aQ (show¬n<0 by omega),af,ae,aQ (show¬n>1073741824by omega),af]<;>grind
def Co{i:Nat}(hi:i<fs.length):idx fs (i:Int)=some (gS fs i):=cD _ hi
def abL(hN:1300<N)(hm:jw ts xs fs)(h:eL ts xs fs){f:Nat}(hf:f<fs.length):Yb N (ts,xs,fs,(f:Int))=some ((lay ts (gS fs f).2.2.2.1).1,vU ts (gS fs f).2.2.2.1):=by have hF:=h.func hf;have hb:=(u5 h.1 h.2.2.2.1 hF.2.1 hF.2.2.2.2.2.1).1;rw[Yb.eq_1,Co hf,ae,OX hN hm.1.1 h.1 h.2.2.2.1 hF.2.1 hF.2.2.2.2.2.1,ae];rw[YW ⟨hb.1,by omega⟩];rfl
def Mm(hN:1300<N)(hm:jw ts xs fs)(h:eL ts xs fs){sl:List Field}(FB:sl.length<=16)(hr:ko sl ts.length):F98 N (ts,sl)=some ((lay ts sl).1,up (lay ts sl).2.2 (lay ts sl).2.1,(lay ts sl).2.2):=by have hT:=h.1;have hE:=kM (C:=1000000) (by omega) (by omega) hT.2.1 ts.length (bc _);have l3:=YB (N:=N) (by omega) hE (fs:=sl) (by omega) (λf hf=>by rw[fQ];exact hr f hf);rw[F98.eq_1,Et (by omega) hm.1.1.1 hT.2.1,ae];rw[l3,ae,(z8 hT h.2.2.2.1 FB hr).1]
def OY{n:Int}(h:0<=n/\n<=4000000):F61 N n=some (up 8 n):=by rw[F61.eq_1,Cn (.inr rfl) h];rfl
def Mn{l:List Int}(c:Int)(hl:l.length<=1000)(hN:1300<N)(hb:∀x,x∈l->0<=x/\x<=100000):uT N N (l,c,0,List.replicate l.length 0)=some (c,l.map λx=>24+x):=by
 have:=kK (n:=l.length) (Lf:=λk i=>uT N k (l,c,i,(l.take i.toNat).map (λx=>24+x)++List.replicate (l.length-i.toNat) 0)) (g:=λ_=>some (c,l.map λx=>24+x)) (λk=>by simp only[uT.eq_2,aN,af,bd,f4,pw,rc,dq]) (λk i hi ih=>by
  have hm:=aw hi;have hlen:((l.take i).map (λx=>24+x)).length=i:=by simp;omega
  have hx:=hb _ (i7 hi);have hg:((l.take i).map (λx=>24+x)++List.replicate (l.length-i) (0:Int))[i]?=some 0:=by rw[kw (by omega),hlen,pw,m7,ba (by omega)]
  have hir:gB (i:Int) ((l.take i).map (λx=>24+x)++List.replicate (l.length-i) (0:Int)).length=true:=qh (by simp;omega);simp only[bd]at ih⊢;simp only[uT.eq_2,aM hi,au,aG hm,ae,hir,aj,bd,hg,ai (show i<9223372036854775807by omega)];have e:(l.take (i+1)).map (λx=>24+x)=(l.take i).map (λx=>24+x)++[24+l[i]]:=by rw[List.take_add_one,hm,f9];rfl
  rw[Qs hlen hi,aO (by omega),<-ih,e]) N 0 (by omega) (by omega);grind
def QA{x:List Ex}(hx:EX 1048576 x):∀(fs:List Field)(s a:Int),0<=s->(∀f,f∈fs->(fF x f.2).1<=256)->s+fs.length*263<=10000->∀o,o∈(gw 1048576 x s a fs).1->0<=o/\o<=10000
 |[],_,_,_,_,_,o,h=>by cases h|f::r,s,a,h0,hf,hs,o,h=>by
  obtain⟨e1,e2,e3⟩:=hx.get (by omega) f.2;have avj:=hf f (ca ..);have hu:=pR e1 h0;simp at hs;rcases dj.1 h with rfl|h;.omega
  .exact QA hx r (min 1048576 (up (fF x f.2).2 s+(fF x f.2).1)) (max a (fF x f.2).2) (by omega) (λg hg=>hf g (ci _ hg)) (by omega) o h
def ahI(h:eL ts xs fs){sl:List Field}(FB:sl.length<=16)(hr:ko sl ts.length):∀o,o∈(lay ts sl).1->0<=o/\o<=10000:=QA (kM (C:=1048576) (by omega) (by omega) h.1.2.1 ts.length (bc _)) sl 0 1 (by omega) (λf hf=>(OW h.1 h.2.2.2.1 (hr f hf)).2.2.2) (by omega)
def SS(hN:1300<N)(hm:jw ts xs fs)(h:eL ts xs fs){f:Nat}(hf:f<fs.length):F58 N (ts,xs,fs,(f:Int))=some ((lay ts (gS fs f).2.2.2.1).1.map (λx=>24+x),24+vU ts (gS fs f).2.2.2.1):=by
 have hF:=h.func hf;obtain⟨hb,tj⟩:=u5 h.1 h.2.2.2.1 hF.2.1 hF.2.2.2.2.2.1;have hlen:=(z8 h.1 h.2.2.2.1 hF.2.1 hF.2.2.2.2.2.1).2.2.2;have h0:decide (0<=((lay ts (gS fs f).2.2.2.1).1.length:Int))=true:=bm (by omega);have hro:(decide (Int.toNat ((lay ts (gS fs f).2.2.2.1).1.length:Int)<=Int.toNat ((lay ts (gS fs f).2.2.2.1).1.length:Int))&&room (Int.toNat ((lay ts (gS fs f).2.2.2.1).1.length:Int)) 8)=true:=by rw[bm (bc _),aq (by have:=hF.2.1;omega) (by omega)];rfl
 rw[F58.eq_1,Co hf,ae,Mm hN hm h hF.2.1 hF.2.2.2.2.2.1,ae];simp only;rw[h0,aj,aj,hro,aj,bd,Mn _ (by have:=hF.2.1;omega) hN (λx hx=>by have:=ahI h hF.2.1 hF.2.2.2.2.2.1 x hx;omega),ae];rw[OY ⟨hb.1,by omega⟩,ae,show up 8 (up (lay ts (gS fs f).2.2.2.1).2.2 (lay ts (gS fs f).2.2.2.1).2.1)=vU ts (gS fs f).2.2.2.1from rfl,aO (by omega)]
def ahJ(fs:List Func)(f s:Int):Prop:=0<=f/\f<fs.length/\0<=s/\s<(gS fs f.toNat).2.2.2.1.length
def ayR(ts:List aB)(xs:List (List UInt8))(fs:List Func)(f s:Int):Int×Int×Int:=if j0 ts xs fs=0then(if ahJ fs f s then(24+(lay ts (gS fs f.toNat).2.2.2.1).1.getD s.toNat 0,(fl (gS fs f.toNat).2.2.2.1 s.toNat).2,0)else(0,0,2))else(0,0,j0 ts xs fs)
def yP(i:Int):Int->List fm->Int|a,[]=>a|a,x::r=>yP i (if x.1<=i then x.2else a) r
def Jk(i:Int):∀(l:List fm)(a:Int)(b:Nat),b<=l.length->(∀j,j<b->(rn l j).1<=i)->(∀j,b<=j->j<l.length->i<(rn l j).1)->yP i a l=if b=0then a else(rn l (b-1)).2
 |[],a,b,hb,_,_=>by
  have:b=0:=by grind
  rw[ba this];rfl|x::r,a,0,hb,_,h2=>by have h0:i<x.1:=h2 0 (bc _) (by simp);rw[ba rfl,yP,be (by omega),Jk i r a 0 (by omega) (λj hj=>by omega) (λj _ hj=>h2 (j+1) (by omega) (by simp;omega)),ba rfl]|x::r,a,b+1,hb,h1,h2=>by have h0:x.1<=i:=h1 0 (by omega);rw[yP,ba h0,Jk i r x.2 b (by simpa using hb) (λj hj=>h1 (j+1) (by omega)) (λj hj hl=>h2 (j+1) (by omega) (by simp;omega))];cases b with|zero=>rfl|succ b=>rfl
def YX{l:List fm}(hl:l.length<=1000)(hN:1300<N)(i:Int):F79 N (l,i)=some (yP i 0 l):=by
 have key:∀(r pre:List fm)(a:Int)(k:Nat),l=pre++r->r.length<k->So N k (l,i,a,(pre.length:Int))=some (yP i a r):=by intro r;induction r with|nil=>intro pre a k h hk;obtain⟨k,rfl⟩:∃m,k=m+1:=⟨k-1,by simp at hk;omega⟩;simp at h;subst h;simp[So.eq_2,aN,af,yP]|cons x r ih=>
  intro pre a k h hk;obtain⟨k,rfl⟩:∃m,k=m+1:=⟨k-1,by simp at hk;omega⟩;have hlt:pre.length<l.length:=by rw[h];simp
  have ix:idx l (pre.length:Int)=some x:=nY h rfl;have:=ih (pre++[x]) (if x.1<=i then x.2else a) k (by rw[h];simp) (by simpa using hk);rw[bb,dp]at this;simp only[So.eq_2,aM hlt,au,ix,ae,zR,ai (show pre.length<9223372036854775807by omega)];rw[yP,<-this];by_cases hx:x.1<=i;.rw[aU hx,ba hx];rfl
  .rw[aQ hx,be hx];rfl
 have:=key l [] 0 N rfl (by omega);simp at this;rw[F79.eq_1,this];rfl
def Aa{l:List fm}{n:Int}(hr:ee l n)(hl:l.length<=1000){i:Int}:∀(k lo hi:Nat),hi-lo<k->lo<=hi->hi<=l.length->(∀j,j<lo->(rn l j).1<=i)->(∀j,hi<=j->j<l.length->i<(rn l j).1)->∃b:Nat,b<=l.length/\(∀j,j<b->(rn l j).1<=i)/\(∀j,b<=j->j<l.length->i<(rn l j).1)/\DX N k ((lo:Int),(hi:Int),l,i)=some ((b:Int),l)
 |0,_,_,h,_,_,_,_=>by omega|k+1,lo,hi,hk,hle,hhl,h1,h2=>by
  rw[DX.eq_2];by_cases he:lo=hi;.subst he;rw[aN,af];exact⟨lo,hhl,h1,h2,rfl⟩
  .have hm:av (Int.fdiv (aR (av ((lo:Int)+(hi:Int)))) 2)=(((lo+hi)/2:Nat):Int):=by rw[aO (n:=(lo:Int)+(hi:Int)) (by omega),aY (by omega),ro _ (by omega),aO (by omega)];omega
   have hx:idx l (((lo+hi)/2:Nat):Int)=some (rn l ((lo+hi)/2)):=cD _ (by omega);rw[aM (show lo<hi by omega),au,hm,hx,ae];by_cases hc:(rn l ((lo+hi)/2)).1>i;.rw[aU hc,dl,af];exact Aa hr hl k lo ((lo+hi)/2) (by omega) (by omega) (by omega) h1 (λj hj hjl=>by have:=hr.mono hj hjl;omega)
   .rw[aQ hc,ge,au,ai (show(lo+hi)/2<9223372036854775807by omega)];exact Aa hr hl k ((lo+hi)/2+1) hi (by omega) (by omega) hhl (λj hj=>by have:=hr.mono (i:=j) (j:=(lo+hi)/2) (by omega) (by omega);omega) h2
def apt{l:List fm}{n i:Nat}(hN:1300<N)(hl:l.length<=300)(h:ee l n)(h1:1<=n)(h2:n<=200)(hi:i<n):Yd N (l,(n:Int),(i:Int))=some (yP i 0 l,0):=by
 obtain⟨b,hb,b1,b2,e⟩:=Aa (N:=N) h (by omega) (i:=(i:Int)) N 0 l.length (by omega) (by omega) (bc _) (λj hj=>by omega) (λj hj hjl=>by omega);have e':DX N N (0,(l.length:Int),l,(i:Int))=some ((b:Int),l):=e;have hb0:b≠0:=λe0=>by have:=b2 0 (by omega) h.1;have:=h.2.1;omega
 have hx:idx l (((b-1:Nat)):Int)=some (rn l (b-1)):=cD _ (by omega);rw[Yd.eq_1,vB (by omega) (by omega),be (by omega),ba h,ae,iC,af,aQ (show¬(i:Int)<0 by omega),af,ae,aQ (show¬(i:Int)>=(n:Int)by omega),af,e',ae];rw[zV (by omega) (by omega),hx,ae,Jk i l 0 b hb b1 b2,be hb0]
def abM{l:List fm}(h:Cv l)(i:Int):∀a,0<=a/\a<=18446744073709551615->0<=yP i a l/\yP i a l<=18446744073709551615:=by induction l with|nil=>intro a ha;exact ha|cons x r ih=>
 intro a ha;refine ih (λy hy=>h y (ci _ hy)) _ ?_;split;.exact h x (ca ..)
 omega
def EB(fs:List Func)(f i:Nat):Int:=yP i 0 (gS fs f).2.2.2.2.2.1
def mo(ts:List aB)(fs:List Func)(f i:Nat):Int:=24+vU ts (gS fs f).2.2.2.1+EB fs f i
def QB(ts:List aB)(xs:List (List UInt8))(fs:List Func)(a:Nat):Int×Int:=if(vT ts xs fs a).2.2=0then(if mo ts fs (a/256-1) (a%256)>4096then(0,16)else(mo ts fs (a/256-1) (a%256),0))else(0,(vT ts xs fs a).2.2)
def OZ{a:Nat}(h:(vT ts xs fs a).2.2=0):eL ts xs fs/\tu fs a/\vT ts xs fs a=(((a/256-1:Nat):Int),((a%256:Nat):Int),0):=by
 unfold vT at h⊢;by_cases hc:j0 ts xs fs=0
 .rw[ba hc]at h⊢;by_cases ha:tu fs a;.rw[ba ha];exact⟨(z7 hc).1,ha,rfl⟩
  grind
 grind
def Ab(hm:jw ts xs fs){f i:Nat}(hf:f<fs.length):0<=EB fs f i/\EB fs f i<=18446744073709551615:=abM (hm.1.2.2.2.2 _ (n6 fn0 hf)).2.2.2.2.2.1 _ 0 (by omega)
def SU(hN:1300<N)(hm:jw ts xs fs){a:Nat}(ha:a<18446744073709551616):F93 N (ts,xs,fs,(a:Int))=some (QB ts xs fs a):=by
 rw[F93.eq_1,Qw hN hm ha,ae,QB];by_cases h0:(vT ts xs fs a).2.2=0
 .obtain⟨Tt,⟨a1,a2,a3⟩,e⟩:=OZ h0;rw[ba h0,e];have hF:=Tt.func (i:=a/256-1) (by omega);obtain⟨_,hb⟩:=u5 Tt.1 Tt.2.2.2.1 hF.2.1 hF.2.2.2.2.2.1;have hs:=Ab hm (f:=a/256-1) (i:=a%256) (by omega);have hn:=hF.2.2.2.2.2.2.1;rw[iC,af,abL hN hm Tt (by omega),ae,Co (by omega),ae,ae,apt hN (by have:=pQ hF.2.2.2.2.2.2.2.2.1;omega) hF.2.2.2.2.2.2.2.2.1 hn.1 hn.2 a3,ae];rw[show yP ((a%256:Nat):Int) 0 (gS fs (a/256-1)).2.2.2.2.2.1=EB fs (a/256-1) (a%256)from rfl];by_cases hx:EB fs (a/256-1) (a%256)>4096;.rw[aU hx,au,ae,au,ba (show mo ts fs (a/256-1) (a%256)>4096by unfold mo;omega)]
  .have e2:av (av (24+vU ts (gS fs (a/256-1)).2.2.2.1)+av (EB fs (a/256-1) (a%256)))=mo ts fs (a/256-1) (a%256):=by rw[aO (n:=24+_) (by omega),aO (n:=EB _ _ _) (by omega),aO (by omega)];rfl
   grind
 grind
end
def mq{d:fS}{r:List fS}(h:okD (d::r)):d.t.ok d.v/\okD r:=Va.1 h
def YY{ts:List aB}{fs:List Func}(h1:(Ty.sl bM).ok ts)(h3:(Ty.sl ec).ok fs):Qx ts fs:=by
 refine⟨λt ht=>(h1.2 t ht).2.2.1,λf hf=>?_⟩;obtain⟨_,_,g3,_,g5,g6,g7⟩:=h3.2 f hf;refine⟨g3,λx hx=>?_,λx hx=>?_,λx hx=>?_⟩;.have:=g5.2 x hx;exact⟨this.2.1,this.2.2.1,this.2.2.2⟩
 .exact(g6.2 x hx).2
 .exact(g7.2 x hx).2
def abN(l:List Int)(o:Nat)(bs:List Int):List Int:=l.take o++(bs++l.drop (o+bs.length))
def wb(v k:Nat):Int:=((v/256^k%256:Nat):Int)
def YZ(v:Nat):List Int:=(List.range 8).map (wb v)
section
variable{N:Nat}{ts:List aB}{xs:List (List UInt8)}{fs:List Func}
def apu(l:List Int)(v w r:Nat):List Int:=abN (abN (abN l 0 (YZ v)) 8 (YZ w)) 16 (YZ r)
def szF(ts:List aB)(f:Field):Nat:=(fF (exs ts) f.2).1.toNat
def ad8(ts:List aB)(f:Field):Nat:=(up 8 (fF (exs ts) f.2).1).toNat
def ad9(ts:List aB):List Field->Nat|[]=>0|f::r=>ad8 ts f+ad9 ts r
def aea(ts:List aB)(A:List Int):Nat->List Field->List Int->List Int->List Int|_,[],own,_=>own|i,f::r,own,args=>aea ts A (i+1) r (abN own (24+(A.getD i 0).toNat) (args.take (szF ts f))) (args.drop (ad8 ts f))
def Y0{x:List Ex}(hx:EX 1048576 x):∀(fs:List Field)(s a:Int),0<=s->s+fs.length*263<=10000->(∀f,f∈fs->(fF x f.2).1<=256)->s<=(gw 1048576 x s a fs).2.1/\∀(i:Nat)f,fs[i]?=some f->0<=(gw 1048576 x s a fs).1.getD i 0/\(gw 1048576 x s a fs).1.getD i 0+(fF x f.2).1<=(gw 1048576 x s a fs).2.1
 |[],s,a,_,_,_=>⟨wx _,λi f h=>by simp at h⟩|f::r,s,a,h0,hs,hf=>by
  obtain⟨e1,e2,e3⟩:=hx.get (by omega) f.2;have avj:=hf f (ca ..);have hu:=pR e1 h0;rw[fd]at hs;obtain⟨g1,g2⟩:=Y0 hx r (up (fF x f.2).2 s+(fF x f.2).1) (max a (fF x f.2).2) (by omega) (by omega) (λg hg=>hf g (ci _ hg));simp only[gw];rw[show min 1048576 (up (fF x f.2).2 s+(fF x f.2).1)=up (fF x f.2).2 s+(fF x f.2).1by omega]
  refine⟨by omega,λi g hg=>?_⟩;cases i with|zero=>
   have:f=g:=by simpa using hg
   subst this;show 0<=up (fF x f.2).2 s/\up (fF x f.2).2 s+(fF x f.2).1<=_;omega|succ i=>exact g2 i g (by simpa using hg)
end
def gQ(b:Int)(l:List Int):Prop:=b%16777216=0/\1<=b/16777216/\b/16777216<=16/\l.length%8=0/\l.length<=4096
def jg(m r:Int):Prop:=m<=3/\(r≠0↔2<=m)
def u64(v:Int):Prop:=0<=v/\v<=18446744073709551615
def Tu(l:List Int):Prop:=∀x,x∈l->0<=x/\x<=255
section
variable{N:Nat}{ts:List aB}{xs:List (List UInt8)}{fs:List Func}
def BI{b:Int}{l:List Int}(hb:u64 b):F90 N (b,l)=some (if gQ b l then 0 else 8):=by
 have e0:Int.tmod (l.length:Int) 8=((l.length%8:Nat):Int):=by grind
 obtain⟨h0,h1⟩:=hb;rw[F90.eq_1,oI h0,Ci h0,aY (by omega),e0];by_cases c1:b%16777216=0
 .rw[show(b%16777216!=0)=false by simpa using c1,af];by_cases c2:b/16777216<1;.rw[aU c2,be λh=>by have:=h.2.1;omega];rfl
  .rw[aQ c2,af];by_cases c3:b/16777216>16;.rw[aU c3,be λh=>by have:=h.2.2.1;omega];rfl
   .rw[aQ c3,af];by_cases c4:l.length%8=0
    .rw[show(((l.length%8:Nat):Int)!=0)=false by simp;omega,af];by_cases c5:(l.length:Int)>4096;.rw[aU c5,be λh=>by have:=h.2.2.2.2;omega];rfl
     .rw[aQ c5,ba ⟨c1,by omega,by omega,c4,by omega⟩];rfl
    .rw[show(((l.length%8:Nat):Int)!=0)=true by simp;omega,be λh=>c4 h.2.2.2.1];rfl
 .rw[show(b%16777216!=0)=true by simpa using c1,be λh=>c1 h.1];rfl
def EC(hN:1300<N){b:Int}{l:List Int}(hb:u64 b):F22 N (b,l)=some (decide (gQ b l)):=by
 have e0:Int.tmod (l.length:Int) 8=((l.length%8:Nat):Int):=by grind
 have key:∀(m g:Nat)(k:Nat),g+m=17->1<=g->m<k->(∀q:Int,1<=q->q<(g:Int)->b≠16777216*q)->(D0 N k ((g:Int),b,l)=some (.inl (decide (gQ b l)))\/(D0 N k ((g:Int),b,l)=some (.inr ())/\¬gQ b l)):=by intro m;induction m with|zero=>intro g k hg _ hk hn;obtain⟨k,rfl⟩:∃m,k=m+1:=⟨k-1,by omega⟩;right;refine⟨by rw[D0.eq_2,aQ (show¬(g:Int)<=16by omega),af],λh=>?_⟩;obtain⟨a1,a2,a3,_⟩:=h<;>grind|succ m ih=>
   intro g k hg h1 hk hn;obtain⟨k,rfl⟩:∃m,k=m+1:=⟨k-1,by omega⟩;rw[D0.eq_2,aU (show(g:Int)<=16by omega),au,aY (n:=16777216*(g:Int)) (by omega),aY (n:=(g:Int)+1) (by omega)];by_cases hc:b=16777216*(g:Int)
   .left;rw[show(b==16777216*(g:Int))=true by simpa using hc,au,e0];by_cases c4:l.length%8=0;.rw[show(((l.length%8:Nat):Int)==0)=true by simp;omega,au,ae];congr 2;rw[ka];exact⟨λh=>⟨by omega,by omega,by omega,c4,by omega⟩,λh=>by have:=h.2.2.2.2;omega⟩
    .rw[show(((l.length%8:Nat):Int)==0)=false by simp;omega,af,ae,aQ (show¬gQ b l fromλh=>c4 h.2.2.2.1)]
   .rw[show(b==16777216*(g:Int))=false by simpa using hc];exact ih (g+1) k (by omega) (by omega) (by omega) λq q1 q2=>by
     by_cases e:q=(g:Int);.rw[e];exact hc
     .exact hn q q1 (by omega)
 rw[F22.eq_1];rcases key 16 1 N (by omega) (by omega) (by omega) (λq q1 q2=>by omega)with h|⟨h,h'⟩<;>grind
def SV{m r:Int}:Yf N (m,r)=some (decide (jg m r)):=by
 rw[Yf.eq_1];by_cases c:m<=3
 .rw[aU c,au];by_cases c1:r=0<;>by_cases c2:2<=m;.rw[aQ (show¬jg m r fromλh=>h.2.2 c2 c1),show(r !=0)=false by simpa using c1,aU (show m>=2by omega)];rfl
  .rw[aU (show jg m r from⟨c,λh=>absurd c1 h,λh=>absurd h c2⟩),show(r !=0)=false by simpa using c1,aQ (show¬m>=2by omega)];rfl
  .rw[aU (show jg m r from⟨c,λ_=>c2,λ_=>c1⟩),show(r !=0)=true by simpa using c1,aU (show m>=2by omega)];rfl
  .rw[aQ (show¬jg m r fromλh=>c2 (h.2.1 c1)),show(r !=0)=true by simpa using c1,aQ (show¬m>=2by omega)];rfl
 .rw[aQ c,aQ (show¬jg m r fromλh=>c h.1)];rfl
def SW{m r:Int}(hm:0<=m)(hr:0<=r):F82 N (m,r)=some (decide (jg m r)):=by
 have hq:∀k:Int,m≠k->(m==k)=false:=λk h=>by simpa using h
 have h4:m=0\/m=1\/m=2\/m=3\/3<m:=by omega
 rw[F82.eq_1];by_cases c1:r=0
 .subst c1;rcases h4 with rfl|rfl|rfl|rfl|h;.rw[aU (show jg 0 0from⟨by decide,by decide⟩)];rfl
  .rw[aU (show jg 1 0from⟨by decide,by decide⟩)];rfl
  .rw[aQ (show¬jg 2 0fromλh=>absurd (h.2.2 (by decide)) (by decide))];rfl
  .rw[aQ (show¬jg 3 0fromλh=>absurd (h.2.2 (by decide)) (by decide))];rfl
  .rw[hq 0 (by omega),hq 1 (by omega),hq 2 (by omega),hq 3 (by omega),aQ (show¬jg m 0fromλh'=>by have:=h'.1;omega)];rfl
 .have hp:(r==0)=false:=by grind
  rw[hp,aU (show r>0 by omega)];rcases h4 with rfl|rfl|rfl|rfl|h;.rw[aQ (show¬jg 0 r fromλh=>absurd (h.2.1 c1) (by decide))];rfl
  .rw[aQ (show¬jg 1 r fromλh=>absurd (h.2.1 c1) (by decide))];rfl
  .rw[aU (show jg 2 r from⟨by decide,λ_=>by decide,λ_=>c1⟩)];rfl
  .rw[aU (show jg 3 r from⟨by decide,λ_=>by decide,λ_=>c1⟩)];rfl
  .rw[hq 0 (by omega),hq 1 (by omega),hq 2 (by omega),hq 3 (by omega),aQ (show¬jg m r fromλh'=>by have:=h'.1;omega)];rfl
def Mo(fs:List Func)(n:Nat):List Field:=(gS fs n).2.2.2.1.take (gS fs n).2.1.toNat
def ahK(ts:List aB)(fs:List Func)(n back mode rec:Nat)(args:List Int):List Int:=aea ts (lay ts (gS fs n).2.2.2.1).1 0 (Mo fs n) (apu (List.replicate (24+vU ts (gS fs n).2.2.2.1).toNat 0) back mode rec) args
def ayT(b:Int)(l:List Int)(ts:List aB)(xs:List (List UInt8))(fs:List Func)(f:Int)(back mode rec:Nat)(args:List Int)(limit:Int):Int×List Int×Int×Int:=if gQ b l then if j0 ts xs fs=0then if 0<=f/\f<fs.length/\jg mode rec/\0<=limit/\limit<=4096/\args.length=ad9 ts (Mo fs f.toNat)then if(l.length:Int)+(24+vU ts (gS fs f.toNat).2.2.2.1)>limit then(0,[],0,18)else(b,l++ahK ts fs f.toNat back mode rec args,b+l.length,0)else(0,[],0,2)else(0,[],0,j0 ts xs fs)else(0,[],0,8)
end
def pT(l:List Int)(o:Nat):Int:=l.getD o 0+256*l.getD (o+1) 0+65536*l.getD (o+2) 0+16777216*l.getD (o+3) 0+4294967296*l.getD (o+4) 0+1099511627776*l.getD (o+5) 0+281474976710656*l.getD (o+6) 0+72057594037927936*l.getD (o+7) 0
def dO{l:List Int}(hb:Tu l)(i:Nat):0<=l.getD i 0/\l.getD i 0<=255:=by rw[da];cases e:l[i]?with|none=>grind|some x=>exact hb x (aW e)
def u6{l:List Int}(hb:Tu l)(o:Nat):0<=pT l o/\pT l o<=18446744073709551615:=by have:=dO hb o;have:=dO hb (o+1);have:=dO hb (o+2);have:=dO hb (o+3);have:=dO hb (o+4);have:=dO hb (o+5);have:=dO hb (o+6);have:=dO hb (o+7);unfold pT;omega
def Y1{v x:Int}(hv:0<=v/\v<72057594037927936)(hx:0<=x/\x<=255):DS .u64 (aR (v*256)) (aR x)=v*256+x:=by
 obtain⟨a,rfl⟩:=dE hv.1;obtain⟨i,rfl⟩:=dE hx.1;rw[aY (by omega),aY (by omega),show(a:Int)*256=((256*a:Nat):Int)by omega];unfold DS;have e:(BitVec.ofInt IntKind.u64.bits ((256*a:Nat):Int)|||BitVec.ofInt IntKind.u64.bits (i:Int)).toNat=256*a+i:=by show(BitVec.ofInt 64 ((256*a:Nat):Int)|||BitVec.ofInt 64 (i:Int)).toNat=_;rw[ol,ol,BitVec.toNat_or,pd,pd,pC (by omega),pC (by omega),ahH a i (by omega)]
 refine(aY (by omega)).trans ?_;omega
section
variable{N:Nat}{ts:List aB}{xs:List (List UInt8)}{fs:List Func}
def SX(hN:1300<N){l:List Int}(hb:Tu l){o:Nat}(ho:o+8<=l.length)(hl:l.length<=100000)(b:Int):je N N ((o:Int),0,7,b,l)=some (pT l o):=by
 have ix:∀j:Nat,j<8->idx l (av ((o:Int)+(j:Int)))=some (l.getD (o+j) 0):=λj hj=>by rw[Yi (by omega)];exact cD _ (by omega)
 have b0:=dO hb o;have b1:=dO hb (o+1);have b2:=dO hb (o+2);have b3:=dO hb (o+3);have b4:=dO hb (o+4);have b5:=dO hb (o+5);have b6:=dO hb (o+6);have b7:=dO hb (o+7);have step:∀(k j:Nat)(v:Int),j<8->0<=v/\v<72057594037927936->je N (k+1) ((o:Int),v,(j:Int),b,l)=je N k ((o:Int),v*256+l.getD (o+j) 0,(j:Int)-1,b,l):=λk j v hj hv=>by rw[je.eq_2,aU (show(j:Int)>=0 by omega),au,ix j hj,ae,Y1 hv (dO hb _),aO (by omega)]
 obtain⟨k,hk⟩:∃k,N=k+9:=⟨N-9,by omega⟩;have key:je N (k+9) ((o:Int),0,7,b,l)=some (pT l o):=by rw[show(7:Int)=((7:Nat):Int)from rfl,step _ 7 _ (by omega) (by omega),show((7:Nat):Int)-1=((6:Nat):Int)from rfl,step _ 6 _ (by omega) (by omega),show((6:Nat):Int)-1=((5:Nat):Int)from rfl,step _ 5 _ (by omega) (by omega),show((5:Nat):Int)-1=((4:Nat):Int)from rfl,step _ 4 _ (by omega) (by omega),show((4:Nat):Int)-1=((3:Nat):Int)from rfl,step _ 3 _ (by omega) (by omega),show((3:Nat):Int)-1=((2:Nat):Int)from rfl,step _ 2 _ (by omega) (by omega),show((2:Nat):Int)-1=((1:Nat):Int)from rfl,step _ 1 _ (by omega) (by omega),show((1:Nat):Int)-1=((0:Nat):Int)from rfl,step _ 0 _ (by omega) (by omega),je.eq_2,show decide (((0:Nat):Int)-1>=0)=false from rfl,af];congr 1;unfold pT;simp only[fg];omega
 rw[<-hk]at key;exact key
def yQ(b:Int)(l:List Int):Prop:=8<=b/\b<=1099511627776/\b%8=0/\l.length<=20000
def Hy{b:Int}{l:List Int}(h:gQ b l):yQ b l:=by obtain⟨h1,h2,h3,h4,h5⟩:=h;exact⟨by omega,by omega,by omega,by omega⟩
def Ac{b:Int}{l:List Int}(h:yQ b l):OA N (b,l)=some 0:=by obtain⟨h1,h2,h3,h4⟩:=h;rw[OA.eq_1,abt.eq_1,aU (show b>=8by omega),au,aU h2,au,oI (by omega),show(b%8==0)=true by simpa using h3,ae,ae,dl,af,aQ (show¬(l.length:Int)>20000by omega)];rfl
def ED{b:Int}{l:List Int}(h:yQ b l){a:Int}(ha:u64 a){n:Nat}(hn:n<=20000):∃i,OB N (b,l,a,(n:Int))=some (i,decide (b<=a/\a-b+n<=l.length))/\(b<=a/\a-b+n<=l.length->i=a-b):=by
 obtain⟨h1,h2,h3,h4⟩:=h;obtain⟨a1,a2⟩:=ha;rw[OB.eq_1];by_cases c1:a<b;.exact⟨0,by rw[aU c1,aQ (show¬(b<=a/\a-b+n<=l.length)by omega)];rfl,by omega⟩
 .rw[aQ c1,af,aY (n:=a-b) (by omega),aY (n:=(l.length:Int)) (by omega),ae];by_cases c2:a-b>(l.length:Int);.exact⟨0,by rw[aU c2,aQ (show¬(b<=a/\a-b+n<=l.length)by omega)];rfl,by omega⟩
  .rw[aQ c2,af,aO (n:=a-b) (by omega),aO (by omega)];refine⟨a-b,?_,λ_=>rfl⟩;congr 2;rw[ka];omega
def Y2{b:Int}{l:List Int}(h:yQ b l){a:Int}(ha:u64 a){n:Nat}(hn:n<=20000):Sz N (b,l,a,(n:Int))=some (decide (b<=a/\a-b+n<=l.length),0):=by obtain⟨i,e,_⟩:=ED (N:=N) h ha hn;rw[Sz.eq_1,Ac h,ae,iC,af,aQ (show¬(n:Int)<0 by omega),af,e];rfl
def xu(hN:1300<N){b:Int}{l:List Int}(h:yQ b l)(hb:Tu l){o:Nat}(ho:o+8<=l.length):OC N (b,l,b+o,8)=some (pT l o,0):=by obtain⟨i,e,hi⟩:=ED (N:=N) h (a:=b+o) ⟨by have:=h.1;omega,by have:=h.2.1;have:=h.2.2.2;omega⟩ (n:=8) (by omega);have hi:=hi (by omega);rw[show b+(o:Int)-b=(o:Int)by omega]at hi;subst hi;rw[aU (show b<=b+(o:Int)/\b+(o:Int)-b+((8:Nat):Int)<=(l.length:Int)by omega),show((8:Nat):Int)=8from rfl]at e;rw[OC.eq_1,abu.eq_1,Ac h,ae,iC,af,show((8:Int)!=1)=true from rfl,au,show((8:Int)!=8)=false from rfl,ae,af,e,ae];rw[dl,af,ae];rw[iC,show av ((8:Int)-1)=7from rfl,SX hN hb ho (by have:=h.2.2.2;omega)];rfl
def apv{b:Int}{l:List Int}(h:yQ b l){a:Int}(ha:u64 a){n:Nat}(hn:n<=20000):F80 N (b,l,a,(n:Int))=some (decide (b<=a/\a-b+n<=l.length)):=by
 obtain⟨h1,h2,h3,h4⟩:=h;obtain⟨a1,a2⟩:=ha;rw[F80.eq_1,aQ (show¬(n:Int)>20000by omega),af,ae];by_cases c:a>2199023255552;.rw[aU c,aQ (show¬(b<=a/\a-b+n<=l.length)by omega)];rfl
 .rw[aQ c,af];by_cases c2:a>=b;.rw[aU c2,au,aY (n:=(n:Int)) (by omega),aY (n:=a+n) (by omega),aY (n:=(l.length:Int)) (by omega),aY (by omega),ae];congr 1;rw[ka];omega
  .rw[aQ c2,aQ (show¬(b<=a/\a-b+n<=l.length)by omega)];rfl
def EE(hN:1300<N){b:Int}{l:List Int}(h:yQ b l)(hb:Tu l){o:Nat}(ho:o+8<=l.length):F81 N (b,l,b+o,8)=some (pT l o):=by
 obtain⟨h1,h2,h3,h4⟩:=h;have b0:=dO hb o;have b1:=dO hb (o+1);have b2:=dO hb (o+2);have b3:=dO hb (o+3);have b4:=dO hb (o+4);have b5:=dO hb (o+5);have b6:=dO hb (o+6);have b7:=dO hb (o+7);have ix:∀j:Nat,j<8->idx l (aR (aR (b+(o:Int)-b)+aR (j:Int)))=some (l.getD (o+j) 0):=λj hj=>by rw[show b+(o:Int)-b=(o:Int)by omega,aY (n:=(o:Int)) (by omega),aY (n:=(j:Int)) (by omega),aY (by omega),show(o:Int)+(j:Int)=((o+j:Nat):Int)by omega];exact cD _ (by omega)
 have step:∀(k j:Nat)(v p:Int),j<8->0<=v->0<=p->v+p*l.getD (o+j) 0<=18446744073709551615->0<=p*l.getD (o+j) 0->iW N (k+1) (b+o,8,v,p,(j:Int),b,l)=iW N k (b+o,8,v+p*l.getD (o+j) 0,aR (p*256),((j+1:Nat):Int),b,l):=λk j v p hj h1 h2 h3 h4=>by rw[iW.eq_2,aU (show(j:Int)<8by omega),au,ix j hj,ae,aY (n:=l.getD (o+j) 0) (by have:=dO hb (o+j);omega),aY (n:=p*_) (by omega),aY (by omega),ai (by omega)]
 obtain⟨k,hk⟩:∃k,N=k+9:=⟨N-9,by omega⟩;have key:iW N (k+9) (b+o,8,0,1,0,b,l)=some (pT l o):=by rw[show iW N (k+9) (b+(o:Int),8,0,1,0,b,l)=iW N (k+8+1) (b+(o:Int),8,0,1,((0:Nat):Int),b,l)from rfl];rw[step _ 0 0 1 (by omega) (by omega) (by omega) (by simp only[fg];omega) (by simp only[fg];omega),show aR ((1:Int)*256)=256from rfl,step _ 1 _ 256 (by omega) (by simp only[fg];omega) (by omega) (by simp only[fg];omega) (by omega),show aR ((256:Int)*256)=65536from rfl,step _ 2 _ 65536 (by omega) (by simp only[fg];omega) (by omega) (by simp only[fg];omega) (by omega),show aR ((65536:Int)*256)=16777216from rfl,step _ 3 _ 16777216 (by omega) (by simp only[fg];omega) (by omega) (by simp only[fg];omega) (by omega),show aR ((16777216:Int)*256)=4294967296from rfl,step _ 4 _ 4294967296 (by omega) (by simp only[fg];omega) (by omega) (by simp only[fg];omega) (by omega),show aR ((4294967296:Int)*256)=1099511627776from rfl,step _ 5 _ 1099511627776 (by omega) (by simp only[fg];omega) (by omega) (by simp only[fg];omega) (by omega),show aR ((1099511627776:Int)*256)=281474976710656from rfl,step _ 6 _ 281474976710656 (by omega) (by simp only[fg];omega) (by omega) (by simp only[fg];omega) (by omega),show aR ((281474976710656:Int)*256)=72057594037927936from rfl,step _ 7 _ 72057594037927936 (by omega) (by simp only[fg];omega) (by omega) (by simp only[fg];omega) (by omega),iW.eq_2,show decide (((7+1:Nat):Int)<8)=false from rfl,af];congr 1;unfold pT;simp only[fg];omega
 rw[<-hk]at key;rw[F81.eq_1,key];rfl
def th(b:Int)(l:List Int)(a:Int):Int×Int×Int×Int:=if gQ b l then if b<=a/\a-b+24<=l.length/\a%8=0then if jg (pT l ((a-b).toNat+8)) (pT l ((a-b).toNat+16))then(pT l (a-b).toNat,pT l ((a-b).toNat+8),pT l ((a-b).toNat+16),0)else(0,0,0,12)else(0,0,0,16)else(0,0,0,8)
def aeb{a:Int}(ha:u64 a):(Int.tmod a 8!=0)=!decide (a%8=0):=by grind
def abO(hN:1300<N){b:Int}{l:List Int}(hbu:u64 b)(hb:Tu l){a:Int}(ha:u64 a):F94 N (b,l,a)=some (th b l a):=by
 rw[F94.eq_1,BI hbu,ae,th];by_cases hs:gQ b l
 .have hr:=Hy hs;have hh:=Y2 (N:=N) hr ha (n:=24) (by omega);rw[show((24:Nat):Int)=24from rfl]at hh;rw[ba hs,ba hs,iC,af,hh,ae];rw[aeb ha];by_cases hc:b<=a/\a-b+24<=l.length
  .rw[aU hc,dl,af,ae];by_cases h8:a%8=0
   .rw[aU h8,dl,ba ⟨hc.1,hc.2,h8⟩];obtain⟨o,ho⟩:=dE (show 0<=a-b by omega);have e0:a=b+(o:Int):=by omega
    have hl4:=hs.2.2.2.2;have avk:=hs.2.2.1;have pV:=hs.2.1;rw[ho,bd];have l0:=xu (N:=N) hN hr hb (o:=o) (by omega);have l1:=xu (N:=N) hN hr hb (o:=o+8) (by omega);have l2:=xu (N:=N) hN hr hb (o:=o+16) (by omega);have q1:aR (a+8)=b+((o+8:Nat):Int):=by rw[aY (by omega)];omega
    have q2:aR (a+16)=b+((o+16:Nat):Int):=by rw[aY (by omega)];omega
    rw[q1,q2,e0,l0,ae,l1,ae,l2,ae];rw[SV,ae]<;>grind
   grind
  grind
 grind
def Y3(hN:1300<N){b:Int}{l:List Int}(hbu:u64 b)(hb:Tu l){a:Int}(ha:u64 a):F45 N (b,l,a)=some (th b l a):=by
 rw[F45.eq_1,EC hN hbu,ae,th];by_cases hs:gQ b l
 .have hr:=Hy hs;have hin:=apv (N:=N) hr ha (n:=24) (by omega);rw[show((24:Nat):Int)=24from rfl]at hin;rw[ba hs,aU hs,dl,af,aeb ha,hin,ae];by_cases h8:a%8=0
  .rw[aU h8,dl,af,ae];by_cases hc:b<=a/\a-b+24<=l.length
   .rw[aU hc,dl,ba ⟨hc.1,hc.2,h8⟩];obtain⟨o,ho⟩:=dE (show 0<=a-b by omega);have e0:a=b+(o:Int):=by omega
    have hl4:=hs.2.2.2.2;have avk:=hs.2.2.1;have pV:=hs.2.1;rw[ho,bd];have l0:=EE (N:=N) hN hr hb (o:=o) (by omega);have l1:=EE (N:=N) hN hr hb (o:=o+8) (by omega);have l2:=EE (N:=N) hN hr hb (o:=o+16) (by omega);have q1:aR (a+8)=b+((o+8:Nat):Int):=by rw[aY (by omega)];omega
    have q2:aR (a+16)=b+((o+16:Nat):Int):=by rw[aY (by omega)];omega
    rw[q1,q2,e0,l0,ae,l1,ae,l2,ae,SW (u6 hb _).1 (u6 hb _).1,ae]<;>grind
   grind
  grind
 grind
def aBg(b:Int)(l:List Int)(a:Int):Int×List Int×Int×Int:=if(th b l a).2.2.2=0then(b,l.take (a-b).toNat,(th b l a).1,0)else(0,[],0,(th b l a).2.2.2)
end
def Y4{l:List Int}(h:(Ty.sl (.int .u8)).ok l):Tu l:=λx hx=>h.2 x hx
structure Rer(fs fs':List Func):Prop where
 len:fs'.length=fs.length
 get:∀(i:Nat)(f:Func),fs[i]?=some f->∃S L,fs'[i]?=some (f.1,f.2.1,f.2.2.1,f.2.2.2.1,f.2.2.2.2.1,S,L)/\(ee S (f.2.2.2.2.1.length:Int)/\ee L (f.2.2.2.2.1.length:Int))/\Cv S/\Cv L
section
variable{ts:List aB}{xs:List (List UInt8)}{fs fs':List Func}{f f':Func}
def apN{fs:List Func}{i:Nat}{f:Func}(h:fs[i]?=some f):gS fs i=f:=by unfold gS<;>grind
def Rer.at(h:Rer fs fs'){i:Nat}(hi:i<fs.length):∃S L,gS fs' i=((gS fs i).1,(gS fs i).2.1,(gS fs i).2.2.1,(gS fs i).2.2.2.1,(gS fs i).2.2.2.2.1,S,L)/\(ee S ((gS fs i).2.2.2.2.1.length:Int)/\ee L ((gS fs i).2.2.2.2.1.length:Int))/\Cv S/\Cv L:=by have e:=aw hi;obtain⟨S,L,h1,h2⟩:=h.get i _ e;rw[apN e,apN h1];exact⟨S,L,rfl,h2⟩
def Rer.name(h:Rer fs fs')(i:Nat):(gS fs' i).1=(gS fs i).1:=by
 by_cases hi:i<fs.length;.obtain⟨S,L,e,_⟩:=h.at hi<;>grind
 .unfold gS;rw[da,da,d8 (by rw[h.len];omega),d8 (by omega)]
def Rer.fZ(h:Rer fs fs'):fZ fs'=Go.Proofs.YtclkonemhghbkaaGreat.fZ fs:=by
 apply lL;intro i;unfold Go.Proofs.YtclkonemhghbkaaGreat.fZ;rw[fi,fi];by_cases hi:i<fs.length;.obtain⟨S,L,h1,_⟩:=h.get i _ (aw hi);rw[h1,aw hi];rfl
 .rw[d8 (by rw[h.len];omega),d8 (by omega)]
def iD.runs(hv:iD ts xs fs){i:Nat}(hi:fs[i]?=some f):(ee f.2.2.2.2.2.1 (f.2.2.2.2.1.length:Int)/\ee f.2.2.2.2.2.2 (f.2.2.2.2.1.length:Int))/\Cv f.2.2.2.2.2.1/\Cv f.2.2.2.2.2.2:=by obtain⟨_,_,_,_,_,_,_,_,h1,h2⟩:=hv.get hi;obtain⟨_,_,_,_,_,h3,h4⟩:=hv.fits hi<;>grind
def aq5(hS:fZ fs'=fZ fs)(hf:sg f'=sg f)(g:Int):ga ts xs fs' f' g=ga ts xs fs f g:=by
 obtain⟨n,p,r,s,l,a,b⟩:=f;obtain⟨n',p',r',s',l',a',b'⟩:=f';unfold sg at hf;simp at hf;obtain⟨rfl,rfl,rfl,rfl⟩:=hf;have e1:fh ts fs' (n',p',r',s',l',a',b')=fh ts fs (n,p',r',s',l',a,b):=by unfold fh;rw[hS]
 have e2:vb ts fs' (n',p',r',s',l',a',b')=vb ts fs (n,p',r',s',l',a,b):=by unfold vb;rw[e1]
 have e3:sR ts xs fs' (n',p',r',s',l',a',b')=sR ts xs fs (n,p',r',s',l',a,b):=by unfold sR<;>grind
 unfold ga;rw[e1,e2,e3];rfl
def rH(h:Zm ts xs fs f):(ee (yX (vb ts fs f)) (f.2.2.2.2.1.length:Int)/\ee (yX (cN (cM f))) (f.2.2.2.2.1.length:Int))/\Cv (yX (vb ts fs f))/\Cv (yX (cN (cM f))):=by
 obtain⟨hpos,hle⟩:=h.fn.len;obtain⟨_,m2,m3⟩:=Jw (N:=14000001) (by omega) h.fn;have h1:=Zj (v:=vb ts fs f) (by rw[qo];omega);have h2:=Zj (v:=cN (cM f)) (by rw[bO];omega);rw[qo]at h1;rw[bO,m2]at h2;refine⟨⟨h1,h2⟩,λx hx=>?_,λx hx=>?_⟩;.have:=h.fn.ahZ (QH hx);omega
 .obtain⟨k,hk,e⟩:=i6.1 (QH hx);obtain⟨j,hj,rfl⟩:=io.1 hk;have:=m3 j;unfold O at this<;>grind
def apO(ts:List aB)(xs:List (List UInt8))(fs:List Func)(i:Nat):Func:=if(ga ts xs fs (gS fs i) (i:Int)).2.2.2=0then((gS fs i).1,(gS fs i).2.1,(gS fs i).2.2.1,(gS fs i).2.2.2.1,(gS fs i).2.2.2.2.1,(ga ts xs fs (gS fs i) (i:Int)).1,(ga ts xs fs (gS fs i) (i:Int)).2.1)else gS fs i
def apP(ts:List aB)(xs:List (List UInt8))(fs:List Func)(a:Nat):List Func:=(List.range fs.length).map λi=>if i<a then apO ts xs fs i else gS fs i
def ay4(ts:List aB)(xs:List (List UInt8))(fs:List Func):List Func:=apP ts xs fs fs.length
def mw(ts:List aB)(xs:List (List UInt8))(fs:List Func)(i:Nat)(f:Func):Int:=if(ga ts xs fs f (i:Int)).2.2.2=0then(if(ga ts xs fs f (i:Int)).1=f.2.2.2.2.2.1/\(ga ts xs fs f (i:Int)).2.1=f.2.2.2.2.2.2then 0 else 32)else(ga ts xs fs f (i:Int)).2.2.2
def ah1{N:Nat}(hN:14000000<N)(hv:iD ts xs fs){i:Nat}(hf:fs[i]?=some f):∃JH,F74 N (ts,xs,fs,(i:Int))=some (JH,mw ts xs fs i f):=by
 rw[F74.eq_1,ah0 hN hv (aG hf)];simp[ae];unfold mw;by_cases he:(ga ts xs fs f (i:Int)).2.2.2=0
 .obtain⟨h1,h2⟩:=EW hv (hv.get hf) he;obtain⟨g1,g2,g3,g4⟩:=(⟨(rH h1).1.1,(rH h1).1.2,(rH h1).2.1,(rH h1).2.2⟩:_/\_/\_/\_);have hfit:u0 (f.1,f.2.1,f.2.2.1,f.2.2.2.1,f.2.2.2.2.1,yX (vb ts fs f),yX (cN (cM f))):=by obtain⟨q1,q2,q3,q4,q5,_⟩:=hv.fits hf;have r1:=pQ g1;have r2:=pQ g2;exact⟨q1,q2,by show(yX (vb ts fs f)).length<=1000;omega,by show(yX (cN (cM f))).length<=1000;omega,q5,g3,g4⟩
  have hs:=SQ (g:=f) hfit (show 1300<N by omega);rw[show((ga ts xs fs f (i:Int)).2.2.2==0)=true by simpa using he,ab9 hN h1 hf];simp[ae,aG hf,hs];rw[h2];by_cases hq:yX (vb ts fs f)=f.2.2.2.2.2.1/\yX (cN (cM f))=f.2.2.2.2.2.2;.grind
  .rw[be hq,aQ (λh=>hq (by rw[<-h];exact⟨rfl,rfl⟩))]<;>grind
 grind
def Pf(ts:List aB)(xs:List (List UInt8))(fs:List Func):Int:=if j0 ts xs fs=0then(fK (mw ts xs fs) 0 fs).elim 0 λr=>r.2else j0 ts xs fs
def HE(h:j0 ts xs fs=0):eL ts xs fs:=by unfold j0 at h<;>grind
def ah2{N:Nat}(hN:14000000<N)(hm:jw ts xs fs):F16 N (ts,xs,fs)=some (Pf ts xs fs):=by
 have h32:=hm.1.2.2.2.1;rw[F16.eq_1,F38.eq_1,OQ (show 1300<N by omega) hm];simp only[ae];unfold Pf;by_cases hc:j0 ts xs fs=0
 .have hv:iD ts xs fs:=⟨hm,HE hc⟩;rw[ba hc,show(j0 ts xs fs !=0)=false by simp[hc],af];rcases dK (l:=fs) (g:=λ_:Unit=>(.inr ():(Int×Int×Int)⊕Unit)) (Out:=λr=>∃i a e,r=.inl (i,a,e)/\(fK (mw ts xs fs) 0 fs).elim 0 (λr=>r.2)=e) (Inv:=λi _=>fK (mw ts xs fs) 0 fs=fK (mw ts xs fs) i (fs.drop i)) (Lf:=λk i _=>IH N k (i,ts,xs,fs)) (λk _ _=>by simp only[IH.eq_2,aN,af]) (λk i x _ hx hI=>by
   have hi:=aE hx;obtain⟨a,ha⟩:=ah1 hN hv hx;have hd:fs.drop i=x::fs.drop (i+1):=by rw[ib hi];rw[aw hi]at hx;rw[fj hx]
   simp only[IH.eq_2,aM hi,au,ha,ae,ai (show i<9223372036854775807by omega)];rw[hd,fK]at hI;by_cases hz:mw ts xs fs i x=0;.rw[be (λh=>h hz)]at hI;exact .inr ⟨(),hI,by rw[show(mw ts xs fs i x !=0)=false by simp[hz],af]⟩
   .rw[ba hz]at hI;exact .inl ⟨_,⟨(i:Int),a,mw ts xs fs i x,rfl,by rw[hI];rfl⟩,by rw[show(mw ts xs fs i x !=0)=true by simp[bne,hz],au]⟩) (k:=N) (s:=()) rfl (by omega)with⟨r,⟨i,a,e,rfl,h2⟩,h3⟩|⟨_,h1,h3⟩;.rw[h3,h2];rfl
  .rw[h3,h1,sf];rfl
 .rw[be hc,show(j0 ts xs fs !=0)=true by simp[bne,hc],au];rfl
end
section
variable{N:Nat}{ts:List aB}{xs:List (List UInt8)}{fs:List Func}
def acd(hm:jw ts xs fs)(h:eL ts xs fs){a:Nat}(ha:tu fs a):24<=mo ts fs (a/256-1) (a%256):=by
 have hf:a/256-1<fs.length:=by have:=ha.1;have:=ha.2.1;omega
 have hF:=h.func hf;have hb:=(u5 h.1 h.2.2.2.1 hF.2.1 hF.2.2.2.2.2.1).2;have hs:=Ab hm (f:=a/256-1) (i:=a%256) hf;unfold mo;omega
def ah3(hN:1300<N)(hm:jw ts xs fs)(Tt:eL ts xs fs){f:Nat}(i:Nat)(hf:f<fs.length):∃s:Int,F44 N (ts,xs,fs,(f:Int),(i:Int))=some s/\(0<=s/\s<=100000)/\(s=mo ts fs f i\/(s>4096/\mo ts fs f i>4096)):=by
 have hF:=Tt.func hf;have hfit:u0 (gS fs f):=hm.1.2.2.2.2 _ (n6 fn0 hf);obtain⟨_,hb⟩:=u5 Tt.1 Tt.2.2.2.1 hF.2.1 hF.2.2.2.2.2.1;have hs:=Ab hm (i:=i) hf;rw[F44.eq_1,SS hN hm Tt hf,ae,Co hf,ae,YX (by have:=hfit.2.2.1;omega) hN,ae];rw[show yP (i:Int) 0 (gS fs f).2.2.2.2.2.1=EB fs f i from rfl];by_cases hx:EB fs f i>4096;.rw[aU hx];exact⟨_,rfl,by omega,.inr ⟨by decide,by unfold mo;omega⟩⟩
 .rw[aQ hx];refine⟨_,rfl,?_,.inl ?_⟩;.rw[aO (n:=EB _ _ _) (by omega),aO (by omega)];omega
  .rw[aO (n:=EB _ _ _) (by omega),aO (by omega)];rfl
def ace{b:Int}{l:List Int}{a:Int}(hb:Tu l):u64 (th b l a).1/\u64 (th b l a).2.1/\u64 (th b l a).2.2.1:=by
 have h0:u64 0:=⟨by omega,by omega⟩;unfold th;split
 .split
  .split;.exact⟨u6 hb _,u6 hb _,u6 hb _⟩
   grind
  grind
 grind
def tw{a b:Int}(h:a=b):(a==b)=true:=by simp[h]
def vJ{a b:Int}(h:a≠b):(a==b)=false:=by simp[h]
def ve{a b:Int}(h:a≠b):(a !=b)=true:=by simp[h]
def vf{a b:Int}(h:a=b):(a !=b)=false:=by simp[h]
def Td(hN:1300<N)(hm:jw ts xs fs)(hc:j0 ts xs fs=0){b:Int}{l:List Int}(hbu:u64 b)(hs:gQ b l)(hb:Tu l):∀(k a:Nat)(c q:Int)(out:List Lw),a<18446744073709551616->0<=c->c<=l.length->c<k->0<=q/\q<=1->(out.length:Int)+c<=100000->(∃x W,QR N k ((a:Int),c,q,out,b,l,ts,xs,fs)=some (out++x::W,0)/\ST N k ((a:Int),out,b+c,q,b,l,ts,xs,fs)=some (out++x::W,0)/\tu fs a/\x.2.1=((a/256-1:Nat):Int)/\x.2.2.1=((a%256:Nat):Int)-q/\mo ts fs (a/256-1) (a%256)<=c)\/∃e e',e≠0/\e'≠0/\QR N k ((a:Int),c,q,out,b,l,ts,xs,fs)=some ([],e)/\ST N k ((a:Int),out,b+c,q,b,l,ts,xs,fs)=some ([],e'):=by have Tt:=(z7 hc).1;obtain⟨hs1,hs2,hs3,hs4,hs5⟩:=hs;have hs:gQ b l:=⟨hs1,hs2,hs3,hs4,hs5⟩;intro k;induction k with|zero=>intro a c q out _ h0 _ h1;omega|succ k ih=>
  intro a c q out ha h0 lu hk hq ho;rw[QR.eq_2,ST.eq_2,Qw hN hm ha,YL hm.1.2.2.2.1 ha,vT,ba hc];by_cases hA:tu fs a
  .have hf:a/256-1<fs.length:=by have:=hA.1;have:=hA.2.1;omega
   obtain⟨s,s1,s0,s2⟩:=ah3 (N:=N) hN hm Tt (f:=a/256-1) (a%256) hf;have hlo:=acd hm Tt hA;have hz:QB ts xs fs a=if mo ts fs (a/256-1) (a%256)>4096then(0,16)else(mo ts fs (a/256-1) (a%256),0):=by rw[QB,vT,ba hc,ba hA,ba rfl]
   simp only[ba hA,ae,iC,af,dl,SU hN hm ha,hz,s1];generalize hsn:mo ts fs (a/256-1) (a%256)=n at hlo s2⊢;rw[aY (n:=s) (by omega),show b+c-b=c by omega,aY (n:=c) (by omega)];by_cases h1:n>4096
   .have h2:s>4096:=by omega
    refine .inr ⟨16,16,by decide,by decide,?_,?_⟩;.rw[ba h1];rfl
    .rw[aU h2];rfl
   .have e:s=n:=by omega
    subst e;rw[be h1,aQ h1];simp only[iC,af,ae];rw[aY (n:=s) (by omega)];by_cases h2:s>c
    .refine .inr ⟨16,16,by decide,by decide,?_,?_⟩;.rw[aU h2];rfl
     .rw[aU h2];rfl
    .rw[aQ h2];have e1:aR (c-s)=c-s:=aY (by omega);have e2:aR (b+c-s)=b+(c-s):=by rw[aY (by omega)];omega
     have e3:aR (b+(c-s))=b+(c-s):=aY (by omega);have hau:u64 (b+(c-s)):=⟨by omega,by omega⟩;obtain⟨w0,m0,r0⟩:=ace (b:=b) (a:=b+(c-s)) hb;simp only[af,e1,e2,e3,abO hN hbu hb hau,Y3 hN hbu hb hau,ae];generalize th b l (b+(c-s))=h at w0 m0 r0⊢;obtain⟨w,m,r,e⟩:=h;simp only at w0 m0 r0⊢;by_cases c0:e=0
     .subst c0;rw[iC,af,af,aq (show out.length+1<=10000000by omega) (show 40<=1000by omega),aO (n:=((a%256:Nat):Int)-q) (by omega)];simp only[aj];by_cases cw:w=0
      .subst cw;by_cases cz:c-s=0
       .left;refine⟨(b+(c-s),((a/256-1:Nat):Int),((a%256:Nat):Int)-q,m,r),[],?_,?_,hA,rfl,rfl,by omega⟩;.rw[cz,tw rfl,iC];cases(m==0)<;>rfl
        .rw[cz,zt,tw rfl,vf rfl,iC];cases(m==0)<;>rfl
       .right;refine⟨12,12,by decide,by decide,?_,?_⟩;.rw[tw rfl,vJ cz];rfl
        .rw[tw rfl,ve (show b+(c-s)≠b by omega)];rfl
      .by_cases cz:c-s=0
       .right;refine⟨12,12,by decide,by decide,?_,?_⟩;.rw[cz,vJ cw,tw rfl];rfl
        .rw[cz,zt,vJ cw,ve cw,tw rfl];rfl
       .rw[vJ cw,ve cw,vJ cz,vJ (show b+(c-s)≠b by omega),oI w0.1];obtain⟨w',rfl⟩:=dE w0.1;have Pu:w'<18446744073709551616:=by have:=w0.2;omega
        by_cases cm:m=0
        .subst cm;by_cases c6:(w':Int)%256=0
         .right;refine⟨12,12,by decide,by decide,?_,?_⟩;.rw[tw rfl,tw c6];rfl
          .rw[tw rfl,tw c6];rfl
         .rw[tw rfl,vJ c6];simp only[au,af,ae,ll,dl];rcases ih w' (c-s) 1 (out++[(b+(c-s),((a/256-1:Nat):Int),((a%256:Nat):Int)-q,0,r)]) Pu (by omega) (by omega) (by omega) (by omega) (by simp;omega)with⟨x,W,g1,g2,_⟩|⟨e,e',g0,g0',g1,g2⟩
          .left;refine⟨(b+(c-s),((a/256-1:Nat):Int),((a%256:Nat):Int)-q,0,r),x::W,?_,?_,hA,rfl,rfl,by omega⟩;.erw[g1,bi];rfl
           .erw[g2,bi];rfl
          .exact .inr ⟨e,e',g0,g0',g1,g2⟩
        .rw[vJ cm];simp only[au,af,ae,ll,dl];rcases ih w' (c-s) 0 (out++[(b+(c-s),((a/256-1:Nat):Int),((a%256:Nat):Int)-q,m,r)]) Pu (by omega) (by omega) (by omega) (by omega) (by simp;omega)with⟨x,W,g1,g2,_⟩|⟨e,e',g0,g0',g1,g2⟩
         .left;refine⟨(b+(c-s),((a/256-1:Nat):Int),((a%256:Nat):Int)-q,m,r),x::W,?_,?_,hA,rfl,rfl,by omega⟩;.erw[g1,bi];rfl
          .erw[g2,bi];rfl
         .exact .inr ⟨e,e',g0,g0',g1,g2⟩
     .right;refine⟨12,12,by decide,by decide,?_,?_⟩;.rw[ve c0];rfl
      .rw[ve c0];rfl
  .right;refine⟨6,6,by decide,by decide,?_,?_⟩;.rw[be hA];rfl
   .rw[be hA];rfl
def EY(fs:List Func)(a:Nat)(x:Lw):Prop:=tu fs a/\x.2.1=((a/256-1:Nat):Int)/\x.2.2.1=((a%256:Nat):Int)
def apR(hN:5000<N)(hm:jw ts xs fs)(hc:j0 ts xs fs=0){b:Int}{l:List Int}(hbu:u64 b)(hs:gQ b l)(hb:Tu l){a:Nat}(ha:a<18446744073709551616):(∃x W,ZS N (b,l,ts,xs,fs,(a:Int))=some (x::W,0)/\ZT N (b,l,ts,xs,fs,(a:Int))=some (x::W,0)/\EY fs a x/\mo ts fs (a/256-1) (a%256)<=l.length)\/∃e e',e≠0/\e'≠0/\ZS N (b,l,ts,xs,fs,(a:Int))=some ([],e)/\ZT N (b,l,ts,xs,fs,(a:Int))=some ([],e'):=by
 have hs5:=hs.2.2.2.2;have hs3:=hs.2.2.1;have hs2:=hs.2.1;rw[ZS.eq_1,ZT.eq_1,BI hbu,ba hs,Ez (by omega) hm,hc];simp only[ae,iC,af];rw[aY (n:=(l.length:Int)) (by omega),aY (n:=b+(l.length:Int)) (by omega)];rcases Td (N:=N) (by omega) hm hc hbu hs hb N a l.length 0 [] ha (by omega) (by omega) (by omega) (by omega) (by simp;omega)with⟨x,W,g1,g2,h1,h2,h3,h4⟩|⟨e,e',g0,g0',g1,g2⟩;.rw[g1,g2];exact .inl ⟨x,W,rfl,rfl,⟨h1,h2,by rw[h3,Int.sub_zero]⟩,h4⟩
 .rw[g1,g2];exact .inr ⟨e,e',g0,g0',rfl,rfl⟩
end
section
variable{N:Nat}
def fC(b:Int)(l:List Int):Prop:=b=65536/\l.length%8=0/\l.length<=16384
def QI(l:List Int):Int.tmod (l.length:Int) 8=(l.length:Int)%8:=oI (by omega)
def Am(b:Int)(l:List Int)(lim:Int):F84 N (b,l,lim)=some (if fC b l then(if 0<=lim/\lim<=16384then 0 else 2)else 8):=by
 rw[F84.eq_1,QI];by_cases h:fC b l;.obtain⟨h1,h2,h3⟩:=id h<;>grind
 .rw[be h];by_cases c1:b=65536
  .rw[vf c1];by_cases c2:(l.length:Int)%8=0;.rw[vf c2,aU (show(l.length:Int)>16384by unfold fC at h;omega)];rfl
   grind
  grind
def Zo(b:Int)(l:List Int):∃r,F47 N (b,l,0)=some (r,if fC b l then 0 else 8):=by rw[F47.eq_1,Am];by_cases h:fC b l<;>simp_all
def QJ(b:Int)(l:List Int):F18 N (b,l)=some (decide (fC b l)):=by rw[F18.eq_1,QI];simp[gC,ae];rw[m9];unfold fC<;>grind
def ay7(x:Int):Int.tdiv x 8=if 0<=x then x/8 else-((-x)/8):=by grind
def sz(n:Nat):Nat:=max 8 ((n+7)/8*8)
def yZ{n:Nat}(h:n<=64):8<=sz n/\n<=sz n/\sz n<=64/\sz n%8=0:=by unfold sz;omega
def Zp{n:Nat}(h:n<=64):Sy N (n:Int)=some ((sz n:Nat):Int):=by rw[Sy.eq_1];congr 1;rw[aO (n:=(n:Int)+7) (by omega),Ci (by omega),aO (n:=((n:Int)+7)/8) (by omega),aO (by omega)];unfold sz;omega
def An(hN:1300<N){n:Nat}(h:n<=64):Sl N (n:Int)=some ((sz n:Nat):Int):=by
 have key:∀(m w k:Nat),8*w+8*m=sz n->1<=w->m<k->IO N k ((n:Int),(w:Int))=some ((sz n/8:Nat):Int):=by intro m;induction m with|zero=>intro w k h1 h2 h3;obtain⟨k,rfl⟩:∃q,k=q+1:=⟨k-1,by omega⟩;have:=yZ h;rw[IO.eq_2,aO (by omega),aQ (show¬(8*(w:Int)<(n:Int))by omega),af]<;>grind|succ m ih=>intro w k h1 h2 h3;obtain⟨k,rfl⟩:∃q,k=q+1:=⟨k-1,by omega⟩;have:=yZ h;rw[IO.eq_2,aO (by omega),aU (show 8*(w:Int)<(n:Int)by unfold sz at h1;omega),ai (by omega)];exact ih (w+1) k (by omega) (by omega) (by omega)
 have hb:=yZ h;have:=key (sz n/8-1) 1 N (by omega) (by omega) (by omega);simp at this;rw[Sl.eq_1,this,ae,aO (by omega)]<;>grind
def Te{b:Int}{l:List Int}(h:fC b l){n:Nat}(hn:n<=64):XY N (b,l,((l.length+n:Nat):Int))=some (b,l++List.replicate n 0,0):=by obtain⟨h1,h2,h3⟩:=h;rw[XY.eq_1,Ac (show yQ b l from⟨by omega,by omega,by omega,by omega⟩),ae,iC,af,aQ (show¬((l.length+n:Nat):Int)<0 by omega),af,ae,aQ (show¬((l.length+n:Nat):Int)>20000by omega),af,aU (show(0:Int)<=((l.length+n:Nat):Int)by omega),aj,aj,bd,aU (bc _),aq (by omega) (by omega),Bool.and_self,aj];grind[Dd]
def CH{b:Int}{l:List Int}(h:fC b l){n lim:Nat}(hn:n<=64)(hl:lim<=16384):XZ N (b,l,(n:Int),(lim:Int))=some (if l.length+sz n<=lim then(b,l++List.replicate (sz n) 0,((65536+l.length:Nat):Int),0)else(0,[],0,18)):=by
 obtain⟨h1,h2,h3⟩:=h;have h:fC b l:=⟨h1,h2,h3⟩;have hs:=yZ hn;rw[XZ.eq_1,F47.eq_1,Am,ba h,ba (show(0:Int)<=(lim:Int)/\(lim:Int)<=16384by omega)];simp only[ae,iC,af,Zp hn];rw[aQ (show¬(n:Int)<0 by omega),af,aQ (show¬(n:Int)>4096by omega),ae,aO (n:=(lim:Int)-(l.length:Int)) (by omega)];have e1:av (av (Int.tdiv ((lim:Int)-(l.length:Int)) 8)*8)=Int.tdiv ((lim:Int)-(l.length:Int)) 8*8:=by
  have:-3000<=Int.tdiv ((lim:Int)-(l.length:Int)) 8/\Int.tdiv ((lim:Int)-(l.length:Int)) 8<=3000:=by grind
  rw[aO (n:=Int.tdiv _ _) (by omega),aO (by omega)]
 rw[e1];by_cases hc:l.length+sz n<=lim;.rw[ba hc,Ci (by omega),aQ (show¬((sz n:Nat):Int)>max 0 (((lim:Int)-(l.length:Int))/8*8)by omega),aO (by omega),show(l.length:Int)+((sz n:Nat):Int)=((l.length+sz n:Nat):Int)by omega,Te h hs.2.2.1];rw[aY (n:=(l.length:Int)) (by omega),aY (by omega),h1];rfl
 grind
def FG(l s:List Int):List Int:=l++s++List.replicate (sz s.length-s.length) 0
def Zq{l s:List Int}(h:s.length<=64):(FG l s).length=l.length+sz s.length:=by have:=yZ h;unfold FG<;>grind
def Zr{l s:List Int}(h:fC 65536 l)(hs:s.length<=64):X0 N (65536,l++List.replicate (sz s.length) 0,((65536+l.length:Nat):Int),s)=some (65536,FG l s,0):=by
 obtain⟨h1,h2,h3⟩:=h;have hz:=yZ hs;have hlen:(l++List.replicate (sz s.length) (0:Int)).length=l.length+sz s.length:=by grind
 have hr:yQ 65536 (l++List.replicate (sz s.length) (0:Int)):=⟨by omega,by omega,by omega,by omega⟩;have hu:u64 ((65536+l.length:Nat):Int):=⟨by omega,by omega⟩;obtain⟨i,e,hi⟩:=ED (N:=N) hr hu (n:=s.length) (by omega);rw[X0.eq_1,Y2 hr hu (by omega),e,aU (show(65536:Int)<=((65536+l.length:Nat):Int)/\((65536+l.length:Nat):Int)-65536+((s.length:Nat):Int)<=((l++List.replicate (sz s.length) (0:Int)).length:Int)by omega)];simp only[ae,iC,af,dl];have ei:i=(l.length:Int):=by omega
 subst ei;rw[aq (by omega) (by omega),aj,aU (show(0:Int)<=(l.length:Int)by omega),aj,bd,aU (show l.length<=(l++List.replicate (sz s.length) (0:Int)).length by omega),aj,aU (show l.length+((l++List.replicate (sz s.length) (0:Int)).length-l.length)<=(l++List.replicate (sz s.length) (0:Int)).length by omega),aj,rb (by omega),f4,List.take_left',ww,py (by omega),List.drop_replicate];.unfold FG<;>grind
 .rfl
def ah4{l s:List Int}(h:fC 65536 l){lim:Nat}(hs:s.length<=64)(hl:lim<=16384):F88 N (65536,l,s,(lim:Int))=some (if l.length+sz s.length<=lim then(65536,FG l s,((65536+l.length:Nat):Int),0)else(0,[],0,18)):=by
 rw[F88.eq_1,CH h hs hl];by_cases hc:l.length+sz s.length<=lim;.rw[ba hc,ba hc];simp only[ae,iC,af,Zr h hs]
 grind
def acf{b:Int}{l:List Int}(hl:l.length<=100000):Wz N (b,l)=some (b,l):=by rw[Wz.eq_1,aq (by omega) (by omega),aj,ii]
def Zs(hN:1300<N){l:List Int}(h:fC 65536 l){n:Nat}(hn:n<=64):WB N (65536,l,(n:Int))=some (65536,l++List.replicate (sz n) 0,((65536+l.length:Nat):Int)):=by
 obtain⟨h1,h2,h3⟩:=h;have hz:=yZ hn;have key:∀(m i k:Nat)(a:List Int),i+m=sz n->m<k->a.length+m<=100000->IR N k ((n:Int),(i:Int),65536,l,0,65536,a)=some (65536,l,0,65536,a++List.replicate m 0):=by intro m;induction m with|zero=>intro i k a h1 h2 _;obtain⟨k,rfl⟩:∃q,k=q+1:=⟨k-1,by omega⟩;rw[IR.eq_2,An hN hn,ae,aQ (show¬(i:Int)<((sz n:Nat):Int)by omega),af,rc,dq]|succ m ih=>intro i k a h1 h2 ha;obtain⟨k,rfl⟩:∃q,k=q+1:=⟨k-1,by omega⟩;rw[IR.eq_2,An hN hn,ae,aU (show(i:Int)<((sz n:Nat):Int)by omega),au,aq (by omega) (by omega),ai (by omega),ih (i+1) k _ (by omega) (by omega) (by simp;omega),bi];rfl
 have:=key (sz n) 0 N l (by omega) (by omega) (by omega);simp at this;rw[WB.eq_1,acf (by omega),ae];rw[this,ae,aY (n:=(l.length:Int)) (by omega),aY (by omega)];rfl
def Tf{l s:List Int}(hs:s.length<=64)(hl:l.length<=20000)(e h f g:Int){z:Nat}(hz:s.length<=z):∀(r pre:List Int)(k:Nat),s=pre++r->r.length<k->Kz N k (s,e,(pre.length:Int),h,l,f,g,l++pre++List.replicate (z-pre.length) 0)=some (e,f,g,l++s++List.replicate (z-s.length) 0):=by intro r;induction r with|nil=>intro pre k hp hk;obtain⟨k,rfl⟩:∃q,k=q+1:=⟨k-1,by omega⟩;simp at hp;subst hp;rw[Kz.eq_2,aN,af]|cons x r ih=>
 intro pre k hp hk;obtain⟨k,rfl⟩:∃q,k=q+1:=⟨k-1,by omega⟩;have cv:s.length=pre.length+(r.length+1):=by rw[hp,bb];rfl
 have hw:av ((l.length:Int)+(pre.length:Int))=((l.length+pre.length:Nat):Int):=Yi (by omega);have hlen:(l++pre++List.replicate (z-pre.length) (0:Int)).length=l.length+z:=by simp;omega
 have mE:(l++pre++List.replicate (z-pre.length) (0:Int))[l.length+pre.length]?=some 0:=by rw[kw (by rw[bb];omega),m7,ba (by rw[bb];omega)]
 have OJ:(l++pre++List.replicate (z-pre.length) (0:Int)).set (l.length+pre.length) x=l++(pre++[x])++List.replicate (z-(pre++[x]).length) 0:=by rw[pB _ _ (by rw[bb];omega),bb,pw,show z-pre.length=(z-(pre++[x]).length)+1by simp;omega,pt,List.set_cons_zero];simp
 simp only[fd]at hk;rw[Kz.eq_2,aM (by omega),au,nY hp rfl,ae,hw,cC (by omega),aj,bd,mE,ae,ai (by omega),OJ];have:=ih (pre++[x]) k (by rw[hp,bi];rfl) (by omega);rw[show(((pre++[x]).length:Nat):Int)=((pre.length+1:Nat):Int)by simp]at this;exact this
def Zt(hN:1300<N){l s:List Int}(h:fC 65536 l){lim:Nat}(hs:s.length<=64)(hl:lim<=16384):F42 N (65536,l,s,(lim:Int))=some (if l.length+sz s.length<=lim then(65536,FG l s,((65536+l.length:Nat):Int),0)else(0,[],0,18)):=by
 obtain⟨h1,h2,h3⟩:=h;have h:fC 65536 l:=⟨h1,h2,h3⟩;have hz:=yZ hs;rw[F42.eq_1,F78.eq_1,Wx.eq_1,QJ,aU h,abm.eq_1,An hN hs,Zs hN h hs];simp only[ae,dl,af];rw[aQ (show¬(lim:Int)<0 by omega),af,aQ (show¬(lim:Int)>16384by omega)];simp only[ae,iC,af];rw[aQ (show¬(s.length:Int)<0 by omega),af,aQ (show¬(s.length:Int)>4096by omega)];simp only[ae,af];rw[aO (by omega)];by_cases hc:l.length+sz s.length<=lim;.have:=Tf (N:=N) (l:=l) hs (by omega) ((65536+l.length:Nat):Int) 65536 0 65536 (z:=sz s.length) (by omega) s [] N rfl (by omega);rw[dq,show((([]:List Int).length:Nat):Int)=0from rfl,m8,yn]at this;rw[ba hc,aU (show(l.length:Int)+((sz s.length:Nat):Int)<=(lim:Int)by omega),dl,af];simp only[ae];rw[iC,af,this];rfl
 .rw[be hc,aQ (show¬(l.length:Int)+((sz s.length:Nat):Int)<=(lim:Int)by omega)];rfl
def Zu(lim:Nat):List (List UInt8)->List Int->Option (List Int)|[],l=>some l|s::r,l=>if l.length+sz s.length<=lim then Zu lim r (FG l (bN s))else none
def EZ{l:List Int}{s:List UInt8}{lim:Nat}(h:fC 65536 l)(hl:lim<=16384)(hs:s.length<=64)(hc:l.length+sz s.length<=lim):fC 65536 (FG l (bN s)):=by have hz:=yZ hs;have:=Zq (l:=l) (s:=bN s) (by rw[de];omega);rw[de]at this;obtain⟨h1,h2,h3⟩:=h;exact⟨rfl,by omega,by omega⟩
def MI{lim:Nat}(hl:lim<=16384):∀(r:List (List UInt8))(l h:List Int),(∀s,s∈r->s.length<=64)->fC 65536 l->Zu lim r l=some h->fC 65536 h
 |[],l,h,_,hh,e=>by cases e;exact hh|s::r,l,h,hs,hh,e=>by
  rw[Zu]at e;split at e;.rename_i hc;exact MI hl r _ h (λx hx=>hs x (ci _ hx)) (EZ hh hl (hs s (ca ..)) hc) e
  grind
def Pg{xs:List (List UInt8)}(hx:xs.length<=32){lim:Nat}(hl:lim<=16384):∀(r pre:List (List UInt8))(l JH:List Int)(k:Nat),xs=pre++r->(∀s,s∈r->s.length<=64)->fC 65536 l->JH.length=pre.length->r.length<k->match Zu lim r l with|some h=>∃q,pL N k ((lim:Int),xs,(xs.length:Int),(pre.length:Int),65536,l,JH,0)=some (.inr (65536,h,q,0))|none=>∃q,pL N k ((lim:Int),xs,(xs.length:Int),(pre.length:Int),65536,l,JH,0)=some (.inl (0,[],q,18)):=by intro r;induction r with|nil=>intro pre l JH k hp _ _ _ hk;obtain⟨k,rfl⟩:∃q,k=q+1:=⟨k-1,by omega⟩;simp at hp;subst hp;exact⟨JH,by rw[pL.eq_2,aN,af]⟩|cons s r ih=>
 intro pre l JH k hp hs hh ha hk;obtain⟨k,rfl⟩:∃q,k=q+1:=⟨k-1,by omega⟩;have cv:xs.length=pre.length+(r.length+1):=by rw[hp,bb];rfl
 have ah5:=hs s (ca ..);simp only[fd]at hk;have hput:=ah4 (N:=N) hh (s:=bN s) (lim:=lim) (by rw[de];omega) hl;rw[de]at hput;rw[Zu];by_cases hc:l.length+sz s.length<=lim;.rw[ba hc]at hput⊢;have:=ih (pre++[s]) (FG l (bN s)) (JH++[((65536+l.length:Nat):Int)]) k (by rw[hp,bi];rfl) (λx hx=>hs x (ci _ hx)) (EZ hh hl ah5 hc) (by simp[ha]) (by omega);rw[show(((pre++[s]).length:Nat):Int)=((pre.length+1:Nat):Int)by simp]at this;rw[pL.eq_2,aM (by omega),au,nY hp rfl,ae,hput,ae];simp only;rw[iC,af,aq (by omega) (by omega),aj,ai (by omega)];exact this
 .rw[be hc]at hput⊢;refine⟨JH,?_⟩;rw[pL.eq_2,aM (by omega),au,nY hp rfl,ae,hput,ae];rfl
def Jx(hN:1300<N){xs:List (List UInt8)}(hx:xs.length<=32){lim:Nat}(hl:lim<=16384):∀(r pre:List (List UInt8))(l JH:List Int)(k:Nat),xs=pre++r->(∀s,s∈r->s.length<=64)->fC 65536 l->JH.length=pre.length->r.length<k->match Zu lim r l with|some h=>∃q,kU N k (xs,(lim:Int),JH,(pre.length:Int),0,65536,l)=some (.inr (q,0,65536,h))|none=>kU N k (xs,(lim:Int),JH,(pre.length:Int),0,65536,l)=some (.inl (18,0)):=by intro r;induction r with|nil=>intro pre l JH k hp _ _ _ hk;obtain⟨k,rfl⟩:∃q,k=q+1:=⟨k-1,by omega⟩;simp at hp;subst hp;exact⟨JH,by rw[kU.eq_2,aN,af]⟩|cons s r ih=>
 intro pre l JH k hp hs hh ha hk;obtain⟨k,rfl⟩:∃q,k=q+1:=⟨k-1,by omega⟩;have cv:xs.length=pre.length+(r.length+1):=by rw[hp,bb];rfl
 have ah5:=hs s (ca ..);simp only[fd]at hk;have hput:=Zt (N:=N) hN hh (s:=bN s) (lim:=lim) (by rw[de];omega) hl;rw[de]at hput;rw[Zu];by_cases hc:l.length+sz s.length<=lim;.rw[ba hc]at hput⊢;have:=ih (pre++[s]) (FG l (bN s)) (JH++[((65536+l.length:Nat):Int)]) k (by rw[hp,bi];rfl) (λx hx=>hs x (ci _ hx)) (EZ hh hl ah5 hc) (by simp[ha]) (by omega);rw[show(((pre++[s]).length:Nat):Int)=((pre.length+1:Nat):Int)by simp]at this;rw[kU.eq_2,aM (by omega),au,nY hp rfl,ae,hput,ae];simp only;rw[iC,af,aq (by omega) (by omega),aj,ai (by omega)];exact this
 .rw[be hc]at hput⊢;simp only;rw[kU.eq_2,aM (by omega),au,nY hp rfl,ae,hput,ae];rfl
def Tg{xs:List (List UInt8)}(hx:xs.length<=32)(hs:∀s,s∈xs->s.length<=64)(lim b h:Int)(l:List Int):∀(r pre:List (List UInt8))(k:Nat),xs=pre++r->r.length<k->QQ N k (xs,lim,xs,(xs.length:Int),(pre.length:Int),b,l,h)=some (.inr (xs,lim,b,l,h)):=by intro r;induction r with|nil=>intro pre k hp hk;obtain⟨k,rfl⟩:∃q,k=q+1:=⟨k-1,by omega⟩;simp at hp;subst hp;rw[QQ.eq_2,aN,af]|cons s r ih=>
 intro pre k hp hk;obtain⟨k,rfl⟩:∃q,k=q+1:=⟨k-1,by omega⟩;have cv:xs.length=pre.length+(r.length+1):=by grind
 have h64:=hs s (by rw[hp];simp);simp at hk;have:=ih (pre++[s]) k (by rw[hp,bi];rfl) (by omega);simp at this;rw[QQ.eq_2,aM (by omega),au,nY hp rfl,ae,aQ (show¬(s.length:Int)>64by omega),af,ai (by omega)]<;>grind
def MJ{xs:List (List UInt8)}(hx:xs.length<=32)(hs:∀s,s∈xs->s.length<=64)(lim d:Int):∀(r pre:List (List UInt8))(k:Nat),xs=pre++r->r.length<k->K5 N k (xs,lim,(pre.length:Int),d)=some (.inr (xs,lim,d)):=by intro r;induction r with|nil=>intro pre k hp hk;obtain⟨k,rfl⟩:∃q,k=q+1:=⟨k-1,by omega⟩;simp at hp;subst hp;rw[K5.eq_2,aN,af]|cons s r ih=>
 intro pre k hp hk;obtain⟨k,rfl⟩:∃q,k=q+1:=⟨k-1,by omega⟩;have cv:xs.length=pre.length+(r.length+1):=by grind
 have h64:=hs s (by rw[hp];simp);simp at hk;have:=ih (pre++[s]) k (by rw[hp,bi];rfl) (by omega);simp at this;rw[K5.eq_2,aM (by omega),au,nY hp rfl,ae,aQ (show¬(s.length:Int)>64by omega),af,ai (by omega)]<;>grind
def Ph(hN:1300<N){xs:List (List UInt8)}(hx:xs.length<=32)(hs:∀s,s∈xs->s.length<=64){lim:Nat}(hl:lim<=16384):match Zu lim xs []with|some h=>fC 65536 h/\(∃q,F49 N (xs,(lim:Int))=some (65536,h,q,0))/\∃q,F20 N (xs,(lim:Int))=some (65536,h,q,0)|none=>(∃q,F49 N (xs,(lim:Int))=some (0,[],q,18))/\∃q b,F20 N (xs,(lim:Int))=some (b,[],q,18):=by have h0:fC 65536 []:=⟨rfl,rfl,by simp⟩;have l1:=Tg (N:=N) hx hs (lim:Int) 65536 0 [] xs [] N rfl (by omega);have l2:=MJ (N:=N) hx hs (lim:Int) 0 xs [] N rfl (by omega);have k1:=Pg (N:=N) hx hl xs [] [] [] N rfl hs h0 rfl (by omega);have k2:=Jx (N:=N) hN hx hl xs [] [] [] N rfl hs h0 rfl (by omega);have hh:∀h,Zu lim xs []=some h->fC 65536 h:=λh e=>MI hl xs [] h hs h0 e;rw[show((([]:List (List UInt8)).length:Nat):Int)=0from rfl]at l1 l2;rw[F49.eq_1,F20.eq_1,F87.eq_1,F41.eq_1];simp only[ae];rw[Am,ba h0,ba (show(0:Int)<=(lim:Int)/\(lim:Int)<=16384by omega)];simp only[ae];rw[iC,af,aQ (show¬(xs.length:Int)>32by omega),af,aQ (show¬(lim:Int)<0 by omega),af,aQ (show¬(lim:Int)>16384by omega),ae,af,af,l1,l2];simp only[ae];generalize Zu lim xs []=t at k1 k2 hh⊢;cases t with|some h=>obtain⟨q1,k1⟩:=k1;obtain⟨q2,k2⟩:=k2;rw[show((([]:List (List UInt8)).length:Nat):Int)=0from rfl]at k1 k2;exact⟨hh h rfl,⟨q1,by rw[k1];rfl⟩,⟨q2,by rw[k2];rfl⟩⟩|none=>obtain⟨q1,k1⟩:=k1;rw[show((([]:List (List UInt8)).length:Nat):Int)=0from rfl]at k1 k2;exact⟨⟨[],by rw[k1];rfl⟩,⟨[],0,by erw[k2];rfl⟩⟩
def xd(l h:List Int):Bool:=decide (h.length<=l.length)&&((l.take h.length).map λ(n:Int)=>UInt8.ofNat n.toNat)==(h.map λ(n:Int)=>UInt8.ofNat n.toNat)
def Th(l h:List Int):F50 N (l,h)=some (xd l h):=by
 rw[F50.eq_1];unfold xd;by_cases hc:h.length<=l.length;.rw[aU (show(l.length:Int)>=(h.length:Int)by omega),au,aU (show(0:Int)<=(h.length:Int)by omega),aj,bd,aU hc,aj,F89.eq_1];rfl
 grind
end
section
variable{N:Nat}{ts:List aB}{xs:List (List UInt8)}{fs:List Func}
def Zv{l m:List fm}(hN:l.length<N)(hl:l.length<=100000):LV N (l,m)=some (decide (l=m)):=by
 rw[LV.eq_1];by_cases h:l.length=m.length;.rw[vf (show(l.length:Int)=(m.length:Int)by omega)];have key:=vw (l:=l) (m:=m) (a:=(.inr ():Bool⊕Unit)) (b:=.inl false) (Lf:=λk i=>P1 N k (l,m,(l.length:Int),i)) h (λk=>by simp only[P1.eq_2,aN,af]) (λk i x y hx hy h1 h2=>by
  have hi:=aE h1;simp only[P1.eq_2,aM hi,au,aG h1,aG h2,ae,ai (show i<9223372036854775807by omega)];by_cases e:x=y;.subst e;simp
  .rw[be e,show(x.1==y.1&&(x.2==y.2&&true))=false by cases hh:(x.1==y.1&&(x.2==y.2&&true))with|false=>rfl|true=>simp only[lc,al,lx]at hh;exact absurd (Prod.ext hh.1 hh.2) e];rfl) N hN;grind
 .rw[ve (show(l.length:Int)≠(m.length:Int)by omega),aQ (λe=>h (by rw[e]))];rfl
def ah6(hN:14000000<N)(hm:jw ts xs fs):F46 N (ts,xs,fs)=some (Pf ts xs fs):=by
 have h32:=hm.1.2.2.2.1;rw[F46.eq_1,F83.eq_1,Ez (show 1300<N by omega) hm];simp only[ae];unfold Pf;by_cases hc:j0 ts xs fs=0
 .have hv:iD ts xs fs:=⟨hm,HE hc⟩;rw[ba hc,show(j0 ts xs fs !=0)=false by simp[hc],af];rcases dK (l:=fs) (g:=λ_:Unit=>(.inr ():(Int×Int×Int)⊕Unit)) (Out:=λr=>∃i a e,r=.inl (i,a,e)/\(fK (mw ts xs fs) 0 fs).elim 0 (λr=>r.2)=e) (Inv:=λi _=>fK (mw ts xs fs) 0 fs=fK (mw ts xs fs) i (fs.drop i)) (Lf:=λk i _=>P2 N k (fs,(fs.length:Int),i,ts,xs,fs)) (λk _ _=>by simp only[P2.eq_2,aN,af]) (λk i x _ hx hI=>by
    have hi:=aE hx;have hd:fs.drop i=x::fs.drop (i+1):=by rw[ib hi];rw[aw hi]at hx;rw[fj hx]
    simp only[P2.eq_2,aM hi,au,aG hx,apL hN hv (aG hx),ae,ai (show i<9223372036854775807by omega)];have hq:(bif(ga ts xs fs x (i:Int)).2.2.2==0then Option.bind (LV N ((ga ts xs fs x (i:Int)).1,x.2.2.2.2.2.1)) (λy=>bif !y then some true else Option.bind (LV N ((ga ts xs fs x (i:Int)).2.1,x.2.2.2.2.2.2)) λz=>some (!z))else some false)=some (decide ((ga ts xs fs x (i:Int)).2.2.2=0/\¬((ga ts xs fs x (i:Int)).1=x.2.2.2.2.2.1/\(ga ts xs fs x (i:Int)).2.1=x.2.2.2.2.2.2))):=by
     by_cases he:(ga ts xs fs x (i:Int)).2.2.2=0
     .obtain⟨h1,h2⟩:=EW hv (hv.get hx) he;obtain⟨⟨g1,g2⟩,_⟩:=rH h1;have r1:=pQ g1;have r2:=pQ g2;have hle:=h1.fn.len.2;rw[he,tw rfl,au,h2];simp only;rw[Zv (by omega) (by omega),Zv (by omega) (by omega)];simp only[ae];by_cases e1:yX (vb ts fs x)=x.2.2.2.2.2.1
      .rw[aU e1,dl,af];by_cases e2:yX (cN (cM x))=x.2.2.2.2.2.2;.rw[aU e2,aQ (show¬(True/\¬(yX (vb ts fs x)=x.2.2.2.2.2.1/\yX (cN (cM x))=x.2.2.2.2.2.2))fromλh=>h.2 ⟨e1,e2⟩)];rfl
       .rw[aQ e2,aU (show True/\¬(yX (vb ts fs x)=x.2.2.2.2.2.1/\yX (cN (cM x))=x.2.2.2.2.2.2)from⟨trivial,λh=>e2 h.2⟩)];rfl
      .rw[aQ e1,aU (show True/\¬(yX (vb ts fs x)=x.2.2.2.2.2.1/\yX (cN (cM x))=x.2.2.2.2.2.2)from⟨trivial,λh=>e1 h.1⟩)];rfl
     .rw[vJ he,af,aQ (λh=>he h.1)]
    rw[hq,ae];rw[hd,fK]at hI;unfold mw at hI⊢;by_cases he:(ga ts xs fs x (i:Int)).2.2.2=0
    .rw[ba he]at hI;by_cases hs:(ga ts xs fs x (i:Int)).1=x.2.2.2.2.2.1/\(ga ts xs fs x (i:Int)).2.1=x.2.2.2.2.2.2;.rw[ba hs,be (λh=>h rfl)]at hI;exact .inr ⟨(),hI,by rw[aQ (λh=>h.2 hs),af,vf he,af]⟩
     .rw[be hs,ba (by decide)]at hI;exact .inl ⟨_,⟨(i:Int),-1,32,rfl,by rw[hI];rfl⟩,by rw[aU ⟨he,hs⟩,au]⟩
    .rw[be he,ba he]at hI;exact .inl ⟨_,⟨(i:Int),(ga ts xs fs x (i:Int)).2.2.1,(ga ts xs fs x (i:Int)).2.2.2,rfl,by rw[hI];rfl⟩,by rw[aQ (λh=>he h.1),af,ve he,au]⟩) (k:=N) (s:=()) rfl (by omega)with⟨r,⟨i,a,e,rfl,h2⟩,h3⟩|⟨_,h1,h3⟩;.rw[h3,h2];rfl
  .rw[h3,h1,sf];rfl
 .rw[be hc,show(j0 ts xs fs !=0)=true by simp[bne,hc],au];rfl
def Ti(h:Pf ts xs fs=0):j0 ts xs fs=0:=by unfold Pf at h<;>grind
def E0(s k h r:Int):Prop:=(1<=s/\s<=5000)/\(0<=k/\k<=4096)/\(0<=h/\h<=16384)/\1<=r/\r<=16
def Zw(a b c:Int):F63 N (a,b,c)=some (decide (b<=a/\a<=c)):=by rw[F63.eq_1,gC,ae,tl]
def acg(hN:1300<N)(s k h r:Int):F30 N ([],s,k,h,r)=some (if E0 s k h r then 0 else 8):=by
 rw[F30.eq_1];simp only[Zw,ae];obtain⟨n,rfl⟩:∃q,N=q+1:=⟨N-1,by omega⟩;have hl:Vy (n+1) (n+1) ([],(([]:List Int).length:Int),0)=some (.inr ()):=by rfl
 unfold E0<;>grind
def limited(hN:1300<N)(s k h r:Int):F17 N (s,k,h,r)=some (decide (E0 s k h r)):=by
 rw[F17.eq_1,F39.eq_1,F75.eq_1];obtain⟨n,rfl⟩:∃q,N=q+1:=⟨N-1,by omega⟩;have hl:Vl (n+1) (n+1) (0,[],s,k,h,r)=some (.inr ()):=by rw[Vl.eq_2];rfl
 rw[hl];simp only[gC,ae];rw[show(decide (s>=1)&&(decide (s<=5000)&&(decide (k>=0)&&(decide (k<=4096)&&(decide (h>=0)&&(decide (h<=16384)&&(decide (r>=1)&&decide (r<=16))))))))=decide (E0 s k h r)by rw[m9];unfold E0;simp only[al,db,ge_iff_le,and_assoc]];rw[aQ (show¬(([]:List Int).length:Int)>2000by decide),af];cases decide (E0 s k h r)<;>rfl
def RV(g:Nat)(x:dy):Prop:=(x.1=3/\x.2.1=0/\x.2.2.1=16777216*(g+1)/\x.2.2.2.1=0/\x.2.2.2.2.1=0/\x.2.2.2.2.2=0)\/((x.1=1/\x.2.2.2.2.2=0\/x.1=2)/\(256<=x.2.1/\x.2.1<8448)/\(16777216*(g+1)+24<=x.2.2.1/\x.2.2.1<=16777216*(g+1)+4096/\x.2.2.1%8=0)/\(x.2.2.2.1=0\/65536<=x.2.2.2.1/\x.2.2.2.1%8=0)/\(x.2.2.2.2.1=0\/65536<=x.2.2.2.2.1/\x.2.2.2.2.1%8=0))
def ZY(x:dy):Prop:=u64 x.2.1/\u64 x.2.2.1/\u64 x.2.2.2.1/\u64 x.2.2.2.2.1
def apS{g:Nat}(h:g<=100):Oz N (g:Int)=some (16777216*((g:Int)+1)):=by rw[Oz.eq_1,aO (by omega),aY (n:=(g:Int)+1) (by omega),aY (by omega)]
def QK{g:Nat}(h:g<=100):F21 N (g:Int)=some (16777216*((g:Int)+1)):=by rw[F21.eq_1,aO (n:=(g:Int)+1) (by omega),aO (by omega),aY (by omega)]
def ah7(a:Int):Sx N a=some (decide (256<=a/\a<8448)):=by rw[Sx.eq_1,gC,ae,tl]
def aeg{a:Int}(h:u64 a):F76 N a=some (decide (256<=a/\a<8448)):=by have h1:=h.1;have h2:=h.2;rw[F76.eq_1,Ci h1,aY (by omega),gC,ae];congr 1;grind
def QL{a:Int}(h:u64 a):LW N a=some (decide (a=0\/65536<=a/\a%8=0)):=by rw[LW.eq_1,oI h.1,gC,dS,ae];congr 1;grind
def Cs{a:Int}(h:u64 a):F77 N a=some (decide (a=0\/65536<=a/\a%8=0)):=by rw[F77.eq_1,oI h.1,gC,dS,ae];congr 1;grind
def ah8{g:Nat}(hg:g<=100){x:dy}(hx:ZY x):F85 N ((g:Int),x.1,x.2.1,x.2.2.1,x.2.2.2.1,x.2.2.2.2.1,x.2.2.2.2.2)=some (decide (RV g x)):=by
 obtain⟨st,cd,sp,df,pn,ky⟩:=x;obtain⟨u1,u2,u3,u4⟩:=hx;simp at u1 u2 u3 u4;rw[F85.eq_1];simp only[apS hg,ah7,QL u3,QL u4,ae];have p2:=u2.2;by_cases c3:st=3;.subst c3;rw[tw rfl,au];congr 1;rw[m9];unfold RV<;>grind
 .rw[vJ c3];by_cases c4:sp<16777216*((g:Int)+1);.rw[aU c4,aQ (show¬RV g (st,cd,sp,df,pn,ky)fromλh=>by unfold RV at h;simp at h;omega)];rfl
  .rw[aQ c4,aY (n:=sp-_) (by omega),oI (by omega)];by_cases c5:16777216*((g:Int)+1)+24<=sp/\sp<=16777216*((g:Int)+1)+4096/\sp%8=0
   .rw[aQ (show¬sp-16777216*((g:Int)+1)<24by omega),aQ (show¬sp-16777216*((g:Int)+1)>4096by omega),vf (show(sp-16777216*((g:Int)+1))%8=0 by omega)];have e:decide (RV g (st,cd,sp,df,pn,ky))=((decide (st=1/\ky=0\/st=2))&&(decide (256<=cd/\cd<8448)&&(decide (df=0\/65536<=df/\df%8=0)&&decide (pn=0\/65536<=pn/\pn%8=0)))):=by rw[m9];unfold RV<;>grind
    grind
   .have e1:(bif decide (sp-16777216*((g:Int)+1)<24)then some true else bif decide (sp-16777216*((g:Int)+1)>4096)then some true else some ((sp-16777216*((g:Int)+1))%8!=0))=some true:=by rw[dS,dS];congr 1;grind
    rw[e1,aQ (show¬RV g (st,cd,sp,df,pn,ky)fromλh=>by unfold RV at h;simp only at h;omega)];rfl
def ah9{g:Nat}(hg:g<=100){x:dy}(hx:ZY x):F40 N ((g:Int),x.1,x.2.1,x.2.2.1,x.2.2.2.1,x.2.2.2.2.1,x.2.2.2.2.2)=some (decide (RV g x)):=by
 obtain⟨st,cd,sp,df,pn,ky⟩:=x;obtain⟨u1,u2,u3,u4⟩:=hx;simp only at u1 u2 u3 u4;rw[F40.eq_1];have p1:=u2.1;have p2:=u2.2;have e:(decide (256<=cd/\cd<8448)&&(decide (sp>=16777216*((g:Int)+1)+24)&&(decide (sp<=16777216*((g:Int)+1)+4096)&&(sp%8==0&&(decide (df=0\/65536<=df/\df%8=0)&&decide (pn=0\/65536<=pn/\pn%8=0))))))=decide ((256<=cd/\cd<8448)/\(16777216*((g:Int)+1)+24<=sp/\sp<=16777216*((g:Int)+1)+4096/\sp%8=0)/\(df=0\/65536<=df/\df%8=0)/\(pn=0\/65536<=pn/\pn%8=0)):=by rw[m9];simp only[al,lx,db];omega
 have b1:aR (16777216*((g:Int)+1)+24)=16777216*((g:Int)+1)+24:=aY (by omega);have b2:aR (16777216*((g:Int)+1)+4096)=16777216*((g:Int)+1)+4096:=aY (by omega);have CT:∀{α:Type}(K:Bool->α),∀q:Bool,q=decide ((256<=cd/\cd<8448)/\(16777216*((g:Int)+1)+24<=sp/\sp<=16777216*((g:Int)+1)+4096/\sp%8=0)/\(df=0\/65536<=df/\df%8=0)/\(pn=0\/65536<=pn/\pn%8=0))->K q=K q:=λ_ _ _=>rfl;simp only[QK hg,ae];by_cases c1:st=1
 .rw[tw c1,au];by_cases c2:ky=0;.rw[vf c2,af];simp only[ae,QK hg,aeg u1,Cs u3,Cs u4,b1,b2,oI p1,gC,e];congr 1;rw[ka];unfold RV;simp only;omega
  .rw[ve c2,au,aQ (show¬RV g (st,cd,sp,df,pn,ky)fromλh=>by unfold RV at h;simp only at h;omega)];rfl
 .rw[vJ c1,af];by_cases c2:st=2;.rw[tw c2,au];simp only[ae,QK hg,aeg u1,Cs u3,Cs u4,b1,b2,oI p1,gC,e];congr 1;rw[ka];unfold RV;simp only;omega
  .rw[vJ c2,af];by_cases c3:st=3;.rw[tw c3,au];simp only[gC,ae];congr 1;rw[m9];unfold RV;simp only[al,lx,db];omega
   .rw[vJ c3,af,aQ (show¬RV g (st,cd,sp,df,pn,ky)fromλh=>by unfold RV at h;simp only at h;omega)];rfl
def RVs(l:List dy):Prop:=(1<=l.length/\l.length<=16)/\∀(i:Nat)x,l[i]?=some x->RV i x
def QM(hN:1300<N){l:List dy}(hr:∀x,x∈l->ZY x):F48 N l=some (if RVs l then 0 else 8):=by
 rw[F48.eq_1];by_cases h1:(l.length:Int)<1;.rw[aU h1,be (λh=>by have:=h.1.1;omega)];rfl
 rw[aQ h1,af,ae];by_cases h2:(l.length:Int)>16;.rw[aU h2,be (λh=>by have:=h.1.2;omega)];rfl
 rw[aQ h2];rcases dK (l:=l) (g:=λ_:Unit=>(.inr ():Int⊕Unit)) (Out:=λr=>r=.inl 8/\¬RVs l) (Inv:=λi _=>∀(j:Nat)x,j<i->l[j]?=some x->RV j x) (Lf:=λk i _=>QP N k (l,(l.length:Int),i)) (λk _ _=>by simp only[QP.eq_2,aN,af]) (λk i x _ hx hI=>by
  have hi:=aE hx;simp only[QP.eq_2,aM hi,au,aG hx,ae,ah8 (show i<=100by omega) (hr x (aW hx)),ai (show i<9223372036854775807by omega)];by_cases hv:RV i x;.exact .inr ⟨(),λj y hj hy=>by
   by_cases e:j=i;.subst e;rw[hx]at hy;rw[<-fj hy];exact hv
   .exact hI j y (by omega) hy,by rw[aU hv];rfl⟩
  .exact .inl ⟨_,⟨rfl,λh=>hv (h.2 i x hx)⟩,by rw[aQ hv];rfl⟩) (k:=N) (s:=()) (λj x hj=>by omega) (by omega)with⟨r,⟨rfl,h3⟩,h4⟩|⟨_,h3,h4⟩;.grind
 .rw[h4,ba ⟨by omega,λi x hx=>h3 i x (aE hx) hx⟩];rfl
def ach(hN:1300<N){l:List dy}(hr:∀x,x∈l->ZY x):F19 N l=some (if RVs l then 0 else 8):=by
 rw[F19.eq_1];by_cases h1:(l.length:Int)=0;.rw[tw h1,be (λh=>by have:=h.1.1;omega)];rfl
 rw[vJ h1,af,ae];by_cases h2:(l.length:Int)>16;.rw[aU h2,be (λh=>by have:=h.1.2;omega)];rfl
 rw[aQ h2];rcases dK (l:=l) (g:=λ_:Unit=>(.inr ():Int⊕Unit)) (Out:=λr=>r=.inl 8/\¬RVs l) (Inv:=λi _=>∀(j:Nat)x,j<i->l[j]?=some x->RV j x) (Lf:=λk i _=>Rd N k (l,i)) (λk _ _=>by simp only[Rd.eq_2,aN,af]) (λk i x _ hx hI=>by
  have hi:=aE hx;simp only[Rd.eq_2,aM hi,au,aG hx,ae,ah9 (show i<=100by omega) (hr x (aW hx)),ai (show i<9223372036854775807by omega)];by_cases hv:RV i x;.exact .inr ⟨(),λj y hj hy=>by
   by_cases e:j=i;.subst e;rw[hx]at hy;rw[<-fj hy];exact hv
   .exact hI j y (by omega) hy,by rw[aU hv];rfl⟩
  .exact .inl ⟨_,⟨rfl,λh=>hv (h.2 i x hx)⟩,by rw[aQ hv];rfl⟩) (k:=N) (s:=()) (λj x hj=>by omega) (by omega)with⟨r,⟨rfl,h3⟩,h4⟩|⟨_,h3,h4⟩;.grind
 .rw[h4,ba ⟨by omega,λi x hx=>h3 i x (aE hx) hx⟩];rfl
end
section
variable{N:Nat}{ts:List aB}{xs:List (List UInt8)}{fs:List Func}
def rgn(s:Region):Prop:=u64 s.1/\Tu s.2
def MK{g:Nat}(hg:g<16){l:List Int}:gQ (16777216*((g:Int)+1)) l↔l.length%8=0/\l.length<=4096:=by unfold gQ;omega
def ML(lim:Int)(g:Nat)(s:Region)(x:dy):Prop:=s.1=16777216*((g:Int)+1)/\s.1+s.2.length=x.2.2.1/\(s.2.length:Int)<=lim/\s.2.length%8=0
def avC(hN:14000000<N)(hm:jw ts xs fs)(hc:j0 ts xs fs=0){st:List Region}{rs:List dy}(hs:∀s,s∈st->rgn s)(hr:∀x,x∈rs->ZY x)(hl:st.length=rs.length)(FB:rs.length<=16){kl:Int}(hk:kl<=4096)(sl hp gl hb sp:Int)(bs:List Int):∃r:Int,(r=0\/r=8)/\((pM N N (st,(st.length:Int),0,ts,xs,fs,sl,kl,hp,gl,hb,bs,st,rs,sp))=some (if r=0then .inr ()else .inl 8))/\sv N N (0,ts,xs,fs,sl,kl,hp,gl,hb,bs,st,rs,sp)=some (if r=0then .inr ()else .inl 8)/\(r=0->∀(g:Nat)s x,st[g]?=some s->rs[g]?=some x->ML kl g s x/\(x.1≠3->∃y W,ZS N (s.1,s.2,ts,xs,fs,x.2.1)=some (y::W,0)/\ZT N (s.1,s.2,ts,xs,fs,x.2.1)=some (y::W,0)/\EY fs x.2.1.toNat y/\mo ts fs (x.2.1.toNat/256-1) (x.2.1.toNat%256)<=s.2.length)):=by
 have key:∀(n g k:Nat),g+n=st.length->n<k->(∀(j:Nat)s x,j<g->st[j]?=some s->rs[j]?=some x->ML kl j s x/\(x.1≠3->∃y W,ZS N (s.1,s.2,ts,xs,fs,x.2.1)=some (y::W,0)/\ZT N (s.1,s.2,ts,xs,fs,x.2.1)=some (y::W,0)/\EY fs x.2.1.toNat y/\mo ts fs (x.2.1.toNat/256-1) (x.2.1.toNat%256)<=s.2.length))->∃r:Int,(r=0\/r=8)/\((pM N k (st,(st.length:Int),(g:Int),ts,xs,fs,sl,kl,hp,gl,hb,bs,st,rs,sp))=some (if r=0then .inr ()else .inl 8))/\sv N k ((g:Int),ts,xs,fs,sl,kl,hp,gl,hb,bs,st,rs,sp)=some (if r=0then .inr ()else .inl 8)/\(r=0->∀(g:Nat)s x,st[g]?=some s->rs[g]?=some x->ML kl g s x/\(x.1≠3->∃y W,ZS N (s.1,s.2,ts,xs,fs,x.2.1)=some (y::W,0)/\ZT N (s.1,s.2,ts,xs,fs,x.2.1)=some (y::W,0)/\EY fs x.2.1.toNat y/\mo ts fs (x.2.1.toNat/256-1) (x.2.1.toNat%256)<=s.2.length)):=by
  intro n;induction n with|zero=>
   intro g k h1 h2 hI;obtain⟨k,rfl⟩:∃q,k=q+1:=⟨k-1,by omega⟩;refine⟨0,.inl rfl,?_,?_,λ_ j s x h3 h4=>hI j s x (by have:=aE h3;omega) h3 h4⟩;.rw[pM.eq_2,aQ (show¬(g:Int)<(st.length:Int)by omega),af,ba rfl]
   .rw[sv.eq_2,aQ (show¬(g:Int)<(st.length:Int)by omega),af,ba rfl]|succ n ih=>
   intro g k h1 h2 hI;obtain⟨k,rfl⟩:∃q,k=q+1:=⟨k-1,by omega⟩;obtain⟨s,es⟩:=oP (l:=st) (i:=g) (by omega);obtain⟨x,ex⟩:=oP (l:=rs) (i:=g) (by omega);have zF:=hs s (aW es);have hxr:=hr x (aW ex);obtain⟨sb,cU⟩:=s;obtain⟨x1,x2,x3,x4,x5,x6⟩:=x;obtain⟨⟨pV,tj⟩,Nf⟩:=zF;obtain⟨⟨hc1,ou⟩,⟨hp1,hp2⟩,_⟩:=hxr;simp only at pV tj Nf hc1 ou hp1 hp2;have hbase:aR (16777216*aR (av ((g:Int)+1)))=16777216*((g:Int)+1):=by rw[aO (by omega),aY (n:=(g:Int)+1) (by omega),aY (by omega)]
   rw[pM.eq_2,sv.eq_2,aU (show(g:Int)<(st.length:Int)by omega)];simp only[au,aG es,aG ex,ae,hbase,QK (show g<=100by omega)];by_cases hst:ML kl g (sb,cU) (x1,x2,x3,x4,x5,x6)
   .obtain⟨c1,c2,c3,c4⟩:=id hst;simp only at c1 c2 c3 c4;have hsk:gQ sb cU:=by rw[c1];exact(MK (by omega)).2 ⟨c4,by omega⟩
    have e1:aR (sb+aR (cU.length:Int))=sb+cU.length:=by rw[aY (n:=(cU.length:Int)) (by omega),aY (by omega)]
    rw[e1,EC (show 1300<N by omega) ⟨pV,tj⟩,aU hsk,vf c1,vf c2,aQ (show¬(cU.length:Int)>kl by omega),QI,vf (show(cU.length:Int)%8=0 by omega)];simp only[af,ae,dl];by_cases c5:x1=3
    .rw[tw c5,au,au,ai (by omega)];exact ih (g+1) k (by omega) (by omega) λj s y h3 h4 h5=>by
      by_cases e:j=g;.subst e;rw[es]at h4;rw[ex]at h5;cases fj h4;cases fj h5;exact⟨hst,λh=>absurd c5 h⟩
      .exact hI j s y (by omega) h4 h5
    .rw[vJ c5,af,af];obtain⟨a,rfl⟩:=dE hc1;rcases apR (N:=N) (by omega) hm hc ⟨pV,tj⟩ hsk Nf (a:=a) (by omega)with⟨y,W,w1,w2,w3,w4⟩|⟨e,e',e0,e0',w1,w2⟩
     .rw[w1,w2];simp only[ae,iC,af];rw[ai (by omega)];exact ih (g+1) k (by omega) (by omega) λj s y' h3 h4 h5=>by
       by_cases e:j=g;.subst e;rw[es]at h4;rw[ex]at h5;cases fj h4;cases fj h5;exact⟨hst,λ_=>⟨y,W,w1,w2,by simpa using w3,by simpa using w4⟩⟩
       .exact hI j s y' (by omega) h4 h5
     .rw[w1,w2];simp only[ae,ve e0,ve e0',au];exact⟨8,.inr rfl,rfl,rfl,λh=>absurd h (by decide)⟩
   .refine⟨8,.inr rfl,?_,?_,λh=>absurd h (by decide)⟩
    .by_cases c1:sb=16777216*((g:Int)+1)
     .by_cases ahO:cU.length>100000;.rw[vf c1,af];have:decide ((cU.length:Int)>kl)=true:=aU (by omega);rw[this];cases(aR (sb+aR (cU.length:Int))!=x3)<;>rfl
      have e1:aR (sb+aR (cU.length:Int))=sb+cU.length:=by rw[aY (n:=(cU.length:Int)) (by omega),aY (by omega)]
      rw[vf c1,af,e1];by_cases c2:sb+cU.length=x3
      .rw[vf c2,af];by_cases c3:(cU.length:Int)>kl;.rw[aU c3];rfl
       .rw[aQ c3,af,QI,ve (show(cU.length:Int)%8≠0fromλh=>hst ⟨c1,c2,by simp only;omega,by simp only;omega⟩)];rfl
      .rw[ve c2];rfl
     .rw[ve c1];rfl
    .by_cases c1:sb=16777216*((g:Int)+1)
     .rw[vf c1,af,EC (show 1300<N by omega) ⟨pV,tj⟩];by_cases hsk:gQ sb cU
      .have apT:=hsk;rw[c1]at apT;obtain⟨k1,k2⟩:=(MK (by omega)).1 apT;have e1:aR (sb+aR (cU.length:Int))=sb+cU.length:=by rw[aY (n:=(cU.length:Int)) (by omega),aY (by omega)]
       rw[aU hsk,ae,dl,af,e1];by_cases c2:sb+cU.length=x3;.rw[vf c2,af,aU (show(cU.length:Int)>kl by false_or_by_contra;rename_i h;exact hst ⟨c1,c2,by simp only;omega,k1⟩)];rfl
       .rw[ve c2];rfl
      .rw[aQ hsk];rfl
     .rw[ve c1];rfl
 have:=key st.length 0 N (by omega) (by omega) (λj s x hj=>by omega);exact this
def aia(hN:14000000<N)(hm:jw ts xs fs){st:List Region}{rs:List dy}(hs:∀s,s∈st->rgn s)(hr:∀x,x∈rs->ZY x)(sl kl hp gl hb sp:Int){bs:List Int}:(F24 N (ts,xs,fs,sl,kl,hp,gl,hb,bs,st,rs,sp)=some 8/\F6 N (ts,xs,fs,sl,kl,hp,gl,hb,bs,st,rs,sp)=some 8)\/(F24 N (ts,xs,fs,sl,kl,hp,gl,hb,bs,st,rs,sp)=some 0/\F6 N (ts,xs,fs,sl,kl,hp,gl,hb,bs,st,rs,sp)=some 0/\j0 ts xs fs=0/\fC hb bs/\RVs rs/\st.length=rs.length/\∀(g:Nat)s x,st[g]?=some s->rs[g]?=some x->ML kl g s x/\(x.1≠3->∃y W,ZS N (s.1,s.2,ts,xs,fs,x.2.1)=some (y::W,0)/\ZT N (s.1,s.2,ts,xs,fs,x.2.1)=some (y::W,0)/\EY fs x.2.1.toNat y/\mo ts fs (x.2.1.toNat/256-1) (x.2.1.toNat%256)<=s.2.length)):=by
 rw[F24.eq_1,F6.eq_1,ah6 hN hm,ah2 hN hm,acg (by omega),limited (by omega),QJ,QM (by omega) hr,ach (by omega) hr];obtain⟨q0,hq0⟩:=Zo (N:=N) hb bs;rw[hq0];simp only[ae];by_cases c1:Pf ts xs fs=0;rotate_left;.rw[ve c1];exact .inl ⟨rfl,rfl⟩
 rw[vf c1,af];by_cases c2:E0 sl kl hp gl;rotate_left;.rw[be c2,aQ c2];exact .inl ⟨rfl,rfl⟩
 rw[ba c2,aU c2,iC,af,dl,af];by_cases c3:sp<0;.rw[aU c3];exact .inl ⟨rfl,rfl⟩
 rw[aQ c3,af];by_cases c4:sp>sl;.rw[aU c4];exact .inl ⟨rfl,rfl⟩
 rw[aQ c4];simp only[af,ae];by_cases c5:fC hb bs;rotate_left;.rw[be c5,aQ c5];exact .inl ⟨rfl,rfl⟩
 rw[ba c5,aU c5,iC,af,dl,af];by_cases c6:(bs.length:Int)>hp;.rw[aU c6];exact .inl ⟨rfl,rfl⟩
 rw[aQ c6];simp only[af,ae];by_cases c7:RVs rs;rotate_left;.rw[be c7];exact .inl ⟨rfl,rfl⟩
 rw[ba c7,iC];simp only[af];by_cases c8:(rs.length:Int)>gl;.rw[aU c8];exact .inl ⟨rfl,rfl⟩
 rw[aQ c8];simp only[af,ae];by_cases c9:st.length=rs.length;rotate_left;.rw[ve (show(st.length:Int)≠(rs.length:Int)by omega)];exact .inl ⟨rfl,rfl⟩
 rw[vf (show(st.length:Int)=(rs.length:Int)by omega)];simp only[af];have hc:=Ti c1;have hF:=(z7 hc).1;obtain⟨⟨l1,l2⟩,⟨l3,l4⟩,⟨l5,l6⟩,l7,l8⟩:=c2;obtain⟨h,rfl⟩:=dE l5;have ht:=Ph (N:=N) (by omega) hF.2.1 hF.2.2.2.2.1 (lim:=h) (by omega);have fin:∀b:Bool,b=false->((some (!b):Option Bool)=some true):=λb e=>by rw[e];rfl
 generalize Zu h xs []=t at ht;cases t with|none=>obtain⟨⟨q1,t1⟩,q2,q3,t2⟩:=ht;rw[t1,t2];exact .inl ⟨rfl,rfl⟩|some b=>
  obtain⟨pV,⟨q1,t1⟩,q2,t2⟩:=ht;rw[t1,t2];simp only[ae,iC,af,Th];by_cases c10:(b.length:Int)>(bs.length:Int);.rw[aU c10,show xd bs b=false by unfold xd;rw[aQ (show¬b.length<=bs.length by omega)];rfl];exact .inl ⟨rfl,rfl⟩
  rw[aQ c10,af,aU (show(0:Int)<=(b.length:Int)by omega),aj,bd,aU (show b.length<=bs.length by omega),aj,BEq.comm (a:=b.map _),show(((bs.take b.length).map λ(n:Int)=>UInt8.ofNat n.toNat)==(b.map λ(n:Int)=>UInt8.ofNat n.toNat))=xd bs b by unfold xd;rw[aU (show b.length<=bs.length by omega)];rfl];cases xd bs b with|false=>exact .inl ⟨rfl,rfl⟩|true=>
   simp only[dl,af];obtain⟨r,r0,r1,r2,r3⟩:=avC hN hm hc hs hr c9 c7.1.2 l4 sl (h:Int) gl hb sp bs;rw[r1,r2];rcases r0 with rfl|rfl;.exact .inr ⟨rfl,rfl,hc,c5,c7,c9,r3 rfl⟩
   .exact .inl ⟨rfl,rfl⟩
end
section
variable{N:Nat}{ts:List aB}{xs:List (List UInt8)}{fs:List Func}
def aci(hN:1300<N)(ht:Qx ts fs)(sl kl hp gl hb sp:Int)(bs:List Int)(st:List Region)(rs:List dy):F5 N (ts,xs,fs,sl,kl,hp,gl,hb,bs,st,rs,sp)=some true\/(F5 N (ts,xs,fs,sl,kl,hp,gl,hb,bs,st,rs,sp)=some false/\jw ts xs fs/\bs.length<=4200/\st.length<=20/\rs.length<=20/\∀s,s∈st->s.2.length<=4200):=by
 rw[F5.eq_1];rcases YM (N:=N) (xs:=xs) hN ht with h|⟨h,hm⟩;.rw[h];exact .inl rfl
 rw[h];simp only[ae,af];by_cases c1:(bs.length:Int)>4200;.rw[aU c1];exact .inl rfl
 rw[aQ c1,af];by_cases c2:(st.length:Int)>20;.rw[aU c2];exact .inl rfl
 rw[aQ c2,af];by_cases c3:(rs.length:Int)>20;.rw[aU c3];exact .inl rfl
 rw[aQ c3,ae,af];rcases dK (l:=st) (g:=λ_:Unit=>(.inr ():Bool⊕Unit)) (Out:=λr=>r=.inl true) (Inv:=λi _=>∀(j:Nat)s,j<i->st[j]?=some s->s.2.length<=4200) (Lf:=λk i _=>Vk N k (i,ts,xs,fs,sl,kl,hp,gl,hb,bs,st,rs,sp)) (λk _ _=>by simp only[Vk.eq_2,aN,af]) (λk i s _ hx hI=>by
  have hi:=aE hx;simp only[Vk.eq_2,aM hi,au,aG hx,ae,ai (show i<9223372036854775807by omega)];by_cases hv:(s.2.length:Int)>4200;.exact .inl ⟨_,rfl,by rw[aU hv];rfl⟩
  .exact .inr ⟨(),λj y hj hy=>by
   by_cases e:j=i;.subst e;rw[hx]at hy;rw[<-fj hy];omega
   .exact hI j y (by omega) hy,by rw[aQ hv];rfl⟩) (k:=N) (s:=()) (λj x hj=>by omega) (by omega)with⟨r,rfl,h4⟩|⟨_,h3,h4⟩;.rw[h4];exact .inl rfl
 .rw[h4];exact .inr ⟨rfl,hm,by omega,by omega,by omega,λs hs=>by obtain⟨j,hj⟩:=List.getElem?_of_mem hs;exact h3 j s (aE hj) hj⟩
def BM:List dy->Nat->List Int|[],_=>[]|x::r,i=>cond (x.1==1) ((i:Int)::BM r (i+1)) (BM r (i+1))
def QN:∀(l:List dy)(i:Nat),(BM l i).length<=l.length|[],_=>bc _|x::r,i=>by have:=QN r (i+1);unfold BM;cases(x.1==1)<;>simp<;>omega
def aib{rs:List dy}(h:rs.length<=20):∀(n i k:Nat)(acc:List Int),i+n=rs.length->n<k->acc.length<=i->DZ N k (acc,rs,(rs.length:Int),(i:Int))=some (acc++BM (rs.drop i) i)/\D3 N k (rs,acc,(i:Int))=some (acc++BM (rs.drop i) i):=by intro n;induction n with|zero=>intro i k acc h1 h2 h3;obtain⟨k,rfl⟩:∃q,k=q+1:=⟨k-1,by omega⟩;rw[DZ.eq_2,D3.eq_2,aQ (show¬(i:Int)<(rs.length:Int)by omega),af,af,py (by omega)];simp[BM]|succ n ih=>
 intro i k acc h1 h2 h3;obtain⟨k,rfl⟩:∃q,k=q+1:=⟨k-1,by omega⟩;obtain⟨x,ex⟩:=oP (l:=rs) (i:=i) (by omega);have ed:rs.drop i=x::rs.drop (i+1):=by obtain⟨hi,e⟩:=cb.1 ex;rw[ib hi,e]
 rw[DZ.eq_2,D3.eq_2,aU (show(i:Int)<(rs.length:Int)by omega),au,au,aG ex,ae,ae,ai (by omega),aq (by omega) (by omega),aj,aj,ed,BM];cases hx:(x.1==1)with|true=>simp only[au];have:=ih (i+1) k (acc++[(i:Int)]) (by omega) (by omega) (by simp;omega);simpa using this|false=>simp only[af];exact ih (i+1) k acc (by omega) (by omega) (by omega)
def MM(hN:1300<N){rs:List dy}(h:rs.length<=20)(hr:∀x,x∈rs->ZY x)(hv:RVs rs):F25 N rs=some (BM rs 0,0)/\F7 N rs=some (BM rs 0):=by have:=aib (N:=N) h rs.length 0 N [] (by omega) (by omega) (by simp);rw[show((0:Nat):Int)=0from rfl]at this;rw[F25.eq_1,F7.eq_1,QM (by omega) hr,ba hv,this.1,this.2];simp only[ae,iC,af,ii,List.drop_zero];exact⟨trivial,trivial⟩
def Zx(a b:Nat):Int.tmod (a:Int) (b:Int)=((a%b:Nat):Int):=by rw[Int.tmod_eq_emod_of_nonneg (by omega)];rfl
def HV(hN:1300<N){sl kl hp gl hb sp:Int}{bs:List Int}{st:List Region}{rs:List dy}(hc:F24 N (ts,xs,fs,sl,kl,hp,gl,hb,bs,st,rs,sp)=some 0)(h:rs.length<=20)(hr:∀x,x∈rs->ZY x)(hv:RVs rs){i:Nat}(hi:i<=65535){j:Int}(hj:(BM rs 0)[i%(BM rs 0).length]?=some j):F8 N (ts,xs,fs,sl,kl,hp,gl,hb,bs,st,rs,sp,(i:Int))=some (j,0):=by
 have hp:0<(BM rs 0).length:=by obtain⟨hl,_⟩:=cb.1 hj;omega
 rw[F8.eq_1,hc];simp only[ae,iC,af,aQ (show¬(i:Int)<0 by omega),aQ (show¬(i:Int)>65535by omega),(MM (N:=N) hN h hr hv).1,vJ (show((BM rs 0).length:Int)≠0 by omega),aQ (show¬((BM rs 0).length:Int)=0 by omega),ge,aj,Zx,aG hj]
def acj(hN:14000000<N)(ht:Qx ts fs){st:List Region}{rs:List dy}(hs:∀s,s∈st->rgn s)(hr:∀x,x∈rs->ZY x)(sl kl hp gl hb sp:Int){bs:List Int}:F3 N (ts,xs,fs,sl,kl,hp,gl,hb,bs,st,rs,sp)=some true:=by
 rw[F3.eq_1,api,ae];rcases aci (N:=N) (xs:=xs) (by omega) ht sl kl hp gl hb sp bs st rs with h|⟨h,hm,b1,b2,b3,b4⟩;.rw[h];rfl
 rw[h,ae,af];rcases aia (N:=N) hN hm hs hr sl kl hp gl hb sp (bs:=bs)with⟨h1,h2⟩|⟨h1,h2,h3,h4,h5,h6,h7⟩;.rw[h2];rfl
 rw[h2];simp only[ae,iC,af,dl,(MM (N:=N) (by omega) b3 hr h5).2];have hl:=QN rs 0;have key:∀(n i k:Nat),i+n=(BM rs 0).length+1->n<k->D4 N k (true,BM rs 0,(i:Int),ts,xs,fs,sl,kl,hp,gl,hb,bs,st,rs,sp)=some (.inr true):=by intro n;induction n with|zero=>intro i k h1' h2';obtain⟨k,rfl⟩:∃q,k=q+1:=⟨k-1,by omega⟩;rw[D4.eq_2,aQ (show¬(i:Int)<=((BM rs 0).length:Int)by omega)];rfl|succ n ih=>
  intro i k h1' h2';obtain⟨k,rfl⟩:∃q,k=q+1:=⟨k-1,by omega⟩;rw[D4.eq_2,aU (show(i:Int)<=((BM rs 0).length:Int)by omega),au,ae];by_cases h0:(BM rs 0).length=0;.rw[aQ (show¬((BM rs 0).length:Int)>0 by omega)];rfl
  obtain⟨j,ej⟩:=oP (l:=BM rs 0) (i:=i%(BM rs 0).length) (vx _ (by omega));rw[aU (show((BM rs 0).length:Int)>0 by omega),au,HV (N:=N) (by omega) h1 b3 hr h5 (i:=i) (by omega) ej];simp only[ae,iC,af,aQ (show¬((BM rs 0).length:Int)=0 by omega),ge,aj,Zx,aG ej,bne_self_eq_false,ai (show i<9223372036854775807by omega)];exact ih (i+1) k (by omega) (by omega)
 have:=key ((BM rs 0).length+1) 0 N (by omega) (by omega);rw[show((0:Nat):Int)=0from rfl]at this;rw[this];rfl
def aic{l:List Region}(h:(Ty.sl bF).ok l):∀s,s∈l->rgn s:=λs hs=>by have h1:=h.2 s hs;exact⟨h1.1,Y4 h1.2⟩
def aid{l:List dy}(h:(Ty.sl iu).ok l):∀s,s∈l->ZY s:=λs hs=>by have h1:=h.2 s hs;exact⟨h1.2.1,h1.2.2.1,h1.2.2.2.1,h1.2.2.2.2.1⟩
def ack:∀x,ZQ (kS [(36,true,jJ)]) x->F3 20000000 x=some true:=by intro x h;obtain⟨h1,h⟩:=mq h;obtain⟨_,h⟩:=mq h;obtain⟨h3,h⟩:=mq h;obtain⟨_,h⟩:=mq h;obtain⟨_,h⟩:=mq h;obtain⟨_,h⟩:=mq h;obtain⟨_,h⟩:=mq h;obtain⟨_,h⟩:=mq h;obtain⟨h9,h⟩:=mq h;obtain⟨ZO,h⟩:=mq h;obtain⟨h11,h⟩:=mq h;obtain⟨ts,xs,fs,sl,kl,hp,gl,hb,bs,st,rs,sp⟩:=x;exact acj (N:=20000000) (by omega) (YY h1 h3) (aic ZO) (aid h11) sl kl hp gl hb sp
end
end Go.Proofs.YtclkonemhghbkaaGreat
end
