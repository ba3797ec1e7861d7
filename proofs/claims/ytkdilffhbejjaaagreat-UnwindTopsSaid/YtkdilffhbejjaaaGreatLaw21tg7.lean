/- The checker: what is found out about a function, by the program. -/
import Derived.Test.YtkdilffhbejjaaaGreatLaw21tg6
set_option linter.unusedVariables false
set_option linter.unusedSimpArgs false
namespace Go.Proofs.YtkdilffhbejjaaaGreat
open Go Go.bM Go.Sym
open Classical
structure RI(s:List eN)(i:Int)(y:Int):Prop where
 pos:0<s.length
 zero:(rn s 0).1=0inc:∀j,j+1<s.length->(rn s j).1<(rn s (j+1)).1/\(rn s j).2≠(rn s (j+1)).2low:∀j,j<s.length->(rn s j).1<i
 last:(rn s (s.length-1)).2=y
theorem RI.mono{s:List eN}{i j y:Int}(h:RI s i y)(hij:i<=j):RI s j y:=⟨h.pos,h.zero,h.inc,λk hk=>Int.lt_of_lt_of_le (h.low k hk) hij,h.last⟩
theorem xu{s:List eN}{x:eN}{j:Nat}(h:j<s.length):rn (s++[x]) j=rn s j:=by unfold rn<;>grind
theorem HE{s:List eN}{x:eN}:rn (s++[x]) s.length=x:=by unfold rn<;>grind
theorem RI.one(x:Int):RI [(0,x)] 1 x:=by
 refine⟨by simp,rfl,λj hj=>by simp at hj,λj hj=>?_,rfl⟩;simp at hj;have:j=0:=by omega
 subst this;show(0:Int)<1;decide
theorem RI.snoc{s:List eN}{i y x:Int}(h:RI s i y)(hx:x≠y):RI (s++[(i,x)]) (i+1) x:=by
 have hp:=h.pos;refine⟨by simp,by rw[xu hp];exact h.zero,λj hj=>?_,λj hj=>?_,by rw[ba,dj,Nat.add_sub_cancel,HE]⟩
 .simp at hj;by_cases he:j+1=s.length
  .rw[he,HE,xu (by omega)];have e:j=s.length-1:=by omega
   refine⟨h.low j (by omega),λhh=>hx ?_⟩;rw[<-h.last,<-e,hh]
  .rw[xu (by omega),xu (by omega)];exact h.inc j (by omega)
 .simp at hj;by_cases he:j=s.length;.subst he;rw[HE]<;>grind
  .rw[xu (by omega)];have:=h.low j (by omega);omega
theorem RI.ok{s:List eN}{i y:Int}(h:RI s i y):dF s i:=⟨h.pos,h.zero,h.inc,h.low⟩
noncomputable def A4(v:List Int):Nat->List eN|0=>[]|i+1=>if i=0\/v.getD i 0≠v.getD (i-1) 0then A4 v i++[((i:Int),v.getD i 0)]else A4 v i
noncomputable def xw(v:List Int):List eN:=A4 v v.length
theorem HF(v:List Int):∀i,(A4 v i).length<=i|0=>by simp[A4]|i+1=>by have:=HF v i;unfold A4<;>grind
theorem HG{v:List Int}:∀{i:Nat},i<=v.length->∀{x:eN},x∈A4 v i->x.2∈v
 |0,_,x,hx=>by simp[A4]at hx|i+1,hi,x,hx=>by
  unfold A4 at hx;split at hx
  .rcases bj.1 hx with hx|hx;.exact HG (by omega) hx
   grind
  .exact HG (by omega) hx
theorem WA(v:List Int):∀i:Nat,RI (A4 v (i+1)) ((i+1:Nat):Int) (v.getD i 0)
 |0=>by
  have e:A4 v 1=[]++[(((0:Nat):Int),v.getD 0 0)]:=by unfold A4;rfl
  exact RI.one _|i+1=>by
  have h:=WA v i;have e:A4 v (i+2)=if v.getD (i+1) 0≠v.getD i 0then A4 v (i+1)++[(((i+1:Nat):Int),v.getD (i+1) 0)]else A4 v (i+1):=by rw[A4];simp
  rw[e];split;.rename_i hne;exact h.snoc hne
  .rename_i heq;rw[Decidable.not_not]at heq;rw[heq];exact h.mono (by omega)
theorem WB{v:List Int}(h:1<=v.length):dF (xw v) (v.length:Int):=by obtain⟨n,hn⟩:∃n,v.length=n+1:=⟨v.length-1,by omega⟩;have:=(WA v n).ok;unfold xw<;>grind
theorem Ob{v:List Int}{x:eN}(h:x∈xw v):x.2∈v:=HG (bc _) h
theorem xx{α:Type}{l:List α}{i:Nat}{x d:α}(h:l[i]?=some x):l.getD i d=x:=by grind
theorem Ku{N:Nat}{v:List Int}(hN:500<N)(h1:1<=v.length)(h2:v.length<=200):PC N v=some (xw v,0):=by rw[PC.eq_1,Pw.eq_1];have e1:decide ((v.length:Int)<1)=false:=bv (by omega);have e2:decide ((v.length:Int)>200)=false:=bv (by omega);simp[e1,e2,af,ae,show((0:Int)!=0)=false from rfl];obtain⟨s,hs,he⟩:=fO (l:=v) (g:=λs:List eN=>s) (Inv:=λi s=>s=A4 v i) (Lf:=λk i s=>f112.mq N k (v,s,(v.length:Int),i)) (λk s _=>by simp only[f112.mq.eq_2,aJ,af]) (λk i x s hx hs=>by
   have hi:=aC hx;have hl:=HF v i;rw[<-hs]at hl;have hroom:room (s.length+1) 16=true:=ak (by omega) (by omega);have hg:v.getD i 0=x:=xx hx;refine⟨_,rfl,?_⟩;simp only[f112.mq.eq_2,aG hi,aq,aD hx,ae,ai (show i<9223372036854775807by omega)];by_cases h0:i=0;.subst h0;rw[show decide (((0:Nat):Int)>0)=false from rfl];simp only[af,ae,hroom,aj];rw[A4,bb (.inl rfl),hg,<-hs]
   .have hw:av ((i:Int)-1)=((i-1:Nat):Int):=by rw[aI (by omega)];omega
    have hy:=al (l:=v) (i:=i-1) (by omega);have hgy:v.getD (i-1) 0=v[i-1]:=xx hy;rw[aS (show(i:Int)>0 by omega)];simp only[aq,hw,aD hy,ae];by_cases hxy:x=v[i-1];.rw[show(x==v[i-1])=true from kv.2 hxy];simp only[aq];rw[A4,be (by rw[hg,hgy];intro h;rcases h with h|h;exact h0 h;exact h hxy),<-hs]
    .rw[show(x==v[i-1])=false from lj.2 hxy];simp only[af,hroom,aj];rw[A4,bb (.inr (by rw[hg,hgy];exact hxy)),hg,<-hs]) (k:=N) (s:=[]) rfl (by omega);rw[he,hs];rfl
theorem aba{N:Nat}{v:List Int}(hN:500<N)(h2:v.length<=200):PZ N v=some (xw v):=by rw[PZ.eq_1];obtain⟨s,hs,he⟩:=fO (l:=v) (g:=λs:List eN=>s) (Inv:=λi s=>s=A4 v i) (Lf:=λk i s=>f184.bz N k (v,s,i)) (λk s _=>by simp only[f184.bz.eq_2,aJ,af]) (λk i x s hx hs=>by
   have hi:=aC hx;have hl:=HF v i;rw[<-hs]at hl;have hroom:room (s.length+1) 16=true:=ak (by omega) (by omega);have hg:v.getD i 0=x:=xx hx;refine⟨_,rfl,?_⟩;simp only[f184.bz.eq_2,aG hi,aq,aD hx,ae,ai (show i<9223372036854775807by omega)];by_cases h0:i=0;.subst h0;rw[show(((0:Nat):Int)==0)=true from rfl];simp only[aq,ae,hroom,aj];rw[A4,bb (.inl rfl),hg,<-hs]
   .have hw:av ((i:Int)-1)=((i-1:Nat):Int):=by rw[aI (by omega)];omega
    have hy:=al (l:=v) (i:=i-1) (by omega);have hgy:v.getD (i-1) 0=v[i-1]:=xx hy;rw[show((i:Int)==0)=false by rw[lj];omega];simp only[af,hw,aD hy,ae];by_cases hxy:x=v[i-1];.rw[show(x !=v[i-1])=false by simp[hxy]];simp only[af];rw[A4,be (by rw[hg,hgy];intro h;rcases h with h|h;exact h0 h;exact h hxy),<-hs]
    .rw[show(x !=v[i-1])=true by simp[bne,hxy]];simp only[aq,hroom,aj];rw[A4,bb (.inr (by rw[hg,hgy];exact hxy)),hg,<-hs]) (k:=N) (s:=[]) rfl (by omega);rw[he,hs];rfl
noncomputable def eZ{α:Type}(p:Nat->α->Int):Nat->List α->Option (Nat×Int)|_,[]=>none|i,x::r=>if p i x≠0then some (i,p i x)else eZ p (i+1) r
theorem pL{α:Type}{p:Nat->α->Int}:∀{l:List α}{i:Nat},eZ p i l=none->∀(j:Nat)x,l[j]?=some x->p (i+j) x=0
 |[],_,_,j,x,hx=>by grind|y::r,i,h,j,x,hx=>by
  unfold eZ at h;split at h;.cases h
  .rename_i hp;cases j with|zero=>grind|succ j=>have:=pL h j x hx<;>grind
theorem yM{α:Type}{p:Nat->α->Int}:∀{l:List α}{i:Nat}{r:Nat×Int},eZ p i l=some r->r.2≠0
 |[],_,_,h=>by cases h|y::r,i,q,h=>by
  unfold eZ at h;split at h;.grind
  .exact yM h
theorem rL{α β:Type}{l:List α}{p:Nat->α->Int}{a:β}{out:Int->Int->β}{Lf:Nat->Int->Option β}(h0:∀k,Lf (k+1) (l.length:Int)=some a)(hs:∀k(i:Nat)x,l[i]?=some x->Lf (k+1) (i:Int)=if p i x≠0then some (out (i:Int) (p i x))else Lf k ((i+1:Nat):Int)){k:Nat}(hk:l.length<k):Lf k 0=some ((eZ p 0 l).elim a λr=>out (r.1:Int) r.2):=by
 have key:∀k(i:Nat),i<=l.length->l.length-i<k->Lf k (i:Int)=some ((eZ p i (l.drop i)).elim a λr=>out (r.1:Int) r.2):=by intro k;induction k with|zero=>omega|succ k ih=>
   intro i hi hk;by_cases he:i=l.length;.subst he;rw[h0,rf];rfl
   .have hlt:i<l.length:=by omega
    rw[hs k i _ (al hlt),ib hlt,eZ];split;.rfl
    .exact ih (i+1) (by omega) (by omega)
 exact key k 0 (by omega) (by omega)
noncomputable def WC(l:List Instr)(p s:Nat):List Nat:=if h:∃G,Dp l (2^p-1) (2^s-1) G then pH l h.choose else[]
theorem Kv{l:List Instr}{p s:Nat}{G H:Nat->Nat}(hG:Dp l (2^p-1) (2^s-1) G)(hs:W4 l (2^p-1) H)(hm:∀S,W4 l (2^p-1) S->(∀k,sub (S k) (2^s-1))->∀k,Reach l k->sub (S k) (H k)):pH l H=WC l p s:=by unfold WC;have e:∃G,Dp l (2^p-1) (2^s-1) G:=⟨G,hG⟩;rw[dif_pos e];exact(Kj λk hk=>e.choose_spec.eq hs hm hk).symm
noncomputable def yN(l:List Instr)(i:Nat):Prop:=Reach l i\/i=l.length-1
noncomputable def rM(ts:List aA)(xs:List (List UInt8))(fs:List Func)(f:Func)(i:Nat)(x:Instr):Int:=if nB xs.length (fD fs) f.2.2.2.1 x then(if yN f.2.2.2.2.1 i then(if Kq ts (fD fs) f.2.2.2.1 f.2.2.1 x=true then 0 else 30)else 6)else 16
noncomputable def qz(ms:List Nat)(i:Nat)(x:Instr):Int:=if∀s,s∈bg mD x->(O ms i).testBit s.toNat=true then 0 else 38
noncomputable def cA(f:Func):List Nat:=WC f.2.2.2.2.1 f.2.1.toNat f.2.2.2.1.length
abbrev Found:=List eN×List eN×Int×Int
noncomputable def fE(ts:List aA)(xs:List (List UInt8))(fs:List Func)(f:Func)(g:Int):Found:=if jX f.2.2.2.2.1=true then if g=0/\(0<f.2.1\/0<=f.2.2.1)then([],[],-1,30)else(eZ (rM ts xs fs f) 0 f.2.2.2.2.1).elim (if uy f.2.2.2.2.1 (eL ts fs f)then(eZ (qz (cA f)) 0 f.2.2.2.2.1).elim (xw (tT ts fs f),xw (cN (cA f)),0,0) λr=>([],[],(r.1:Int),r.2)else([],[],-1,36)) λr=>([],[],(r.1:Int),r.2)else([],[],-1,12)
theorem QB{l:List Instr}(hp:1<=l.length){k:Nat}(hk:k<l.length):((ep l).set (l.length-1) true)[k]?=some (decide (yN l k)):=by
 rw[mr,rH];by_cases h:l.length-1=k;.rw[bb h,bb (by omega),aS (.inr h.symm)]
 .rw[be h,kq hk];congr 1;exact ka.2 ⟨.inl,λh'=>h'.resolve_right λe=>h e.symm⟩
theorem Dz{n:Nat}{l:List Int}(h:∀s,s∈l->0<=s/\s<n):∀{m:Nat},m<2^n->gy m l<2^n:=by unfold gy;induction l with|nil=>grind|cons s r ih=>intro m hm;refine ih (λx hx=>h x (dl _ hx)) ?_;have:=h s cb;exact p3 hm (mn (by omega) (by omega))
section
variable{ts:List aA}{xs:List (List UInt8)}{fs:List Func}{f:Func}
theorem Fn.fits(h:Fn ts xs fs f):Kf f.2.2.2.2.1 f.2.1 (f.2.2.2.1.length:Int)=0:=by
 have D4:=h.ok.2.1;have hp:=h.ok.2.2.2.1;have:nK f.2.2.2.2.1 (f.2.2.2.1.length:Int).toNat=true:=by unfold nK;rw[eK,qr];intro x hx;have hn:=(h.near x hx).1;have hs:=(Dv (h.aF hx)).2;have hlt:W3 x<2^f.2.2.2.1.length:=Dz (λs hs'=>by have:=hn s (bj.2 (.inr hs'));have:=hs s (bj.2 (.inr hs'));omega) (Dz (λs hs'=>by have:=hn s (bj.2 (.inl hs'));have:=hs s (bj.2 (.inl hs'));omega) (Nat.two_pow_pos _));grind
 unfold Kf<;>grind
theorem HH{N:Nat}(hN:14000000<N)(h:Fn ts xs fs f):JH N (f.2.2.2.2.1,f.2.1,(f.2.2.2.1.length:Int))=some (cN (cA f),0)/\(cA f).length=f.2.2.2.2.1.length/\∀k,O (cA f) k<2^64:=by
 have hl:=h.len;have key:=Wu (N:=N) hN (l:=f.2.2.2.2.1) (by omega) (λ_=>hl.2) f.2.1 (f.2.2.2.1.length:Int);rw[bb h.code,bb h.fits]at key;obtain⟨G,hVM,hG,he⟩:=key;have e:pH f.2.2.2.2.1 G=cA f:=Kv hG hG.sol λS hS _ k hk=>hG.most S hS k hk;rw[e]at he;refine⟨he,by rw[<-e,yI],λk=>?_⟩;rw[<-e];by_cases hk:k<f.2.2.2.2.1.length;.rw[FL hk];have:=hVM.lt (hG.KG k)<;>grind
 .unfold O;rw[ci,dT (by rw[yI];omega)]<;>grind
theorem WD{N:Nat}(hN:14000000<N)(h:Fn ts xs fs f):Mc N (f.2.2.2.2.1,f.2.1,(f.2.2.2.1.length:Int))=some (cN (cA f)):=by have hl:=h.len;have key:=Wu (N:=N) hN (l:=f.2.2.2.2.1) (by omega) (λ_=>hl.2) f.2.1 (f.2.2.2.1.length:Int);rw[bb h.code,bb h.fits]at key;obtain⟨G,hVM,hG,_⟩:=key;rw[bd]at hG hVM;obtain⟨H,h1,h2,h3⟩:=Y2 hVM hN;rw[pA (by have:=h.ok.2.2.2.1;omega)]at h3;rw[h3,Kv hG h1 h2];rfl
theorem aql{m:Nat}{s:Int}(hm:m<2^64)(h0:0<=s)(hs:s<=15):((uw .u64 (Int.fdiv (m:Int) (2^min (Int.toNat s) 64)) 1)==0)=!(m.testBit s.toNat):=by rw[pw (by omega),show((2:Int)^s.toNat)=((2^s.toNat:Nat):Int)by rw[Int.natCast_pow];rfl,wY,show(1:Int)=((1:Nat):Int)from rfl,Dm (Nat.lt_of_le_of_lt (Nat.div_le_self _ _) hm) (by omega),Nat.and_one_is_mod]<;>grind
theorem aqm{m:Nat}{s:Int}(h0:0<=s)(hs:s<=15):((Int.tmod (Int.fdiv (m:Int) (2^min (Int.toNat s) 64)) 2)==0)=!(m.testBit s.toNat):=by grind
theorem alq{N:Nat}(hN:14000000<N)(hv:gS ts xs fs){g:Int}(hf:idx fs g=some f):F79 N (ts,xs,fs,g)=some (fE ts xs fs f g):=by
 obtain⟨g0,qP⟩:=sO hf;have hok:=hv.get qP;obtain⟨hpos,hle⟩:=hok.2.2.2.2.2.2.1;have QC:=hok.2.2.2.2.2.2.2.1;unfold fE;rw[F79.eq_1,hf];simp[ae,aeE (N:=N) (l:=f.2.2.2.2.1) (by omega) (by omega)];by_cases hval:jX f.2.2.2.2.1=true;case neg=>grind
 rw[bb hval,bb hval];by_cases Kw:g=0/\(0<f.2.1\/0<=f.2.2.1);.grind
 rw[be Kw];have hmn:(bif g==(0:Int)then(bif decide (f.2.1>0)then some true else some (decide (f.2.2.1>=0)))else some false:Option Bool)=some false:=by grind
 rw[hmn];have l1:=rL (l:=f.2.2.2.2.1) (p:=rM ts xs fs f) (a:=(.inr (f.2.2.2.2.1,0,0,ts,xs,fs,f.1,f.2.1,f.2.2.1,f.2.2.2.1,f.2.2.2.2.1,f.2.2.2.2.2.1,f.2.2.2.2.2.2):(Int×Int)⊕_)) (out:=λi e=>.inl (i,e)) (Lf:=λk i=>f79.jd N k (f.2.2.2.2.1,(ep f.2.2.2.2.1).set (f.2.2.2.2.1.length-1) true,f.2.2.2.2.1,(f.2.2.2.2.1.length:Int),i,0,0,ts,xs,fs,f.1,f.2.1,f.2.2.1,f.2.2.2.1,f.2.2.2.2.1,f.2.2.2.2.2.1,f.2.2.2.2.2.2)) (λk=>by simp only[f79.jd.eq_2,aJ,af]) (λk i x hx=>by
   have hi:=aC hx;have hc:=QC x (aU hx);simp only[f79.jd.eq_2,aG hi,aq,aD hx,ae,alh (show 1300<N by omega) f hc,ai (show i<9223372036854775807by omega)];unfold rM;by_cases hn:nB xs.length (fD fs) f.2.2.2.1 x
   .simp only[bb hn,show((0:Int)!=0)=false from rfl,af,aD (QB hpos hi),ae];by_cases hr:yN f.2.2.2.2.1 i;.simp only[aS hr,da,af,bb hr,aeK (show 1300<N by omega) hv hok hc hn,ae];cases Kq ts (fD fs) f.2.2.2.1 f.2.2.1 x<;>rfl
    .simp only[aM hr,ge,aq,be hr];rfl
   .simp only[be hn];rfl) (k:=N) (by omega);simp[l1,ae];cases he:eZ (rM ts xs fs f) 0 f.2.2.2.2.1with
 |some r=>rfl
 |none=>have hz:=pL he;have hfn:Fn ts xs fs f:=⟨hv,hok,hval,λx hx=>by
   obtain⟨i,hi,rfl⟩:=f8.1 hx;have:=hz i _ (al hi);unfold rM at this;split at this;.assumption
   .cases this⟩;obtain⟨r,c,s1,s2,s3⟩:=Wz (show 1300<N by omega) hfn;obtain⟨m1,m2,m3⟩:=HH hN hfn;simp[t8,s1,ae];cases c with|false=>grind|true=>
   rw[bb (s2.1 rfl),s3 rfl];simp[da,af,m1,ae,show((0:Int)!=0)=false from rfl];have l3:∀(i:Nat)x,f.2.2.2.2.1[i]?=some x->f79.ng N N (tT ts fs f,cN (cA f),(i:Int),0,f.2.2.2.2.1,(f.2.2.2.2.1.length:Int),(i:Int),bg mD x,((bg mD x).length:Int),0,0,0)=some (if qz (cA f) i x≠0then .inl ((i:Int),38)else .inr (tT ts fs f,cN (cA f),f.2.2.2.2.1,(f.2.2.2.2.1.length:Int),(i:Int),0,0)):=λi x hx=>by
    have hi:=aC hx;have h15:=(oM (QC x (aU hx))).1;have WW:(cN (cA f))[i]?=some ((O (cA f) i:Nat):Int):=gH (by omega);have hrl:=kr mD x;have:=fN (l:=bg mD x) (a:=(.inr (tT ts fs f,cN (cA f),f.2.2.2.2.1,(f.2.2.2.2.1.length:Int),(i:Int),0,0):(Int×Int)⊕_)) (b:=.inl ((i:Int),38)) (p:=λs=>!((O (cA f) i).testBit s.toNat)) (Lf:=λk j=>f79.ng N k (tT ts fs f,cN (cA f),(i:Int),0,f.2.2.2.2.1,(f.2.2.2.2.1.length:Int),(i:Int),bg mD x,((bg mD x).length:Int),j,0,0)) (λk _=>by simp only[f79.ng.eq_2,aJ,af]) (λk j s hs hm=>by have hj:=aC hs;obtain⟨b0,b1⟩:=h15 s hm;simp only[f79.ng.eq_2,aG hj,aq,aD hs,ae,show((0:Int)!=0)=false from rfl,af,aD WW,show(!decide (s<0))=true by simp;omega,aj,aql (m3 i) b0 b1,ai (show j<9223372036854775807by omega)];cases(O (cA f) i).testBit s.toNat<;>rfl) (k:=N) (by omega);rw[this];unfold qz;by_cases hall:∀s,s∈bg mD x->(O (cA f) i).testBit s.toNat=true;.rw[bb hall,be (λ⟨s,h1,h2⟩=>by rw[hall s h1]at h2;cases h2),be (by decide)]
    .have hex:∃s,s∈bg mD x/\(!((O (cA f) i).testBit s.toNat))=true:=by rw[Classical.not_forall]at hall;obtain⟨s,hs⟩:=hall;rw[Classical.not_imp]at hs;exact⟨s,hs.1,by rw[eK];exact t7.2 hs.2⟩
     rw[bb hex,be hall,bb (show(38:Int)≠0 by decide)]
   have l2:=rL (l:=f.2.2.2.2.1) (p:=qz (cA f)) (a:=(.inr (tT ts fs f,cN (cA f),0,0):(Int×Int)⊕_)) (out:=λi e=>.inl (i,e)) (Lf:=λk i=>f79.CO N k (tT ts fs f,cN (cA f),f.2.2.2.2.1,(f.2.2.2.2.1.length:Int),i,0,0)) (λk=>by simp only[f79.CO.eq_2,aJ,af]) (λk i x hx=>by
     have hi:=aC hx;simp only[f79.CO.eq_2,aG hi,aq,aD hx,ae,Mr,QC x (aU hx),l3 i x hx];by_cases hz:qz (cA f) i x=0;.simp only[be (show¬qz (cA f) i x≠0fromλh=>h hz),ai (show i<9223372036854775807by omega)]
     .have e38:qz (cA f) i x=38:=by
       unfold qz at hz⊢;split at hz;.exact absurd rfl hz
       .rename_i h;rw[be h]
      simp only[bb (show qz (cA f) i x≠0from hz)];rw[e38]) (k:=N) (by omega);rw[l2];cases eZ (qz (cA f)) 0 f.2.2.2.2.1with|some r=>rfl|none=>simp[t8,ae,Ku (N:=N) (v:=tT ts fs f) (by omega) (by rw[pK];omega) (by rw[pK];omega),Ku (N:=N) (v:=cN (cA f)) (by omega) (by rw[bL];omega) (by rw[bL];omega),show((0:Int)==0)=true from rfl,aq]
end
end Go.Proofs.YtkdilffhbejjaaaGreat
