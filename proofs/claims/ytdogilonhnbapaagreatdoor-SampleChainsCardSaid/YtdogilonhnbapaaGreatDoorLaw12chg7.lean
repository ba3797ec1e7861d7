/- The checker: what is found out about a function, by the program. -/
import Derived.Test.YtdogilonhnbapaaGreatDoorLaw12chg6
set_option linter.unusedVariables false
set_option linter.unusedSimpArgs false
namespace Go.Proofs.YtdogilonhnbapaaGreatDoor
open Go Go.bI Go.Sym
open Classical
structure RI(s:List fA)(i:Int)(y:Int):Prop where
 pos:0<s.length
 zero:(rn s 0).1=0inc:∀j,j+1<s.length->(rn s j).1<(rn s (j+1)).1/\(rn s j).2≠(rn s (j+1)).2low:∀j,j<s.length->(rn s j).1<i
 last:(rn s (s.length-1)).2=y
theorem RI.mono{s:List fA}{i j y:Int}(h:RI s i y)(hij:i<=j):RI s j y:=⟨h.pos,h.zero,h.inc,λk hk=>Int.lt_of_lt_of_le (h.low k hk) hij,h.last⟩
theorem wV{s:List fA}{x:fA}{j:Nat}(h:j<s.length):rn (s++[x]) j=rn s j:=by unfold rn<;>grind
theorem Hz{s:List fA}{x:fA}:rn (s++[x]) s.length=x:=by unfold rn<;>grind
theorem RI.one(x:Int):RI [(0,x)] 1 x:=by
 refine⟨by simp,rfl,λj hj=>by simp at hj,λj hj=>?_,rfl⟩;simp at hj;have:j=0:=by omega
 subst this;show(0:Int)<1;decide
theorem RI.snoc{s:List fA}{i y x:Int}(h:RI s i y)(hx:x≠y):RI (s++[(i,x)]) (i+1) x:=by
 have hp:=h.pos;refine⟨by simp,by rw[wV hp];exact h.zero,λj hj=>?_,λj hj=>?_,by rw[List.length_append,List.length_singleton,Nat.add_sub_cancel,Hz]⟩
 .simp at hj;by_cases he:j+1=s.length
  .rw[he,Hz,wV (by omega)];have e:j=s.length-1:=by omega
   refine⟨h.low j (by omega),λhh=>hx ?_⟩;rw[<-h.last,<-e,hh]
  .rw[wV (by omega),wV (by omega)];exact h.inc j (by omega)
 .simp at hj;by_cases he:j=s.length;.subst he;rw[Hz]<;>grind
  .rw[wV (by omega)];have:=h.low j (by omega);omega
theorem RI.ok{s:List fA}{i y:Int}(h:RI s i y):cQ s i:=⟨h.pos,h.zero,h.inc,h.low⟩
noncomputable def zP(v:List Int):Nat->List fA|0=>[]|i+1=>if i=0\/v.getD i 0≠v.getD (i-1) 0then zP v i++[((i:Int),v.getD i 0)]else zP v i
noncomputable def CV(v:List Int):List fA:=zP v v.length
theorem HA(v:List Int):∀i,(zP v i).length<=i|0=>by simp[zP]|i+1=>by have:=HA v i;unfold zP<;>grind
theorem HB{v:List Int}:∀{i:Nat},i<=v.length->∀{x:fA},x∈zP v i->x.2∈v
 |0,_,x,hx=>by simp[zP]at hx|i+1,hi,x,hx=>by
  unfold zP at hx;split at hx
  .rcases List.mem_append.1 hx with hx|hx;.exact HB (by omega) hx
   grind
  .exact HB (by omega) hx
theorem Vl(v:List Int):∀i:Nat,RI (zP v (i+1)) ((i+1:Nat):Int) (v.getD i 0)
 |0=>by
  have e:zP v 1=[]++[(((0:Nat):Int),v.getD 0 0)]:=by unfold zP;rfl
  exact RI.one _|i+1=>by
  have h:=Vl v i;have e:zP v (i+2)=if v.getD (i+1) 0≠v.getD i 0then zP v (i+1)++[(((i+1:Nat):Int),v.getD (i+1) 0)]else zP v (i+1):=by rw[zP];simp
  rw[e];split;.rename_i hne;exact h.snoc hne
  .rename_i heq;rw[Decidable.not_not]at heq;rw[heq];exact h.mono (by omega)
theorem Vm{v:List Int}(h:1<=v.length):cQ (CV v) (v.length:Int):=by obtain⟨n,hn⟩:∃n,v.length=n+1:=⟨v.length-1,by omega⟩;have:=(Vl v n).ok;unfold CV<;>grind
theorem Ov{v:List Int}{x:fA}(h:x∈CV v):x.2∈v:=HB (Nat.le_refl _) h
theorem wW{α:Type}{l:List α}{i:Nat}{x d:α}(h:l[i]?=some x):l.getD i d=x:=by grind
theorem Kk{N:Nat}{v:List Int}(hN:500<N)(h1:1<=v.length)(h2:v.length<=200):F67 N v=some (CV v,0):=by rw[F67.eq_1,L0.eq_1];have e1:decide ((v.length:Int)<1)=false:=decide_eq_false (by omega);have e2:decide ((v.length:Int)>200)=false:=decide_eq_false (by omega);simp[e1,e2,ak,Option.bind_some,show((0:Int)!=0)=false from rfl];obtain⟨s,hs,he⟩:=dY (l:=v) (g:=λs:List fA=>s) (Inv:=λi s=>s=zP v i) (Lf:=λk i s=>f67.tX N k (v,s,(v.length:Int),i)) (λk s _=>by simp only[f67.tX.eq_2,aL,ak]) (λk i x s hx hs=>by
   have hi:=aA hx;have hl:=HA v i;rw[<-hs]at hl;have hroom:room (s.length+1) 16=true:=ah (by omega) (by omega);have hg:v.getD i 0=x:=wW hx;refine⟨_,rfl,?_⟩;simp only[f67.tX.eq_2,aI hi,au,aD hx,Option.bind_some,aj (show i<9223372036854775807by omega)];by_cases h0:i=0;.subst h0;rw[show decide (((0:Nat):Int)>0)=false from rfl];simp only[ak,Option.bind_some,hroom,af];rw[zP,if_pos (.inl rfl),hg,<-hs]
   .have hw:av ((i:Int)-1)=((i-1:Nat):Int):=by rw[bp (by omega)];omega
    have hy:=List.getElem?_eq_getElem (l:=v) (i:=i-1) (by omega);have hgy:v.getD (i-1) 0=v[i-1]:=wW hy;rw[bJ (show(i:Int)>0 by omega)];simp only[au,hw,aD hy,Option.bind_some];by_cases hxy:x=v[i-1];.rw[show(x==v[i-1])=true from beq_iff_eq.2 hxy];simp only[au];rw[zP,if_neg (by rw[hg,hgy];intro h;rcases h with h|h;exact h0 h;exact h hxy),<-hs]
    .rw[show(x==v[i-1])=false from beq_eq_false_iff_ne.2 hxy];simp only[ak,hroom,af];rw[zP,if_pos (.inr (by rw[hg,hgy];exact hxy)),hg,<-hs]) (k:=N) (s:=[]) rfl (by omega);rw[he,hs];rfl
theorem Vn{N:Nat}{v:List Int}(hN:500<N)(h2:v.length<=200):TP N v=some (CV v):=by rw[TP.eq_1];obtain⟨s,hs,he⟩:=dY (l:=v) (g:=λs:List fA=>s) (Inv:=λi s=>s=zP v i) (Lf:=λk i s=>f41.bg N k (v,s,i)) (λk s _=>by simp only[f41.bg.eq_2,aL,ak]) (λk i x s hx hs=>by
   have hi:=aA hx;have hl:=HA v i;rw[<-hs]at hl;have hroom:room (s.length+1) 16=true:=ah (by omega) (by omega);have hg:v.getD i 0=x:=wW hx;refine⟨_,rfl,?_⟩;simp only[f41.bg.eq_2,aI hi,au,aD hx,Option.bind_some,aj (show i<9223372036854775807by omega)];by_cases h0:i=0;.subst h0;rw[show(((0:Nat):Int)==0)=true from rfl];simp only[au,Option.bind_some,hroom,af];rw[zP,if_pos (.inl rfl),hg,<-hs]
   .have hw:av ((i:Int)-1)=((i-1:Nat):Int):=by rw[bp (by omega)];omega
    have hy:=List.getElem?_eq_getElem (l:=v) (i:=i-1) (by omega);have hgy:v.getD (i-1) 0=v[i-1]:=wW hy;rw[show((i:Int)==0)=false by rw[beq_eq_false_iff_ne];omega];simp only[ak,hw,aD hy,Option.bind_some];by_cases hxy:x=v[i-1];.rw[show(x !=v[i-1])=false by simp[hxy]];simp only[ak];rw[zP,if_neg (by rw[hg,hgy];intro h;rcases h with h|h;exact h0 h;exact h hxy),<-hs]
    .rw[show(x !=v[i-1])=true by simp[bne,hxy]];simp only[au,hroom,af];rw[zP,if_pos (.inr (by rw[hg,hgy];exact hxy)),hg,<-hs]) (k:=N) (s:=[]) rfl (by omega);rw[he,hs];rfl
noncomputable def fG{α:Type}(p:Nat->α->Int):Nat->List α->Option (Nat×Int)|_,[]=>none|i,x::r=>if p i x≠0then some (i,p i x)else fG p (i+1) r
theorem oQ{α:Type}{p:Nat->α->Int}:∀{l:List α}{i:Nat},fG p i l=none->∀(j:Nat)x,l[j]?=some x->p (i+j) x=0
 |[],_,_,j,x,hx=>by grind|y::r,i,h,j,x,hx=>by
  unfold fG at h;split at h;.cases h
  .rename_i hp;cases j with|zero=>grind|succ j=>have:=oQ h j x hx<;>grind
theorem yj{α:Type}{p:Nat->α->Int}:∀{l:List α}{i:Nat},(∀(j:Nat)x,l[j]?=some x->p (i+j) x=0)->fG p i l=none|[],_,_=>rfl|y::r,i,h=>by unfold fG;rw[if_neg (by rw[Decidable.not_not];exact h 0 y rfl)];exact yj λj x hx=>by have:=h (j+1) x (by rw[List.getElem?_cons_succ];exact hx);rwa[show i+(j+1)=i+1+j by omega]at this
theorem yl{α:Type}{p:Nat->α->Int}:∀{l:List α}{i:Nat}{r:Nat×Int},fG p i l=some r->r.2≠0
 |[],_,_,h=>by cases h|y::r,i,q,h=>by
  unfold fG at h;split at h;.grind
  .exact yl h
theorem qS{α β:Type}{l:List α}{p:Nat->α->Int}{a:β}{out:Int->Int->β}{Lf:Nat->Int->Option β}(h0:∀k,Lf (k+1) (l.length:Int)=some a)(hs:∀k(i:Nat)x,l[i]?=some x->Lf (k+1) (i:Int)=if p i x≠0then some (out (i:Int) (p i x))else Lf k ((i+1:Nat):Int)){k:Nat}(hk:l.length<k):Lf k 0=some ((fG p 0 l).elim a λr=>out (r.1:Int) r.2):=by
 have key:∀k(i:Nat),i<=l.length->l.length-i<k->Lf k (i:Int)=some ((fG p i (l.drop i)).elim a λr=>out (r.1:Int) r.2):=by intro k;induction k with|zero=>omega|succ k ih=>
   intro i hi hk;by_cases he:i=l.length;.subst he;rw[h0,List.drop_length];rfl
   .have hlt:i<l.length:=by omega
    rw[hs k i _ (List.getElem?_eq_getElem hlt),List.drop_eq_getElem_cons hlt,fG];split;.rfl
    .exact ih (i+1) (by omega) (by omega)
 exact key k 0 (by omega) (by omega)
noncomputable def Vo(l:List Instr)(p s:Nat):List Nat:=if h:∃G,CN l (2^p-1) (2^s-1) G then n5 l h.choose else[]
theorem Kl{l:List Instr}{p s:Nat}{G H:Nat->Nat}(hG:CN l (2^p-1) (2^s-1) G)(hs:Vd l (2^p-1) H)(hm:∀S,Vd l (2^p-1) S->(∀k,sub (S k) (2^s-1))->∀k,Reach l k->sub (S k) (H k)):n5 l H=Vo l p s:=by unfold Vo;have e:∃G,CN l (2^p-1) (2^s-1) G:=⟨G,hG⟩;rw[dif_pos e];exact(Kc λk hk=>e.choose_spec.eq hs hm hk).symm
noncomputable def ve(l:List Instr)(i:Nat):Prop:=Reach l i\/i=l.length-1
noncomputable def p8(ts:List aB)(xs:List (List UInt8))(fs:List Func)(f:Func)(i:Nat)(x:Instr):Int:=if jV xs.length (eo fs) f.2.2.2.1 x then(if ve f.2.2.2.2.1 i then(if Hx ts (eo fs) f.2.2.2.1 f.2.2.1 x=true then 0 else 30)else 6)else 16
noncomputable def o6(ms:List Nat)(i:Nat)(x:Instr):Int:=if∀s,s∈aP jF x->(O ms i).testBit s.toNat=true then 0 else 38
noncomputable def cu(f:Func):List Nat:=Vo f.2.2.2.2.1 f.2.1.toNat f.2.2.2.1.length
abbrev Found:=List fA×List fA×Int×Int
noncomputable def eS(ts:List aB)(xs:List (List UInt8))(fs:List Func)(f:Func)(g:Int):Found:=if gZ f.2.2.2.2.1=true then if g=0/\(0<f.2.1\/0<=f.2.2.1)then([],[],-1,30)else(fG (p8 ts xs fs f) 0 f.2.2.2.2.1).elim (if rG f.2.2.2.2.1 (dM ts fs f)then(fG (o6 (cu f)) 0 f.2.2.2.2.1).elim (CV (u9 ts fs f),CV (cN (cu f)),0,0) λr=>([],[],(r.1:Int),r.2)else([],[],-1,36)) λr=>([],[],(r.1:Int),r.2)else([],[],-1,12)
theorem QU{l:List Instr}(hp:1<=l.length){k:Nat}(hk:k<l.length):((dD l).set (l.length-1) true)[k]?=some (decide (ve l k)):=by
 rw[List.getElem?_set,lN];by_cases h:l.length-1=k;.rw[if_pos h,if_pos (by omega),bJ (.inr h.symm)]
 .rw[if_neg h,iZ hk];congr 1;exact decide_eq_decide.2 ⟨.inl,λh'=>h'.resolve_right λe=>h e.symm⟩
theorem CX{n:Nat}{l:List Int}(h:∀s,s∈l->0<=s/\s<n):∀{m:Nat},m<2^n->eC m l<2^n:=by unfold eC;induction l with|nil=>grind|cons s r ih=>intro m hm;refine ih (λx hx=>h x (List.mem_cons_of_mem _ hx)) ?_;have:=h s List.mem_cons_self;exact Nat.or_lt_two_pow hm (Nat.pow_lt_pow_right (by omega) (by omega))
section
variable{ts:List aB}{xs:List (List UInt8)}{fs:List Func}{f:Func}
theorem Fn.fits(h:Fn ts xs fs f):CK f.2.2.2.2.1 f.2.1 (f.2.2.2.1.length:Int)=0:=by
 have Qz:=h.ok.2.1;have hp:=h.ok.2.2.2.1;have:kN f.2.2.2.2.1 (f.2.2.2.1.length:Int).toNat=true:=by unfold kN;rw[Bool.not_eq_true',List.any_eq_false];intro x hx;have hn:=(h.near x hx).1;have hs:=(CR (h.aE hx)).2;have hlt:Rk x<2^f.2.2.2.1.length:=CX (λs hs'=>by have:=hn s (List.mem_append.2 (.inr hs'));have:=hs s (List.mem_append.2 (.inr hs'));omega) (CX (λs hs'=>by have:=hn s (List.mem_append.2 (.inl hs'));have:=hs s (List.mem_append.2 (.inl hs'));omega) (Nat.two_pow_pos _));grind
 unfold CK<;>grind
theorem CY{N:Nat}(hN:14000000<N)(h:Fn ts xs fs f):TM N (f.2.2.2.2.1,f.2.1,(f.2.2.2.1.length:Int))=some (cN (cu f),0)/\(cu f).length=f.2.2.2.2.1.length/\∀k,O (cu f) k<2^64:=by
 have hl:=h.len;have key:=MN (N:=N) hN (l:=f.2.2.2.2.1) (by omega) (λ_=>hl.2) f.2.1 (f.2.2.2.1.length:Int);rw[if_pos h.code,if_pos h.fits]at key;obtain⟨G,Zc,hG,he⟩:=key;have e:n5 f.2.2.2.2.1 G=cu f:=Kl hG hG.sol λS hS _ k hk=>hG.most S hS k hk;rw[e]at he;refine⟨he,by rw[<-e,tT],λk=>?_⟩;rw[<-e];by_cases hk:k<f.2.2.2.2.1.length;.rw[yd hk];have:=Zc.lt (hG.J8 k)<;>grind
 .unfold O;rw[List.getD_eq_getElem?_getD,List.getElem?_eq_none (by rw[tT];omega)]<;>grind
theorem Vp{N:Nat}(hN:14000000<N)(h:Fn ts xs fs f):YR N (f.2.2.2.2.1,f.2.1,(f.2.2.2.1.length:Int))=some (cN (cu f)):=by have hl:=h.len;have key:=MN (N:=N) hN (l:=f.2.2.2.2.1) (by omega) (λ_=>hl.2) f.2.1 (f.2.2.2.1.length:Int);rw[if_pos h.code,if_pos h.fits]at key;obtain⟨G,Zc,hG,_⟩:=key;rw[Int.toNat_natCast]at hG Zc;obtain⟨H,h1,h2,h3⟩:=Ze Zc hN;rw[Int.toNat_of_nonneg (by have:=h.ok.2.2.2.1;omega)]at h3;rw[h3,Kl hG h1 h2];rfl
theorem an2{m:Nat}{s:Int}(hm:m<2^64)(h0:0<=s)(hs:s<=15):((z8 .u64 (Int.fdiv (m:Int) (2^min (Int.toNat s) 64)) 1)==0)=!(m.testBit s.toNat):=by rw[Nat.min_eq_left (by omega),show((2:Int)^s.toNat)=((2^s.toNat:Nat):Int)by rw[Int.natCast_pow];rfl,Cp,show(1:Int)=((1:Nat):Int)from rfl,CJ (Nat.lt_of_le_of_lt (Nat.div_le_self _ _) hm) (by omega),Nat.and_one_is_mod]<;>grind
theorem an3{m:Nat}{s:Int}(h0:0<=s)(hs:s<=15):((Int.tmod (Int.fdiv (m:Int) (2^min (Int.toNat s) 64)) 2)==0)=!(m.testBit s.toNat):=by grind
theorem ajP{N:Nat}(hN:14000000<N)(hv:fF ts xs fs){g:Int}(hf:idx fs g=some f):F38 N (ts,xs,fs,g)=some (eS ts xs fs f g):=by
 obtain⟨g0,nI⟩:=sD hf;have hok:=hv.get nI;obtain⟨hpos,hle⟩:=hok.2.2.2.2.2.2.1;have QV:=hok.2.2.2.2.2.2.2.1;unfold eS;rw[F38.eq_1,hf];simp[Option.bind_some,afp (N:=N) (l:=f.2.2.2.2.1) (by omega) (by omega)];by_cases hval:gZ f.2.2.2.2.1=true;case neg=>grind
 rw[if_pos hval,if_pos hval];by_cases hmain:g=0/\(0<f.2.1\/0<=f.2.2.1);.grind
 rw[if_neg hmain];have hmn:(bif g==(0:Int)then(bif decide (f.2.1>0)then some true else some (decide (f.2.2.1>=0)))else some false:Option Bool)=some false:=by grind
 rw[hmn];have l1:=qS (l:=f.2.2.2.2.1) (p:=p8 ts xs fs f) (a:=(.inr (f.2.2.2.2.1,0,0,ts,xs,fs,f.1,f.2.1,f.2.2.1,f.2.2.2.1,f.2.2.2.2.1,f.2.2.2.2.2.1,f.2.2.2.2.2.2):(Int×Int)⊕_)) (out:=λi e=>.inl (i,e)) (Lf:=λk i=>f38.mR N k (f.2.2.2.2.1,(dD f.2.2.2.2.1).set (f.2.2.2.2.1.length-1) true,f.2.2.2.2.1,(f.2.2.2.2.1.length:Int),i,0,0,ts,xs,fs,f.1,f.2.1,f.2.2.1,f.2.2.2.1,f.2.2.2.2.1,f.2.2.2.2.2.1,f.2.2.2.2.2.2)) (λk=>by simp only[f38.mR.eq_2,aL,ak]) (λk i x hx=>by
   have hi:=aA hx;have hc:=QV x (aS hx);simp only[f38.mR.eq_2,aI hi,au,aD hx,Option.bind_some,ajH (show 1300<N by omega) f hc,aj (show i<9223372036854775807by omega)];unfold p8;by_cases hn:jV xs.length (eo fs) f.2.2.2.1 x
   .simp only[if_pos hn,show((0:Int)!=0)=false from rfl,ak,aD (QU hpos hi),Option.bind_some];by_cases hr:ve f.2.2.2.2.1 i;.simp only[bJ hr,Bool.not_true,ak,if_pos hr,afv (show 1300<N by omega) hv hok hc hn,Option.bind_some];cases Hx ts (eo fs) f.2.2.2.1 f.2.2.1 x<;>rfl
    .simp only[bE hr,Bool.not_false,au,if_neg hr];rfl
   .simp only[if_neg hn];rfl) (k:=N) (by omega);simp[l1,Option.bind_some];cases he:fG (p8 ts xs fs f) 0 f.2.2.2.2.1with
 |some r=>rfl
 |none=>have hz:=oQ he;have hfn:Fn ts xs fs f:=⟨hv,hok,hval,λx hx=>by
   obtain⟨i,hi,rfl⟩:=List.mem_iff_getElem.1 hx;have:=hz i _ (List.getElem?_eq_getElem hi);unfold p8 at this;split at this;.assumption
   .cases this⟩;obtain⟨r,c,s1,s2,s3⟩:=Vk (show 1300<N by omega) hfn;obtain⟨m1,m2,m3⟩:=CY hN hfn;simp[Option.elim_none,s1,Option.bind_some];cases c with|false=>grind|true=>
   rw[if_pos (s2.1 rfl),s3 rfl];simp[Bool.not_true,ak,m1,Option.bind_some,show((0:Int)!=0)=false from rfl];have l3:∀(i:Nat)x,f.2.2.2.2.1[i]?=some x->f38.mj N N (u9 ts fs f,cN (cu f),(i:Int),0,f.2.2.2.2.1,(f.2.2.2.2.1.length:Int),(i:Int),aP jF x,((aP jF x).length:Int),0,0,0)=some (if o6 (cu f) i x≠0then .inl ((i:Int),38)else .inr (u9 ts fs f,cN (cu f),f.2.2.2.2.1,(f.2.2.2.2.1.length:Int),(i:Int),0,0)):=λi x hx=>by
    have hi:=aA hx;have h15:=(n4 (QV x (aS hx))).1;have VJ:(cN (cu f))[i]?=some ((O (cu f) i:Nat):Int):=gr (by omega);have hrl:=jM jF x;have:=fC (l:=aP jF x) (a:=(.inr (u9 ts fs f,cN (cu f),f.2.2.2.2.1,(f.2.2.2.2.1.length:Int),(i:Int),0,0):(Int×Int)⊕_)) (b:=.inl ((i:Int),38)) (p:=λs=>!((O (cu f) i).testBit s.toNat)) (Lf:=λk j=>f38.mj N k (u9 ts fs f,cN (cu f),(i:Int),0,f.2.2.2.2.1,(f.2.2.2.2.1.length:Int),(i:Int),aP jF x,((aP jF x).length:Int),j,0,0)) (λk _=>by simp only[f38.mj.eq_2,aL,ak]) (λk j s hs hm=>by have hj:=aA hs;obtain⟨b0,b1⟩:=h15 s hm;simp only[f38.mj.eq_2,aI hj,au,aD hs,Option.bind_some,show((0:Int)!=0)=false from rfl,ak,aD VJ,show(!decide (s<0))=true by simp;omega,af,an2 (m3 i) b0 b1,aj (show j<9223372036854775807by omega)];cases(O (cu f) i).testBit s.toNat<;>rfl) (k:=N) (by omega);rw[this];unfold o6;by_cases hall:∀s,s∈aP jF x->(O (cu f) i).testBit s.toNat=true;.rw[if_pos hall,if_neg (λ⟨s,h1,h2⟩=>by rw[hall s h1]at h2;cases h2),if_neg (by decide)]
    .have hex:∃s,s∈aP jF x/\(!((O (cu f) i).testBit s.toNat))=true:=by rw[Classical.not_forall]at hall;obtain⟨s,hs⟩:=hall;rw[Classical.not_imp]at hs;exact⟨s,hs.1,by rw[Bool.not_eq_true'];exact Bool.eq_false_iff.2 hs.2⟩
     rw[if_pos hex,if_neg hall,if_pos (show(38:Int)≠0 by decide)]
   have l2:=qS (l:=f.2.2.2.2.1) (p:=o6 (cu f)) (a:=(.inr (u9 ts fs f,cN (cu f),0,0):(Int×Int)⊕_)) (out:=λi e=>.inl (i,e)) (Lf:=λk i=>f38.Cf N k (u9 ts fs f,cN (cu f),f.2.2.2.2.1,(f.2.2.2.2.1.length:Int),i,0,0)) (λk=>by simp only[f38.Cf.eq_2,aL,ak]) (λk i x hx=>by
     have hi:=aA hx;simp only[f38.Cf.eq_2,aI hi,au,aD hx,Option.bind_some,MF,QV x (aS hx),l3 i x hx];by_cases hz:o6 (cu f) i x=0;.simp only[if_neg (show¬o6 (cu f) i x≠0fromλh=>h hz),aj (show i<9223372036854775807by omega)]
     .have e38:o6 (cu f) i x=38:=by
       unfold o6 at hz⊢;split at hz;.exact absurd rfl hz
       .rename_i h;rw[if_neg h]
      simp only[if_pos (show o6 (cu f) i x≠0from hz)];rw[e38]) (k:=N) (by omega);rw[l2];cases fG (o6 (cu f)) 0 f.2.2.2.2.1with|some r=>rfl|none=>simp[Option.elim_none,Option.bind_some,Kk (N:=N) (v:=u9 ts fs f) (by omega) (by rw[oP];omega) (by rw[oP];omega),Kk (N:=N) (v:=cN (cu f)) (by omega) (by rw[bF];omega) (by rw[bF];omega),show((0:Int)==0)=true from rfl,au]
end
end Go.Proofs.YtdogilonhnbapaaGreatDoor
