/- The checker: what is found out about a function, by the program. -/
import Derived.Test.YtgkllgjmfpjeoaaGreatDoorLaw12mkg6
set_option linter.unusedVariables false
set_option linter.unusedSimpArgs false
namespace Go.Proofs.YtgkllgjmfpjeoaaGreatDoor
open Go Go.bJ Go.Sym
open Classical
structure RI(s:List fm)(i:Int)(y:Int):Prop where
 pos:0<s.length
 zero:(rn s 0).1=0inc:∀j,j+1<s.length->(rn s j).1<(rn s (j+1)).1/\(rn s j).2≠(rn s (j+1)).2low:∀j,j<s.length->(rn s j).1<i
 last:(rn s (s.length-1)).2=y
theorem RI.mono{s:List fm}{i j y:Int}(h:RI s i y)(hij:i<=j):RI s j y:=⟨h.pos,h.zero,h.inc,λk hk=>Int.lt_of_lt_of_le (h.low k hk) hij,h.last⟩
theorem wC{s:List fm}{x:fm}{j:Nat}(h:j<s.length):rn (s++[x]) j=rn s j:=by unfold rn<;>grind
theorem GB{s:List fm}{x:fm}:rn (s++[x]) s.length=x:=by unfold rn<;>grind
theorem RI.one(x:Int):RI [(0,x)] 1 x:=by
 refine⟨by simp,rfl,λj hj=>by simp at hj,λj hj=>?_,rfl⟩;simp at hj;have:j=0:=by omega
 subst this;show(0:Int)<1;decide
theorem RI.snoc{s:List fm}{i y x:Int}(h:RI s i y)(hx:x≠y):RI (s++[(i,x)]) (i+1) x:=by
 have hp:=h.pos;refine⟨by simp,by rw[wC hp];exact h.zero,λj hj=>?_,λj hj=>?_,by rw[List.length_append,List.length_singleton,Nat.add_sub_cancel,GB]⟩
 .simp at hj;by_cases he:j+1=s.length
  .rw[he,GB,wC (by omega)];have e:j=s.length-1:=by omega
   refine⟨h.low j (by omega),λhh=>hx ?_⟩;rw[<-h.last,<-e,hh]
  .rw[wC (by omega),wC (by omega)];exact h.inc j (by omega)
 .simp at hj;by_cases he:j=s.length;.subst he;rw[GB]<;>grind
  .rw[wC (by omega)];have:=h.low j (by omega);omega
theorem RI.ok{s:List fm}{i y:Int}(h:RI s i y):cO s i:=⟨h.pos,h.zero,h.inc,h.low⟩
noncomputable def zm(v:List Int):Nat->List fm|0=>[]|i+1=>if i=0\/v.getD i 0≠v.getD (i-1) 0then zm v i++[((i:Int),v.getD i 0)]else zm v i
noncomputable def Cq(v:List Int):List fm:=zm v v.length
theorem GC(v:List Int):∀i,(zm v i).length<=i|0=>by simp[zm]|i+1=>by have:=GC v i;unfold zm<;>grind
theorem GD{v:List Int}:∀{i:Nat},i<=v.length->∀{x:fm},x∈zm v i->x.2∈v
 |0,_,x,hx=>by simp[zm]at hx|i+1,hi,x,hx=>by
  unfold zm at hx;split at hx
  .rcases List.mem_append.1 hx with hx|hx;.exact GD (by omega) hx
   grind
  .exact GD (by omega) hx
theorem Uy(v:List Int):∀i:Nat,RI (zm v (i+1)) ((i+1:Nat):Int) (v.getD i 0)
 |0=>by
  have e:zm v 1=[]++[(((0:Nat):Int),v.getD 0 0)]:=by unfold zm;rfl
  exact RI.one _|i+1=>by
  have h:=Uy v i;have e:zm v (i+2)=if v.getD (i+1) 0≠v.getD i 0then zm v (i+1)++[(((i+1:Nat):Int),v.getD (i+1) 0)]else zm v (i+1):=by rw[zm];simp
  rw[e];split;.rename_i hne;exact h.snoc hne
  .rename_i heq;rw[Decidable.not_not]at heq;rw[heq];exact h.mono (by omega)
theorem Uz{v:List Int}(h:1<=v.length):cO (Cq v) (v.length:Int):=by obtain⟨n,hn⟩:∃n,v.length=n+1:=⟨v.length-1,by omega⟩;have:=(Uy v n).ok;unfold Cq<;>grind
theorem Nk{v:List Int}{x:fm}(h:x∈Cq v):x.2∈v:=GD (Nat.le_refl _) h
theorem wD{α:Type}{l:List α}{i:Nat}{x d:α}(h:l[i]?=some x):l.getD i d=x:=by grind
theorem Jz{N:Nat}{v:List Int}(hN:500<N)(h1:1<=v.length)(h2:v.length<=200):F71 N v=some (Cq v,0):=by rw[F71.eq_1,ON.eq_1];have e1:decide ((v.length:Int)<1)=false:=decide_eq_false (by omega);have e2:decide ((v.length:Int)>200)=false:=decide_eq_false (by omega);simp[e1,e2,aq,Option.bind_some,show((0:Int)!=0)=false from rfl];obtain⟨s,hs,he⟩:=eS (l:=v) (g:=λs:List fm=>s) (Inv:=λi s=>s=zm v i) (Lf:=λk i s=>f71.tJ N k (v,s,(v.length:Int),i)) (λk s _=>by simp only[f71.tJ.eq_2,aM,aq]) (λk i x s hx hs=>by
   have hi:=az hx;have hl:=GC v i;rw[<-hs]at hl;have hroom:room (s.length+1) 16=true:=af (by omega) (by omega);have hg:v.getD i 0=x:=wD hx;refine⟨_,rfl,?_⟩;simp only[f71.tJ.eq_2,aJ hi,au,aE hx,Option.bind_some,aj (show i<9223372036854775807by omega)];by_cases h0:i=0;.subst h0;rw[show decide (((0:Nat):Int)>0)=false from rfl];simp only[aq,Option.bind_some,hroom,ai];rw[zm,if_pos (.inl rfl),hg,<-hs]
   .have hw:av ((i:Int)-1)=((i-1:Nat):Int):=by rw[bn (by omega)];omega
    have hy:=List.getElem?_eq_getElem (l:=v) (i:=i-1) (by omega);have hgy:v.getD (i-1) 0=v[i-1]:=wD hy;rw[bI (show(i:Int)>0 by omega)];simp only[au,hw,aE hy,Option.bind_some];by_cases hxy:x=v[i-1];.rw[show(x==v[i-1])=true from beq_iff_eq.2 hxy];simp only[au];rw[zm,if_neg (by rw[hg,hgy];intro h;rcases h with h|h;exact h0 h;exact h hxy),<-hs]
    .rw[show(x==v[i-1])=false from beq_eq_false_iff_ne.2 hxy];simp only[aq,hroom,ai];rw[zm,if_pos (.inr (by rw[hg,hgy];exact hxy)),hg,<-hs]) (k:=N) (s:=[]) rfl (by omega);rw[he,hs];rfl
theorem UA{N:Nat}{v:List Int}(hN:500<N)(h2:v.length<=200):U1 N v=some (Cq v):=by rw[U1.eq_1];obtain⟨s,hs,he⟩:=eS (l:=v) (g:=λs:List fm=>s) (Inv:=λi s=>s=zm v i) (Lf:=λk i s=>f48.bx N k (v,s,i)) (λk s _=>by simp only[f48.bx.eq_2,aM,aq]) (λk i x s hx hs=>by
   have hi:=az hx;have hl:=GC v i;rw[<-hs]at hl;have hroom:room (s.length+1) 16=true:=af (by omega) (by omega);have hg:v.getD i 0=x:=wD hx;refine⟨_,rfl,?_⟩;simp only[f48.bx.eq_2,aJ hi,au,aE hx,Option.bind_some,aj (show i<9223372036854775807by omega)];by_cases h0:i=0;.subst h0;rw[show(((0:Nat):Int)==0)=true from rfl];simp only[au,Option.bind_some,hroom,ai];rw[zm,if_pos (.inl rfl),hg,<-hs]
   .have hw:av ((i:Int)-1)=((i-1:Nat):Int):=by rw[bn (by omega)];omega
    have hy:=List.getElem?_eq_getElem (l:=v) (i:=i-1) (by omega);have hgy:v.getD (i-1) 0=v[i-1]:=wD hy;rw[show((i:Int)==0)=false by rw[beq_eq_false_iff_ne];omega];simp only[aq,hw,aE hy,Option.bind_some];by_cases hxy:x=v[i-1];.rw[show(x !=v[i-1])=false by simp[hxy]];simp only[aq];rw[zm,if_neg (by rw[hg,hgy];intro h;rcases h with h|h;exact h0 h;exact h hxy),<-hs]
    .rw[show(x !=v[i-1])=true by simp[bne,hxy]];simp only[au,hroom,ai];rw[zm,if_pos (.inr (by rw[hg,hgy];exact hxy)),hg,<-hs]) (k:=N) (s:=[]) rfl (by omega);rw[he,hs];rfl
noncomputable def fF{α:Type}(p:Nat->α->Int):Nat->List α->Option (Nat×Int)|_,[]=>none|i,x::r=>if p i x≠0then some (i,p i x)else fF p (i+1) r
theorem oI{α:Type}{p:Nat->α->Int}:∀{l:List α}{i:Nat},fF p i l=none->∀(j:Nat)x,l[j]?=some x->p (i+j) x=0
 |[],_,_,j,x,hx=>by grind|y::r,i,h,j,x,hx=>by
  unfold fF at h;split at h;.cases h
  .rename_i hp;cases j with|zero=>grind|succ j=>have:=oI h j x hx<;>grind
theorem xT{α:Type}{p:Nat->α->Int}:∀{l:List α}{i:Nat},(∀(j:Nat)x,l[j]?=some x->p (i+j) x=0)->fF p i l=none|[],_,_=>rfl|y::r,i,h=>by unfold fF;rw[if_neg (by rw[Decidable.not_not];exact h 0 y rfl)];exact xT λj x hx=>by have:=h (j+1) x (by rw[List.getElem?_cons_succ];exact hx);rwa[show i+(j+1)=i+1+j by omega]at this
theorem xU{α:Type}{p:Nat->α->Int}:∀{l:List α}{i:Nat}{r:Nat×Int},fF p i l=some r->r.2≠0
 |[],_,_,h=>by cases h|y::r,i,q,h=>by
  unfold fF at h;split at h;.grind
  .exact xU h
theorem qG{α β:Type}{l:List α}{p:Nat->α->Int}{a:β}{out:Int->Int->β}{Lf:Nat->Int->Option β}(h0:∀k,Lf (k+1) (l.length:Int)=some a)(hs:∀k(i:Nat)x,l[i]?=some x->Lf (k+1) (i:Int)=if p i x≠0then some (out (i:Int) (p i x))else Lf k ((i+1:Nat):Int)){k:Nat}(hk:l.length<k):Lf k 0=some ((fF p 0 l).elim a λr=>out (r.1:Int) r.2):=by
 have key:∀k(i:Nat),i<=l.length->l.length-i<k->Lf k (i:Int)=some ((fF p i (l.drop i)).elim a λr=>out (r.1:Int) r.2):=by intro k;induction k with|zero=>omega|succ k ih=>
   intro i hi hk;by_cases he:i=l.length;.subst he;rw[h0,List.drop_length];rfl
   .have hlt:i<l.length:=by omega
    rw[hs k i _ (List.getElem?_eq_getElem hlt),List.drop_eq_getElem_cons hlt,fF];split;.rfl
    .exact ih (i+1) (by omega) (by omega)
 exact key k 0 (by omega) (by omega)
noncomputable def UB(l:List Instr)(p s:Nat):List Nat:=if h:∃G,Cg l (2^p-1) (2^s-1) G then nR l h.choose else[]
theorem JA{l:List Instr}{p s:Nat}{G H:Nat->Nat}(hG:Cg l (2^p-1) (2^s-1) G)(hs:Uq l (2^p-1) H)(hm:∀S,Uq l (2^p-1) S->(∀k,sub (S k) (2^s-1))->∀k,Reach l k->sub (S k) (H k)):nR l H=UB l p s:=by unfold UB;have e:∃G,Cg l (2^p-1) (2^s-1) G:=⟨G,hG⟩;rw[dif_pos e];exact(Jq λk hk=>e.choose_spec.eq hs hm hk).symm
noncomputable def uQ(l:List Instr)(i:Nat):Prop:=Reach l i\/i=l.length-1
noncomputable def pU(ts:List aB)(xs:List (List UInt8))(fs:List Func)(f:Func)(i:Nat)(x:Instr):Int:=if kJ xs.length (eL fs) f.2.2.2.1 x then(if uQ f.2.2.2.2.1 i then(if Cn ts (eL fs) f.2.2.2.1 f.2.2.1 x=true then 0 else 30)else 6)else 16
noncomputable def oT(ms:List Nat)(i:Nat)(x:Instr):Int:=if∀s,s∈aQ jL x->(O ms i).testBit s.toNat=true then 0 else 38
noncomputable def cr(f:Func):List Nat:=UB f.2.2.2.2.1 f.2.1.toNat f.2.2.2.1.length
abbrev Found:=List fm×List fm×Int×Int
noncomputable def eU(ts:List aB)(xs:List (List UInt8))(fs:List Func)(f:Func)(g:Int):Found:=if gZ f.2.2.2.2.1=true then if g=0/\(0<f.2.1\/0<=f.2.2.1)then([],[],-1,30)else(fF (pU ts xs fs f) 0 f.2.2.2.2.1).elim (if qZ f.2.2.2.2.1 (dL ts fs f)then(fF (oT (cr f)) 0 f.2.2.2.2.1).elim (Cq (uP ts fs f),Cq (cN (cr f)),0,0) λr=>([],[],(r.1:Int),r.2)else([],[],-1,36)) λr=>([],[],(r.1:Int),r.2)else([],[],-1,12)
theorem PA{l:List Instr}(hp:1<=l.length){k:Nat}(hk:k<l.length):((dP l).set (l.length-1) true)[k]?=some (decide (uQ l k)):=by
 rw[List.getElem?_set,qC];by_cases h:l.length-1=k;.rw[if_pos h,if_pos (by omega),bI (.inr h.symm)]
 .rw[if_neg h,jM hk];congr 1;exact decide_eq_decide.2 ⟨.inl,λh'=>h'.resolve_right λe=>h e.symm⟩
theorem Cr{n:Nat}{l:List Int}(h:∀s,s∈l->0<=s/\s<n):∀{m:Nat},m<2^n->gf m l<2^n:=by unfold gf;induction l with|nil=>grind|cons s r ih=>intro m hm;refine ih (λx hx=>h x (List.mem_cons_of_mem _ hx)) ?_;have:=h s List.mem_cons_self;exact Nat.or_lt_two_pow hm (Nat.pow_lt_pow_right (by omega) (by omega))
section
variable{ts:List aB}{xs:List (List UInt8)}{fs:List Func}{f:Func}
theorem Fn.fits(h:Fn ts xs fs f):Ce f.2.2.2.2.1 f.2.1 (f.2.2.2.1.length:Int)=0:=by
 have Pg:=h.ok.2.1;have hp:=h.ok.2.2.2.1;have:kI f.2.2.2.2.1 (f.2.2.2.1.length:Int).toNat=true:=by unfold kI;rw[Bool.not_eq_true',List.any_eq_false];intro x hx;have hn:=(h.near x hx).1;have hs:=(Cm (h.aF hx)).2;have hlt:Nf x<2^f.2.2.2.1.length:=Cr (λs hs'=>by have:=hn s (List.mem_append.2 (.inr hs'));have:=hs s (List.mem_append.2 (.inr hs'));omega) (Cr (λs hs'=>by have:=hn s (List.mem_append.2 (.inl hs'));have:=hs s (List.mem_append.2 (.inl hs'));omega) (Nat.two_pow_pos _));grind
 unfold Ce<;>grind
theorem Cs{N:Nat}(hN:14000000<N)(h:Fn ts xs fs f):U0 N (f.2.2.2.2.1,f.2.1,(f.2.2.2.1.length:Int))=some (cN (cr f),0)/\(cr f).length=f.2.2.2.2.1.length/\∀k,O (cr f) k<2^64:=by
 have hl:=h.len;have key:=LD (N:=N) hN (l:=f.2.2.2.2.1) (by omega) (λ_=>hl.2) f.2.1 (f.2.2.2.1.length:Int);rw[if_pos h.code,if_pos h.fits]at key;obtain⟨G,WY,hG,he⟩:=key;have e:nR f.2.2.2.2.1 G=cr f:=JA hG hG.sol λS hS _ k hk=>hG.most S hS k hk;rw[e]at he;refine⟨he,by rw[<-e,tE],λk=>?_⟩;rw[<-e];by_cases hk:k<f.2.2.2.2.1.length;.rw[xP hk];have:=WY.lt (hG.Jm k)<;>grind
 .unfold O;rw[List.getD_eq_getElem?_getD,List.getElem?_eq_none (by rw[tE];omega)]<;>grind
theorem UC{N:Nat}(hN:14000000<N)(h:Fn ts xs fs f):Zf N (f.2.2.2.2.1,f.2.1,(f.2.2.2.1.length:Int))=some (cN (cr f)):=by have hl:=h.len;have key:=LD (N:=N) hN (l:=f.2.2.2.2.1) (by omega) (λ_=>hl.2) f.2.1 (f.2.2.2.1.length:Int);rw[if_pos h.code,if_pos h.fits]at key;obtain⟨G,WY,hG,_⟩:=key;rw[Int.toNat_natCast]at hG WY;obtain⟨H,h1,h2,h3⟩:=W0 WY hN;rw[Int.toNat_of_nonneg (by have:=h.ok.2.2.2.1;omega)]at h3;rw[h3,JA hG h1 h2];rfl
theorem alZ{m:Nat}{s:Int}(hm:m<2^64)(h0:0<=s)(hs:s<=15):((zC .u64 (Int.fdiv (m:Int) (2^min (Int.toNat s) 64)) 1)==0)=!(m.testBit s.toNat):=by rw[Nat.min_eq_left (by omega),show((2:Int)^s.toNat)=((2^s.toNat:Nat):Int)by rw[Int.natCast_pow];rfl,BS,show(1:Int)=((1:Nat):Int)from rfl,Cd (Nat.lt_of_le_of_lt (Nat.div_le_self _ _) hm) (by omega),Nat.and_one_is_mod]<;>grind
theorem al0{m:Nat}{s:Int}(h0:0<=s)(hs:s<=15):((Int.tmod (Int.fdiv (m:Int) (2^min (Int.toNat s) 64)) 2)==0)=!(m.testBit s.toNat):=by grind
theorem Zx{N:Nat}(hN:14000000<N)(hv:fE ts xs fs){g:Int}(hf:idx fs g=some f):YE N (ts,xs,fs,g)=some (eU ts xs fs f g):=by
 obtain⟨g0,rB⟩:=rT hf;have hok:=hv.get rB;obtain⟨hpos,hle⟩:=hok.2.2.2.2.2.2.1;have PB:=hok.2.2.2.2.2.2.2.1;unfold eU;rw[YE.eq_1,hf];simp[Option.bind_some,ach (N:=N) (l:=f.2.2.2.2.1) (by omega) (by omega)];by_cases hval:gZ f.2.2.2.2.1=true;case neg=>grind
 rw[if_pos hval,if_pos hval];by_cases hmain:g=0/\(0<f.2.1\/0<=f.2.2.1);.grind
 rw[if_neg hmain];have hmn:(bif g==(0:Int)then(bif decide (f.2.1>0)then some true else some (decide (f.2.2.1>=0)))else some false:Option Bool)=some false:=by grind
 rw[hmn];have l1:=qG (l:=f.2.2.2.2.1) (p:=pU ts xs fs f) (a:=(.inr (f.2.2.2.2.1,0,0,ts,xs,fs,f.1,f.2.1,f.2.2.1,f.2.2.2.1,f.2.2.2.2.1,f.2.2.2.2.2.1,f.2.2.2.2.2.2):(Int×Int)⊕_)) (out:=λi e=>.inl (i,e)) (Lf:=λk i=>f45.mN N k (f.2.2.2.2.1,(dP f.2.2.2.2.1).set (f.2.2.2.2.1.length-1) true,f.2.2.2.2.1,(f.2.2.2.2.1.length:Int),i,0,0,ts,xs,fs,f.1,f.2.1,f.2.2.1,f.2.2.2.1,f.2.2.2.2.1,f.2.2.2.2.2.1,f.2.2.2.2.2.2)) (λk=>by simp only[f45.mN.eq_2,aM,aq]) (λk i x hx=>by
   have hi:=az hx;have hc:=PB x (aU hx);simp only[f45.mN.eq_2,aJ hi,au,aE hx,Option.bind_some,ahG (show 1300<N by omega) f hc,aj (show i<9223372036854775807by omega)];unfold pU;by_cases hn:kJ xs.length (eL fs) f.2.2.2.1 x
   .simp only[if_pos hn,show((0:Int)!=0)=false from rfl,aq,aE (PA hpos hi),Option.bind_some];by_cases hr:uQ f.2.2.2.2.1 i;.simp only[bI hr,Bool.not_true,aq,if_pos hr,acn (show 1300<N by omega) hv hok hc hn,Option.bind_some];cases Cn ts (eL fs) f.2.2.2.1 f.2.2.1 x<;>rfl
    .simp only[bE hr,Bool.not_false,au,if_neg hr];rfl
   .simp only[if_neg hn];rfl) (k:=N) (by omega);simp[l1,Option.bind_some];cases he:fF (pU ts xs fs f) 0 f.2.2.2.2.1with
 |some r=>rfl
 |none=>have hz:=oI he;have hfn:Fn ts xs fs f:=⟨hv,hok,hval,λx hx=>by
   obtain⟨i,hi,rfl⟩:=List.mem_iff_getElem.1 hx;have:=hz i _ (List.getElem?_eq_getElem hi);unfold pU at this;split at this;.assumption
   .cases this⟩;obtain⟨r,c,s1,s2,s3⟩:=Ux (show 1300<N by omega) hfn;obtain⟨m1,m2,m3⟩:=Cs hN hfn;simp[Option.elim_none,s1,Option.bind_some];cases c with|false=>grind|true=>
   rw[if_pos (s2.1 rfl),s3 rfl];simp[Bool.not_true,aq,m1,Option.bind_some,show((0:Int)!=0)=false from rfl];have l3:∀(i:Nat)x,f.2.2.2.2.1[i]?=some x->f45.mc N N (uP ts fs f,cN (cr f),(i:Int),0,f.2.2.2.2.1,(f.2.2.2.2.1.length:Int),(i:Int),aQ jL x,((aQ jL x).length:Int),0,0,0)=some (if oT (cr f) i x≠0then .inl ((i:Int),38)else .inr (uP ts fs f,cN (cr f),f.2.2.2.2.1,(f.2.2.2.2.1.length:Int),(i:Int),0,0)):=λi x hx=>by
    have hi:=az hx;have h15:=(nQ (PB x (aU hx))).1;have UX:(cN (cr f))[i]?=some ((O (cr f) i:Nat):Int):=gq (by omega);have hrl:=jN jL x;have:=fB (l:=aQ jL x) (a:=(.inr (uP ts fs f,cN (cr f),f.2.2.2.2.1,(f.2.2.2.2.1.length:Int),(i:Int),0,0):(Int×Int)⊕_)) (b:=.inl ((i:Int),38)) (p:=λs=>!((O (cr f) i).testBit s.toNat)) (Lf:=λk j=>f45.mc N k (uP ts fs f,cN (cr f),(i:Int),0,f.2.2.2.2.1,(f.2.2.2.2.1.length:Int),(i:Int),aQ jL x,((aQ jL x).length:Int),j,0,0)) (λk _=>by simp only[f45.mc.eq_2,aM,aq]) (λk j s hs hm=>by have hj:=az hs;obtain⟨b0,b1⟩:=h15 s hm;simp only[f45.mc.eq_2,aJ hj,au,aE hs,Option.bind_some,show((0:Int)!=0)=false from rfl,aq,aE UX,show(!decide (s<0))=true by simp;omega,ai,alZ (m3 i) b0 b1,aj (show j<9223372036854775807by omega)];cases(O (cr f) i).testBit s.toNat<;>rfl) (k:=N) (by omega);rw[this];unfold oT;by_cases hall:∀s,s∈aQ jL x->(O (cr f) i).testBit s.toNat=true;.rw[if_pos hall,if_neg (λ⟨s,h1,h2⟩=>by rw[hall s h1]at h2;cases h2),if_neg (by decide)]
    .have hex:∃s,s∈aQ jL x/\(!((O (cr f) i).testBit s.toNat))=true:=by rw[Classical.not_forall]at hall;obtain⟨s,hs⟩:=hall;rw[Classical.not_imp]at hs;exact⟨s,hs.1,by rw[Bool.not_eq_true'];exact Bool.eq_false_iff.2 hs.2⟩
     rw[if_pos hex,if_neg hall,if_pos (show(38:Int)≠0 by decide)]
   have l2:=qG (l:=f.2.2.2.2.1) (p:=oT (cr f)) (a:=(.inr (uP ts fs f,cN (cr f),0,0):(Int×Int)⊕_)) (out:=λi e=>.inl (i,e)) (Lf:=λk i=>f45.BI N k (uP ts fs f,cN (cr f),f.2.2.2.2.1,(f.2.2.2.2.1.length:Int),i,0,0)) (λk=>by simp only[f45.BI.eq_2,aM,aq]) (λk i x hx=>by
     have hi:=az hx;simp only[f45.BI.eq_2,aJ hi,au,aE hx,Option.bind_some,Lt,PB x (aU hx),l3 i x hx];by_cases hz:oT (cr f) i x=0;.simp only[if_neg (show¬oT (cr f) i x≠0fromλh=>h hz),aj (show i<9223372036854775807by omega)]
     .have e38:oT (cr f) i x=38:=by
       unfold oT at hz⊢;split at hz;.exact absurd rfl hz
       .rename_i h;rw[if_neg h]
      simp only[if_pos (show oT (cr f) i x≠0from hz)];rw[e38]) (k:=N) (by omega);rw[l2];cases fF (oT (cr f)) 0 f.2.2.2.2.1with|some r=>rfl|none=>simp[Option.elim_none,Option.bind_some,Jz (N:=N) (v:=uP ts fs f) (by omega) (by rw[oH];omega) (by rw[oH];omega),Jz (N:=N) (v:=cN (cr f)) (by omega) (by rw[bG];omega) (by rw[bG];omega),show((0:Int)==0)=true from rfl,au]
end
end Go.Proofs.YtgkllgjmfpjeoaaGreatDoor
