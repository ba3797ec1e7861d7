/- A part of the proof: Law12mkg1, Law12mkg2. -/
import Derived.Test.YtgkllgjmfpjeoaaGreatDoorLaw12mkr7b
set_option linter.unusedVariables false
set_option linter.unusedSimpArgs false
namespace Go.Proofs.YtgkllgjmfpjeoaaGreatDoor
open Go Go.bJ Go.Sym
open Classical
theorem Jr{σ β:Type}{Lf:Nat->σ->List Nat->Option β}{Inv:σ->List Nat->Prop}{μ:σ->Nat}{g:σ->β}{Out:β->Prop}(h0:∀k s,Inv s []->Lf (k+1) s []=some (g s))(hs:∀k s o i,Inv s (o++[i])->(∃r,Out r/\Lf (k+1) s (o++[i])=some r)\/∃s' p,Inv s' (o++p)/\μ s'+p.length<=μ s/\Lf (k+1) s (o++[i])=Lf k s' (o++p)):∀k s o,Inv s o->μ s+o.length<k->(∃r,Out r/\Lf k s o=some r)\/∃s',Inv s' []/\Lf k s o=some (g s')
 |0,_,_,_,h=>by omega|k+1,s,o,hI,hk=>by
  rcases List.eq_nil_or_concat o with rfl|⟨o',i,ho⟩;.grind
  .simp at ho;subst ho;simp at hk;rcases hs k s o' i hI with h|⟨s',p,h1,h2,h3⟩;.grind
   .rw[h3];exact Jr h0 hs k s' (o'++p) h1 (by simp only[List.length_append];omega)
theorem Ch{σ β:Type}{Lf:Nat->Bool->σ->Option β}{Inv C2:σ->Prop}{μ:σ->Nat}{g:σ->β}{Out:β->Prop}(h0:∀k s,Inv s->C2 s->Lf (k+1) false s=some (g s))(hs:∀k s,Inv s->(∃r,Out r/\Lf (k+1) true s=some r)\/∃s' c,Inv s'/\(c=false->C2 s')/\(c=true->μ s'<μ s)/\Lf (k+1) true s=Lf k c s'):∀k s,Inv s->μ s+1<k->(∃r,Out r/\Lf k true s=some r)\/∃s',Inv s'/\C2 s'/\Lf k true s=some (g s')
 |0,_,_,h=>by omega|k+1,s,hI,hk=>by
  rcases hs k s hI with h|⟨s',c,h1,h2,h3,h4⟩;.grind
  cases c with|false=>obtain⟨k',rfl⟩:∃q,k=q+1:=⟨k-1,by omega⟩<;>grind|true=>rw[h4];exact Ch h0 hs k s' h1 (by have:=h3 rfl;omega)
abbrev Sg:=Int×Int×List Field×List Instr
noncomputable def sg(f:Func):Sg:=(f.2.1,f.2.2.1,f.2.2.2.1,f.2.2.2.2.1)
noncomputable def LJ(S:List Sg)(i:Int):Sg:=S.getD i.toNat (0,0,[],[])
noncomputable def eT(sl:List Field)(s:Int):Int:=if 0<=s/\s<sl.length then(fl sl s.toNat).2else-1
noncomputable def called(x:Instr):Int:=if x.1=25then x.2.2.1else if x.1=26\/x.1=27then x.2.1else-1
noncomputable def wide(ts:List aB)(t:Int):Int:=up 8 (iV (exs ts) t).1
noncomputable def nS(ts:List aB):List Int->Int|[]=>0|t::r=>wide ts t+nS ts r
noncomputable def takes(S:List Sg)(x:Instr):List Int:=if 0<=called x then((LJ S (called x)).2.2.1.take (LJ S (called x)).1.toNat).map (·.2)else[]
noncomputable def rest(S:List Sg)(sl:List Field)(x:Instr)(s:List Int):Option (List Int):=if x.1=24then some (s++[eT sl x.2.1])else if(takes S x).length<=s.length/\s.drop (s.length-(takes S x).length)=takes S x then some (s.take (s.length-(takes S x).length))else none
noncomputable def GL(ts:List aB)(S:List Sg)(sl:List Field)(x:Instr)(s:List Int):Option (List Int):=(rest S sl x s).bind λt=>if nS ts t<=4096then some t else none
noncomputable def kJ(xn:Nat)(S:List Sg)(sl:List Field)(x:Instr):Prop:=(∀s,s∈aQ jL x++aQ oE x->s<sl.length)/\called x<S.length/\(x.1=2->x.2.2.1<xn)
noncomputable def kd(ts:List aB)(t:Int):Int:=if t<0then 0 else(dO ts t.toNat).1
noncomputable def W1(ts:List aB)(t:Int):Int:=(dO ts t.toNat).2.1
abbrev Js(k:Int):Prop:=k=1\/k=2\/k=4
abbrev W2(ts:List aB)(t i of:Int):Prop:=kd ts t=5/\(0<=i/\i<(dO ts t.toNat).2.2.2.length)/\(fl (dO ts t.toNat).2.2.2 i.toNat).2=of
abbrev Ci(ts:List aB)(g:Sg):Prop:=g.2.1<0/\(g.1=0\/g.1=1/\Js (kd ts (fl g.2.2.1 0).2))
inductive PS(l:List Instr)(a:Instr->List Int->Option (List Int)):Nat->List Int->Prop where|zero:PS l a 0 []|step{i k:Nat}{x:Instr}{s s':List Int}:PS l a i s->l[i]?=some x->a x s=some s'->k∈nx l i->PS l a k s'
structure qZ(l:List Instr)(a:Instr->List Int->Option (List Int)):Prop where
 go:∀i s x,PS l a i s->l[i]?=some x->∃s',a x s=some s'
 one:∀i s s',PS l a i s->PS l a i s'->s=s'
 last:∀s,PS l a (l.length-1) s->s=[]
noncomputable def EI(l:List Instr)(a:Instr->List Int->Option (List Int))(k:Nat):List Int:=if h:∃s,PS l a k s then h.choose else[]
variable{l:List Instr}{a:Instr->List Int->Option (List Int)}
theorem PS.lt(hv:VC l){k:Nat}{s:List Int}(h:PS l a k s):k<l.length:=by cases h with|zero=>exact hv.pos|step _ _ _ hk=>exact zi hv hk
structure Kn(l:List Instr)(a:Instr->List Int->Option (List Int))(b:List (List Int))(m:List Bool):Prop where
 lb:b.length=l.length
 lm:m.length=l.length
 zero:T m 0/\b[0]?=some []met:∀k,T m k->∃s,b[k]?=some s/\PS l a k s
 new:∀k,k<l.length->¬T m k->b[k]?=some []
noncomputable def xR(l:List Instr)(a:Instr->List Int->Option (List Int))(b:List (List Int))(m:List Bool)(i:Nat):Prop:=∃x s s',l[i]?=some x/\b[i]?=some s/\a x s=some s'/\∀k,k∈nx l i->T m k/\b[k]?=some s'
theorem Kn.start(hv:VC l):Kn l a (List.replicate l.length []) ((List.replicate l.length false).set 0 true):=by have h1:=hv.pos;refine⟨by simp,by simp,⟨(jE h1 0).2 rfl,qD h1 []⟩,λk hk=>?_,λk hk _=>by rw[List.getElem?_replicate,if_pos hk]⟩;rw[(jE h1 k).1 hk];exact⟨[],qD h1 [],.zero⟩
theorem Kn.add{b:List (List Int)}{m:List Bool}(h:Kn l a b m){k:Nat}{s:List Int}(hk:k<l.length)(hn:¬T m k)(hp:PS l a k s):Kn l a (b.set k s) (m.set k true):=by
 have hm:k<m.length:=by rw[h.lm];exact hk
 have h0:(0:Nat)≠k:=λe=>hn (e▸h.zero.1);refine⟨by simp[h.lb],by simp[h.lm],⟨(dY hm).2 (.inr h.zero.1),by rw[List.getElem?_set,if_neg (Ne.symm h0)];exact h.zero.2⟩,λj hj=>?_,λj hj hn=>?_⟩
 .by_cases e:j=k;.subst e;exact⟨s,by simp[h.lb,hk],hp⟩
  .rcases(dY hm).1 hj with h'|h';.grind
   .rw[List.getElem?_set,if_neg (Ne.symm e)];exact h.met j h'
 .have e:j≠k:=λe=>hn ((dY hm).2 (.inl e));rw[List.getElem?_set,if_neg (Ne.symm e)];exact h.new j hj λh'=>hn ((dY hm).2 (.inr h'))
noncomputable def Grow(b:List (List Int))(m:List Bool)(b':List (List Int))(m':List Bool):Prop:=∀j,T m j->T m' j/\b'[j]?=b[j]?
theorem Grow.refl(b:List (List Int))(m:List Bool):Grow b m b m:=λ_ h=>⟨h,rfl⟩
theorem Grow.trans{b b' b'':List (List Int)}{m m' m'':List Bool}(h:Grow b m b' m')(h':Grow b' m' b'' m''):Grow b m b'' m'':=λj hj=>⟨(h' j (h j hj).1).1,by rw[(h' j (h j hj).1).2,(h j hj).2]⟩
theorem Grow.add{b:List (List Int)}{m:List Bool}{k:Nat}{s:List Int}(hn:¬T m k):Grow b m (b.set k s) (m.set k true):=λj hj=>by grind
theorem xR.grow{b b':List (List Int)}{m m':List Bool}{i:Nat}(h:xR l a b m i)(hi:T m i)(hg:Grow b m b' m'):xR l a b' m' i:=by obtain⟨x,u,u',h1,h2,h3,h4⟩:=h;refine⟨x,u,u',h1,by rw[(hg i hi).2];exact h2,h3,λk hk=>?_⟩;obtain⟨g1,g2⟩:=h4 k hk;exact⟨(hg k g1).1,by rw[(hg k g1).2];exact g2⟩
theorem Kn.all{b:List (List Int)}{m:List Bool}(h:Kn l a b m)(hs:∀i,T m i->xR l a b m i){k:Nat}{s:List Int}(hp:PS l a k s):T m k/\b[k]?=some s:=by induction hp with|zero=>exact h.zero|@step i k x s s' hi hx ha hk ih=>obtain⟨y,u,u',g1,g2,g3,g4⟩:=hs i ih.1<;>grind
theorem Kn.good{b:List (List Int)}{m:List Bool}(h:Kn l a b m)(hs:∀i,T m i->xR l a b m i):(∀i s x,PS l a i s->l[i]?=some x->∃s',a x s=some s')/\∀i s s',PS l a i s->PS l a i s'->s=s':=by
 refine⟨λi s x hp hx=>?_,λi s s' h1 h2=>?_⟩;.obtain⟨h1,h2⟩:=h.all hs hp;obtain⟨y,u,u',g1,g2,g3,_⟩:=hs i h1<;>grind
 .have e:=(h.all hs h1).2;rw[(h.all hs h2).2]at e<;>grind
theorem Kn.get{b:List (List Int)}{m:List Bool}(h:Kn l a b m)(hs:∀i,T m i->xR l a b m i){k:Nat}(hk:k<l.length):b[k]?=some (EI l a k):=by
 unfold EI;split;.rename_i e;exact(h.all hs e.choose_spec).2
 .rename_i e;refine h.new k hk λhT=>e ?_;obtain⟨s,_,hp⟩:=h.met k hT<;>grind
theorem Kn.eq{b:List (List Int)}{m:List Bool}(h:Kn l a b m)(hs:∀i,T m i->xR l a b m i):b=(List.range l.length).map (EI l a):=by
 apply List.ext_getElem?;intro k;by_cases hk:k<l.length;.rw[h.get hs hk,List.getElem?_map,List.getElem?_range hk];rfl
 .rw[List.getElem?_eq_none (by rw[h.lb];omega),List.getElem?_eq_none (by simp;omega)]
theorem qZ.EI(h:qZ l a){k:Nat}{s:List Int}(hp:PS l a k s):Go.Proofs.YtgkllgjmfpjeoaaGreatDoor.EI l a k=s:=by unfold Go.Proofs.YtgkllgjmfpjeoaaGreatDoor.EI;rw[dif_pos ⟨s,hp⟩];exact h.one k _ _ (Exists.choose_spec ⟨s,hp⟩) hp
theorem Kn.ok{b:List (List Int)}{m:List Bool}(h:Kn l a b m)(hv:VC l)(hs:∀i,T m i->xR l a b m i):qZ l a↔Go.Proofs.YtgkllgjmfpjeoaaGreatDoor.EI l a (l.length-1)=[]:=by
 have hp:=hv.pos;refine⟨λhk=>?_,λe=>⟨(h.good hs).1,(h.good hs).2,λs hp=>?_⟩⟩
 .unfold Go.Proofs.YtgkllgjmfpjeoaaGreatDoor.EI;split;.rename_i e;exact hk.last _ e.choose_spec
  .rfl
 .have e1:=(h.all hs hp).2;rw[h.get hs (by omega),e]at e1<;>grind
theorem up8{n:Int}(h:1<=n):8<=up 8 n/\up 8 n<=n+7:=by unfold up;omega
theorem Ni(ts:List aB):∀(p q:List Int),nS ts (p++q)=nS ts p+nS ts q|[],q=>by simp[nS]|t::p,q=>by simp[List.cons_append,nS,Ni ts p q];omega
noncomputable def Jt(ts:List aB)(s:List Int):Prop:=∀t,t∈s->0<=t/\t<ts.length
end Go.Proofs.YtgkllgjmfpjeoaaGreatDoor
namespace Go.Proofs.YtgkllgjmfpjeoaaGreatDoor
open Go Go.bJ Go.Sym
open Classical
theorem Cj(a b:Int):(a==b)=decide (a=b):=by grind
theorem aV{α:Type}{c:Bool}{X Y:Option α}{u v:α}(h1:c=true->X=some u)(h2:c=false->Y=some v):(bif c then X else Y)=some (bif c then u else v):=by grind
theorem oF{l:List aB}{t:Int}(h:0<=t/\t<l.length):idx l t=some (dO l t.toNat):=by have:=cS (l:=l) (i:=t.toNat) ty0 (by omega);rw[Int.toNat_of_nonneg h.1]at this;exact this
theorem xS{l:List Field}{s:Int}(h:0<=s/\s<l.length):idx l s=some (fl l s.toNat):=by have:=cS (l:=l) (i:=s.toNat) ([],0) (by omega);rw[Int.toNat_of_nonneg h.1]at this;exact this
theorem Gx(N:Nat)(l:List Field)(s:Int):K0 N (l,s)=some (decide (0<=s/\s<l.length)):=by rw[K0.eq_1,mK,Option.bind_some,Bool.decide_and]
theorem W3(N:Nat)(l:List (List UInt8))(s:Int):Sw N (l,s)=some (decide (0<=s/\s<l.length)):=by rw[Sw.eq_1,mK,Option.bind_some,Bool.decide_and]
theorem Ju{N:Nat}{a:List Int}{b:Int}(ha:a.length<N)(h2:a.length<=1000):Sy N (a,b)=some (decide (b∈a)):=by
 rw[Sy.eq_1,WB.eq_1];rcases fZ (l:=a) (g:=λ_:Unit=>(.inr ():Int⊕Unit)) (Out:=λr=>b∈a/\∃i:Nat,r=.inl (i:Int)) (Inv:=λi _=>∀j,j<i->a[j]?≠some b) (Lf:=λk i _=>f208.ko N k (a,b,(a.length:Int),i)) (λk s _=>by simp only[f208.ko.eq_2,aM,aq]) (λk i x s hx hI=>by
   have hi:=az hx;simp only[f208.ko.eq_2,aJ hi,au,aE hx,Option.bind_some,aj (show i<9223372036854775807by omega)];by_cases he:b=x;.subst he;exact .inl ⟨_,⟨aU hx,i,rfl⟩,by simp⟩
   .refine .inr ⟨(),λj hj=>?_,by rw[show(b==x)=false by simpa using he,aq]⟩;by_cases hji:j=i;.subst hji;rw[hx];exactλe=>he (Option.some.inj e).symm
    .exact hI j (by omega)) (k:=N) (s:=()) (λj hj=>by omega) ha with⟨r,⟨h1,i,rfl⟩,h3⟩|⟨_,h1,h3⟩;.simp_all
 .rw[h3,bE (show¬b∈a fromλhm=>by obtain⟨i,hi,rfl⟩:=List.mem_iff_getElem.1 hm;exact h1 i hi (List.getElem?_eq_getElem hi))];rfl
structure fE(ts:List aB)(xs:List (List UInt8))(fs:List Func):Prop where
 fit:qU ts xs fs
 C5:fC ts xs fs
section
variable{ts:List aB}{xs:List (List UInt8)}{fs:List Func}
theorem fE.fn(h:fE ts xs fs){i:Nat}(hi:i<fs.length):eA ts.length (dZ fs i):=by have:=h.C5.2.2.2.2.2 i hi;unfold B7 at this<;>grind
theorem fE.get{f:Func}(h:fE ts xs fs){i:Nat}(hi:fs[i]?=some f):eA ts.length f:=by have:=h.fn (az hi);unfold dZ at this<;>grind
theorem fE.tys(h:fE ts xs fs):ts.length<=32:=h.C5.1.1
theorem fE.fns(h:fE ts xs fs):1<=fs.length/\fs.length<=32:=h.C5.2.2.1
theorem fE.ty(h:fE ts xs fs){t:Int}(ht:0<=t/\t<ts.length):cK ts.length t.toNat (dO ts t.toNat):=h.C5.1.2.1 _ (by omega)
noncomputable def eL(fs:List Func):List Sg:=fs.map sg
theorem oG(fs:List Func):(eL fs).length=fs.length:=by simp[eL]
theorem W4{f:Func}{g:Int}(h0:0<=g)(h:fs[g.toNat]?=some f):LJ (eL fs) g=sg f:=by unfold LJ eL<;>grind
theorem Ck{g:Int}(h:0<=g/\g<fs.length):∃f,idx fs g=some f/\fs[g.toNat]?=some f/\LJ (eL fs) g=sg f:=by obtain⟨f,h1,_,h3⟩:=WE h.1 h.2;exact⟨f,h1,h3,W4 h.1 h3⟩
theorem uN{sl:List Field}(hr:nO sl ts.length)(s:Int):-1<=eT sl s/\eT sl s<ts.length:=by
 unfold eT;split
 .have hm:fl sl s.toNat∈sl:=by unfold fl<;>grind
  have:=hr _ hm;omega
 .omega
theorem oS{sl:List Field}(hr:nO sl ts.length){s:Int}(hs:0<=s/\s<sl.length):0<=eT sl s/\eT sl s<ts.length:=by
 have h:=uN hr s;refine⟨?_,h.2⟩;unfold eT;rw[if_pos hs];have hm:fl sl s.toNat∈sl:=by unfold fl<;>grind
 exact(hr _ hm).1
theorem Zu(N:Nat)(f:Func)(s:Int):IP N (ts,xs,fs,f.1,f.2.1,f.2.2.1,f.2.2.2.1,f.2.2.2.2.1,f.2.2.2.2.2.1,f.2.2.2.2.2.2,s)=some (eT f.2.2.2.1 s):=by
 rw[IP.eq_1];simp only[Gx,Option.bind_some];unfold eT;by_cases h:0<=s/\s<f.2.2.2.1.length;.rw[bI h,if_pos h,Bool.not_true,xS h];rfl
 grind
theorem Zv(N:Nat){f:Func}{i:Int}(hf:idx fs i=some f)(s:Int):IY N (ts,xs,fs,i,s)=some (eT f.2.2.2.1 s):=by
 rw[IY.eq_1];simp[hf,Option.bind_some,dK];unfold eT;by_cases h:0<=s/\s<f.2.2.2.1.length;.rw[bE (show¬s<0 by omega),bE (show¬s>=(f.2.2.2.1.length:Int)by omega),if_pos h,Bool.or_self,xS h];rfl
 grind
theorem Jv(N:Nat){t:Int}(h:-1<=t/\t<ts.length):Gi N (ts,xs,fs,t)=some (kd ts t):=by
 rw[Gi.eq_1];unfold kd;by_cases h0:t<0;.grind
 .rw[bE h0,if_neg h0,oF (by omega)];rfl
theorem Zw{t:Int}(h:0<=t):kd ts t=(dO ts t.toNat).1:=by unfold kd<;>grind
theorem Gy{t:Int}(h:kd ts t≠0):0<=t:=by unfold kd at h<;>grind
theorem Cl{N:Nat}(hN:1300<N)(f:Func){t:Int}(h:-1<=t/\t<ts.length){K:List Int}(hK:K.length<=10)(h0:¬(0:Int)∈K):kN N (ts,xs,fs,f.1,f.2.1,f.2.2.1,f.2.2.2.1,f.2.2.2.2.1,f.2.2.2.2.2.1,f.2.2.2.2.2.2,t,K)=some (decide (kd ts t∈K)):=by
 rw[kN.eq_1];unfold kd;by_cases ht:t<0;.grind
 .simp[bI (show t>=0 by omega),au,oF (show 0<=t/\t<ts.length by omega),Option.bind_some,Ju (show K.length<N by omega) (show K.length<=1000by omega),if_neg ht]
theorem wA(N:Nat)(x:Instr):OO N (x.1,x.2.1,x.2.2.1,x.2.2.2)=some (called x):=by rw[OO.eq_1];unfold called<;>grind
theorem Nj(N:Nat)(x:Instr):O2 N (x.1,x.2.1,x.2.2.1,x.2.2.2)=some (called x):=by rw[O2.eq_1];unfold called<;>grind
theorem iz{x:Instr}(hc:dD x=true){p q r:UInt8}(hs:vX x.1=some (p,q,r)):(p=119\/p=114->0<=x.2.1/\x.2.1∈aQ jL x++aQ oE x)/\(q=119\/q=114->0<=x.2.2.1/\x.2.2.1∈aQ jL x++aQ oE x)/\(r=119\/r=114->0<=x.2.2.2/\x.2.2.2∈aQ jL x++aQ oE x):=by
 have key:∀(c:UInt8)(v:Int),fits c v=true->c=119\/c=114->0<=v/\(v∈one (jL c v) v\/v∈one (oE c v) v):=λc v h hc=>by
  unfold fits at h;rw[Bool.and_eq_true,decide_eq_true_eq,decide_eq_true_eq]at h;rcases hc with rfl|rfl;.have h0:0<=v:=h.1;exact⟨h0,.inr (by unfold oE;rw[bI (show v>=0from h0)];exact List.mem_singleton.2 rfl)⟩
  .have h0:0<=v:=h.1;exact⟨h0,.inl (by unfold jL;rw[bI (show v>=0from h0)];exact List.mem_singleton.2 rfl)⟩
 simp[dD,hs,Bool.and_eq_true]at hc;obtain⟨h1,h2,h3⟩:=hc;simp only[aQ,hs,List.mem_append]<;>grind
theorem Cm{x:Instr}(hc:dD x=true):(aQ jL x).length+(aQ oE x).length<=6/\∀s,s∈aQ jL x++aQ oE x->0<=s/\s<=15:=by
 have h1:=jN jL x;have h2:=jN oE x;refine⟨by omega,λs hs=>?_⟩;rcases List.mem_append.1 hs with hs|hs;.exact(nQ hc).1 s hs
 .exact(nQ hc).2 s hs
theorem ahG{N:Nat}(hN:1300<N)(f:Func){x:Instr}(hc:dD x=true):F66 N (ts,xs,fs,f.1,f.2.1,f.2.2.1,f.2.2.2.1,f.2.2.2.2.1,f.2.2.2.2.2.1,f.2.2.2.2.2.2,x.1,x.2.1,x.2.2.1,x.2.2.2)=some (if kJ xs.length (eL fs) f.2.2.2.1 x then 0 else 16):=by
 obtain⟨h6,hnn⟩:=Cm hc;have hlen:(aQ jL x++aQ oE x).length<=6:=by grind
 have key:=fB (l:=aQ jL x++aQ oE x) (a:=(.inr (ts,xs,fs,f.1,f.2.1,f.2.2.1,f.2.2.2.1,f.2.2.2.2.1,f.2.2.2.2.2.1,f.2.2.2.2.2.2,x.1,x.2.1,x.2.2.1,x.2.2.2):Int⊕_)) (b:=.inl 16) (p:=λs=>!decide (0<=s/\s<f.2.2.2.1.length)) (Lf:=λk i=>f66.cI N k (((aQ jL x++aQ oE x).length:Int),i,ts,xs,fs,f.1,f.2.1,f.2.2.1,f.2.2.2.1,f.2.2.2.2.1,f.2.2.2.2.2.1,f.2.2.2.2.2.2,x.1,x.2.1,x.2.2.1,x.2.2.2,aQ jL x++aQ oE x)) (λk _=>by simp only[f66.cI.eq_2,aM,aq]) (λk i s hx _=>by have hi:=az hx;simp only[f66.cI.eq_2,aJ hi,au,bS hi,ai,Int.toNat_natCast,hx,Option.bind_some,Gx,aj (show i<9223372036854775807by omega)];cases decide (0<=s/\s<(f.2.2.2.1.length:Int))<;>rfl) (k:=N) (by omega);rw[F66.eq_1,Lt,hc];simp only[au,Option.bind_some,show((0:Int)!=0)=false from rfl,aq,af (show(aQ jL x).length+(aQ oE x).length<=10000000by omega) (show 8<=1000by omega),ai,key];unfold kJ;rw[oG];by_cases h1:∀s,s∈aQ jL x++aQ oE x->s<(f.2.2.2.1.length:Int)
 .have hn:¬∃s,s∈aQ jL x++aQ oE x/\(!decide (0<=s/\s<(f.2.2.2.1.length:Int)))=true:=λ⟨s,hs,h⟩=>by rw[bI ⟨(hnn s hs).1,h1 s hs⟩]at h;cases h
  simp only[if_neg hn,wA,Option.bind_some,W3];by_cases h2:called x<(fs.length:Int)
  .rw[bE (show¬called x>=(fs.length:Int)by omega)];by_cases h3:x.1=2
   .have h0:0<=x.2.2.1:=by have e:vX 2=some (119,116,45):=rfl;simp[dD,h3,e,fits,Bool.and_eq_true,decide_eq_true_eq]at hc;exact hc.2.1.1
    grind
   grind
  grind
 .have hy:∃s,s∈aQ jL x++aQ oE x/\(!decide (0<=s/\s<(f.2.2.2.1.length:Int)))=true:=by grind
  grind
theorem ahH{N:Nat}(hN:1300<N){f:Func}{g:Int}(hf:idx fs g=some f){x:Instr}(hc:dD x=true):Tg N (ts,xs,fs,g,x.1,x.2.1,x.2.2.1,x.2.2.2)=some (decide (kJ xs.length (eL fs) f.2.2.2.1 x)):=by
 obtain⟨h6,hnn⟩:=Cm hc;have hlen:(aQ jL x++aQ oE x).length<=6:=by grind
 have key:=fB (l:=aQ jL x++aQ oE x) (a:=(.inr (ts,xs,fs,x.1,x.2.1,x.2.2.1,x.2.2.2):Bool⊕_)) (b:=.inl false) (p:=λs=>decide (s>=(f.2.2.2.1.length:Int))) (Lf:=λk i=>f138.dB N k (g,aQ jL x++aQ oE x,i,ts,xs,fs,x.1,x.2.1,x.2.2.1,x.2.2.2)) (λk _=>by simp only[f138.dB.eq_2,aM,aq]) (λk i s hx _=>by have hi:=az hx;simp only[f138.dB.eq_2,aJ hi,au,aE hx,Option.bind_some,hf,aj (show i<9223372036854775807by omega)];cases decide (s>=(f.2.2.2.1.length:Int))<;>rfl) (k:=N) (by omega);rw[Tg.eq_1,uM N hc];simp only[Option.bind_some,List.nil_append,List.length_nil,Nat.zero_add,af (show(aQ jL x).length<=10000000by omega) (show 8<=1000by omega),af (show(aQ jL x).length+(aQ oE x).length<=10000000by omega) (show 8<=1000by omega),ai,key];have hnb:kJ xs.length (eL fs) f.2.2.2.1 x↔(∀s,s∈aQ jL x++aQ oE x->s<(f.2.2.2.1.length:Int))/\called x<(fs.length:Int)/\(x.1=2->x.2.2.1<(xs.length:Int)):=by unfold kJ;rw[oG]
 by_cases h1:∀s,s∈aQ jL x++aQ oE x->s<(f.2.2.2.1.length:Int)
 .have hn:¬∃s,s∈aQ jL x++aQ oE x/\decide (s>=(f.2.2.2.1.length:Int))=true:=λ⟨s,hs,h⟩=>by have:=h1 s hs;rw[bE (by omega)]at h;cases h
  simp only[if_neg hn,Nj,Option.bind_some,BT]<;>grind
 .have hy:∃s,s∈aQ jL x++aQ oE x/\decide (s>=(f.2.2.2.1.length:Int))=true:=by grind
  grind
end
end Go.Proofs.YtgkllgjmfpjeoaaGreatDoor
