/- A part of the proof: Law21tg1, Law21tg2. -/
import Derived.Test.YtkdilffhbejjaaaGreatLaw21tr7b
set_option linter.unusedVariables false
set_option linter.unusedSimpArgs false
namespace Go.Proofs.YtkdilffhbejjaaaGreat
open Go Go.bM Go.Sym
open Classical
theorem Kk{σ β:Type}{Lf:Nat->σ->List Nat->Option β}{Inv:σ->List Nat->Prop}{μ:σ->Nat}{g:σ->β}{Out:β->Prop}(h0:∀k s,Inv s []->Lf (k+1) s []=some (g s))(hs:∀k s o i,Inv s (o++[i])->(∃r,Out r/\Lf (k+1) s (o++[i])=some r)\/∃s' p,Inv s' (o++p)/\μ s'+p.length<=μ s/\Lf (k+1) s (o++[i])=Lf k s' (o++p)):∀k s o,Inv s o->μ s+o.length<k->(∃r,Out r/\Lf k s o=some r)\/∃s',Inv s' []/\Lf k s o=some (g s')
 |0,_,_,_,h=>by omega|k+1,s,o,hI,hk=>by
  rcases List.eq_nil_or_concat o with rfl|⟨o',i,ho⟩;.grind
  .simp at ho;subst ho;simp at hk;rcases hs k s o' i hI with h|⟨s',p,h1,h2,h3⟩;.grind
   .rw[h3];exact Kk h0 hs k s' (o'++p) h1 (by simp only[ba];omega)
theorem Dq{σ β:Type}{Lf:Nat->Bool->σ->Option β}{Inv D6:σ->Prop}{μ:σ->Nat}{g:σ->β}{Out:β->Prop}(h0:∀k s,Inv s->D6 s->Lf (k+1) false s=some (g s))(hs:∀k s,Inv s->(∃r,Out r/\Lf (k+1) true s=some r)\/∃s' c,Inv s'/\(c=false->D6 s')/\(c=true->μ s'<μ s)/\Lf (k+1) true s=Lf k c s'):∀k s,Inv s->μ s+1<k->(∃r,Out r/\Lf k true s=some r)\/∃s',Inv s'/\D6 s'/\Lf k true s=some (g s')
 |0,_,_,h=>by omega|k+1,s,hI,hk=>by
  rcases hs k s hI with h|⟨s',c,h1,h2,h3,h4⟩;.grind
  cases c with|false=>obtain⟨k',rfl⟩:∃q,k=q+1:=⟨k-1,by omega⟩<;>grind|true=>rw[h4];exact Dq h0 hs k s' h1 (by have:=h3 rfl;omega)
abbrev Sg:=Int×Int×List Field×List Instr
noncomputable def sg(f:Func):Sg:=(f.2.1,f.2.2.1,f.2.2.2.1,f.2.2.2.2.1)
noncomputable def MI(S:List Sg)(i:Int):Sg:=S.getD i.toNat (0,0,[],[])
noncomputable def fh(sl:List Field)(s:Int):Int:=if 0<=s/\s<sl.length then(fl sl s.toNat).2else-1
noncomputable def called(x:Instr):Int:=if x.1=25then x.2.2.1else if x.1=26\/x.1=27then x.2.1else-1
noncomputable def wide(ts:List aA)(t:Int):Int:=up 8 (fC (exs ts) t).1
noncomputable def oN(ts:List aA):List Int->Int|[]=>0|t::r=>wide ts t+oN ts r
noncomputable def takes(S:List Sg)(x:Instr):List Int:=if 0<=called x then((MI S (called x)).2.2.1.take (MI S (called x)).1.toNat).map (·.2)else[]
noncomputable def rest(S:List Sg)(sl:List Field)(x:Instr)(s:List Int):Option (List Int):=if x.1=24then some (s++[fh sl x.2.1])else if(takes S x).length<=s.length/\s.drop (s.length-(takes S x).length)=takes S x then some (s.take (s.length-(takes S x).length))else none
noncomputable def Qv(ts:List aA)(S:List Sg)(sl:List Field)(x:Instr)(s:List Int):Option (List Int):=(rest S sl x s).bind λt=>if oN ts t<=4096then some t else none
noncomputable def nB(xn:Nat)(S:List Sg)(sl:List Field)(x:Instr):Prop:=(∀s,s∈bg mD x++bg pT x->s<sl.length)/\called x<S.length/\(x.1=2->x.2.2.1<xn)
noncomputable def kd(ts:List aA)(t:Int):Int:=if t<0then 0 else(dQ ts t.toNat).1
noncomputable def Y3(ts:List aA)(t:Int):Int:=(dQ ts t.toNat).2.1
abbrev Kl(k:Int):Prop:=k=1\/k=2\/k=4
abbrev Y4(ts:List aA)(t i of:Int):Prop:=kd ts t=5/\(0<=i/\i<(dQ ts t.toNat).2.2.2.length)/\(fl (dQ ts t.toNat).2.2.2 i.toNat).2=of
abbrev Dr(ts:List aA)(g:Sg):Prop:=g.2.1<0/\(g.1=0\/g.1=1/\Kl (kd ts (fl g.2.2.1 0).2))
inductive PS(l:List Instr)(a:Instr->List Int->Option (List Int)):Nat->List Int->Prop where|zero:PS l a 0 []|step{i k:Nat}{x:Instr}{s s':List Int}:PS l a i s->l[i]?=some x->a x s=some s'->k∈nx l i->PS l a k s'
structure uy(l:List Instr)(a:Instr->List Int->Option (List Int)):Prop where
 go:∀i s x,PS l a i s->l[i]?=some x->∃s',a x s=some s'
 one:∀i s s',PS l a i s->PS l a i s'->s=s'
 last:∀s,PS l a (l.length-1) s->s=[]
noncomputable def FM(l:List Instr)(a:Instr->List Int->Option (List Int))(k:Nat):List Int:=if h:∃s,PS l a k s then h.choose else[]
variable{l:List Instr}{a:Instr->List Int->Option (List Int)}
theorem PS.lt(hv:VC l){k:Nat}{s:List Int}(h:PS l a k s):k<l.length:=by cases h with|zero=>exact hv.pos|step _ _ _ hk=>exact Ah hv hk
structure Kn(l:List Instr)(a:Instr->List Int->Option (List Int))(b:List (List Int))(m:List Bool):Prop where
 lb:b.length=l.length
 lm:m.length=l.length
 zero:T m 0/\b[0]?=some []met:∀k,T m k->∃s,b[k]?=some s/\PS l a k s
 new:∀k,k<l.length->¬T m k->b[k]?=some []
noncomputable def yK(l:List Instr)(a:Instr->List Int->Option (List Int))(b:List (List Int))(m:List Bool)(i:Nat):Prop:=∃x s s',l[i]?=some x/\b[i]?=some s/\a x s=some s'/\∀k,k∈nx l i->T m k/\b[k]?=some s'
theorem Kn.start(hv:VC l):Kn l a (List.replicate l.length []) ((List.replicate l.length false).set 0 true):=by have h1:=hv.pos;refine⟨by simp,by simp,⟨(kf h1 0).2 rfl,rI h1 []⟩,λk hk=>?_,λk hk _=>by rw[m8,bb hk]⟩;rw[(kf h1 k).1 hk];exact⟨[],rI h1 [],.zero⟩
theorem Kn.add{b:List (List Int)}{m:List Bool}(h:Kn l a b m){k:Nat}{s:List Int}(hk:k<l.length)(hn:¬T m k)(hp:PS l a k s):Kn l a (b.set k s) (m.set k true):=by
 have hm:k<m.length:=by rw[h.lm];exact hk
 have h0:(0:Nat)≠k:=λe=>hn (e▸h.zero.1);refine⟨by simp[h.lb],by simp[h.lm],⟨(eG hm).2 (.inr h.zero.1),by rw[mr,be (pj h0)];exact h.zero.2⟩,λj hj=>?_,λj hj hn=>?_⟩
 .by_cases e:j=k;.subst e;exact⟨s,by simp[h.lb,hk],hp⟩
  .rcases(eG hm).1 hj with h'|h';.grind
   .rw[mr,be (pj e)];exact h.met j h'
 .have e:j≠k:=λe=>hn ((eG hm).2 (.inl e));rw[mr,be (pj e)];exact h.new j hj λh'=>hn ((eG hm).2 (.inr h'))
noncomputable def Grow(b:List (List Int))(m:List Bool)(b':List (List Int))(m':List Bool):Prop:=∀j,T m j->T m' j/\b'[j]?=b[j]?
theorem Grow.refl(b:List (List Int))(m:List Bool):Grow b m b m:=λ_ h=>⟨h,rfl⟩
theorem Grow.trans{b b' b'':List (List Int)}{m m' m'':List Bool}(h:Grow b m b' m')(h':Grow b' m' b'' m''):Grow b m b'' m'':=λj hj=>⟨(h' j (h j hj).1).1,by rw[(h' j (h j hj).1).2,(h j hj).2]⟩
theorem Grow.add{b:List (List Int)}{m:List Bool}{k:Nat}{s:List Int}(hn:¬T m k):Grow b m (b.set k s) (m.set k true):=λj hj=>by grind
theorem yK.grow{b b':List (List Int)}{m m':List Bool}{i:Nat}(h:yK l a b m i)(hi:T m i)(hg:Grow b m b' m'):yK l a b' m' i:=by obtain⟨x,u,u',h1,h2,h3,h4⟩:=h;refine⟨x,u,u',h1,by rw[(hg i hi).2];exact h2,h3,λk hk=>?_⟩;obtain⟨g1,g2⟩:=h4 k hk;exact⟨(hg k g1).1,by rw[(hg k g1).2];exact g2⟩
theorem Kn.all{b:List (List Int)}{m:List Bool}(h:Kn l a b m)(hs:∀i,T m i->yK l a b m i){k:Nat}{s:List Int}(hp:PS l a k s):T m k/\b[k]?=some s:=by induction hp with|zero=>exact h.zero|@step i k x s s' hi hx ha hk ih=>obtain⟨y,u,u',g1,g2,g3,g4⟩:=hs i ih.1<;>grind
theorem Kn.good{b:List (List Int)}{m:List Bool}(h:Kn l a b m)(hs:∀i,T m i->yK l a b m i):(∀i s x,PS l a i s->l[i]?=some x->∃s',a x s=some s')/\∀i s s',PS l a i s->PS l a i s'->s=s':=by
 refine⟨λi s x hp hx=>?_,λi s s' h1 h2=>?_⟩;.obtain⟨h1,h2⟩:=h.all hs hp;obtain⟨y,u,u',g1,g2,g3,_⟩:=hs i h1<;>grind
 .have e:=(h.all hs h1).2;rw[(h.all hs h2).2]at e<;>grind
theorem Kn.get{b:List (List Int)}{m:List Bool}(h:Kn l a b m)(hs:∀i,T m i->yK l a b m i){k:Nat}(hk:k<l.length):b[k]?=some (FM l a k):=by
 unfold FM;split;.rename_i e;exact(h.all hs e.choose_spec).2
 .rename_i e;refine h.new k hk λhT=>e ?_;obtain⟨s,_,hp⟩:=h.met k hT<;>grind
theorem Kn.eq{b:List (List Int)}{m:List Bool}(h:Kn l a b m)(hs:∀i,T m i->yK l a b m i):b=(List.range l.length).map (FM l a):=by
 apply la;intro k;by_cases hk:k<l.length;.rw[h.get hs hk,eJ,py hk];rfl
 .rw[dT (by rw[h.lb];omega),dT (by simp;omega)]
theorem uy.FM(h:uy l a){k:Nat}{s:List Int}(hp:PS l a k s):Go.Proofs.YtkdilffhbejjaaaGreat.FM l a k=s:=by unfold Go.Proofs.YtkdilffhbejjaaaGreat.FM;rw[dif_pos ⟨s,hp⟩];exact h.one k _ _ (Exists.choose_spec ⟨s,hp⟩) hp
theorem Kn.ok{b:List (List Int)}{m:List Bool}(h:Kn l a b m)(hv:VC l)(hs:∀i,T m i->yK l a b m i):uy l a↔Go.Proofs.YtkdilffhbejjaaaGreat.FM l a (l.length-1)=[]:=by
 have hp:=hv.pos;refine⟨λhk=>?_,λe=>⟨(h.good hs).1,(h.good hs).2,λs hp=>?_⟩⟩
 .unfold Go.Proofs.YtkdilffhbejjaaaGreat.FM;split;.rename_i e;exact hk.last _ e.choose_spec
  .rfl
 .have e1:=(h.all hs hp).2;rw[h.get hs (by omega),e]at e1<;>grind
theorem up8{n:Int}(h:1<=n):8<=up 8 n/\up 8 n<=n+7:=by unfold up;omega
theorem N9(ts:List aA):∀(p q:List Int),oN ts (p++q)=oN ts p+oN ts q|[],q=>by simp[oN]|t::p,q=>by simp[n3,oN,N9 ts p q];omega
noncomputable def Km(ts:List aA)(s:List Int):Prop:=∀t,t∈s->0<=t/\t<ts.length
end Go.Proofs.YtkdilffhbejjaaaGreat
namespace Go.Proofs.YtkdilffhbejjaaaGreat
open Go Go.bM Go.Sym
open Classical
theorem Ds(a b:Int):(a==b)=decide (a=b):=by grind
theorem bp{α:Type}{c:Bool}{X Y:Option α}{u v:α}(h1:c=true->X=some u)(h2:c=false->Y=some v):(bif c then X else Y)=some (bif c then u else v):=by grind
theorem pI{l:List aA}{t:Int}(h:0<=t/\t<l.length):idx l t=some (dQ l t.toNat):=by have:=cq (l:=l) (i:=t.toNat) ty0 (by omega);rw[pA h.1]at this;exact this
theorem yL{l:List Field}{s:Int}(h:0<=s/\s<l.length):idx l s=some (fl l s.toNat):=by have:=cq (l:=l) (i:=s.toNat) ([],0) (by omega);rw[pA h.1]at this;exact this
theorem HA(N:Nat)(l:List Field)(s:Int):L0 N (l,s)=some (decide (0<=s/\s<l.length)):=by rw[L0.eq_1,fP,ae,rx]
theorem Y5(N:Nat)(l:List (List UInt8))(s:Int):Tl N (l,s)=some (decide (0<=s/\s<l.length)):=by rw[Tl.eq_1,fP,ae,rx]
theorem Ko{N:Nat}{a:List Int}{b:Int}(ha:a.length<N)(h2:a.length<=1000):Tp N (a,b)=some (decide (b∈a)):=by
 rw[Tp.eq_1,Yx.eq_1];rcases de (l:=a) (g:=λ_:Unit=>(.inr ():Int⊕Unit)) (Out:=λr=>b∈a/\∃i:Nat,r=.inl (i:Int)) (Inv:=λi _=>∀j,j<i->a[j]?≠some b) (Lf:=λk i _=>f219.gM N k (a,b,(a.length:Int),i)) (λk s _=>by simp only[f219.gM.eq_2,aJ,af]) (λk i x s hx hI=>by
   have hi:=aC hx;simp only[f219.gM.eq_2,aG hi,aq,aD hx,ae,ai (show i<9223372036854775807by omega)];by_cases he:b=x;.subst he;exact .inl ⟨_,⟨aU hx,i,rfl⟩,by simp⟩
   .refine .inr ⟨(),λj hj=>?_,by rw[show(b==x)=false by simpa using he,af]⟩;by_cases hji:j=i;.subst hji;rw[hx];exactλe=>he (fb e).symm
    .exact hI j (by omega)) (k:=N) (s:=()) (λj hj=>by omega) ha with⟨r,⟨h1,i,rfl⟩,h3⟩|⟨_,h1,h3⟩;.simp_all
 .rw[h3,aM (show¬b∈a fromλhm=>by obtain⟨i,hi,rfl⟩:=f8.1 hm;exact h1 i hi (al hi))];rfl
structure gS(ts:List aA)(xs:List (List UInt8))(fs:List Func):Prop where
 fit:iQ ts xs fs
 HB:dZ ts xs fs
section
variable{ts:List aA}{xs:List (List UInt8)}{fs:List Func}
theorem gS.fn(h:gS ts xs fs){i:Nat}(hi:i<fs.length):eX ts.length (gj fs i):=by have:=h.HB.2.2.2.2.2 i hi;unfold Ht at this<;>grind
theorem gS.get{f:Func}(h:gS ts xs fs){i:Nat}(hi:fs[i]?=some f):eX ts.length f:=by have:=h.fn (aC hi);unfold gj at this<;>grind
theorem gS.tys(h:gS ts xs fs):ts.length<=32:=h.HB.1.1
theorem gS.fns(h:gS ts xs fs):1<=fs.length/\fs.length<=32:=h.HB.2.2.1
theorem gS.ty(h:gS ts xs fs){t:Int}(ht:0<=t/\t<ts.length):cU ts.length t.toNat (dQ ts t.toNat):=h.HB.1.2.1 _ (by omega)
noncomputable def fD(fs:List Func):List Sg:=fs.map sg
theorem pJ(fs:List Func):(fD fs).length=fs.length:=by simp[fD]
theorem Y6{f:Func}{g:Int}(h0:0<=g)(h:fs[g.toNat]?=some f):MI (fD fs) g=sg f:=by unfold MI fD<;>grind
theorem Dt{g:Int}(h:0<=g/\g<fs.length):∃f,idx fs g=some f/\fs[g.toNat]?=some f/\MI (fD fs) g=sg f:=by obtain⟨f,h1,_,h3⟩:=YE h.1 h.2;exact⟨f,h1,h3,Y6 h.1 h3⟩
theorem vB{sl:List Field}(hr:jW sl ts.length)(s:Int):-1<=fh sl s/\fh sl s<ts.length:=by
 unfold fh;split
 .have hm:fl sl s.toNat∈sl:=by unfold fl<;>grind
  have:=hr _ hm;omega
 .omega
theorem pV{sl:List Field}(hr:jW sl ts.length){s:Int}(hs:0<=s/\s<sl.length):0<=fh sl s/\fh sl s<ts.length:=by
 have h:=vB hr s;refine⟨?_,h.2⟩;unfold fh;rw[bb hs];have hm:fl sl s.toNat∈sl:=by unfold fl<;>grind
 exact(hr _ hm).1
theorem aa7(N:Nat)(f:Func)(s:Int):JE N (ts,xs,fs,f.1,f.2.1,f.2.2.1,f.2.2.2.1,f.2.2.2.2.1,f.2.2.2.2.2.1,f.2.2.2.2.2.2,s)=some (fh f.2.2.2.1 s):=by
 rw[JE.eq_1];simp only[HA,ae];unfold fh;by_cases h:0<=s/\s<f.2.2.2.1.length;.rw[aS h,bb h,da,yL h];rfl
 grind
theorem aa8(N:Nat){f:Func}{i:Int}(hf:idx fs i=some f)(s:Int):JL N (ts,xs,fs,i,s)=some (fh f.2.2.2.1 s):=by
 rw[JL.eq_1];simp[hf,ae,dg];unfold fh;by_cases h:0<=s/\s<f.2.2.2.1.length;.rw[aM (show¬s<0 by omega),aM (show¬s>=(f.2.2.2.1.length:Int)by omega),bb h,xt,yL h];rfl
 grind
theorem Kp(N:Nat){t:Int}(h:-1<=t/\t<ts.length):Hi N (ts,xs,fs,t)=some (kd ts t):=by
 rw[Hi.eq_1];unfold kd;by_cases h0:t<0;.grind
 .rw[aM h0,be h0,pI (by omega)];rfl
theorem aa9{t:Int}(h:0<=t):kd ts t=(dQ ts t.toNat).1:=by unfold kd<;>grind
theorem HC{t:Int}(h:kd ts t≠0):0<=t:=by unfold kd at h<;>grind
theorem Du{N:Nat}(hN:1300<N)(f:Func){t:Int}(h:-1<=t/\t<ts.length){K:List Int}(hK:K.length<=10)(h0:¬(0:Int)∈K):lI N (ts,xs,fs,f.1,f.2.1,f.2.2.1,f.2.2.2.1,f.2.2.2.2.1,f.2.2.2.2.2.1,f.2.2.2.2.2.2,t,K)=some (decide (kd ts t∈K)):=by
 rw[lI.eq_1];unfold kd;by_cases ht:t<0;.grind
 .simp[aS (show t>=0 by omega),aq,pI (show 0<=t/\t<ts.length by omega),ae,Ko (show K.length<N by omega) (show K.length<=1000by omega),be ht]
theorem xq(N:Nat)(x:Instr):Px N (x.1,x.2.1,x.2.2.1,x.2.2.2)=some (called x):=by rw[Px.eq_1];unfold called<;>grind
theorem Oa(N:Nat)(x:Instr):PR N (x.1,x.2.1,x.2.2.1,x.2.2.2)=some (called x):=by rw[PR.eq_1];unfold called<;>grind
theorem iV{x:Instr}(hc:eA x=true){p q r:UInt8}(hs:wZ x.1=some (p,q,r)):(p=119\/p=114->0<=x.2.1/\x.2.1∈bg mD x++bg pT x)/\(q=119\/q=114->0<=x.2.2.1/\x.2.2.1∈bg mD x++bg pT x)/\(r=119\/r=114->0<=x.2.2.2/\x.2.2.2∈bg mD x++bg pT x):=by
 have key:∀(c:UInt8)(v:Int),fits c v=true->c=119\/c=114->0<=v/\(v∈one (mD c v) v\/v∈one (pT c v) v):=λc v h hc=>by
  unfold fits at h;rw[am,db,db]at h;rcases hc with rfl|rfl;.have h0:0<=v:=h.1;exact⟨h0,.inr (by unfold pT;rw[aS (show v>=0from h0)];exact bo.2 rfl)⟩
  .have h0:0<=v:=h.1;exact⟨h0,.inl (by unfold mD;rw[aS (show v>=0from h0)];exact bo.2 rfl)⟩
 simp[eA,hs,am]at hc;obtain⟨h1,h2,h3⟩:=hc;simp only[bg,hs,bj]<;>grind
theorem Dv{x:Instr}(hc:eA x=true):(bg mD x).length+(bg pT x).length<=6/\∀s,s∈bg mD x++bg pT x->0<=s/\s<=15:=by
 have h1:=kr mD x;have h2:=kr pT x;refine⟨by omega,λs hs=>?_⟩;rcases bj.1 hs with hs|hs;.exact(oM hc).1 s hs
 .exact(oM hc).2 s hs
theorem alh{N:Nat}(hN:1300<N)(f:Func){x:Instr}(hc:eA x=true):Tn N (ts,xs,fs,f.1,f.2.1,f.2.2.1,f.2.2.2.1,f.2.2.2.2.1,f.2.2.2.2.2.1,f.2.2.2.2.2.2,x.1,x.2.1,x.2.2.1,x.2.2.2)=some (if nB xs.length (fD fs) f.2.2.2.1 x then 0 else 16):=by
 obtain⟨h6,hnn⟩:=Dv hc;have hlen:(bg mD x++bg pT x).length<=6:=by grind
 have key:=fN (l:=bg mD x++bg pT x) (a:=(.inr (ts,xs,fs,f.1,f.2.1,f.2.2.1,f.2.2.2.1,f.2.2.2.2.1,f.2.2.2.2.2.1,f.2.2.2.2.2.2,x.1,x.2.1,x.2.2.1,x.2.2.2):Int⊕_)) (b:=.inl 16) (p:=λs=>!decide (0<=s/\s<f.2.2.2.1.length)) (Lf:=λk i=>f107.cI N k (((bg mD x++bg pT x).length:Int),i,ts,xs,fs,f.1,f.2.1,f.2.2.1,f.2.2.2.1,f.2.2.2.2.1,f.2.2.2.2.2.1,f.2.2.2.2.2.2,x.1,x.2.1,x.2.2.1,x.2.2.2,bg mD x++bg pT x)) (λk _=>by simp only[f107.cI.eq_2,aJ,af]) (λk i s hx _=>by have hi:=aC hx;simp only[f107.cI.eq_2,aG hi,aq,cl hi,aj,bd,hx,ae,HA,ai (show i<9223372036854775807by omega)];cases decide (0<=s/\s<(f.2.2.2.1.length:Int))<;>rfl) (k:=N) (by omega);rw[Tn.eq_1,Mr,hc];simp only[aq,ae,show((0:Int)!=0)=false from rfl,af,ak (show(bg mD x).length+(bg pT x).length<=10000000by omega) (show 8<=1000by omega),aj,key];unfold nB;rw[pJ];by_cases h1:∀s,s∈bg mD x++bg pT x->s<(f.2.2.2.1.length:Int)
 .have hn:¬∃s,s∈bg mD x++bg pT x/\(!decide (0<=s/\s<(f.2.2.2.1.length:Int)))=true:=λ⟨s,hs,h⟩=>by rw[aS ⟨(hnn s hs).1,h1 s hs⟩]at h;cases h
  simp only[be hn,xq,ae,Y5];by_cases h2:called x<(fs.length:Int)
  .rw[aM (show¬called x>=(fs.length:Int)by omega)];by_cases h3:x.1=2
   .have h0:0<=x.2.2.1:=by have e:wZ 2=some (119,116,45):=rfl;simp[eA,h3,e,fits,am,db]at hc;exact hc.2.1.1
    grind
   grind
  grind
 .have hy:∃s,s∈bg mD x++bg pT x/\(!decide (0<=s/\s<(f.2.2.2.1.length:Int)))=true:=by grind
  grind
theorem ali{N:Nat}(hN:1300<N){f:Func}{g:Int}(hf:idx fs g=some f){x:Instr}(hc:eA x=true):UI N (ts,xs,fs,g,x.1,x.2.1,x.2.2.1,x.2.2.2)=some (decide (nB xs.length (fD fs) f.2.2.2.1 x)):=by
 obtain⟨h6,hnn⟩:=Dv hc;have hlen:(bg mD x++bg pT x).length<=6:=by grind
 have key:=fN (l:=bg mD x++bg pT x) (a:=(.inr (ts,xs,fs,x.1,x.2.1,x.2.2.1,x.2.2.2):Bool⊕_)) (b:=.inl false) (p:=λs=>decide (s>=(f.2.2.2.1.length:Int))) (Lf:=λk i=>f210.cW N k (g,bg mD x++bg pT x,i,ts,xs,fs,x.1,x.2.1,x.2.2.1,x.2.2.2)) (λk _=>by simp only[f210.cW.eq_2,aJ,af]) (λk i s hx _=>by have hi:=aC hx;simp only[f210.cW.eq_2,aG hi,aq,aD hx,ae,hf,ai (show i<9223372036854775807by omega)];cases decide (s>=(f.2.2.2.1.length:Int))<;>rfl) (k:=N) (by omega);rw[UI.eq_1,vA N hc];simp only[ae,gc,lL,ma,ak (show(bg mD x).length<=10000000by omega) (show 8<=1000by omega),ak (show(bg mD x).length+(bg pT x).length<=10000000by omega) (show 8<=1000by omega),aj,key];have hnb:nB xs.length (fD fs) f.2.2.2.1 x↔(∀s,s∈bg mD x++bg pT x->s<(f.2.2.2.1.length:Int))/\called x<(fs.length:Int)/\(x.1=2->x.2.2.1<(xs.length:Int)):=by unfold nB;rw[pJ]
 by_cases h1:∀s,s∈bg mD x++bg pT x->s<(f.2.2.2.1.length:Int)
 .have hn:¬∃s,s∈bg mD x++bg pT x/\decide (s>=(f.2.2.2.1.length:Int))=true:=λ⟨s,hs,h⟩=>by have:=h1 s hs;rw[aM (by omega)]at h;cases h
  simp only[be hn,Oa,ae,ym]<;>grind
 .have hy:∃s,s∈bg mD x++bg pT x/\decide (s>=(f.2.2.2.1.length:Int))=true:=by grind
  grind
end
end Go.Proofs.YtkdilffhbejjaaaGreat
