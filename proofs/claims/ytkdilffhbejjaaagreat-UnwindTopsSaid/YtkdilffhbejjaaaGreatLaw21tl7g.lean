/- A part of the proof: Law21tl7d, Law21tl7f, Law21tl7g. -/
import Derived.Test.YtkdilffhbejjaaaGreatLaw21tl7c
set_option linter.unusedVariables false
set_option linter.unusedSimpArgs false
namespace Go.Proofs.YtkdilffhbejjaaaGreat
open Go Go.bM Go.Sym
open Classical
theorem xl{σ β:Type}{Lf:Nat->σ->List Nat->Option β}{Inv:σ->List Nat->Prop}{μ:σ->Nat}{g:σ->β}(h0:∀k s,Inv s []->Lf (k+1) s []=some (g s))(hs:∀k s o i,Inv s (o++[i])->∃s' p,Inv s' (o++p)/\μ s'+p.length<=μ s/\Lf (k+1) s (o++[i])=Lf k s' (o++p)):∀k s o,Inv s o->μ s+o.length<k->∃s',Inv s' []/\Lf k s o=some (g s')
 |0,_,_,_,h=>by omega|k+1,s,o,hI,hk=>by
  rcases List.eq_nil_or_concat o with rfl|⟨o',i,ho⟩;.grind
  .simp at ho;subst ho;simp at hk;obtain⟨s',p,h1,h2,h3⟩:=hs k s o' i hI;obtain⟨s'',h4,h5⟩:=xl h0 hs k s' (o'++p) h1 (by simp only[ba];omega)<;>grind
theorem rounds{σ β:Type}{Lf:Nat->Bool->σ->Option β}{Inv D6:σ->Prop}{μ:σ->Nat}{g:σ->β}(h0:∀k s,Inv s->D6 s->Lf (k+1) false s=some (g s))(hs:∀k s,Inv s->∃s' c,Inv s'/\(c=false->D6 s')/\(c=true->μ s'<μ s)/\Lf (k+1) true s=Lf k c s'):∀k s,Inv s->μ s+1<k->∃s',Inv s'/\D6 s'/\Lf k true s=some (g s')|0,_,_,h=>by omega|k+1,s,hI,hk=>by obtain⟨s',c,h1,h2,h3,h4⟩:=hs k s hI;cases c with|false=>obtain⟨k',rfl⟩:∃q,k=q+1:=⟨k-1,by omega⟩<;>grind|true=>obtain⟨s'',h5,h6,h7⟩:=rounds h0 hs k s' h1 (by have:=h3 rfl;omega)<;>grind
inductive Reach(l:List Instr):Nat->Prop where|zero:Reach l 0|step{i k:Nat}:Reach l i->k∈nx l i->Reach l k
theorem Reach.lt{l:List Instr}(h:VC l){i:Nat}(hi:Reach l i):i<l.length:=by cases hi with|zero=>exact h.pos|step _ hk=>exact Ah h hk
abbrev T(b:List Bool)(k:Nat):Prop:=b[k]?=some true
theorem eG{b:List Bool}{i k:Nat}(hi:i<b.length):T (b.set i true) k↔k=i\/T b k:=by grind
noncomputable def fI(b:List Bool):Nat:=b.countP λx=>!x
theorem tQ{b:List Bool}{i:Nat}(h:b[i]?=some false):fI (b.set i true)+1=fI b:=by induction b generalizing i with|nil=>simp at h|cons x r ih=>cases i with|zero=>simp at h;subst h;simp[fI]|succ i=>have:=ih h;simp[fI,List.set_cons_succ,List.countP_cons]at this⊢;omega
theorem rG(b:List Bool):fI b<=b.length:=List.countP_le_length
theorem yF{l:List Nat}{i:Nat}{x:Int}(h:(cN l)[i]?=some x):∃k,l[i]?=some k/\x=(k:Int):=by simp only[cN,eJ,fd]at h<;>grind
theorem D7{b:List Bool}{i:Nat}(h:T b i):b.set i true=b:=CY h
theorem Ke{b:List Bool}{i:Nat}(h:i<b.length):b[i]?=some true\/b[i]?=some false:=by simp_all
structure Qq(l:List Instr)(s:List Bool):Prop where
 len:s.length=l.length
 zero:T s 0reach:∀i,T s i->Reach l i
structure InP(l:List Instr)(s:List Bool)(o:List Nat):Prop where
 base:Qq l s
 xl:∀k∈o,T s k
 shut:∀i,T s i->i∈o\/∀k∈nx l i,T s k
theorem T.lt{b:List Bool}{k:Nat}(h:T b k):k<b.length:=aC h
theorem uu(a b:List Nat):cN (a++b)=cN a++cN b:=by simp[cN]
theorem bL(a:List Nat):(cN a).length=a.length:=by simp[cN]
theorem D8{N:Nat}{l:List Instr}(hv:VC l)(hN:500<N){s:List Bool}{o:List Nat}{i:Nat}(h:InP l s (o++[i]))(ho:o.length<=1000000):∃s' p,InP l s' (o++p)/\fI s'+p.length<=fI s/\f106.gv N N (l,(i:Int),cN (nx l i),((cN (nx l i)).length:Int),0,s,cN o)=some (l,s',cN (o++p)):=by
 have hi:T s i:=h.xl i (by simp);have N6:=h.base.reach i hi;obtain⟨⟨s',p⟩,hI,he⟩:=fO (l:=cN (nx l i)) (g:=λq:List Bool×List Nat=>(l,q.1,cN (o++q.2))) (Inv:=λj q=>Qq l q.1/\(∀k∈o++q.2,T q.1 k)/\(∀k,T q.1 k->k∈o++q.2\/k=i\/∀k'∈nx l k,T q.1 k')/\(∀k∈(nx l i).take j,T q.1 k)/\fI q.1+q.2.length<=fI s/\T q.1 i) (Lf:=λk j q=>f106.gv N k (l,(i:Int),cN (nx l i),((cN (nx l i)).length:Int),j,q.1,cN (o++q.2))) (λk q _=>by simp only[f106.gv.eq_2,aJ,af]) (λk j x q hx⟨h1,h2,h3,h4,h5,h6⟩=>by
   obtain⟨m,hm,rfl⟩:=yF hx;have hml:=Ah hv (aU hm);have r7:m<q.1.length:=by rw[h1.len];exact hml
   have hj:j<9223372036854775807:=by have:=aC hm;have:=rF l i;omega
   have e1:=al r7;simp only[f106.gv.eq_2,aG (aC hx),aq,aD hx,ae,cl r7,aj,bd,ai hj];rcases Ke r7 with hb|hb
   .refine⟨q,⟨h1,h2,h3,λk' hk'=>?_,h5,h6⟩,?_⟩
    .rw[take_succ hm,bj,bo]at hk';rcases hk' with hk'|rfl;.exact h4 k' hk'
     .exact hb
    .simp only[hb,ae,da,af,D7 hb]
   .refine⟨(q.1.set m true,q.2++[m]),⟨⟨by simp[h1.len],(eG r7).2 (.inr h1.zero),λk' hk'=>?_⟩,λk' hk'=>?_,λk' hk'=>?_,λk' hk'=>?_,?_,(eG r7).2 (.inr h6)⟩,?_⟩
    .rcases(eG r7).1 hk' with rfl|hk';.exact .step N6 (aU hm)
     .exact h1.reach k' hk'
    .rw[<-bi,bj,bo]at hk';rcases hk' with hk'|rfl;.exact(eG r7).2 (.inr (h2 k' hk'))
     .exact(eG r7).2 (.inl rfl)
    .rcases(eG r7).1 hk' with rfl|hk';.exact .inl (by simp)
     .rcases h3 k' hk' with h|h|h;.exact .inl (by rw[<-bi];exact dp _ h)
      .exact .inr (.inl h)
      .exact .inr (.inr λk'' ap9=>(eG r7).2 (.inr (h k'' ap9)))
    .rw[take_succ hm,bj,bo]at hk';rcases hk' with hk'|rfl;.exact(eG r7).2 (.inr (h4 k' hk'))
     .exact(eG r7).2 (.inl rfl)
    .have:=tQ hb;simp only[ba,eQ,lL];omega
    .have hlen:q.2.length<=s.length:=by have:=rG s;omega
     rw[h.base.len]at hlen;have:=hv.le;have hr:room ((cN (o++q.2)).length+1) 8=true:=ak (by rw[bL,ba];omega) (by omega);simp only[hb,ae,ge,aq,hr,aj];rw[<-bi,uu (o++q.2) [m]];rfl) (k:=N) (s:=(s,[])) ⟨h.base,λk hk=>h.xl k (by simp at hk;simp[hk]),λk hk=>by
      rcases h.shut k hk with h'|h'
      .simp at h';rcases h' with h'|h';.exact .inl (by simpa using h')
       .exact .inr (.inl h')
      .exact .inr (.inr h'),λk hk=>by simp at hk,by simp,hi⟩ (by rw[bL];have:=rF l i;omega);obtain⟨h1,h2,h3,h4,h5,h6⟩:=hI;refine⟨s',p,⟨h1,h2,λk hk=>?_⟩,h5,by simpa using he⟩;rcases h3 k hk with h|rfl|h;.grind
 .right;intro k' hk';have:(nx l k).take (cN (nx l k)).length=nx l k:=by rw[bL]<;>grind
  grind
 grind
noncomputable def ep(l:List Instr):List Bool:=(List.range l.length).map λk=>decide (Reach l k)
theorem kq{l:List Instr}{k:Nat}(h:k<l.length):(ep l)[k]?=some (decide (Reach l k)):=by simp[ep,h]
theorem rH(l:List Instr):(ep l).length=l.length:=by simp[ep]
theorem Wn{l:List Instr}(hv:VC l){k:Nat}:T (ep l) k↔Reach l k:=by
 unfold T;by_cases h:k<l.length;.rw[kq h];simp
 .rw[dT (by rw[rH];omega)];constructor;.grind
  .intro h';exact absurd (h'.lt hv) h
theorem Qr{l:List Instr}{s:List Bool}(hl:s.length=l.length)(h:∀k,T s k↔Reach l k):s=ep l:=by
 apply la;intro k;by_cases hk:k<l.length;.rw[kq hk];rcases Ke (b:=s) (i:=k) (by omega)with h1|h1<;>grind
 .rw[dT (by omega),dT (by rw[rH];omega)]
theorem Qq.all{l:List Instr}{s:List Bool}(h:Qq l s)(hs:∀i,T s i->∀k∈nx l i,T s k):s=ep l:=Qr h.len λk=>⟨h.reach k,λhr=>by induction hr with|zero=>exact h.zero|step _ hk ih=>grind⟩
theorem yG(n:Nat):((List.replicate n false).set 0 true).length=n:=by simp
theorem kf{n:Nat}(h:1<=n)(k:Nat):T ((List.replicate n false).set 0 true) k↔k=0:=by grind
theorem yH{l:List Instr}(hv:VC l):Qq l ((List.replicate l.length false).set 0 true):=⟨by simp,(kf hv.pos 0).2 rfl,λi hi=>by rw[(kf hv.pos i).1 hi];exact .zero⟩
theorem uv{n:Nat}(h1:1<=n)(h2:n<=10000000):av ((n:Int)-1)=((n-1:Nat):Int):=by rw[aI (by omega)];omega
theorem rI{α:Type}{n:Nat}(h:1<=n)(x:α):(List.replicate n x)[0]?=some x:=by grind
theorem Hw{N:Nat}{l:List Instr}(hv:VC l)(hN:500<N):f106.jy N N (l,(List.replicate l.length false).set 0 true,[(0:Int)])=some (ep l):=by
 have hle:=hv.le;obtain⟨s,hI,he⟩:=xl (Inv:=λs o=>InP l s o/\fI s+o.length<=300) (μ:=fI) (g:=λs=>s) (Lf:=λk s o=>f106.jy N k (l,s,cN o)) (λk s _=>by rw[show cN []=[]from rfl,f106.jy.eq_2];rfl) (λk s o i⟨h,hm⟩=>by
   rw[ba,dj]at hm;have hi:T s i:=h.xl i (by simp);have yY:i<l.length:=by rw[<-h.base.len];exact hi.lt
   obtain⟨s',p,h1,h2,h3⟩:=D8 hv hN h (by omega);refine⟨s',p,⟨h1,by rw[ba];omega⟩,h2,?_⟩;have hlen:(cN (o++[i])).length=o.length+1:=by simp[cN]
   have e1:av (((o.length+1:Nat):Int)-1)=(o.length:Int):=by rw[aI (by omega)];omega
   have e2:(cN (o++[i]))[o.length]?=some (i:Int):=by simp[cN]
   have e3:(cN (o++[i])).take o.length=cN o:=by simp[cN]
   simp only[f106.jy.eq_2,hlen,e1,bm (show((o.length+1:Nat):Int)>0 by omega),aq,cl (show o.length<o.length+1by omega),aj,bd,e2,ae,show decide ((0:Int)<=(o.length:Int))=true by simp,show decide (o.length<=o.length+1)=true by simp,Mu hv yY,e3,h3]) N ((List.replicate l.length false).set 0 true) [0] ⟨⟨yH hv,λk hk=>by simp at hk;subst hk;exact(kf hv.pos 0).2 rfl,λi hi=>.inl (by rw[(kf hv.pos i).1 hi];simp)⟩,by have:=rG ((List.replicate l.length false).set 0 true);rw[yG]at this;simp only[dj];omega⟩ (by have:=rG ((List.replicate l.length false).set 0 true);rw[yG]at this;simp only[dj];omega);rw[show[(0:Int)]=cN [0]from rfl,he];congr 1;exact hI.1.base.all λi hi k hk=>by
  rcases hI.1.shut i hi with h|h;.simp at h
  .exact h k hk
theorem aeE{N:Nat}{l:List Instr}(hN:500<N)(hl:l.length<=9223372036854775807):Tk N l=some (if jX l then((ep l).set (l.length-1) true,0)else([],8)):=by rw[Tk.eq_1,Mt (by omega) hl];cases h:jX l with|false=>rfl|true=>have hv:=xh h;have h1:=hv.pos;have h2:=hv.le;simp only[aq,show((0:Int)!=0)=false from rfl,af,ii,bd,show decide ((0:Int)<=(l.length:Int))=true by simp,aj,bc,nl,fr,ak (show l.length<=10000000by omega) (show 1<=1000by omega),jn,show ga 0 l.length=true from cl (i:=0) h1,show Int.toNat 0=0from rfl,rI h1,ae,Hw hv hN,rH,uv h1 (by omega),cl (show l.length-1<l.length by omega),kq (show l.length-1<l.length by omega)]
end Go.Proofs.YtkdilffhbejjaaaGreat
namespace Go.Proofs.YtkdilffhbejjaaaGreat
open Go Go.bM Go.Sym
open Classical
noncomputable def sub(a b:Nat):Prop:=∀k,a.testBit k=true->b.testBit k=true
theorem j6(a:Nat):sub a a:=λ_ h=>h
theorem gm{a b c:Nat}(h:sub a b)(k:sub b c):sub a c:=λi hi=>k i (h i hi)
theorem xm{a b:Nat}(h:sub a b)(k:sub b a):a=b:=Nat.eq_of_testBit_eq λi=>by
 cases h1:a.testBit i<;>cases h2:b.testBit i;.rfl
 .exact absurd (k i h2) (by rw[h1];decide)
 .exact absurd (h i h1) (by rw[h2];decide)
 .rfl
theorem Aj(a b:Nat):sub a (a|||b):=λk h=>by grind
theorem xo(a b:Nat):sub b (a|||b):=λk h=>by grind
theorem MA{a b c:Nat}(h:sub a c)(k:sub b c):sub (a|||b) c:=λi hi=>by simp at hi;exact hi.elim (h i) (k i)
theorem or_mono{a b c d:Nat}(h:sub a c)(k:sub b d):sub (a|||b) (c|||d):=MA (gm h (Aj _ _)) (gm k (xo _ _))
theorem rJ(a b:Nat):sub (a&&&b) a:=λk h=>by grind
theorem pU(a b:Nat):sub (a&&&b) b:=λk h=>by grind
theorem Hx{a b c:Nat}(h:sub a b)(k:sub a c):sub a (b&&&c):=λi hi=>by rw[Nat.testBit_and,h i hi,k i hi];rfl
theorem zero_sub(a:Nat):sub 0 a:=λk h=>by simp at h
theorem MB{a s:Nat}:a<2^s↔sub a (2^s-1):=by
 constructor
 .intro h k hk;rw[Nat.testBit_two_pow_sub_one];rcases f6 k s with h1|h1;.grind
  .rw[rm (i7 h (nn (by omega) h1))]at hk<;>grind
 .intro h;refine Nat.lt_pow_two_of_testBit _ λk hk=>?_;cases hb:a.testBit k with|false=>rfl|true=>have:=h k hb<;>grind
theorem Dk{a s t:Nat}(h:a<2^s)(hs:s<=t):a<2^t:=i7 h (nn (by omega) hs)
theorem Dl{a:Nat}(h:a<2^64):IntKind.u64.wrap (a:Int)=(a:Int):=aR (by omega)
theorem A2{a b:Nat}(ha:a<2^64)(hb:b<2^64):Ct .u64 (a:Int) (b:Int)=((a|||b:Nat):Int):=by
 unfold Ct;have e:(BitVec.ofNat 64 a|||BitVec.ofNat 64 b).toNat=a|||b:=by grind
 show IntKind.u64.wrap (((BitVec.ofNat 64 a|||BitVec.ofNat 64 b).toNat:Nat):Int)=_;rw[e,Dl (p3 ha hb)]
theorem Dm{a b:Nat}(ha:a<2^64)(hb:b<2^64):uw .u64 (a:Int) (b:Int)=((a&&&b:Nat):Int):=by
 unfold uw;have e:(BitVec.ofNat 64 a&&&BitVec.ofNat 64 b).toNat=a&&&b:=by grind
 show IntKind.u64.wrap (((BitVec.ofNat 64 a&&&BitVec.ofNat 64 b).toNat:Nat):Int)=_;rw[e,Dl (Nat.lt_of_le_of_lt Nat.and_le_left ha)]
theorem YY{s:Int}(h0:0<=s)(h:s<=15):aL ((1:Int)*(2^min (Int.toNat s) 64))=((2^s.toNat:Nat):Int):=by
 rw[pw (by omega),Int.one_mul];have:(2:Int)^s.toNat=((2^s.toNat:Nat):Int):=by simp
 rw[this];exact Dl (mn (by omega) (by omega))
theorem FI{n:Int}(h0:0<=n)(h:n<=16):aL ((aL ((1:Int)*(2^min (Int.toNat n) 64)))-1)=((2^n.toNat-1:Nat):Int):=by
 rw[pw (by omega),Int.one_mul];have e:(2:Int)^n.toNat=((2^n.toNat:Nat):Int):=by simp
 have h2:2^n.toNat<2^64:=mn (by omega) (by omega);have h3:1<=2^n.toNat:=Nat.one_le_two_pow;rw[e];rw[show aL ((2^n.toNat:Nat):Int)=((2^n.toNat:Nat):Int)from Dl h2];have e2:((2^n.toNat:Nat):Int)-1=((2^n.toNat-1:Nat):Int):=by omega
 rw[e2];exact Dl (by omega)
noncomputable def tR(m:Nat)(s:Int):Nat:=m|||2^s.toNat
noncomputable def gy(m:Nat)(l:List Int):Nat:=l.foldl tR m
noncomputable def A3(l:List Int):Prop:=∀s∈l,0<=s/\s<=15
theorem Ak{l:List Int}(h:A3 l):∀{m:Nat},m<2^16->gy m l<2^16:=by unfold gy;induction l with|nil=>grind|cons s r ih=>intro m hm;refine ih (λx hx=>h x (dl _ hx)) ?_;have:=h s cb;exact p3 hm (mn (by omega) (by omega))
theorem Al(l:List Int):∀m:Nat,gy m l=m|||gy 0 l:=by unfold gy;induction l with|nil=>simp|cons s r ih=>intro m;rw[wa,wa,ih (tR m s),ih (tR 0 s)];simp[tR,Nat.or_assoc]
theorem FJ{α σ β:Type}{l:List α}{Lf:Nat->Int->σ->Option β}{f:σ->α->σ}{g:σ->β}{Inv:σ->Prop}(h0:∀k s,Lf (k+1) (l.length:Int) s=some (g s))(hs:∀k(i:Nat)x s,l[i]?=some x->Inv s->Inv (f s x)/\Lf (k+1) (i:Int) s=Lf k ((i+1:Nat):Int) (f s x)){k:Nat}{s:σ}(h:Inv s)(hk:l.length<k):Lf k 0 s=some (g (l.foldl f s)):=by obtain⟨s',⟨_,h1⟩,h2⟩:=fO (l:=l) (Lf:=Lf) (g:=g) (Inv:=λi q=>Inv q/\q=(l.take i).foldl f s) (λk s _=>h0 k s) (λk i x q hx⟨h1,h2⟩=>by obtain⟨g1,g2⟩:=hs k i x q hx h1;exact⟨_,⟨g1,by rw[take_succ hx,List.foldl_append,h2];rfl⟩,g2⟩) (k:=k) (s:=s) ⟨h,rfl⟩ hk;grind
theorem Wo{m:Nat}(hm:m<2^16){s:Int}(h0:0<=s)(h:s<=15):Ct .u64 (m:Int) (aL ((1:Int)*(2^min (Int.toNat s) 64)))=((tR m s:Nat):Int):=by rw[YY h0 h,A2 (Dk hm (by omega)) (mn (by omega) (by omega))];rfl
theorem FK{m:Nat}(hm:m<2^16){s:Int}(h:s<=15):tR m s<2^16:=p3 hm (mn (by omega) (by omega))
theorem kr(f:UInt8->Int->Bool)(x:Instr):(bg f x).length<=3:=by unfold bg one<;>grind
theorem aqa{c:UInt8}(h:(U c).2.2.1=true\/(U c).2.2.2=true):(U c).2.1=15:=by
 unfold U at h⊢;repeat' split
 all_goals simp_all
theorem oM{x:Instr}(hc:eA x=true):A3 (bg mD x)/\A3 (bg pT x):=by unfold eA at hc;unfold bg;cases hs:wZ x.1with|none=>grind|some t=>
 rw[hs]at hc;simp at hc;have Wp:∀{k:UInt8}{v s:Int}{q:Bool},fits k v=true->((U k).2.2.1=true\/(U k).2.2.2=true)->s∈one (decide (v>=0)) v->0<=s/\s<=15:=λhf hu hm=>by simp only[fits,am,db,aqa hu]at hf;unfold one at hm;rename_i v s _;cases h:decide (v>=0)with|false=>rw[h]at hm;cases hm|true=>rw[h]at hm;have:=dv h;simp only[aq,bo]at hm;omega
 have aum:∀{k:UInt8}{v s:Int},fits k v=true->s∈one (mD k v) v->0<=s/\s<=15:=λ{k v s}hf hm=>by unfold mD at hm;cases hu:(U k).2.2.1with|false=>rw[hu]at hm;cases hm|true=>rw[hu,fr]at hm;exact Wp (q:=true) hf (.inl hu) hm
 have aun:∀{k:UInt8}{v s:Int},fits k v=true->s∈one (pT k v) v->0<=s/\s<=15:=λ{k v s}hf hm=>by unfold pT at hm;cases hu:(U k).2.2.2with|false=>rw[hu]at hm;cases hm|true=>rw[hu,fr]at hm;exact Wp (q:=true) hf (.inr hu) hm
 constructor;.intro s hm;grind
 .intro s hm;grind
noncomputable def QZ(x:Instr):Nat:=gy 0 (bg pT x)
noncomputable def W3(x:Instr):Nat:=gy (gy 0 (bg mD x)) (bg pT x)
theorem aeF{x:Instr}(hc:eA x=true):QZ x<2^16:=Ak (oM hc).2 (by omega)
theorem ala(x:Instr):sub (QZ x) (W3 x):=by unfold W3 QZ;rw[Al (bg pT x) (gy 0 (bg mD x))];exact xo _ _
theorem Wq{N:Nat}{l:List Int}(hN:500<N)(hl:l.length<=3)(h:A3 l):PB N l=some ((gy 0 l:Nat):Int):=by rw[PB.eq_1];have:=FJ (l:=l) (f:=tR) (g:=λm:Nat=>(m:Int)) (Inv:=λm=>m<2^16) (Lf:=λk i(m:Nat)=>f153.bz N k ((m:Int),l,(l.length:Int),i)) (λk s=>by simp only[f153.bz.eq_2,aJ,af]) (λk i x s hx hs=>by have hx2:=h x (aU hx);exact⟨FK hs hx2.2,by simp only[f153.bz.eq_2,aG (aC hx),aq,aD hx,ae,show(!decide (x<0))=true by simp;omega,aj,Wo hs hx2.1 hx2.2,ai (show i<9223372036854775807by have:=aC hx;omega)]⟩) (k:=N) (s:=0) (by omega) (by omega);simp at this;rw[this];rfl
noncomputable def nK(l:List Instr)(most:Nat):Bool:=!(l.any λx=>decide (¬W3 x<2^most))
noncomputable def Kf(l:List Instr)(params most:Int):Int:=if most<0\/most>16\/params<0\/params>most then 2 else if nK l most.toNat then 0 else 16
theorem or4(a b c d:Bool):(bif a then some true else bif b then some true else bif c then some true else some d:Option Bool)=some (a||(b||(c||d))):=by grind
theorem YZ(params most:Int):(decide (most<0)||(decide (most>16)||(decide (params<0)||decide (params>most))))=decide (most<0\/most>16\/params<0\/params>most):=by grind
end Go.Proofs.YtkdilffhbejjaaaGreat
namespace Go.Proofs.YtkdilffhbejjaaaGreat
open Go Go.bM Go.Sym
open Classical
noncomputable def Az:Nat->(Nat->Nat)->Nat|0,_=>0|n+1,f=>Az n f+f n
theorem MC{n:Nat}{f g:Nat->Nat}(h:∀k,k<n->f k=g k):Az n f=Az n g:=by induction n with|zero=>rfl|succ n ih=>simp only[Az]<;>grind
theorem Dn{n m:Nat}{f g:Nat->Nat}(hm:m<n)(h:∀k,k≠m->f k=g k):Az n f+g m=Az n g+f m:=by induction n with|zero=>omega|succ n ih=>
 simp[Az];by_cases he:m=n;.subst he;rw[MC (f:=f) (g:=g) λk hk=>h k (by omega)];omega
 grind
theorem N7{n b:Nat}{f:Nat->Nat}(h:∀k,f k<=b):Az n f<=n*b:=by induction n with|zero=>simp[Az]|succ n ih=>simp only[Az]<;>grind
noncomputable def O(o:List Nat)(k:Nat):Nat:=o.getD k 0
theorem N8{o:List Nat}{k:Nat}(h:k<o.length):o[k]?=some (O o k):=by simp only[O,ci,al h];rfl
theorem fR{o:List Nat}{m v k:Nat}(h:m<o.length):O (o.set m v) k=if k=m then v else O o k:=by simp only[O,ci,mr]<;>grind
theorem gH{o:List Nat}{k:Nat}(h:k<o.length):(cN o)[k]?=some ((O o k:Nat):Int):=by simp[cN,eJ,N8 h,ca]
theorem rK(o:List Nat)(m v:Nat):(cN o).set m (v:Int)=cN (o.set m v):=by simp[cN,List.map_set]
theorem alb{a b:List Nat}(h:a.length=b.length)(hk:∀k,k<a.length->O a k=O b k):a=b:=by
 apply la;intro k;by_cases h1:k<a.length;.rw[N8 h1,N8 (by omega),hk k h1]
 grind
theorem alc{o:List Nat}{m:Nat}(h:m<o.length):o.set m (O o m)=o:=CY (N8 h)
noncomputable def wr(l:List Instr)(i:Nat):Nat:=match l[i]?with|some x=>QZ x|none=>0
noncomputable def W4(l:List Instr)(P:Nat)(S:Nat->Nat):Prop:=sub (S 0) P/\∀i,Reach l i->∀k∈nx l i,sub (S k) (S i|||wr l i)
structure Dp(l:List Instr)(P F:Nat)(G:Nat->Nat):Prop where
 sol:W4 l P G
 KG:∀k,sub (G k) F
 most:∀S,W4 l P S->∀k,Reach l k->sub (S k) (G k)
theorem Dp.eq{l:List Instr}{P F:Nat}{G H:Nat->Nat}(h:Dp l P F G)(hs:W4 l P H)(hm:∀S,W4 l P S->(∀k,sub (S k) F)->∀k,Reach l k->sub (S k) (H k)){k:Nat}(hk:Reach l k):G k=H k:=xm (hm G h.sol h.KG k hk) (h.most H hs k hk)
structure VM(l:List Instr)(P F p s:Nat):Prop where
 v:VC l
 le:l.length<=200sle:s<=16ps:p<=s
 eP:P=2^p-1
 eF:F=2^s-1us:∀(i:Nat)x,l[i]?=some x->W3 x<2^s
theorem VM.PF{l:List Instr}{P F p s:Nat}(h:VM l P F p s):sub P F:=by rw[h.eF];refine MB.1 ?_;rw[h.eP];have:2^p<=2^s:=nn (by omega) h.ps<;>grind
theorem VM.wF{l:List Instr}{P F p s:Nat}(h:VM l P F p s)(i:Nat):sub (wr l i) F:=by
 unfold wr;split;.rename_i x hx;rw[h.eF];exact gm (ala x) (MB.1 (h.us i x hx))
 .exact zero_sub _
theorem VM.lt{l:List Instr}{P F p s a:Nat}(h:VM l P F p s)(ha:sub a F):a<65536:=by rw[h.eF]at ha;exact Dk (MB.2 ha) h.sle
structure Lv(l:List Instr)(P F:Nat)(b:List Bool)(o:List Nat):Prop where
 W5:Qq l b
 len:o.length=l.length
 KG:∀k,sub (O o k) F
 p0:sub (O o 0) P
 un:∀k,¬T b k->O o k=0tS:∀S,W4 l P S->∀k,T b k->sub (S k) (O o k)
structure LvP(l:List Instr)(P F:Nat)(b:List Bool)(o q:List Nat):Prop where
 lv:Lv l P F b o
 xl:∀k∈q,T b k
 shut:∀i,T b i->i∈q\/∀k∈nx l i,T b k/\sub (O o k) (O o i|||wr l i)
noncomputable def mu(n:Nat)(b:List Bool)(o:List Nat):Nat:=Az n λk=>if T b k then O o k else 65536
theorem aeG{n m v:Nat}{b:List Bool}{o:List Nat}(hm:m<n)(hb:b.length=n)(ho:o.length=n)(hf:¬T b m)(hv:v<65536):mu n (b.set m true) (o.set m v)+1<=mu n b o:=by
 have:=Dn (n:=n) (m:=m) (f:=λk=>if T (b.set m true) k then O (o.set m v) k else 65536) (g:=λk=>if T b k then O o k else 65536) hm (λk hk=>by
  simp only[fR (show m<o.length by omega),be hk];by_cases h:T b k;.rw[bb h,bb ((eG (by omega)).2 (.inr h))]
  .rw[be h,be λh'=>((eG (by omega)).1 h').elim hk h]);rw[be hf,bb ((eG (show m<b.length by omega)).2 (.inl rfl):T (b.set m true) m),fR (show m<o.length by omega),bb rfl]at this;unfold mu;omega
theorem Y0{n m v:Nat}{b:List Bool}{o:List Nat}(hm:m<n)(ho:o.length=n)(hf:T b m)(hv:v<O o m):mu n b (o.set m v)+1<=mu n b o:=by have:=Dn (n:=n) (m:=m) (f:=λk=>if T b k then O (o.set m v) k else 65536) (g:=λk=>if T b k then O o k else 65536) hm (λk hk=>by simp only[fR (show m<o.length by omega),be hk]);rw[bb hf,bb hf,fR (show m<o.length by omega),bb rfl]at this;unfold mu;omega
theorem xp{a b:Nat}(h:a&&&b≠a):a&&&b<a:=Nat.lt_of_le_of_ne Nat.and_le_left h
theorem Kg{N:Nat}{l:List Instr}{P F p s:Nat}(hv:VM l P F p s)(hN:500<N){b:List Bool}{o q:List Nat}{i:Nat}{ws:List Nat}(B6:∀k,O ws k=wr l k)(hwl:ws.length=l.length)(h:LvP l P F b o (q++[i]))(hq:mu l.length b o+q.length<=14000000):∃b' o' r,LvP l P F b' o' (q++r)/\mu l.length b' o'+r.length<=mu l.length b o/\f110.eW N N (l,(i:Int),cN (nx l i),((cN (nx l i)).length:Int),0,(p:Int),b,cN o,cN ws,cN q)=some (l,(p:Int),b',cN o',cN ws,cN (q++r)):=by
 have hi:T b i:=h.xl i (by simp);have N6:=h.lv.W5.reach i hi;have yY:i<l.length:=N6.lt hv.v;have hnl:=rF l i;have Hy:∀{a:Nat},sub a F->a<2^64:=λha=>i7 (hv.lt ha) (by omega);obtain⟨⟨b',o',r⟩,hI,he⟩:=fO (l:=cN (nx l i)) (g:=λt:List Bool×List Nat×List Nat=>(l,(p:Int),t.1,cN t.2.1,cN ws,cN (q++t.2.2))) (Inv:=λj t=>Lv l P F t.1 t.2.1/\(∀k∈q++t.2.2,T t.1 k)/\(∀k,T t.1 k->k∈q++t.2.2\/k=i\/∀k'∈nx l k,T t.1 k'/\sub (O t.2.1 k') (O t.2.1 k|||wr l k))/\(∀k∈(nx l i).take j,T t.1 k/\sub (O t.2.1 k) (O o i|||wr l i))/\mu l.length t.1 t.2.1+t.2.2.length<=mu l.length b o/\T t.1 i/\O t.2.1 i=O o i) (Lf:=λk j t=>f110.eW N k (l,(i:Int),cN (nx l i),((cN (nx l i)).length:Int),j,(p:Int),t.1,cN t.2.1,cN ws,cN (q++t.2.2))) (λk t _=>by simp only[f110.eW.eq_2,aJ,af]) (λk j x t hx⟨h1,h2,h3,h4,h5,h6,h7⟩=>by
   obtain⟨b1,o1,r1⟩:=t;simp only at h1 h2 h3 h4 h5 h6 h7;obtain⟨m,hm,rfl⟩:=yF hx;have hml:=Ah hv.v (aU hm);have hmb:m<b1.length:=by rw[h1.W5.len];exact hml
   have hmo:m<o1.length:=by rw[h1.len];exact hml
   have hio:i<o1.length:=by rw[h1.len];exact yY
   have hiw:i<ws.length:=by rw[hwl];exact yY
   have hj:j<9223372036854775807:=by have:=aC hm;omega
   have hlF:sub (O o1 i|||wr l i) F:=MA (h1.KG i) (hv.wF i);have hr:room ((cN (q++r1)).length+1) 8=true:=NL (by rw[bL,ba];omega) (by rw[bL,ba];omega);simp only[f110.eW.eq_2,aG (aC hm),aq,aD hx,ae,show decide ((i:Int)<0)=false by simp,af,bL,cl hio,cl hiw,cl hmb,cl hmo,aj,bd,gH hio,gH hiw,B6,A2 (Hy (h1.KG i)) (Hy (hv.wF i)),ai hj];have hle:∀k∈(nx l i).take (j+1),k∈(nx l i).take j\/k=m:=λk hk=>by rw[take_succ hm,bj,bo]at hk;exact hk
   rcases Ke hmb with hb|hb
   .have hbT:T b1 m:=hb;simp only[hb,ae,da,af,gH hmo,rK,Dm (Hy (h1.KG m)) (Hy hlF),bL,List.length_set,cl hmo,aj,gH (show m<(o1.set m (O o1 m&&&(O o1 i|||wr l i))).length by simp;exact hmo),fR hmo,ii];by_cases hnew:O o1 m&&&(O o1 i|||wr l i)=O o1 m
    .rw[hnew,alc hmo];refine⟨(b1,o1,r1),⟨h1,h2,h3,λk hk=>?_,h5,h6,h7⟩,by simp⟩;rcases hle k hk with hk|rfl;.exact h4 k hk
     .refine⟨hbT,?_⟩;have:=pU (O o1 k) (O o1 i|||wr l i);simp only;rw[hnew]at this;rw[<-h7];exact this
    .have hmi:m≠i:=λe=>hnew (by subst e;exact xm (rJ _ _) (Hx (j6 _) (Aj _ _)));have hlt:=xp hnew;have OO:∀k,sub (O (o1.set m (O o1 m&&&(O o1 i|||wr l i))) k) (O o1 k):=λk=>by
      rw[fR hmo];split;.rename_i e;subst e;exact rJ _ _
      .exact j6 _
     refine⟨(b1,o1.set m (O o1 m&&&(O o1 i|||wr l i)),r1++[m]),⟨⟨h1.W5,by simp[h1.len],λk=>gm (OO k) (h1.KG k),gm (OO 0) h1.p0,λk hk=>?_,λS hS k hk=>?_⟩,λk hk=>?_,λk hk=>?_,λk hk=>?_,?_,h6,?_⟩,?_⟩;.rw[fR hmo,be (λe=>hk (by rw[e];exact hbT))];exact h1.un k hk
     .rw[fR hmo];split;.rename_i e;subst e;exact Hx (h1.tS S hS k hk) (gm (hS.2 i N6 k (aU hm)) (or_mono (h1.tS S hS i h6) (j6 _)))
      .exact h1.tS S hS k hk
     .simp only at hk;rw[<-bi,bj,bo]at hk;rcases hk with hk|rfl;.exact h2 k hk
      .exact hbT
     .simp only;by_cases hkm:k=m;.subst hkm;exact .inl (by simp)
      .rcases h3 k hk with g|g|g;.exact .inl (by rw[<-bi];exact dp _ g)
       .exact .inr (.inl g)
       .refine .inr (.inr λk' hk'=>⟨(g k' hk').1,?_⟩);rw[fR hmo (k:=k),be hkm];exact gm (OO k') (g k' hk').2
     .simp only;rcases hle k hk with hk|rfl;.exact⟨(h4 k hk).1,gm (OO k) (h4 k hk).2⟩
      .refine⟨hbT,?_⟩;rw[fR hmo,bb rfl,<-h7];exact pU _ _
     .have:=Y0 (n:=l.length) hml h1.len hbT hlt;simp only[ba,dj];omega
     .simp only;rw[fR hmo,be (pj hmi)];exact h7
     .rw[show(((O o1 m&&&(O o1 i|||wr l i):Nat):Int)!=((O o1 m:Nat):Int))=true by simp[bne];omega,aq,show room ((q++r1).length+1) 8=true by rw[bL]at hr;exact hr,aj,<-bi,uu (q++r1) [m]];rfl
   .have hbF:¬T b1 m:=λe=>by unfold T at e;rw[hb]at e;cases e
    have hmi:m≠i:=λe=>hbF (by rw[e];exact h6);simp only[hb,ae,ge,aq,gH hmo,aj,rK,show room ((q++r1).length+1) 8=true by rw[bL]at hr;exact hr];refine⟨(b1.set m true,o1.set m (O o1 i|||wr l i),r1++[m]),⟨⟨⟨by simp[h1.W5.len],(eG hmb).2 (.inr h1.W5.zero),λk hk=>?_⟩,by simp[h1.len],λk=>?_,?_,λk hk=>?_,λS hS k hk=>?_⟩,λk hk=>?_,λk hk=>?_,λk hk=>?_,?_,(eG hmb).2 (.inr h6),?_⟩,?_⟩
    .rcases(eG hmb).1 hk with rfl|hk;.exact .step N6 (aU hm)
     .exact h1.W5.reach k hk
    .rw[fR hmo];split;.exact hlF
     .exact h1.KG k
    .rw[fR hmo,be (λe=>hbF (by rw[<-e];exact h1.W5.zero))];exact h1.p0
    .rw[fR hmo,be (λe=>hk ((eG hmb).2 (.inl e)))];exact h1.un k λh'=>hk ((eG hmb).2 (.inr h'))
    .rw[fR hmo];split;.rename_i e;subst e;exact gm (hS.2 i N6 k (aU hm)) (or_mono (h1.tS S hS i h6) (j6 _))
     .rename_i e;rcases(eG hmb).1 hk with hk|hk;.exact absurd hk e
      .exact h1.tS S hS k hk
    .simp only at hk;rw[<-bi,bj,bo]at hk;rcases hk with hk|rfl;.exact(eG hmb).2 (.inr (h2 k hk))
     .exact(eG hmb).2 (.inl rfl)
    .simp only at hk⊢;rcases(eG hmb).1 hk with rfl|hk;.exact .inl (by simp)
     .rcases h3 k hk with g|g|g;.exact .inl (by rw[<-bi];exact dp _ g)
      .exact .inr (.inl g)
      .refine .inr (.inr λk' hk'=>⟨(eG hmb).2 (.inr (g k' hk').1),?_⟩);rw[fR hmo,fR hmo,be (λe=>hbF (by rw[<-e];exact(g k' hk').1)),be (λe=>hbF (by rw[<-e];exact hk))];exact(g k' hk').2
    .simp only;rcases hle k hk with hk|rfl;.refine⟨(eG hmb).2 (.inr (h4 k hk).1),?_⟩;rw[fR hmo,be (λe=>hbF (by rw[<-e];exact(h4 k hk).1))];exact(h4 k hk).2
     .refine⟨(eG hmb).2 (.inl rfl),?_⟩;rw[fR hmo,bb rfl,h7];exact j6 _
    .have:=aeG (n:=l.length) hml h1.W5.len h1.len hbF (hv.lt hlF);simp only[ba,dj];omega
    .simp only;rw[fR hmo,be (pj hmi)];exact h7
    .rw[<-bi,uu (q++r1) [m]];rfl) (k:=N) (s:=(b,o,[])) ⟨h.lv,λk hk=>h.xl k (by simp at hk;simp[hk]),λk hk=>by
   rcases h.shut k hk with h'|h'
   .simp at h';rcases h' with h'|h';.exact .inl (by simpa using h')
    .exact .inr (.inl h')
   .exact .inr (.inr h'),λk hk=>by simp at hk,by simp,hi,rfl⟩ (by rw[bL];omega);obtain⟨h1,h2,h3,h4,h5,h6,h7⟩:=hI;refine⟨b',o',r,⟨h1,h2,λk hk=>?_⟩,h5,by simpa using he⟩;rcases h3 k hk with g|rfl|g;.grind
 .right;intro k' hk';rw[h7];exact h4 k' (by rw[bL,fi];exact hk')
 grind
end Go.Proofs.YtkdilffhbejjaaaGreat
