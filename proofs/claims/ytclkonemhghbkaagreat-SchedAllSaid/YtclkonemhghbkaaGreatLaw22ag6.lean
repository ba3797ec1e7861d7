/- Parts of the proof. -/
import Derived.Test.YtclkonemhghbkaaGreatLaw22al7c
set_option linter.unusedVariables false
set_option linter.unusedSimpArgs false
set_option linter.defProp false
noncomputable section
namespace Go.Proofs.YtclkonemhghbkaaGreat
open Go Go.bK Go.Sym
open Classical
def yR{σ β:Type}{Lf:Nat->σ->List Nat->Option β}{Inv:σ->List Nat->Prop}{μ:σ->Nat}{g:σ->β}(h0:∀k s,Inv s []->Lf (k+1) s []=some (g s))(hs:∀k s o i,Inv s (o++[i])->∃s' p,Inv s' (o++p)/\μ s'+p.length<=μ s/\Lf (k+1) s (o++[i])=Lf k s' (o++p)):∀k s o,Inv s o->μ s+o.length<k->∃s',Inv s' []/\Lf k s o=some (g s')
 |0,_,_,_,h=>by omega|k+1,s,o,hI,hk=>by
  rcases List.eq_nil_or_concat o with rfl|⟨o',i,ho⟩;.grind
  .simp at ho;subst ho;simp at hk;obtain⟨s',p,h1,h2,h3⟩:=hs k s o' i hI;obtain⟨s'',h4,h5⟩:=yR h0 hs k s' (o'++p) h1 (by simp only[bb];omega)<;>grind
def rounds{σ β:Type}{Lf:Nat->Bool->σ->Option β}{Inv FD:σ->Prop}{μ:σ->Nat}{g:σ->β}(h0:∀k s,Inv s->FD s->Lf (k+1) false s=some (g s))(hs:∀k s,Inv s->∃s' c,Inv s'/\(c=false->FD s')/\(c=true->μ s'<μ s)/\Lf (k+1) true s=Lf k c s'):∀k s,Inv s->μ s+1<k->∃s',Inv s'/\FD s'/\Lf k true s=some (g s')|0,_,_,h=>by omega|k+1,s,hI,hk=>by obtain⟨s',c,h1,h2,h3,h4⟩:=hs k s hI;cases c with|false=>obtain⟨k',rfl⟩:∃q,k=q+1:=⟨k-1,by omega⟩<;>grind|true=>obtain⟨s'',h5,h6,h7⟩:=rounds h0 hs k s' h1 (by have:=h3 rfl;omega)<;>grind
inductive Reach(l:List Instr):Nat->Prop where|zero:Reach l 0|step{i k:Nat}:Reach l i->k∈nx l i->Reach l k
def Reach.lt{l:List Instr}(h:VC l){i:Nat}(hi:Reach l i):i<l.length:=by cases hi with|zero=>exact h.pos|step _ hk=>exact BH h hk
abbrev T(b:List Bool)(k:Nat):Prop:=b[k]?=some true
def fe{b:List Bool}{i k:Nat}(hi:i<b.length):T (b.set i true) k↔k=i\/T b k:=by grind
def gm(b:List Bool):Nat:=b.countP λx=>!x
def u7{b:List Bool}{i:Nat}(h:b[i]?=some false):gm (b.set i true)+1=gm b:=by induction b generalizing i with|nil=>simp at h|cons x r ih=>cases i with|zero=>simp at h;subst h;simp[gm]|succ i=>have:=ih h;simp[gm,List.set_cons_succ,List.countP_cons]at this⊢;omega
def sK(b:List Bool):gm b<=b.length:=List.countP_le_length
def Ad{l:List Nat}{i:Nat}{x:Int}(h:(cN l)[i]?=some x):∃k,l[i]?=some k/\x=(k:Int):=by simp only[cN,fi,fb]at h<;>grind
def FE{b:List Bool}{i:Nat}(h:T b i):b.set i true=b:=LY h
def Mp{b:List Bool}{i:Nat}(h:i<b.length):b[i]?=some true\/b[i]?=some false:=by simp_all
structure SY(l:List Instr)(s:List Bool):Prop where
 len:s.length=l.length
 zero:T s 0reach:∀i,T s i->Reach l i
structure InP(l:List Instr)(s:List Bool)(o:List Nat):Prop where
 base:SY l s
 yR:∀k∈o,T s k
 shut:∀i,T s i->i∈o\/∀k∈nx l i,T s k
def T.lt{b:List Bool}{k:Nat}(h:T b k):k<b.length:=aE h
def vC(a b:List Nat):cN (a++b)=cN a++cN b:=by simp[cN]
def bO(a:List Nat):(cN a).length=a.length:=by simp[cN]
def FF{N:Nat}{l:List Instr}(hv:VC l)(hN:500<N){s:List Bool}{o:List Nat}{i:Nat}(h:InP l s (o++[i]))(ho:o.length<=1000000):∃s' p,InP l s' (o++p)/\gm s'+p.length<=gm s/\mO N N (l,(i:Int),cN (nx l i),((cN (nx l i)).length:Int),0,s,cN o)=some (l,s',cN (o++p)):=by
 have hi:T s i:=h.yR i (by simp);have QC:=h.base.reach i hi;obtain⟨⟨s',p⟩,hI,he⟩:=gv (l:=cN (nx l i)) (g:=λq:List Bool×List Nat=>(l,q.1,cN (o++q.2))) (Inv:=λj q=>SY l q.1/\(∀k∈o++q.2,T q.1 k)/\(∀k,T q.1 k->k∈o++q.2\/k=i\/∀k'∈nx l k,T q.1 k')/\(∀k∈(nx l i).take j,T q.1 k)/\gm q.1+q.2.length<=gm s/\T q.1 i) (Lf:=λk j q=>mO N k (l,(i:Int),cN (nx l i),((cN (nx l i)).length:Int),j,q.1,cN (o++q.2))) (λk q _=>by simp only[mO.eq_2,aN,af]) (λk j x q hx⟨h1,h2,h3,h4,h5,h6⟩=>by
   obtain⟨m,hm,rfl⟩:=Ad hx;have hml:=BH hv (aW hm);have tv:m<q.1.length:=by rw[h1.len];exact hml
   have hj:j<9223372036854775807:=by have:=aE hm;have:=sJ l i;omega
   have e1:=aw tv;simp only[mO.eq_2,aM (aE hx),au,aG hx,ae,cC tv,aj,bd,ai hj];rcases Mp tv with hb|hb
   .refine⟨q,⟨h1,h2,h3,λk' hk'=>?_,h5,h6⟩,?_⟩
    .rw[take_succ hm,bj,bv]at hk';rcases hk' with hk'|rfl;.exact h4 k' hk'
     .exact hb
    .simp only[hb,ae,dl,af,FE hb]
   .refine⟨(q.1.set m true,q.2++[m]),⟨⟨by simp[h1.len],(fe tv).2 (.inr h1.zero),λk' hk'=>?_⟩,λk' hk'=>?_,λk' hk'=>?_,λk' hk'=>?_,?_,(fe tv).2 (.inr h6)⟩,?_⟩
    .rcases(fe tv).1 hk' with rfl|hk';.exact .step QC (aW hm)
     .exact h1.reach k' hk'
    .rw[<-bi,bj,bv]at hk';rcases hk' with hk'|rfl;.exact(fe tv).2 (.inr (h2 k' hk'))
     .exact(fe tv).2 (.inl rfl)
    .rcases(fe tv).1 hk' with rfl|hk';.exact .inl (by simp)
     .rcases h3 k' hk' with h|h|h;.exact .inl (by rw[<-bi];exact dk _ h)
      .exact .inr (.inl h)
      .exact .inr (.inr λk'' avm=>(fe tv).2 (.inr (h k'' avm)))
    .rw[take_succ hm,bj,bv]at hk';rcases hk' with hk'|rfl;.exact(fe tv).2 (.inr (h4 k' hk'))
     .exact(fe tv).2 (.inl rfl)
    .have:=u7 hb;simp only[bb,fd,m8];omega
    .have hlen:q.2.length<=s.length:=by have:=sK s;omega
     rw[h.base.len]at hlen;have:=hv.le;have hr:room ((cN (o++q.2)).length+1) 8=true:=aq (by rw[bO,bb];omega) (by omega);simp only[hb,ae,ge,au,hr,aj];rw[<-bi,vC (o++q.2) [m]];rfl) (k:=N) (s:=(s,[])) ⟨h.base,λk hk=>h.yR k (by simp at hk;simp[hk]),λk hk=>by
      rcases h.shut k hk with h'|h'
      .simp at h';rcases h' with h'|h';.exact .inl (by simpa using h')
       .exact .inr (.inl h')
      .exact .inr (.inr h'),λk hk=>by simp at hk,by simp,hi⟩ (by rw[bO];have:=sJ l i;omega);obtain⟨h1,h2,h3,h4,h5,h6⟩:=hI;refine⟨s',p,⟨h1,h2,λk hk=>?_⟩,h5,by simpa using he⟩;rcases h3 k hk with h|rfl|h;.grind
 .right;intro k' hk';have:(nx l k).take (cN (nx l k)).length=nx l k:=by rw[bO]<;>grind
  grind
 grind
def eT(l:List Instr):List Bool:=(List.range l.length).map λk=>decide (Reach l k)
def kY{l:List Instr}{k:Nat}(h:k<l.length):(eT l)[k]?=some (decide (Reach l k)):=by simp[eT,h]
def sM(l:List Instr):(eT l).length=l.length:=by simp[eT]
def Y5{l:List Instr}(hv:VC l){k:Nat}:T (eT l) k↔Reach l k:=by
 unfold T;by_cases h:k<l.length;.rw[kY h];simp
 .rw[d8 (by rw[sM];omega)];constructor;.grind
  .intro h';exact absurd (h'.lt hv) h
def SZ{l:List Instr}{s:List Bool}(hl:s.length=l.length)(h:∀k,T s k↔Reach l k):s=eT l:=by
 apply lL;intro k;by_cases hk:k<l.length;.rw[kY hk];rcases Mp (b:=s) (i:=k) (by omega)with h1|h1<;>grind
 .rw[d8 (by omega),d8 (by rw[sM];omega)]
def SY.all{l:List Instr}{s:List Bool}(h:SY l s)(hs:∀i,T s i->∀k∈nx l i,T s k):s=eT l:=SZ h.len λk=>⟨h.reach k,λhr=>by induction hr with|zero=>exact h.zero|step _ hk ih=>grind⟩
def Ae(n:Nat):((List.replicate n false).set 0 true).length=n:=by simp
def kN{n:Nat}(h:1<=n)(k:Nat):T ((List.replicate n false).set 0 true) k↔k=0:=by grind
def Af{l:List Instr}(hv:VC l):SY l ((List.replicate l.length false).set 0 true):=⟨by simp,(kN hv.pos 0).2 rfl,λi hi=>by rw[(kN hv.pos i).1 hi];exact .zero⟩
def vD{n:Nat}(h1:1<=n)(h2:n<=10000000):av ((n:Int)-1)=((n-1:Nat):Int):=by rw[aO (by omega)];omega
def sN{α:Type}{n:Nat}(h:1<=n)(x:α):(List.replicate n x)[0]?=some x:=by grind
def Jl{N:Nat}{l:List Instr}(hv:VC l)(hN:500<N):mP N N (l,(List.replicate l.length false).set 0 true,[(0:Int)])=some (eT l):=by
 have hle:=hv.le;obtain⟨s,hI,he⟩:=yR (Inv:=λs o=>InP l s o/\gm s+o.length<=300) (μ:=gm) (g:=λs=>s) (Lf:=λk s o=>mP N k (l,s,cN o)) (λk s _=>by rw[show cN []=[]from rfl,mP.eq_2];rfl) (λk s o i⟨h,hm⟩=>by
   rw[bb,dp]at hm;have hi:T s i:=h.yR i (by simp);have Ay:i<l.length:=by rw[<-h.base.len];exact hi.lt
   obtain⟨s',p,h1,h2,h3⟩:=FF hv hN h (by omega);refine⟨s',p,⟨h1,by rw[bb];omega⟩,h2,?_⟩;have hlen:(cN (o++[i])).length=o.length+1:=by simp[cN]
   have e1:av (((o.length+1:Nat):Int)-1)=(o.length:Int):=by rw[aO (by omega)];omega
   have e2:(cN (o++[i]))[o.length]?=some (i:Int):=by simp[cN]
   have e3:(cN (o++[i])).take o.length=cN o:=by simp[cN]
   simp only[mP.eq_2,hlen,e1,bm (show((o.length+1:Nat):Int)>0 by omega),au,cC (show o.length<o.length+1by omega),aj,bd,e2,ae,show decide ((0:Int)<=(o.length:Int))=true by simp,show decide (o.length<=o.length+1)=true by simp,OV hv Ay,e3,h3]) N ((List.replicate l.length false).set 0 true) [0] ⟨⟨Af hv,λk hk=>by simp at hk;subst hk;exact(kN hv.pos 0).2 rfl,λi hi=>.inl (by rw[(kN hv.pos i).1 hi];simp)⟩,by have:=sK ((List.replicate l.length false).set 0 true);rw[Ae]at this;simp only[dp];omega⟩ (by have:=sK ((List.replicate l.length false).set 0 true);rw[Ae]at this;simp only[dp];omega);rw[show[(0:Int)]=cN [0]from rfl,he];congr 1;exact hI.1.base.all λi hi k hk=>by
  rcases hI.1.shut i hi with h|h;.simp at h
  .exact h k hk
def ahL{N:Nat}{l:List Instr}(hN:500<N)(hl:l.length<=9223372036854775807):Xl N l=some (if kq l then((eT l).set (l.length-1) true,0)else([],8)):=by rw[Xl.eq_1,OU (by omega) hl];cases h:kq l with|false=>rfl|true=>have hv:=yO h;have h1:=hv.pos;have h2:=hv.le;simp only[au,show((0:Int)!=0)=false from rfl,af,i5,bd,show decide ((0:Int)<=(l.length:Int))=true by simp,aj,bc,pi,f8,aq (show l.length<=10000000by omega) (show 1<=1000by omega),kb,show gB 0 l.length=true from cC (i:=0) h1,show Int.toNat 0=0from rfl,sN h1,ae,Jl hv hN,sM,vD h1 (by omega),cC (show l.length-1<l.length by omega),kY (show l.length-1<l.length by omega)]
def sub(a b:Nat):Prop:=∀k,a.testBit k=true->b.testBit k=true
def kG(a:Nat):sub a a:=λ_ h=>h
def gE{a b c:Nat}(h:sub a b)(k:sub b c):sub a c:=λi hi=>k i (h i hi)
def yS{a b:Nat}(h:sub a b)(k:sub b a):a=b:=Nat.eq_of_testBit_eq λi=>by
 cases h1:a.testBit i<;>cases h2:b.testBit i;.rfl
 .exact absurd (k i h2) (by rw[h1];decide)
 .exact absurd (h i h1) (by rw[h2];decide)
 .rfl
def BJ(a b:Nat):sub a (a|||b):=λk h=>by grind
def yT(a b:Nat):sub b (a|||b):=λk h=>by grind
def O0{a b c:Nat}(h:sub a c)(k:sub b c):sub (a|||b) c:=λi hi=>by simp at hi;exact hi.elim (h i) (k i)
def or_mono{a b c d:Nat}(h:sub a c)(k:sub b d):sub (a|||b) (c|||d):=O0 (gE h (BJ _ _)) (gE k (yT _ _))
def sO(a b:Nat):sub (a&&&b) a:=λk h=>by grind
def qG(a b:Nat):sub (a&&&b) b:=λk h=>by grind
def Jm{a b c:Nat}(h:sub a b)(k:sub a c):sub a (b&&&c):=λi hi=>by rw[Nat.testBit_and,h i hi,k i hi];rfl
def zero_sub(a:Nat):sub 0 a:=λk h=>by simp at h
def O1{a s:Nat}:a<2^s↔sub a (2^s-1):=by
 constructor
 .intro h k hk;rw[Nat.testBit_two_pow_sub_one];rcases im k s with h1|h1;.grind
  .rw[sT (iv h (pj (by omega) h1))]at hk<;>grind
 .intro h;refine Nat.lt_pow_two_of_testBit _ λk hk=>?_;cases hb:a.testBit k with|false=>rfl|true=>have:=h k hb<;>grind
def EF{a s t:Nat}(h:a<2^s)(hs:s<=t):a<2^t:=iv h (pj (by omega) hs)
def EG{a:Nat}(h:a<2^64):IntKind.u64.wrap (a:Int)=(a:Int):=aY (by omega)
def Cp{a b:Nat}(ha:a<2^64)(hb:b<2^64):DS .u64 (a:Int) (b:Int)=((a|||b:Nat):Int):=by
 unfold DS;have e:(BitVec.ofNat 64 a|||BitVec.ofNat 64 b).toNat=a|||b:=by grind
 show IntKind.u64.wrap (((BitVec.ofNat 64 a|||BitVec.ofNat 64 b).toNat:Nat):Int)=_;rw[e,EG (rt ha hb)]
def EH{a b:Nat}(ha:a<2^64)(hb:b<2^64):vF .u64 (a:Int) (b:Int)=((a&&&b:Nat):Int):=by
 unfold vF;have e:(BitVec.ofNat 64 a&&&BitVec.ofNat 64 b).toNat=a&&&b:=by grind
 show IntKind.u64.wrap (((BitVec.ofNat 64 a&&&BitVec.ofNat 64 b).toNat:Nat):Int)=_;rw[e,EG (Nat.lt_of_le_of_lt Nat.and_le_left ha)]
def abQ{s:Int}(h0:0<=s)(h:s<=15):aR ((1:Int)*(2^min (Int.toNat s) 64))=((2^s.toNat:Nat):Int):=by
 rw[rb (by omega),Int.one_mul];have:(2:Int)^s.toNat=((2^s.toNat:Nat):Int):=by simp
 rw[this];exact EG (n3 (by omega) (by omega))
def Hz{n:Int}(h0:0<=n)(h:n<=16):aR ((aR ((1:Int)*(2^min (Int.toNat n) 64)))-1)=((2^n.toNat-1:Nat):Int):=by
 rw[rb (by omega),Int.one_mul];have e:(2:Int)^n.toNat=((2^n.toNat:Nat):Int):=by simp
 have h2:2^n.toNat<2^64:=n3 (by omega) (by omega);have h3:1<=2^n.toNat:=Nat.one_le_two_pow;rw[e];rw[show aR ((2^n.toNat:Nat):Int)=((2^n.toNat:Nat):Int)from EG h2];have e2:((2^n.toNat:Nat):Int)-1=((2^n.toNat-1:Nat):Int):=by omega
 rw[e2];exact EG (by omega)
def u9(m:Nat)(s:Int):Nat:=m|||2^s.toNat
def gR(m:Nat)(l:List Int):Nat:=l.foldl u9 m
def Cq(l:List Int):Prop:=∀s∈l,0<=s/\s<=15
def BK{l:List Int}(h:Cq l):∀{m:Nat},m<2^16->gR m l<2^16:=by unfold gR;induction l with|nil=>grind|cons s r ih=>intro m hm;refine ih (λx hx=>h x (ci _ hx)) ?_;have:=h s ca;exact rt hm (n3 (by omega) (by omega))
def BL(l:List Int):∀m:Nat,gR m l=m|||gR 0 l:=by unfold gR;induction l with|nil=>simp|cons s r ih=>intro m;rw[xa,xa,ih (u9 m s),ih (u9 0 s)];simp[u9,Nat.or_assoc]
def HA{α σ β:Type}{l:List α}{Lf:Nat->Int->σ->Option β}{f:σ->α->σ}{g:σ->β}{Inv:σ->Prop}(h0:∀k s,Lf (k+1) (l.length:Int) s=some (g s))(hs:∀k(i:Nat)x s,l[i]?=some x->Inv s->Inv (f s x)/\Lf (k+1) (i:Int) s=Lf k ((i+1:Nat):Int) (f s x)){k:Nat}{s:σ}(h:Inv s)(hk:l.length<k):Lf k 0 s=some (g (l.foldl f s)):=by obtain⟨s',⟨_,h1⟩,h2⟩:=gv (l:=l) (Lf:=Lf) (g:=g) (Inv:=λi q=>Inv q/\q=(l.take i).foldl f s) (λk s _=>h0 k s) (λk i x q hx⟨h1,h2⟩=>by obtain⟨g1,g2⟩:=hs k i x q hx h1;exact⟨_,⟨g1,by rw[take_succ hx,List.foldl_append,h2];rfl⟩,g2⟩) (k:=k) (s:=s) ⟨h,rfl⟩ hk;grind
def Y6{m:Nat}(hm:m<2^16){s:Int}(h0:0<=s)(h:s<=15):DS .u64 (m:Int) (aR ((1:Int)*(2^min (Int.toNat s) 64)))=((u9 m s:Nat):Int):=by rw[abQ h0 h,Cp (EF hm (by omega)) (n3 (by omega) (by omega))];rfl
def HB{m:Nat}(hm:m<2^16){s:Int}(h:s<=15):u9 m s<2^16:=rt hm (n3 (by omega) (by omega))
def kZ(f:UInt8->Int->Bool)(x:Instr):(bp f x).length<=3:=by unfold bp one<;>grind
def avn{c:UInt8}(h:(U c).2.2.1=true\/(U c).2.2.2=true):(U c).2.1=15:=by
 unfold U at h⊢;repeat' split
 all_goals simp_all
def pU{x:Instr}(hc:eY x=true):Cq (bp ng x)/\Cq (bp qF x):=by unfold eY at hc;unfold bp;cases hs:yH x.1with|none=>grind|some t=>
 rw[hs]at hc;simp at hc;have Y7:∀{k:UInt8}{v s:Int}{q:Bool},fits k v=true->((U k).2.2.1=true\/(U k).2.2.2=true)->s∈one (decide (v>=0)) v->0<=s/\s<=15:=λhf hu hm=>by simp only[fits,al,db,avn hu]at hf;unfold one at hm;rename_i v s _;cases h:decide (v>=0)with|false=>rw[h]at hm;cases hm|true=>rw[h]at hm;have:=du h;simp only[au,bv]at hm;omega
 have ayU:∀{k:UInt8}{v s:Int},fits k v=true->s∈one (ng k v) v->0<=s/\s<=15:=λ{k v s}hf hm=>by unfold ng at hm;cases hu:(U k).2.2.1with|false=>rw[hu]at hm;cases hm|true=>rw[hu,f8]at hm;exact Y7 (q:=true) hf (.inl hu) hm
 have ayV:∀{k:UInt8}{v s:Int},fits k v=true->s∈one (qF k v) v->0<=s/\s<=15:=λ{k v s}hf hm=>by unfold qF at hm;cases hu:(U k).2.2.2with|false=>rw[hu]at hm;cases hm|true=>rw[hu,f8]at hm;exact Y7 (q:=true) hf (.inr hu) hm
 constructor;.intro s hm;grind
 .intro s hm;grind
def Tv(x:Instr):Nat:=gR 0 (bp qF x)
def ZV(x:Instr):Nat:=gR (gR 0 (bp ng x)) (bp qF x)
def ahM{x:Instr}(hc:eY x=true):Tv x<2^16:=BK (pU hc).2 (by omega)
def apw(x:Instr):sub (Tv x) (ZV x):=by unfold ZV Tv;rw[BL (bp qF x) (gR 0 (bp ng x))];exact yT _ _
def Y8{N:Nat}{l:List Int}(hN:500<N)(hl:l.length<=3)(h:Cq l):Sv N l=some ((gR 0 l:Nat):Int):=by rw[Sv.eq_1];have:=HA (l:=l) (f:=u9) (g:=λm:Nat=>(m:Int)) (Inv:=λm=>m<2^16) (Lf:=λk i(m:Nat)=>PP N k ((m:Int),l,(l.length:Int),i)) (λk s=>by simp only[PP.eq_2,aN,af]) (λk i x s hx hs=>by have hx2:=h x (aW hx);exact⟨HB hs hx2.2,by simp only[PP.eq_2,aM (aE hx),au,aG hx,ae,show(!decide (x<0))=true by simp;omega,aj,Y6 hs hx2.1 hx2.2,ai (show i<9223372036854775807by have:=aE hx;omega)]⟩) (k:=N) (s:=0) (by omega) (by omega);simp at this;rw[this];rfl
def oq(l:List Instr)(most:Nat):Bool:=!(l.any λx=>decide (¬ZV x<2^most))
def Mq(l:List Instr)(params most:Int):Int:=if most<0\/most>16\/params<0\/params>most then 2 else if oq l most.toNat then 0 else 16
def or4(a b c d:Bool):(bif a then some true else bif b then some true else bif c then some true else some d:Option Bool)=some (a||(b||(c||d))):=by grind
def abR(params most:Int):(decide (most<0)||(decide (most>16)||(decide (params<0)||decide (params>most))))=decide (most<0\/most>16\/params<0\/params>most):=by grind
def B0:Nat->(Nat->Nat)->Nat|0,_=>0|n+1,f=>B0 n f+f n
def O2{n:Nat}{f g:Nat->Nat}(h:∀k,k<n->f k=g k):B0 n f=B0 n g:=by induction n with|zero=>rfl|succ n ih=>simp only[B0]<;>grind
def EI{n m:Nat}{f g:Nat->Nat}(hm:m<n)(h:∀k,k≠m->f k=g k):B0 n f+g m=B0 n g+f m:=by induction n with|zero=>omega|succ n ih=>
 simp[B0];by_cases he:m=n;.subst he;rw[O2 (f:=f) (g:=g) λk hk=>h k (by omega)];omega
 grind
def QD{n b:Nat}{f:Nat->Nat}(h:∀k,f k<=b):B0 n f<=n*b:=by induction n with|zero=>simp[B0]|succ n ih=>simp only[B0]<;>grind
def O(o:List Nat)(k:Nat):Nat:=o.getD k 0
def QE{o:List Nat}{k:Nat}(h:k<o.length):o[k]?=some (O o k):=by simp only[O,da,aw h];rfl
def gx{o:List Nat}{m v k:Nat}(h:m<o.length):O (o.set m v) k=if k=m then v else O o k:=by simp only[O,da,oi]<;>grind
def hD{o:List Nat}{k:Nat}(h:k<o.length):(cN o)[k]?=some ((O o k:Nat):Int):=by simp[cN,fi,QE h,cf]
def sP(o:List Nat)(m v:Nat):(cN o).set m (v:Int)=cN (o.set m v):=by simp[cN,List.map_set]
def apx{a b:List Nat}(h:a.length=b.length)(hk:∀k,k<a.length->O a k=O b k):a=b:=by
 apply lL;intro k;by_cases h1:k<a.length;.rw[QE h1,QE (by omega),hk k h1]
 grind
def apy{o:List Nat}{m:Nat}(h:m<o.length):o.set m (O o m)=o:=LY (QE h)
def wr(l:List Instr)(i:Nat):Nat:=match l[i]?with|some x=>Tv x|none=>0
def ZW(l:List Instr)(P:Nat)(S:Nat->Nat):Prop:=sub (S 0) P/\∀i,Reach l i->∀k∈nx l i,sub (S k) (S i|||wr l i)
structure EJ(l:List Instr)(P F:Nat)(G:Nat->Nat):Prop where
 sol:ZW l P G
 M3:∀k,sub (G k) F
 most:∀S,ZW l P S->∀k,Reach l k->sub (S k) (G k)
def EJ.eq{l:List Instr}{P F:Nat}{G H:Nat->Nat}(h:EJ l P F G)(hs:ZW l P H)(hm:∀S,ZW l P S->(∀k,sub (S k) F)->∀k,Reach l k->sub (S k) (H k)){k:Nat}(hk:Reach l k):G k=H k:=yS (hm G h.sol h.M3 k hk) (h.most H hs k hk)
structure VM(l:List Instr)(P F p s:Nat):Prop where
 v:VC l
 le:l.length<=200sle:s<=16ps:p<=s
 eP:P=2^p-1
 eF:F=2^s-1us:∀(i:Nat)x,l[i]?=some x->ZV x<2^s
def VM.PF{l:List Instr}{P F p s:Nat}(h:VM l P F p s):sub P F:=by rw[h.eF];refine O1.1 ?_;rw[h.eP];have:2^p<=2^s:=pj (by omega) h.ps<;>grind
def VM.wF{l:List Instr}{P F p s:Nat}(h:VM l P F p s)(i:Nat):sub (wr l i) F:=by
 unfold wr;split;.rename_i x hx;rw[h.eF];exact gE (apw x) (O1.1 (h.us i x hx))
 .exact zero_sub _
def VM.lt{l:List Instr}{P F p s a:Nat}(h:VM l P F p s)(ha:sub a F):a<65536:=by rw[h.eF]at ha;exact EF (O1.2 ha) h.sle
structure Lv(l:List Instr)(P F:Nat)(b:List Bool)(o:List Nat):Prop where
 ZX:SY l b
 len:o.length=l.length
 M3:∀k,sub (O o k) F
 p0:sub (O o 0) P
 un:∀k,¬T b k->O o k=0va:∀S,ZW l P S->∀k,T b k->sub (S k) (O o k)
structure LvP(l:List Instr)(P F:Nat)(b:List Bool)(o q:List Nat):Prop where
 lv:Lv l P F b o
 yR:∀k∈q,T b k
 shut:∀i,T b i->i∈q\/∀k∈nx l i,T b k/\sub (O o k) (O o i|||wr l i)
def mu(n:Nat)(b:List Bool)(o:List Nat):Nat:=B0 n λk=>if T b k then O o k else 65536
def ahN{n m v:Nat}{b:List Bool}{o:List Nat}(hm:m<n)(hb:b.length=n)(ho:o.length=n)(hf:¬T b m)(hv:v<65536):mu n (b.set m true) (o.set m v)+1<=mu n b o:=by
 have:=EI (n:=n) (m:=m) (f:=λk=>if T (b.set m true) k then O (o.set m v) k else 65536) (g:=λk=>if T b k then O o k else 65536) hm (λk hk=>by
  simp only[gx (show m<o.length by omega),be hk];by_cases h:T b k;.rw[ba h,ba ((fe (by omega)).2 (.inr h))]
  .rw[be h,be λh'=>((fe (by omega)).1 h').elim hk h]);rw[be hf,ba ((fe (show m<b.length by omega)).2 (.inl rfl):T (b.set m true) m),gx (show m<o.length by omega),ba rfl]at this;unfold mu;omega
def abS{n m v:Nat}{b:List Bool}{o:List Nat}(hm:m<n)(ho:o.length=n)(hf:T b m)(hv:v<O o m):mu n b (o.set m v)+1<=mu n b o:=by have:=EI (n:=n) (m:=m) (f:=λk=>if T b k then O (o.set m v) k else 65536) (g:=λk=>if T b k then O o k else 65536) hm (λk hk=>by simp only[gx (show m<o.length by omega),be hk]);rw[ba hf,ba hf,gx (show m<o.length by omega),ba rfl]at this;unfold mu;omega
def yU{a b:Nat}(h:a&&&b≠a):a&&&b<a:=Nat.lt_of_le_of_ne Nat.and_le_left h
def Mr{N:Nat}{l:List Instr}{P F p s:Nat}(hv:VM l P F p s)(hN:500<N){b:List Bool}{o q:List Nat}{i:Nat}{ws:List Nat}(yj:∀k,O ws k=wr l k)(hwl:ws.length=l.length)(h:LvP l P F b o (q++[i]))(hq:mu l.length b o+q.length<=14000000):∃b' o' r,LvP l P F b' o' (q++r)/\mu l.length b' o'+r.length<=mu l.length b o/\iV N N (l,(i:Int),cN (nx l i),((cN (nx l i)).length:Int),0,(p:Int),b,cN o,cN ws,cN q)=some (l,(p:Int),b',cN o',cN ws,cN (q++r)):=by
 have hi:T b i:=h.yR i (by simp);have QC:=h.lv.ZX.reach i hi;have Ay:i<l.length:=QC.lt hv.v;have hnl:=sJ l i;have Jn:∀{a:Nat},sub a F->a<2^64:=λha=>iv (hv.lt ha) (by omega);obtain⟨⟨b',o',r⟩,hI,he⟩:=gv (l:=cN (nx l i)) (g:=λt:List Bool×List Nat×List Nat=>(l,(p:Int),t.1,cN t.2.1,cN ws,cN (q++t.2.2))) (Inv:=λj t=>Lv l P F t.1 t.2.1/\(∀k∈q++t.2.2,T t.1 k)/\(∀k,T t.1 k->k∈q++t.2.2\/k=i\/∀k'∈nx l k,T t.1 k'/\sub (O t.2.1 k') (O t.2.1 k|||wr l k))/\(∀k∈(nx l i).take j,T t.1 k/\sub (O t.2.1 k) (O o i|||wr l i))/\mu l.length t.1 t.2.1+t.2.2.length<=mu l.length b o/\T t.1 i/\O t.2.1 i=O o i) (Lf:=λk j t=>iV N k (l,(i:Int),cN (nx l i),((cN (nx l i)).length:Int),j,(p:Int),t.1,cN t.2.1,cN ws,cN (q++t.2.2))) (λk t _=>by simp only[iV.eq_2,aN,af]) (λk j x t hx⟨h1,h2,h3,h4,h5,h6,h7⟩=>by
   obtain⟨b1,o1,r1⟩:=t;simp only at h1 h2 h3 h4 h5 h6 h7;obtain⟨m,hm,rfl⟩:=Ad hx;have hml:=BH hv.v (aW hm);have hmb:m<b1.length:=by rw[h1.ZX.len];exact hml
   have hmo:m<o1.length:=by rw[h1.len];exact hml
   have hio:i<o1.length:=by rw[h1.len];exact Ay
   have hiw:i<ws.length:=by rw[hwl];exact Ay
   have hj:j<9223372036854775807:=by have:=aE hm;omega
   have hlF:sub (O o1 i|||wr l i) F:=O0 (h1.M3 i) (hv.wF i);have hr:room ((cN (q++r1)).length+1) 8=true:=Qj (by rw[bO,bb];omega) (by rw[bO,bb];omega);simp only[iV.eq_2,aM (aE hm),au,aG hx,ae,show decide ((i:Int)<0)=false by simp,af,bO,cC hio,cC hiw,cC hmb,cC hmo,aj,bd,hD hio,hD hiw,yj,Cp (Jn (h1.M3 i)) (Jn (hv.wF i)),ai hj];have hle:∀k∈(nx l i).take (j+1),k∈(nx l i).take j\/k=m:=λk hk=>by rw[take_succ hm,bj,bv]at hk;exact hk
   rcases Mp hmb with hb|hb
   .have hbT:T b1 m:=hb;simp only[hb,ae,dl,af,hD hmo,sP,EH (Jn (h1.M3 m)) (Jn hlF),bO,List.length_set,cC hmo,aj,hD (show m<(o1.set m (O o1 m&&&(O o1 i|||wr l i))).length by simp;exact hmo),gx hmo,i5];by_cases hnew:O o1 m&&&(O o1 i|||wr l i)=O o1 m
    .rw[hnew,apy hmo];refine⟨(b1,o1,r1),⟨h1,h2,h3,λk hk=>?_,h5,h6,h7⟩,by simp⟩;rcases hle k hk with hk|rfl;.exact h4 k hk
     .refine⟨hbT,?_⟩;have:=qG (O o1 k) (O o1 i|||wr l i);simp only;rw[hnew]at this;rw[<-h7];exact this
    .have hmi:m≠i:=λe=>hnew (by subst e;exact yS (sO _ _) (Jm (kG _) (BJ _ _)));have hlt:=yU hnew;have Im:∀k,sub (O (o1.set m (O o1 m&&&(O o1 i|||wr l i))) k) (O o1 k):=λk=>by
      rw[gx hmo];split;.rename_i e;subst e;exact sO _ _
      .exact kG _
     refine⟨(b1,o1.set m (O o1 m&&&(O o1 i|||wr l i)),r1++[m]),⟨⟨h1.ZX,by simp[h1.len],λk=>gE (Im k) (h1.M3 k),gE (Im 0) h1.p0,λk hk=>?_,λS hS k hk=>?_⟩,λk hk=>?_,λk hk=>?_,λk hk=>?_,?_,h6,?_⟩,?_⟩;.rw[gx hmo,be (λe=>hk (by rw[e];exact hbT))];exact h1.un k hk
     .rw[gx hmo];split;.rename_i e;subst e;exact Jm (h1.va S hS k hk) (gE (hS.2 i QC k (aW hm)) (or_mono (h1.va S hS i h6) (kG _)))
      .exact h1.va S hS k hk
     .simp only at hk;rw[<-bi,bj,bv]at hk;rcases hk with hk|rfl;.exact h2 k hk
      .exact hbT
     .simp only;by_cases hkm:k=m;.subst hkm;exact .inl (by simp)
      .rcases h3 k hk with g|g|g;.exact .inl (by rw[<-bi];exact dk _ g)
       .exact .inr (.inl g)
       .refine .inr (.inr λk' hk'=>⟨(g k' hk').1,?_⟩);rw[gx hmo (k:=k),be hkm];exact gE (Im k') (g k' hk').2
     .simp only;rcases hle k hk with hk|rfl;.exact⟨(h4 k hk).1,gE (Im k) (h4 k hk).2⟩
      .refine⟨hbT,?_⟩;rw[gx hmo,ba rfl,<-h7];exact qG _ _
     .have:=abS (n:=l.length) hml h1.len hbT hlt;simp only[bb,dp];omega
     .simp only;rw[gx hmo,be (pv hmi)];exact h7
     .rw[show(((O o1 m&&&(O o1 i|||wr l i):Nat):Int)!=((O o1 m:Nat):Int))=true by simp[bne];omega,au,show room ((q++r1).length+1) 8=true by rw[bO]at hr;exact hr,aj,<-bi,vC (q++r1) [m]];rfl
   .have hbF:¬T b1 m:=λe=>by unfold T at e;rw[hb]at e;cases e
    have hmi:m≠i:=λe=>hbF (by rw[e];exact h6);simp only[hb,ae,ge,au,hD hmo,aj,sP,show room ((q++r1).length+1) 8=true by rw[bO]at hr;exact hr];refine⟨(b1.set m true,o1.set m (O o1 i|||wr l i),r1++[m]),⟨⟨⟨by simp[h1.ZX.len],(fe hmb).2 (.inr h1.ZX.zero),λk hk=>?_⟩,by simp[h1.len],λk=>?_,?_,λk hk=>?_,λS hS k hk=>?_⟩,λk hk=>?_,λk hk=>?_,λk hk=>?_,?_,(fe hmb).2 (.inr h6),?_⟩,?_⟩
    .rcases(fe hmb).1 hk with rfl|hk;.exact .step QC (aW hm)
     .exact h1.ZX.reach k hk
    .rw[gx hmo];split;.exact hlF
     .exact h1.M3 k
    .rw[gx hmo,be (λe=>hbF (by rw[<-e];exact h1.ZX.zero))];exact h1.p0
    .rw[gx hmo,be (λe=>hk ((fe hmb).2 (.inl e)))];exact h1.un k λh'=>hk ((fe hmb).2 (.inr h'))
    .rw[gx hmo];split;.rename_i e;subst e;exact gE (hS.2 i QC k (aW hm)) (or_mono (h1.va S hS i h6) (kG _))
     .rename_i e;rcases(fe hmb).1 hk with hk|hk;.exact absurd hk e
      .exact h1.va S hS k hk
    .simp only at hk;rw[<-bi,bj,bv]at hk;rcases hk with hk|rfl;.exact(fe hmb).2 (.inr (h2 k hk))
     .exact(fe hmb).2 (.inl rfl)
    .simp only at hk⊢;rcases(fe hmb).1 hk with rfl|hk;.exact .inl (by simp)
     .rcases h3 k hk with g|g|g;.exact .inl (by rw[<-bi];exact dk _ g)
      .exact .inr (.inl g)
      .refine .inr (.inr λk' hk'=>⟨(fe hmb).2 (.inr (g k' hk').1),?_⟩);rw[gx hmo,gx hmo,be (λe=>hbF (by rw[<-e];exact(g k' hk').1)),be (λe=>hbF (by rw[<-e];exact hk))];exact(g k' hk').2
    .simp only;rcases hle k hk with hk|rfl;.refine⟨(fe hmb).2 (.inr (h4 k hk).1),?_⟩;rw[gx hmo,be (λe=>hbF (by rw[<-e];exact(h4 k hk).1))];exact(h4 k hk).2
     .refine⟨(fe hmb).2 (.inl rfl),?_⟩;rw[gx hmo,ba rfl,h7];exact kG _
    .have:=ahN (n:=l.length) hml h1.ZX.len h1.len hbF (hv.lt hlF);simp only[bb,dp];omega
    .simp only;rw[gx hmo,be (pv hmi)];exact h7
    .rw[<-bi,vC (q++r1) [m]];rfl) (k:=N) (s:=(b,o,[])) ⟨h.lv,λk hk=>h.yR k (by simp at hk;simp[hk]),λk hk=>by
   rcases h.shut k hk with h'|h'
   .simp at h';rcases h' with h'|h';.exact .inl (by simpa using h')
    .exact .inr (.inl h')
   .exact .inr (.inr h'),λk hk=>by simp at hk,by simp,hi,rfl⟩ (by rw[bO];omega);obtain⟨h1,h2,h3,h4,h5,h6,h7⟩:=hI;refine⟨b',o',r,⟨h1,h2,λk hk=>?_⟩,h5,by simpa using he⟩;rcases h3 k hk with g|rfl|g;.grind
 .right;intro k' hk';rw[h7];exact h4 k' (by rw[bO,f4];exact hk')
 grind
def apC{n:Nat}{b:List Bool}{o:List Nat}(h:∀k,O o k<65536):mu n b o<=n*65536:=QD λk=>by grind
def Y9(n k:Nat):O (List.replicate n 0) k=0:=by simp only[O,da,m7]<;>grind
def Za(n:Nat):List.replicate n (0:Int)=cN (List.replicate n 0):=by simp[cN]
def ql(l:List Instr)(G:Nat->Nat):List Nat:=(List.range l.length).map λk=>if Reach l k/\k≠l.length-1then G k else 0
def Ag(l:List Instr)(G:Nat->Nat):(ql l G).length=l.length:=by simp[ql]
def HC{l:List Instr}{G:Nat->Nat}{k:Nat}(h:k<l.length):O (ql l G) k=if Reach l k/\k≠l.length-1then G k else 0:=by simp[O,da,ql,h]
def Ms{l:List Instr}{G:Nat->Nat}{o:List Nat}(hl:o.length=l.length)(h:∀k,k<l.length->O o k=if Reach l k/\k≠l.length-1then G k else 0):o=ql l G:=apx (by rw[hl,Ag]) λk hk=>by rw[h k (by omega),HC (by omega)]
def O3{N:Nat}{l:List Instr}{P F p s:Nat}(hv:VM l P F p s)(hN:14000000<N){ws:List Nat}(yj:∀k,O ws k=wr l k)(hwl:ws.length=l.length):∃G o,EJ l P F G/\o.length=l.length/\(∀k,k<l.length->O o k=if Reach l k then G k else 0)/\oo N N (l,(p:Int),(List.replicate l.length false).set 0 true,(cN (List.replicate l.length 0)).set 0 (P:Int),cN ws,[(0:Int)])=some (cN o):=by
 have hpos:=hv.v.pos;have hle:=hv.le;have hP:sub P F:=hv.PF;have hO0:∀k,O ((List.replicate l.length 0).set 0 P) k=if k=0then P else 0:=λk=>by rw[gx (by simp;omega),Y9]
 have start:Lv l P F ((List.replicate l.length false).set 0 true) ((List.replicate l.length 0).set 0 P):=⟨Af hv.v,by simp,λk=>by
   rw[hO0];split;.exact hP
   .exact zero_sub _,by rw[hO0,ba rfl];exact kG _,λk hk=>by rw[hO0,be λe=>hk ((kN hpos k).2 e)],λS hS k hk=>by rw[(kN hpos k).1 hk,hO0,ba rfl];exact hS.1⟩;have hmu:∀b o,Lv l P F b o->mu l.length b o<=13200000:=λb o h=>by have:=apC (n:=l.length) (b:=b) (o:=o) λk=>hv.lt (h.M3 k);omega
 obtain⟨⟨b,o⟩,hI,he⟩:=yR (Inv:=λt q=>LvP l P F t.1 t.2 q/\mu l.length t.1 t.2+q.length<=13200001) (μ:=λt=>mu l.length t.1 t.2) (g:=λt=>cN t.2) (Lf:=λk t q=>oo N k (l,(p:Int),t.1,cN t.2,cN ws,cN q)) (λk t _=>by rw[show cN []=[]from rfl,oo.eq_2];rfl) (λk t q i⟨h,hm⟩=>by
   rw[bb,dp]at hm;have hi:T t.1 i:=h.yR i (by simp);have Ay:i<l.length:=by rw[<-h.lv.ZX.len];exact hi.lt
   obtain⟨b',o',r,h1,h2,h3⟩:=Mr (N:=N) hv (by omega) yj hwl h (by omega);refine⟨(b',o'),r,⟨h1,by rw[bb];simp only;omega⟩,h2,?_⟩;have hlen:(cN (q++[i])).length=q.length+1:=by simp[cN]
   have e1:av (((q.length+1:Nat):Int)-1)=(q.length:Int):=by rw[aO (by omega)];omega
   have e2:(cN (q++[i]))[q.length]?=some (i:Int):=by simp[cN]
   have e3:(cN (q++[i])).take q.length=cN q:=by simp[cN]
   simp only[oo.eq_2,hlen,e1,bm (show((q.length+1:Nat):Int)>0 by omega),au,cC (show q.length<q.length+1by omega),aj,bd,e2,ae,show decide ((0:Int)<=(q.length:Int))=true by simp,show decide (q.length<=q.length+1)=true by simp,OV hv.v Ay,e3,h3]) N ((List.replicate l.length false).set 0 true,(List.replicate l.length 0).set 0 P) [0] ⟨⟨start,λk hk=>by simp at hk;subst hk;exact(kN hpos 0).2 rfl,λi hi=>.inl (by rw[(kN hpos i).1 hi];simp)⟩,by have:=hmu _ _ start;simp only[dp];omega⟩ (by have:=hmu _ _ start;simp only[dp];omega);obtain⟨⟨h1,h2,h3⟩,_⟩:=hI;have hsh:∀i,T b i->∀k∈nx l i,T b k/\sub (O o k) (O o i|||wr l i):=λi hi=>by
  rcases h3 i hi with g|g;.simp at g
  .exact g
 have hall:=h1.ZX.all λi hi k hk=>(hsh i hi k hk).1;have hT:∀k,T b k↔Reach l k:=λk=>by simp only at hall;rw[hall];exact Y5 hv.v
 refine⟨O o,o,⟨⟨h1.p0,λi hi k hk=>(hsh i ((hT i).2 hi) k hk).2⟩,h1.M3,λS hS k hk=>h1.va S hS k ((hT k).2 hk)⟩,h1.len,λk hk=>?_,by rw[show[(0:Int)]=cN [0]from rfl,sP];exact he⟩;split;.rfl
 .rename_i hn;exact h1.un k λh=>hn ((hT k).1 h)
def fdiv_pow{a s:Nat}(hs:s<=16):(Int.fdiv (a:Int) (2^min (Int.toNat (s:Int)) 64)!=0)=decide (¬a<2^s):=by
 rw[bd,rb (by omega)];have e:(2:Int)^s=((2^s:Nat):Int):=by simp
 have hp:=Nat.one_le_two_pow (n:=s);rw[e,ro _ (Int.natCast_nonneg _),<-Int.natCast_ediv];by_cases h:a<2^s;.rw[Nat.div_eq_of_lt h,bo (not_not.2 h)];rfl
 .rw[bm h];have:a/2^s≠0:=λe=>by
   rw[Nat.div_eq_zero_iff]at e;rcases e with e|e;.omega
   .exact h e
  grind
def Zb{l:List Instr}{i:Nat}{x:Instr}(h:l[i]?=some x):wr l i=Tv x:=by simp[wr,h]
def Jo{N:Nat}{l:List Instr}(hv:VC l)(hN:500<N){p s:Nat}(hs:s<=16):if oq l s then∃ws:List Nat,(∀k,O ws k=wr l k)/\ws.length=l.length/\om N N (l,(s:Int),l,(l.length:Int),0,(p:Int),cN (List.replicate l.length 0))=some (.inr (l,(p:Int),cN ws))else om N N (l,(s:Int),l,(l.length:Int),0,(p:Int),cN (List.replicate l.length 0))=some (.inl 16):=by
 have hle:=hv.le;have key:=dK (l:=l) (Out:=λr=>r=.inl 16/\oq l s=false) (g:=λws:List Nat=>(.inr (l,(p:Int),cN ws):Int⊕(List Instr×Int×List Int))) (Inv:=λj ws=>ws.length=l.length/\(∀k,O ws k=if k<j then wr l k else 0)/\∀k x,k<j->l[k]?=some x->ZV x<2^s) (Lf:=λk i ws=>om N k (l,(s:Int),l,(l.length:Int),i,(p:Int),cN ws)) (λk ws _=>by simp only[om.eq_2,aN,af]) (λk j x ws hx⟨h1,h2,h3⟩=>by
   have hj:=aE hx;have hc:=hv.aL j x hx;have hw:j<ws.length:=by omega
   have zF:=pU hc;have e1:(cN ws).set j ((gR 0 (bp qF x):Nat):Int)=cN (ws.set j (Tv x)):=sP _ _ _;have yj:j<(ws.set j (Tv x)).length:=by simp;exact hw
   have ahO:∀{a:Nat},a<2^16->a<2^64:=λh=>EF h (by omega);simp only[om.eq_2,aM hj,au,aG hx,ae,OS,hc,show((0:Int)!=0)=false from rfl,af,Y8 hN (kZ qF x) zF.2,Y8 hN (kZ ng x) zF.1,bO,cC hw,aj,bd,hD hw,e1,cC yj,hD yj,gx hw,i5,Cp (ahO (BK (m:=0) zF.1 (by omega))) (ahO (ahM hc)),show(!decide ((s:Int)<0))=true by simp];have hu:gR 0 (bp ng x)|||Tv x=ZV x:=by rw[ZV,BL (bp qF x)];rfl
   rw[hu];have hf:=fdiv_pow (a:=ZV x) hs;rw[bd]at hf;simp only[hf];by_cases hsu:ZV x<2^s
   .right;rw[bo (not_not.2 hsu),af];refine⟨ws.set j (Tv x),⟨by simp[h1],λk=>?_,λk y hk hy=>?_⟩,by rw[ai (by omega)]⟩
    .rw[gx hw,h2];by_cases hk:k=j;.subst hk;rw[ba rfl,ba (by omega),Zb hx]
     .rw[be hk];by_cases hk2:k<j;.rw[ba hk2,ba (by omega)]
      .rw[be hk2,be (by omega)]
    .by_cases hk2:k=j;.subst hk2;rw[hx]at hy;injection hy with hy;subst hy;exact hsu
     .exact h3 k y (by omega) hy
   .left;rw[bm hsu,au];refine⟨_,⟨rfl,?_⟩,rfl⟩;simp only[oq,lj,kx,db];exact⟨x,aW hx,hsu⟩) (k:=N) (s:=List.replicate l.length 0) ⟨by simp,λk=>by rw[Y9,be (by omega)],λk x hk=>by omega⟩ (by omega);rcases key with⟨r,⟨h1,h2⟩,h3⟩|⟨ws,⟨h1,h2,h3⟩,h4⟩;.grind
 .have hb:oq l s=true:=by simp only[oq,d6,rx,db,not_not];intro x hx;obtain⟨i,hi,rfl⟩:=io.1 hx<;>simp_all
  rw[hb];refine⟨ws,λk=>?_,h1,h4⟩;rw[h2];split;.rfl
  .rw[wr,d8 (by omega)]
def Zc{N:Nat}{l:List Instr}(hN:14000000<N)(hl:l.length<=9223372036854775807)(Jj:kq l=true->l.length<=200)(params most:Int):if kq l then if Mq l params most=0then∃G,VM l (2^params.toNat-1) (2^most.toNat-1) params.toNat most.toNat/\EJ l (2^params.toNat-1) (2^most.toNat-1) G/\LU N (l,params,most)=some (cN (ql l G),0)else LU N (l,params,most)=some ([],Mq l params most)else LU N (l,params,most)=some ([],8):=by rw[LU.eq_1,OU (by omega) hl];cases h:kq l with|false=>rfl|true=>
  have hv:=yO h;have h1:=hv.pos;have h2:=Jj h;simp only[au,show((0:Int)!=0)=false from rfl,af,i5,or4,abR,ae];unfold Mq;by_cases ha:most<0\/most>16\/params<0\/params>most;.rw[ba ha,bm ha,au,be (by decide)]
  .rw[be ha,bo ha,af];simp only[sm,Int.not_lt]at ha;obtain⟨s,rfl⟩:∃s:Nat,most=(s:Int):=⟨most.toNat,by omega⟩;obtain⟨p,rfl⟩:∃p:Nat,params=(p:Int):=⟨params.toNat,by omega⟩;have hs:s<=16:=by omega
   have hps:p<=s:=by omega
   simp only[bd,show decide ((0:Int)<=(l.length:Int))=true by simp,aj,bc,pi,f8,aq (show l.length<=10000000by omega) (show 8<=1000by omega),aq (show l.length<=10000000by omega) (show 1<=1000by omega),Za];have key:=Jo (N:=N) hv (by omega) (p:=p) hs;by_cases hb:oq l s=true;case neg=>rw[be hb]at key;rw[be (show¬(if oq l s=true then(0:Int)else 16)=0 by rw[be hb];decide),be hb,key];rfl
   case pos=>
    rw[ba hb]at key;rw[ba (show(if oq l s=true then(0:Int)else 16)=0 by rw[ba hb])];obtain⟨ws,k1,k2,k3⟩:=key;have hVM:VM l (2^p-1) (2^s-1) p s:=⟨hv,h2,hs,hps,rfl,rfl,λi x hx=>by simp only[oq,d6,rx,db,not_not]at hb;exact hb x (aW hx)⟩;obtain⟨G,o,g1,g2,g3,g4⟩:=O3 hVM hN k1 k2;refine⟨G,hVM,g1,?_⟩;have e0:aR ((aR ((1:Int)*(2^min p 64)))-1)=((2^p-1:Nat):Int):=Hz (n:=(p:Int)) (by omega) (by omega);have Zd:av ((o.length:Int)-1)=((l.length-1:Nat):Int):=by rw[g2];exact vD h1 (by omega)
    simp only[k3,ae,bd,show decide ((0:Int)<=(l.length:Int))=true by simp,aj,bc,pi,f8,aq (show l.length<=10000000by omega) (show 8<=1000by omega),aq (show l.length<=10000000by omega) (show 1<=1000by omega),show(!decide ((p:Int)<0))=true by simp,kb,bO,show gB 0 l.length=true from cC (i:=0) h1,show Int.toNat 0=0from rfl,sN h1,hD (show 0<(List.replicate l.length 0).length by simp;omega),e0,g4,Zd,cC (show l.length-1<o.length by omega),hD (show l.length-1<o.length by omega)];congr 2;rw[show(0:Int)=((0:Nat):Int)from rfl,sP];congr 1;refine Ms (by simp[g2]) λk hk=>?_;rw[gx (by omega)];by_cases hkl:k=l.length-1;.rw[ba hkl,be (λh'=>h'.2 hkl)]
    .rw[be hkl,g3 k hk];by_cases hr:Reach l k;.rw[ba hr,ba ⟨hr,hkl⟩]
     .rw[be hr,be (λh'=>hr h'.1)]
def w8(N:Nat){x:Instr}(hc:eY x=true):Ol N (x.1,x.2.1,x.2.2.1,x.2.2.2)=some (bp ng x,bp qF x):=by rw[Ol.eq_1,uU];unfold bp;cases hs:yH x.1with|none=>simp[eY,hs]at hc|some s=>obtain⟨a,b,c⟩:=s;obtain⟨h1,h2,h3⟩:=OG hs;have e0:idx [a,b,c] 0=some a:=rfl;have e1:idx [a,b,c] 1=some b:=rfl;have e2:idx [a,b,c] 2=some c:=rfl;simp only[ae,Lz.eq_1,e0,e1,e2,YQ h1,YQ h2,YQ h3,YR h1,YR h2,YR h3];cases ng a x.2.1<;>cases qF a x.2.1<;>cases ng b x.2.2.1<;>cases qF b x.2.2.1<;>cases ng c x.2.2.2<;>cases qF c x.2.2.2<;>rfl
def O4{N:Nat}{l:List Instr}(hN:210<N)(hl:l.length<=9223372036854775807)(hx:∀x∈l,okI x):VT N l=some (bif kq l then 0 else 8):=by
 rw[VT.eq_1];unfold kq;by_cases h1:1<=l.length
 .rw[show decide ((l.length:Int)<1)=false by simp;omega,af,bm h1,ae];by_cases h2:l.length<=200;.rw[show decide ((l.length:Int)>200)=false by simp;omega,af,bm h2];have key:=LX (l:=l) (a:=(.inr l:Int⊕List Instr)) (b:=.inl 8) (p:=OT (l.length:Int)) (Lf:=λk i=>Hd N k (l,i)) (λk=>by simp only[Hd.eq_2,aN,af]) (λk i x hm hi=>by simp only[Hd.eq_2,aM (aE hi),au,aG hi,ae,Eh N (hx x hm),Qy,ai (show i<9223372036854775807by have:=aE hi;omega)];cases h1:eY x<;>cases h2:Mk (l.length:Int) x<;>simp[OT,h1,h2]) N (by omega);rw[key];cases l.any (OT (l.length:Int))with|true=>rfl|false=>simp only[jp,ns,Ml h1 hl,ae];show(bif !(YS (BG l))then _ else _)=_;grind
  grind
 grind
def Ah{N:Nat}{l:List Instr}(h:VC l){i:Nat}(hi:i<l.length):Sb N (l,(i:Int))=some (cN (nx l i)):=by exact YV h hi
def S0{N:Nat}{l:List Instr}(hv:VC l)(hN:500<N){c:Bool}{s:List Bool}{i:Nat}(Ay:i<l.length)(h:SY l s):∃s' c',SY l s'/\(c'=false->c=false/\s'=s/\(T s i->∀k∈nx l i,T s k))/\gm s'<=gm s/\(c'=true->c=true\/gm s'<gm s)/\iY N N (l,c,(i:Int),cN (nx l i),0,s)=some (l,c',(i:Int),s'):=by
 have ayY:=sJ l i;rcases Mp (b:=s) (i:=i) (by rw[h.len];exact Ay)with hb|hb
 .have QC:=h.reach i hb;obtain⟨⟨c',s'⟩,hI,he⟩:=gv (l:=cN (nx l i)) (g:=λq:Bool×List Bool=>(l,q.1,(i:Int),q.2)) (Inv:=λj q=>SY l q.2/\T q.2 i/\(q.1=false->c=false/\q.2=s/\∀k∈(nx l i).take j,T s k)/\gm q.2<=gm s/\(q.1=true->c=true\/gm q.2<gm s)) (Lf:=λk j q=>iY N k (l,q.1,(i:Int),cN (nx l i),j,q.2)) (λk q _=>by simp only[iY.eq_2,aN,af,ae]) (λk j x q hx⟨h1,h2,h3,h4,h5⟩=>by
    obtain⟨m,hm,rfl⟩:=Ad hx;have hml:=BH hv (aW hm);have tv:m<q.2.length:=by rw[h1.len];exact hml
    have hj:j<9223372036854775807:=by have:=aE hm;omega
    have avr:i<q.2.length:=by rw[h1.len];exact Ay
    have h2':q.2[i]?=some true:=h2;simp only[iY.eq_2,aM (aE hx),au,aG hx,ae,cC tv,cC avr,aj,bd,ai hj,h2'];rcases Mp tv with hb|hb
    .refine⟨q,⟨h1,h2,λhc=>?_,h4,h5⟩,by simp only[hb,ae,dl,af]⟩;obtain⟨g1,g2,g3⟩:=h3 hc;refine⟨g1,g2,λk' hk'=>?_⟩;rw[take_succ hm,bj,bv]at hk';rcases hk' with hk'|rfl;.exact g3 k' hk'
     .rw[<-g2];exact hb
    .refine⟨(true,q.2.set m true),⟨⟨by simp[h1.len],(fe tv).2 (.inr h1.zero),λk' hk'=>?_⟩,(fe tv).2 (.inr h2),(λhc=>by cases hc),?_,λ_=>.inr ?_⟩,by simp only[hb,ae,ge,au]⟩
     .rcases(fe tv).1 hk' with rfl|hk';.exact .step QC (aW hm)
      .exact h1.reach k' hk'
     .have:=u7 hb;simp only;omega
     .have:=u7 hb;simp only;omega) (k:=N) (s:=(c,s)) ⟨h,hb,λhc=>⟨hc,rfl,λk hk=>by simp at hk⟩,bc _,.inl⟩ (by rw[bO];omega);obtain⟨h1,h2,h3,h4,h5⟩:=hI;refine⟨s',c',h1,λhc=>?_,h4,h5,he⟩;obtain⟨g1,g2,g3⟩:=h3 hc;exact⟨g1,g2,λ_ k hk=>g3 k (by rw[bO,f4];exact hk)⟩
 .refine⟨s,c,h,λhc=>⟨hc,rfl,λh'=>by unfold T at h';rw[hb]at h';cases h'⟩,bc _,.inl,?_⟩;obtain⟨N',rfl⟩:∃q,N=q+1:=⟨N-1,by omega⟩;rw[iY.eq_2];cases hd:decide ((0:Int)<((cN (nx l i)).length:Int))with|false=>rfl|true=>simp[au,cC (show i<s.length by rw[h.len];exact Ay),aj,bd,hb,ae,af]
def S1{N:Nat}{l:List Instr}(hv:VC l)(hN:500<N){s:List Bool}(h:SY l s):∃s' c,SY l s'/\(c=false->∀i,T s' i->∀k∈nx l i,T s' k)/\(c=true->gm s'<gm s)/\jK N N (l,false,0,s)=some (l,c,s'):=by
 have hle:=hv.le;obtain⟨⟨c',s'⟩,hI,he⟩:=gv (l:=l) (g:=λq:Bool×List Bool=>(l,q.1,q.2)) (Inv:=λj q=>SY l q.2/\(q.1=false->q.2=s/\∀i,i<j->T s i->∀k∈nx l i,T s k)/\gm q.2<=gm s/\(q.1=true->gm q.2<gm s)) (Lf:=λk j q=>jK N k (l,q.1,j,q.2)) (λk q _=>by simp only[jK.eq_2,aN,af]) (λk j x q hx⟨h1,h2,h3,h4⟩=>by
   have hj:=aE hx;obtain⟨s',c',g1,g2,g3,g4,g5⟩:=S0 hv hN (c:=q.1) hj h1;refine⟨(c',s'),⟨g1,λhc=>?_,by simp only;omega,λhc=>?_⟩,by simp only[jK.eq_2,aM hj,au,Ah hv hj,ae,g5,ai (show j<9223372036854775807by omega)]⟩
   .obtain⟨q1,q2,q3⟩:=g2 hc;obtain⟨q4,q5⟩:=h2 q1;simp only;refine⟨by rw[q2,q4],λi hi=>?_⟩;rw[q4]at q3;by_cases hij:i=j;.subst hij;exact q3
    .exact q5 i (by omega)
   .rcases g4 hc with hc|hc;.have:=h4 hc;simp only at*;omega
    .simp only at*;omega) (k:=N) (s:=(false,s)) ⟨h,λ_=>⟨rfl,λi hi=>by omega⟩,bc _,λhc=>by cases hc⟩ (by omega);obtain⟨h1,h2,h3,h4⟩:=hI;refine⟨s',c',h1,λhc i hi=>?_,h4,he⟩;obtain⟨g1,g2⟩:=h2 hc;cases g1;exact g2 i (by rw[<-h.len];exact hi.lt) hi
def Ze{N:Nat}{l:List Instr}(hv:VC l)(hN:500<N):Sc N l=some (eT l):=by have h1:=hv.pos;have h2:=hv.le;obtain⟨s,g1,g2,g3⟩:=rounds (Inv:=SY l) (FD:=λs=>∀i,T s i->∀k∈nx l i,T s k) (μ:=gm) (g:=λs=>s) (Lf:=λk c s=>uL N k (l,c,s)) (λk s _ _=>by rw[uL.eq_2];rfl) (λk s h=>by obtain⟨s',c,g1,g2,g3,g4⟩:=S1 hv hN h;exact⟨s',c,g1,g2,g3,by simp only[uL.eq_2,au,g4,ae]⟩) N _ (Af hv) (by have:=sK ((List.replicate l.length false).set 0 true);rw[Ae]at this;omega);rw[Sc.eq_1];simp only[bd,show decide ((0:Int)<=(l.length:Int))=true by simp,aj,bc,pi,f8,aq (show l.length<=10000000by omega) (show 1<=1000by omega),kb,show gB 0 l.length=true from cC (i:=0) h1,show Int.toNat 0=0from rfl,sN h1,ae,g3];rw[g1.all g2]
def Mt{N:Nat}{n:Int}(h0:0<=n)(h:n<=16):Sj N n=some ((2^n.toNat-1:Nat):Int):=by rw[Sj.eq_1,show(!decide (n<0))=true by simp;omega,aj,Hz h0 h]
def O5{N:Nat}{x:Instr}(hN:500<N)(hc:eY x=true):Wg N (x.1,x.2.1,x.2.2.1,x.2.2.2)=some ((Tv x:Nat):Int):=by rw[Wg.eq_1,w8 N hc,ae];have h:=(pU hc).2;have hl:=kZ qF x;unfold Tv;generalize bp qF x=l at h hl;have:=HA (l:=l) (f:=u9) (g:=λm:Nat=>(m:Int)) (Inv:=λm=>m<2^16) (Lf:=λk i(m:Nat)=>H1 N k (l,(m:Int),i)) (λk s=>by simp only[H1.eq_2,aN,af]) (λk i x s hx hs=>by have hx2:=h x (aW hx);exact⟨HB hs hx2.2,by simp only[H1.eq_2,aM (aE hx),au,aG hx,ae,show(!decide (x<0))=true by simp;omega,aj,Y6 hs hx2.1 hx2.2,ai (show i<9223372036854775807by have:=aE hx;omega)]⟩) (k:=N) (s:=0) (by omega) (by omega);simp at this;rw[this];rfl
structure Rv(l:List Instr)(P F:Nat)(o:List Nat):Prop where
 len:o.length=l.length
 M3:∀k,sub (O o k) F
 p0:sub (O o 0) P
 va:∀S,ZW l P S->(∀k,sub (S k) F)->∀k,Reach l k->sub (S k) (O o k)
def mv(n:Nat)(o:List Nat):Nat:=B0 n (O o)
def abT{n m v:Nat}{o:List Nat}(hm:m<n)(ho:o.length=n)(hv:v<O o m):mv n (o.set m v)+1<=mv n o:=by have:=EI (n:=n) (m:=m) (f:=O (o.set m v)) (g:=O o) hm (λk hk=>by rw[gx (show m<o.length by omega),be hk]);rw[gx (show m<o.length by omega),ba rfl]at this;unfold mv;omega
def O6{N:Nat}{l:List Instr}{P F p s:Nat}(hv:VM l P F p s)(hN:500<N){c:Bool}{o:List Nat}{i:Nat}(Ay:i<l.length)(h:Rv l P F o):∃o' c',Rv l P F o'/\(c'=false->c=false/\o'=o/\(Reach l i->∀k∈nx l i,sub (O o k) (O o i|||wr l i)))/\mv l.length o'<=mv l.length o/\(c'=true->c=true\/mv l.length o'<mv l.length o)/\iZ N N (l,eT l,c,(i:Int),cN (nx l i),0,cN o)=some (l,eT l,c',(i:Int),cN o'):=by
 have hnl:=sJ l i;have Jn:∀{a:Nat},sub a F->a<2^64:=λha=>iv (hv.lt ha) (by omega);have e1:=aw Ay;generalize l[i]=x at e1
 have S3:idx (eT l) (i:Int)=some (decide (Reach l i)):=aG (kY Ay);by_cases QC:Reach l i;.rw[bm QC]at S3;obtain⟨⟨c',o'⟩,hI,he⟩:=gv (l:=cN (nx l i)) (g:=λq:Bool×List Nat=>(l,eT l,q.1,(i:Int),cN q.2)) (Inv:=λj q=>Rv l P F q.2/\(q.1=false->c=false/\q.2=o/\∀k∈(nx l i).take j,sub (O o k) (O o i|||wr l i))/\mv l.length q.2<=mv l.length o/\(q.1=true->c=true\/mv l.length q.2<mv l.length o)) (Lf:=λk j q=>iZ N k (l,eT l,q.1,(i:Int),cN (nx l i),j,cN q.2)) (λk q _=>by simp only[iZ.eq_2,aN,af,ae]) (λk j y q hy⟨h1,h2,h3,h4⟩=>by
    obtain⟨c1,o1⟩:=q;simp only at h1 h2 h3 h4;obtain⟨m,hm,rfl⟩:=Ad hy;have hml:=BH hv.v (aW hm);have hmo:m<o1.length:=by rw[h1.len];exact hml
    have hio:i<o1.length:=by rw[h1.len];exact Ay
    have hj:j<9223372036854775807:=by have:=aE hm;omega
    have hlF:sub (O o1 i|||wr l i) F:=O0 (h1.M3 i) (hv.wF i);have hwx:Tv x=wr l i:=(Zb e1).symm;simp only[iZ.eq_2,aM (aE hm),au,S3,aG hy,aG e1,ae,bO,cC hio,cC hmo,aj,bd,hD hio,hD hmo,O5 hN (hv.v.aL i x e1),hwx,Cp (Jn (h1.M3 i)) (Jn (hv.wF i)),EH (Jn (h1.M3 m)) (Jn hlF),ai hj,sP];by_cases hnew:O o1 m&&&(O o1 i|||wr l i)=O o1 m
    .refine⟨(c1,o1),⟨h1,λhc=>?_,h3,h4⟩,by rw[hnew];simp⟩;obtain⟨g1,g2,g3⟩:=h2 hc;refine⟨g1,g2,λk hk=>?_⟩;rw[take_succ hm,bj,bv]at hk;rcases hk with hk|rfl;.exact g3 k hk
     .have:=qG (O o1 k) (O o1 i|||wr l i);rw[hnew,g2]at this;exact this
    .have hlt:=yU hnew;have CF:=abT (n:=l.length) hml h1.len hlt;have Im:∀k,sub (O (o1.set m (O o1 m&&&(O o1 i|||wr l i))) k) (O o1 k):=λk=>by
      rw[gx hmo];split;.rename_i e;subst e;exact sO _ _
      .exact kG _
     refine⟨(true,o1.set m (O o1 m&&&(O o1 i|||wr l i))),⟨⟨by simp[h1.len],λk=>gE (Im k) (h1.M3 k),gE (Im 0) h1.p0,λS hS hb k hk=>?_⟩,λhc=>(by cases hc),by simp only;omega,λ_=>.inr (by simp only;omega)⟩,?_⟩
     .rw[gx hmo];split;.rename_i e;subst e;exact Jm (h1.va S hS hb k hk) (gE (hS.2 i QC k (aW hm)) (or_mono (h1.va S hS hb i QC) (kG _)))
      .exact h1.va S hS hb k hk
     .rw[show(((O o1 m&&&(O o1 i|||wr l i):Nat):Int)!=((O o1 m:Nat):Int))=true by rw[bne_iff_ne];omega,au]) (k:=N) (s:=(c,o)) ⟨h,λhc=>⟨hc,rfl,λk hk=>by simp at hk⟩,bc _,.inl⟩ (by rw[bO];omega);obtain⟨h1,h2,h3,h4⟩:=hI;refine⟨o',c',h1,λhc=>?_,h3,h4,he⟩;obtain⟨g1,g2,g3⟩:=h2 hc;exact⟨g1,g2,λ_ k hk=>g3 k (by rw[bO,f4];exact hk)⟩
 .rw[bo QC]at S3;refine⟨o,c,h,λhc=>⟨hc,rfl,λh'=>absurd h' QC⟩,bc _,.inl,?_⟩;obtain⟨N',rfl⟩:∃q,N=q+1:=⟨N-1,by omega⟩;rw[iZ.eq_2,S3]<;>grind
def O7{N:Nat}{l:List Instr}{P F p s:Nat}(hv:VM l P F p s)(hN:500<N){o:List Nat}(h:Rv l P F o):∃o' c,Rv l P F o'/\(c=false->∀i,Reach l i->∀k∈nx l i,sub (O o' k) (O o' i|||wr l i))/\(c=true->mv l.length o'<mv l.length o)/\kT N N (l,eT l,false,0,cN o)=some (l,eT l,c,cN o'):=by
 have hle:=hv.le;obtain⟨⟨c',o'⟩,hI,he⟩:=gv (l:=l) (g:=λq:Bool×List Nat=>(l,eT l,q.1,cN q.2)) (Inv:=λj q=>Rv l P F q.2/\(q.1=false->q.2=o/\∀i,i<j->Reach l i->∀k∈nx l i,sub (O o k) (O o i|||wr l i))/\mv l.length q.2<=mv l.length o/\(q.1=true->mv l.length q.2<mv l.length o)) (Lf:=λk j q=>kT N k (l,eT l,q.1,j,cN q.2)) (λk q _=>by simp only[kT.eq_2,aN,af]) (λk j x q hx⟨h1,h2,h3,h4⟩=>by
   have hj:=aE hx;obtain⟨o',c',g1,g2,g3,g4,g5⟩:=O6 hv hN (c:=q.1) hj h1;refine⟨(c',o'),⟨g1,λhc=>?_,by simp only;omega,λhc=>?_⟩,by simp only[kT.eq_2,aM hj,au,Ah hv.v hj,ae,g5,ai (show j<9223372036854775807by omega)]⟩
   .obtain⟨q1,q2,q3⟩:=g2 hc;obtain⟨q4,q5⟩:=h2 q1;simp only;refine⟨by rw[q2,q4],λi hi=>?_⟩;rw[q4]at q3;by_cases hij:i=j;.subst hij;exact q3
    .exact q5 i (by omega)
   .rcases g4 hc with hc|hc;.have:=h4 hc;simp only at*;omega
    .simp only at*;omega) (k:=N) (s:=(false,o)) ⟨h,λ_=>⟨rfl,λi hi=>by omega⟩,bc _,λhc=>by cases hc⟩ (by omega);obtain⟨h1,h2,h3,h4⟩:=hI;refine⟨o',c',h1,λhc i hi=>?_,h4,he⟩;obtain⟨g1,g2⟩:=h2 hc;cases g1;exact g2 i (hi.lt hv.v) hi
def abU{N:Nat}{l:List Instr}{P F p s:Nat}(hv:VM l P F p s)(hN:14000000<N):∃H,ZW l P H/\(∀S,ZW l P S->(∀k,sub (S k) F)->∀k,Reach l k->sub (S k) (H k))/\LI N (l,(p:Int),(s:Int))=some (cN (ql l H)):=by
 have hpos:=hv.v.pos;have hle:=hv.le;have hs:=hv.sle;have hps:=hv.ps;obtain⟨o1,⟨a1,a2⟩,a3⟩:=gv (l:=l) (g:=λo:List Nat=>(l,(p:Int),eT l,cN o)) (Inv:=λj o=>o.length=l.length/\∀k,O o k=if k<j then F else 0) (Lf:=λk j o=>H2 N k (l,(p:Int),(s:Int),eT l,j,cN o)) (λk q _=>by simp only[H2.eq_2,aN,af]) (λk j x o hx⟨h1,h2⟩=>by
   have hj:=aE hx;have hjo:j<o.length:=by omega
   have hf:=Mt (N:=N) (n:=(s:Int)) (by omega) (by omega);rw[bd,<-hv.eF]at hf;refine⟨o.set j F,⟨by simp[h1],λk=>?_⟩,by simp only[H2.eq_2,aM hj,au,hf,ae,bO,cC hjo,aj,bd,hD hjo,sP,ai (show j<9223372036854775807by omega)]⟩;rw[gx hjo,h2];by_cases hk:k=j;.subst hk;rw[ba rfl,ba (by omega)]
   .rw[be hk];by_cases hk2:k<j;.rw[ba hk2,ba (by omega)]
    .rw[be hk2,be (by omega)]) (k:=N) (s:=List.replicate l.length 0) ⟨by simp,λk=>by rw[Y9,be (by omega)]⟩ (by omega);have h0:0<o1.length:=by omega
 have hO:∀k,O (o1.set 0 P) k=if k=0then P else if k<l.length then F else 0:=λk=>by rw[gx h0,a2]
 have start:Rv l P F (o1.set 0 P):=⟨by simp[a1],λk=>by
   rw[hO];split;.exact hv.PF
   .split;.exact kG _
    .exact zero_sub _,by rw[hO,ba rfl];exact kG _,λS hS hb k hk=>by
   rw[hO];split;.rename_i e;subst e;exact hS.1
   .rw[ba (hk.lt hv.v)];exact hb k⟩;obtain⟨o2,b1,b2,b3⟩:=rounds (Inv:=Rv l P F) (FD:=λo=>∀i,Reach l i->∀k∈nx l i,sub (O o k) (O o i|||wr l i)) (μ:=mv l.length) (g:=λo=>(l,eT l,cN o)) (Lf:=λk c o=>uO N k (l,eT l,c,cN o)) (λk o _ _=>by rw[uO.eq_2];rfl) (λk o h=>by obtain⟨o',c,g1,g2,g3,g4⟩:=O7 (N:=N) hv (by omega) h;exact⟨o',c,g1,g2,g3,by simp only[uO.eq_2,au,g4,ae]⟩) N _ start (by have:mv l.length (o1.set 0 P)<=l.length*65536:=QD λk=>Nat.le_of_lt (hv.lt (start.M3 k));omega);refine⟨O o2,⟨b1.p0,b2⟩,b1.va,?_⟩;obtain⟨o3,⟨c1,c2⟩,c3⟩:=gv (l:=l) (g:=λo:List Nat=>cN o) (Inv:=λj o=>o.length=l.length/\∀k,k<l.length->O o k=if k<j then(if Reach l k/\k≠l.length-1then O o2 k else 0)else O o2 k) (Lf:=λk j o=>uP N k (l,eT l,j,cN o)) (λk q _=>by simp only[uP.eq_2,aN,af]) (λk j x o hx⟨h1,h2⟩=>by
   have hj:=aE hx;have hjo:j<o.length:=by omega
   have S3:idx (eT l) (j:Int)=some (decide (Reach l j)):=aG (kY hj);have Zd:=vD hpos (show l.length<=10000000by omega);simp only[uP.eq_2,aM hj,au,S3,ae,Zd,dS,bO,cC hjo,aj,bd,hD hjo,ai (show j<9223372036854775807by omega)];by_cases hr:Reach l j/\j≠l.length-1
   .refine⟨o,⟨h1,λk hk=>?_⟩,?_⟩
    .rw[h2 k hk];by_cases hkj:k=j;.subst hkj;rw[be (show¬k<k by omega),ba (show k<k+1by omega),ba hr]
     .by_cases hk2:k<j;.rw[ba hk2,ba (show k<j+1by omega)]
      .rw[be hk2,be (show¬k<j+1by omega)]
    .rw[bm hr.1,show(((j:Nat):Int)==((l.length-1:Nat):Int))=false by rw[mi];omega];rfl
   .refine⟨o.set j 0,⟨by simp[h1],λk hk=>?_⟩,?_⟩
    .rw[gx hjo];by_cases hkj:k=j;.subst hkj;rw[ba rfl,ba (show k<k+1by omega),be hr]
     .rw[be hkj,h2 k hk];by_cases hk2:k<j;.rw[ba hk2,ba (show k<j+1by omega)]
      .rw[be hk2,be (show¬k<j+1by omega)]
    .have:(!decide (Reach l j)||(((j:Nat):Int)==((l.length-1:Nat):Int)))=true:=by
      rw[gc];by_cases h1:Reach l j
      .right;rw[lx];by_cases h2:j=l.length-1;.rw[h2]
       .exact absurd ⟨h1,h2⟩ hr
      .left;rw[bo h1];rfl
     rw[this,au,show(0:Int)=((0:Nat):Int)from rfl,sP]) (k:=N) (s:=o2) ⟨b1.len,λk hk=>by rw[be (by omega)]⟩ (by omega);have hf:=Mt (N:=N) (n:=(p:Int)) (by omega) (by omega);rw[bd,<-hv.eP]at hf;have avt:o3=ql l (O o2):=Ms c1 λk hk=>by rw[c2 k hk,ba hk]
 rw[LI.eq_1];simp only[Ze hv.v (show 500<N by omega),ae,bd,show decide ((0:Int)<=(l.length:Int))=true by simp,aj,bc,pi,f8,aq (show l.length<=10000000by omega) (show 8<=1000by omega),Za,a3,hf,bO,show gB 0 o1.length=true from cC (i:=0) h0,show Int.toNat 0=0from rfl,hD h0,sP,b3,c3];rw[avt]
def Mu{l:List Instr}{G H:Nat->Nat}(h:∀k,Reach l k->G k=H k):ql l G=ql l H:=by unfold ql<;>grind
def Mv{σ β:Type}{Lf:Nat->σ->List Nat->Option β}{Inv:σ->List Nat->Prop}{μ:σ->Nat}{g:σ->β}{Out:β->Prop}(h0:∀k s,Inv s []->Lf (k+1) s []=some (g s))(hs:∀k s o i,Inv s (o++[i])->(∃r,Out r/\Lf (k+1) s (o++[i])=some r)\/∃s' p,Inv s' (o++p)/\μ s'+p.length<=μ s/\Lf (k+1) s (o++[i])=Lf k s' (o++p)):∀k s o,Inv s o->μ s+o.length<k->(∃r,Out r/\Lf k s o=some r)\/∃s',Inv s' []/\Lf k s o=some (g s')
 |0,_,_,_,h=>by omega|k+1,s,o,hI,hk=>by
  rcases List.eq_nil_or_concat o with rfl|⟨o',i,ho⟩;.grind
  .simp at ho;subst ho;simp at hk;rcases hs k s o' i hI with h|⟨s',p,h1,h2,h3⟩;.grind
   .rw[h3];exact Mv h0 hs k s' (o'++p) h1 (by simp only[bb];omega)
def EK{σ β:Type}{Lf:Nat->Bool->σ->Option β}{Inv FD:σ->Prop}{μ:σ->Nat}{g:σ->β}{Out:β->Prop}(h0:∀k s,Inv s->FD s->Lf (k+1) false s=some (g s))(hs:∀k s,Inv s->(∃r,Out r/\Lf (k+1) true s=some r)\/∃s' c,Inv s'/\(c=false->FD s')/\(c=true->μ s'<μ s)/\Lf (k+1) true s=Lf k c s'):∀k s,Inv s->μ s+1<k->(∃r,Out r/\Lf k true s=some r)\/∃s',Inv s'/\FD s'/\Lf k true s=some (g s')
 |0,_,_,h=>by omega|k+1,s,hI,hk=>by
  rcases hs k s hI with h|⟨s',c,h1,h2,h3,h4⟩;.grind
  cases c with|false=>obtain⟨k',rfl⟩:∃q,k=q+1:=⟨k-1,by omega⟩<;>grind|true=>rw[h4];exact EK h0 hs k s' h1 (by have:=h3 rfl;omega)
abbrev Sg:=Int×Int×List Field×List Instr
def sg(f:Func):Sg:=(f.2.1,f.2.2.1,f.2.2.2.1,f.2.2.2.2.1)
def O8(S:List Sg)(i:Int):Sg:=S.getD i.toNat (0,0,[],[])
def fR(sl:List Field)(s:Int):Int:=if 0<=s/\s<sl.length then(fl sl s.toNat).2else-1
def called(x:Instr):Int:=if x.1=25then x.2.2.1else if x.1=26\/x.1=27then x.2.1else-1
def wide(ts:List aB)(t:Int):Int:=up 8 (fF (exs ts) t).1
def pW(ts:List aB):List Int->Int|[]=>0|t::r=>wide ts t+pW ts r
def takes(S:List Sg)(x:Instr):List Int:=if 0<=called x then((O8 S (called x)).2.2.1.take (O8 S (called x)).1.toNat).map (·.2)else[]
def rest(S:List Sg)(sl:List Field)(x:Instr)(s:List Int):Option (List Int):=if x.1=24then some (s++[fR sl x.2.1])else if(takes S x).length<=s.length/\s.drop (s.length-(takes S x).length)=takes S x then some (s.take (s.length-(takes S x).length))else none
def S4(ts:List aB)(S:List Sg)(sl:List Field)(x:Instr)(s:List Int):Option (List Int):=(rest S sl x s).bind λt=>if pW ts t<=4096then some t else none
def n7(xn:Nat)(S:List Sg)(sl:List Field)(x:Instr):Prop:=(∀s,s∈bp ng x++bp qF x->s<sl.length)/\called x<S.length/\(x.1=2->x.2.2.1<xn)
def kd(ts:List aB)(t:Int):Int:=if t<0then 0 else(ez ts t.toNat).1
def elt(ts:List aB)(t:Int):Int:=(ez ts t.toNat).2.1
abbrev Mw(k:Int):Prop:=k=1\/k=2\/k=4
abbrev abW(ts:List aB)(t i of:Int):Prop:=kd ts t=5/\(0<=i/\i<(ez ts t.toNat).2.2.2.length)/\(fl (ez ts t.toNat).2.2.2 i.toNat).2=of
abbrev EL(ts:List aB)(g:Sg):Prop:=g.2.1<0/\(g.1=0\/g.1=1/\Mw (kd ts (fl g.2.2.1 0).2))
inductive PS(l:List Instr)(a:Instr->List Int->Option (List Int)):Nat->List Int->Prop where|zero:PS l a 0 []|step{i k:Nat}{x:Instr}{s s':List Int}:PS l a i s->l[i]?=some x->a x s=some s'->k∈nx l i->PS l a k s'
structure vI(l:List Instr)(a:Instr->List Int->Option (List Int)):Prop where
 go:∀i s x,PS l a i s->l[i]?=some x->∃s',a x s=some s'
 one:∀i s s',PS l a i s->PS l a i s'->s=s'
 last:∀s,PS l a (l.length-1) s->s=[]
def HD(l:List Instr)(a:Instr->List Int->Option (List Int))(k:Nat):List Int:=if h:∃s,PS l a k s then h.choose else[]
variable{l:List Instr}{a:Instr->List Int->Option (List Int)}
def PS.lt(hv:VC l){k:Nat}{s:List Int}(h:PS l a k s):k<l.length:=by cases h with|zero=>exact hv.pos|step _ _ _ hk=>exact BH hv hk
structure Kn(l:List Instr)(a:Instr->List Int->Option (List Int))(b:List (List Int))(m:List Bool):Prop where
 lb:b.length=l.length
 lm:m.length=l.length
 zero:T m 0/\b[0]?=some []met:∀k,T m k->∃s,b[k]?=some s/\PS l a k s
 new:∀k,k<l.length->¬T m k->b[k]?=some []
def Ai(l:List Instr)(a:Instr->List Int->Option (List Int))(b:List (List Int))(m:List Bool)(i:Nat):Prop:=∃x s s',l[i]?=some x/\b[i]?=some s/\a x s=some s'/\∀k,k∈nx l i->T m k/\b[k]?=some s'
def Kn.start(hv:VC l):Kn l a (List.replicate l.length []) ((List.replicate l.length false).set 0 true):=by have h1:=hv.pos;refine⟨by simp,by simp,⟨(kN h1 0).2 rfl,sN h1 []⟩,λk hk=>?_,λk hk _=>by rw[m7,ba hk]⟩;rw[(kN h1 k).1 hk];exact⟨[],sN h1 [],.zero⟩
def Kn.add{b:List (List Int)}{m:List Bool}(h:Kn l a b m){k:Nat}{s:List Int}(hk:k<l.length)(hn:¬T m k)(hp:PS l a k s):Kn l a (b.set k s) (m.set k true):=by
 have hm:k<m.length:=by rw[h.lm];exact hk
 have h0:(0:Nat)≠k:=λe=>hn (e▸h.zero.1);refine⟨by simp[h.lb],by simp[h.lm],⟨(fe hm).2 (.inr h.zero.1),by rw[oi,be (pv h0)];exact h.zero.2⟩,λj hj=>?_,λj hj hn=>?_⟩
 .by_cases e:j=k;.subst e;exact⟨s,by simp[h.lb,hk],hp⟩
  .rcases(fe hm).1 hj with h'|h';.grind
   .rw[oi,be (pv e)];exact h.met j h'
 .have e:j≠k:=λe=>hn ((fe hm).2 (.inl e));rw[oi,be (pv e)];exact h.new j hj λh'=>hn ((fe hm).2 (.inr h'))
def Grow(b:List (List Int))(m:List Bool)(b':List (List Int))(m':List Bool):Prop:=∀j,T m j->T m' j/\b'[j]?=b[j]?
def Grow.refl(b:List (List Int))(m:List Bool):Grow b m b m:=λ_ h=>⟨h,rfl⟩
def Grow.trans{b b' b'':List (List Int)}{m m' m'':List Bool}(h:Grow b m b' m')(h':Grow b' m' b'' m''):Grow b m b'' m'':=λj hj=>⟨(h' j (h j hj).1).1,by rw[(h' j (h j hj).1).2,(h j hj).2]⟩
def Grow.add{b:List (List Int)}{m:List Bool}{k:Nat}{s:List Int}(hn:¬T m k):Grow b m (b.set k s) (m.set k true):=λj hj=>by grind
def Ai.grow{b b':List (List Int)}{m m':List Bool}{i:Nat}(h:Ai l a b m i)(hi:T m i)(hg:Grow b m b' m'):Ai l a b' m' i:=by obtain⟨x,u,u',h1,h2,h3,h4⟩:=h;refine⟨x,u,u',h1,by rw[(hg i hi).2];exact h2,h3,λk hk=>?_⟩;obtain⟨g1,g2⟩:=h4 k hk;exact⟨(hg k g1).1,by rw[(hg k g1).2];exact g2⟩
def Kn.all{b:List (List Int)}{m:List Bool}(h:Kn l a b m)(hs:∀i,T m i->Ai l a b m i){k:Nat}{s:List Int}(hp:PS l a k s):T m k/\b[k]?=some s:=by induction hp with|zero=>exact h.zero|@step i k x s s' hi hx ha hk ih=>obtain⟨y,u,u',g1,g2,g3,g4⟩:=hs i ih.1<;>grind
def Kn.good{b:List (List Int)}{m:List Bool}(h:Kn l a b m)(hs:∀i,T m i->Ai l a b m i):(∀i s x,PS l a i s->l[i]?=some x->∃s',a x s=some s')/\∀i s s',PS l a i s->PS l a i s'->s=s':=by
 refine⟨λi s x hp hx=>?_,λi s s' h1 h2=>?_⟩;.obtain⟨h1,h2⟩:=h.all hs hp;obtain⟨y,u,u',g1,g2,g3,_⟩:=hs i h1<;>grind
 .have e:=(h.all hs h1).2;rw[(h.all hs h2).2]at e<;>grind
def Kn.get{b:List (List Int)}{m:List Bool}(h:Kn l a b m)(hs:∀i,T m i->Ai l a b m i){k:Nat}(hk:k<l.length):b[k]?=some (HD l a k):=by
 unfold HD;split;.rename_i e;exact(h.all hs e.choose_spec).2
 .rename_i e;refine h.new k hk λhT=>e ?_;obtain⟨s,_,hp⟩:=h.met k hT<;>grind
def Kn.eq{b:List (List Int)}{m:List Bool}(h:Kn l a b m)(hs:∀i,T m i->Ai l a b m i):b=(List.range l.length).map (HD l a):=by
 apply lL;intro k;by_cases hk:k<l.length;.rw[h.get hs hk,fi,rf hk];rfl
 .rw[d8 (by rw[h.lb];omega),d8 (by simp;omega)]
def vI.HD(h:vI l a){k:Nat}{s:List Int}(hp:PS l a k s):Go.Proofs.YtclkonemhghbkaaGreat.HD l a k=s:=by unfold Go.Proofs.YtclkonemhghbkaaGreat.HD;rw[dif_pos ⟨s,hp⟩];exact h.one k _ _ (Exists.choose_spec ⟨s,hp⟩) hp
def Kn.ok{b:List (List Int)}{m:List Bool}(h:Kn l a b m)(hv:VC l)(hs:∀i,T m i->Ai l a b m i):vI l a↔Go.Proofs.YtclkonemhghbkaaGreat.HD l a (l.length-1)=[]:=by
 have hp:=hv.pos;refine⟨λhk=>?_,λe=>⟨(h.good hs).1,(h.good hs).2,λs hp=>?_⟩⟩
 .unfold Go.Proofs.YtclkonemhghbkaaGreat.HD;split;.rename_i e;exact hk.last _ e.choose_spec
  .rfl
 .have e1:=(h.all hs hp).2;rw[h.get hs (by omega),e]at e1;exact(fj e1).symm
def up8{n:Int}(h:1<=n):8<=up 8 n/\up 8 n<=n+7:=by unfold up;omega
def QF(ts:List aB):∀(p q:List Int),pW ts (p++q)=pW ts p+pW ts q|[],q=>by simp[pW]|t::p,q=>by simp[nn,pW,QF ts p q];omega
def Mx(ts:List aB)(s:List Int):Prop:=∀t,t∈s->0<=t/\t<ts.length
end Go.Proofs.YtclkonemhghbkaaGreat
namespace Go.Proofs.YtclkonemhghbkaaGreat
open Go Go.bK Go.Sym
open Classical
def EM(a b:Int):(a==b)=decide (a=b):=by grind
def bu{α:Type}{c:Bool}{X Y:Option α}{u v:α}(h1:c=true->X=some u)(h2:c=false->Y=some v):(bif c then X else Y)=some (bif c then u else v):=by grind
def qm{l:List aB}{t:Int}(h:0<=t/\t<l.length):idx l t=some (ez l t.toNat):=by have:=cD (l:=l) (i:=t.toNat) ty0 (by omega);rw[rh h.1]at this;exact this
def Aj{l:List Field}{s:Int}(h:0<=s/\s<l.length):idx l s=some (fl l s.toNat):=by have:=cD (l:=l) (i:=s.toNat) ([],0) (by omega);rw[rh h.1]at this;exact this
def Jp(N:Nat)(l:List Field)(s:Int):Oy N (l,s)=some (decide (0<=s/\s<l.length)):=by rw[Oy.eq_1,gC,ae,tl]
def abX(N:Nat)(l:List (List UInt8))(s:Int):Xm N (l,s)=some (decide (0<=s/\s<l.length)):=by rw[Xm.eq_1,gC,ae,tl]
def My{N:Nat}{a:List Int}{b:Int}(ha:a.length<N)(h2:a.length<=1000):Xq N (a,b)=some (decide (b∈a)):=by
 rw[Xq.eq_1,abq.eq_1];rcases dK (l:=a) (g:=λ_:Unit=>(.inr ():Int⊕Unit)) (Out:=λr=>b∈a/\∃i:Nat,r=.inl (i:Int)) (Inv:=λi _=>∀j,j<i->a[j]?≠some b) (Lf:=λk i _=>Pi N k (a,b,(a.length:Int),i)) (λk s _=>by simp only[Pi.eq_2,aN,af]) (λk i x s hx hI=>by
   have hi:=aE hx;simp only[Pi.eq_2,aM hi,au,aG hx,ae,ai (show i<9223372036854775807by omega)];by_cases he:b=x;.subst he;exact .inl ⟨_,⟨aW hx,i,rfl⟩,by simp⟩
   .refine .inr ⟨(),λj hj=>?_,by rw[show(b==x)=false by simpa using he,af]⟩;by_cases hji:j=i;.subst hji;rw[hx];exactλe=>he (fj e).symm
    .exact hI j (by omega)) (k:=N) (s:=()) (λj hj=>by omega) ha with⟨r,⟨h1,i,rfl⟩,h3⟩|⟨_,h1,h3⟩;.simp_all
 .rw[h3,aQ (show¬b∈a fromλhm=>by obtain⟨i,hi,rfl⟩:=io.1 hm;exact h1 i hi (aw hi))];rfl
structure iD(ts:List aB)(xs:List (List UInt8))(fs:List Func):Prop where
 fit:jw ts xs fs
 Jq:eL ts xs fs
section
variable{ts:List aB}{xs:List (List UInt8)}{fs:List Func}
def iD.fn(h:iD ts xs fs){i:Nat}(hi:i<fs.length):fB ts.length (gS fs i):=by have:=h.Jq.2.2.2.2.2 i hi;unfold Ji at this<;>grind
def iD.get{f:Func}(h:iD ts xs fs){i:Nat}(hi:fs[i]?=some f):fB ts.length f:=by have:=h.fn (aE hi);unfold gS at this<;>grind
def iD.tys(h:iD ts xs fs):ts.length<=32:=h.Jq.1.1
def iD.fns(h:iD ts xs fs):1<=fs.length/\fs.length<=32:=h.Jq.2.2.1
def iD.ty(h:iD ts xs fs){t:Int}(ht:0<=t/\t<ts.length):dg ts.length t.toNat (ez ts t.toNat):=h.Jq.1.2.1 _ (by omega)
def fZ(fs:List Func):List Sg:=fs.map sg
def qn(fs:List Func):(fZ fs).length=fs.length:=by simp[fZ]
def abY{f:Func}{g:Int}(h0:0<=g)(h:fs[g.toNat]?=some f):O8 (fZ fs) g=sg f:=by unfold O8 fZ<;>grind
def EN{g:Int}(h:0<=g/\g<fs.length):∃f,idx fs g=some f/\fs[g.toNat]?=some f/\O8 (fZ fs) g=sg f:=by obtain⟨f,h1,_,h3⟩:=abw h.1 h.2;exact⟨f,h1,h3,abY h.1 h3⟩
def w9{sl:List Field}(hr:ko sl ts.length)(s:Int):-1<=fR sl s/\fR sl s<ts.length:=by
 unfold fR;split
 .have hm:fl sl s.toNat∈sl:=by unfold fl<;>grind
  have:=hr _ hm;omega
 .omega
def qH{sl:List Field}(hr:ko sl ts.length){s:Int}(hs:0<=s/\s<sl.length):0<=fR sl s/\fR sl s<ts.length:=by
 have h:=w9 hr s;refine⟨?_,h.2⟩;unfold fR;rw[ba hs];have hm:fl sl s.toNat∈sl:=by unfold fl<;>grind
 exact(hr _ hm).1
def aec(N:Nat)(f:Func)(s:Int):LQ N (ts,xs,fs,f.1,f.2.1,f.2.2.1,f.2.2.2.1,f.2.2.2.2.1,f.2.2.2.2.2.1,f.2.2.2.2.2.2,s)=some (fR f.2.2.2.1 s):=by
 rw[LQ.eq_1];simp only[Jp,ae];unfold fR;by_cases h:0<=s/\s<f.2.2.2.1.length;.rw[aU h,ba h,dl,Aj h];rfl
 grind
def aed(N:Nat){f:Func}{i:Int}(hf:idx fs i=some f)(s:Int):LC N (ts,xs,fs,i,s)=some (fR f.2.2.2.1 s):=by
 rw[LC.eq_1];simp[hf,ae,dS];unfold fR;by_cases h:0<=s/\s<f.2.2.2.1.length;.rw[aQ (show¬s<0 by omega),aQ (show¬s>=(f.2.2.2.1.length:Int)by omega),ba h,Do,Aj h];rfl
 grind
def Mz(N:Nat){t:Int}(h:-1<=t/\t<ts.length):I8 N (ts,xs,fs,t)=some (kd ts t):=by
 rw[I8.eq_1];unfold kd;by_cases h0:t<0;.grind
 .rw[aQ h0,be h0,qm (by omega)];rfl
def aee{t:Int}(h:0<=t):kd ts t=(ez ts t.toNat).1:=by unfold kd<;>grind
def Jr{t:Int}(h:kd ts t≠0):0<=t:=by unfold kd at h<;>grind
def EO{N:Nat}(hN:1300<N)(f:Func){t:Int}(h:-1<=t/\t<ts.length){K:List Int}(hK:K.length<=10)(h0:¬(0:Int)∈K):mz N (ts,xs,fs,f.1,f.2.1,f.2.2.1,f.2.2.2.1,f.2.2.2.2.1,f.2.2.2.2.2.1,f.2.2.2.2.2.2,t,K)=some (decide (kd ts t∈K)):=by
 rw[mz.eq_1];unfold kd;by_cases ht:t<0;.grind
 .simp[aU (show t>=0 by omega),au,qm (show 0<=t/\t<ts.length by omega),ae,My (show K.length<N by omega) (show K.length<=1000by omega),be ht]
def yV(N:Nat)(x:Instr):Sq N (x.1,x.2.1,x.2.2.1,x.2.2.2)=some (called x):=by rw[Sq.eq_1];unfold called<;>grind
def QG(N:Nat)(x:Instr):Sd N (x.1,x.2.1,x.2.2.1,x.2.2.2)=some (called x):=by rw[Sd.eq_1];unfold called<;>grind
def jm{x:Instr}(hc:eY x=true){p q r:UInt8}(hs:yH x.1=some (p,q,r)):(p=119\/p=114->0<=x.2.1/\x.2.1∈bp ng x++bp qF x)/\(q=119\/q=114->0<=x.2.2.1/\x.2.2.1∈bp ng x++bp qF x)/\(r=119\/r=114->0<=x.2.2.2/\x.2.2.2∈bp ng x++bp qF x):=by
 have key:∀(c:UInt8)(v:Int),fits c v=true->c=119\/c=114->0<=v/\(v∈one (ng c v) v\/v∈one (qF c v) v):=λc v h hc=>by
  unfold fits at h;rw[al,db,db]at h;rcases hc with rfl|rfl;.have h0:0<=v:=h.1;exact⟨h0,.inr (by unfold qF;rw[aU (show v>=0from h0)];exact bv.2 rfl)⟩
  .have h0:0<=v:=h.1;exact⟨h0,.inl (by unfold ng;rw[aU (show v>=0from h0)];exact bv.2 rfl)⟩
 simp[eY,hs,al]at hc;obtain⟨h1,h2,h3⟩:=hc;simp only[bp,hs,bj]<;>grind
def ER{x:Instr}(hc:eY x=true):(bp ng x).length+(bp qF x).length<=6/\∀s,s∈bp ng x++bp qF x->0<=s/\s<=15:=by
 have h1:=kZ ng x;have h2:=kZ qF x;refine⟨by omega,λs hs=>?_⟩;rcases bj.1 hs with hs|hs;.exact(pU hc).1 s hs
 .exact(pU hc).2 s hs
def apD{N:Nat}(hN:1300<N)(f:Func){x:Instr}(hc:eY x=true):Xo N (ts,xs,fs,f.1,f.2.1,f.2.2.1,f.2.2.2.1,f.2.2.2.2.1,f.2.2.2.2.2.1,f.2.2.2.2.2.2,x.1,x.2.1,x.2.2.1,x.2.2.2)=some (if n7 xs.length (fZ fs) f.2.2.2.1 x then 0 else 16):=by
 obtain⟨h6,hnn⟩:=ER hc;have hlen:(bp ng x++bp qF x).length<=6:=by grind
 have key:=gu (l:=bp ng x++bp qF x) (a:=(.inr (ts,xs,fs,f.1,f.2.1,f.2.2.1,f.2.2.2.1,f.2.2.2.2.1,f.2.2.2.2.2.1,f.2.2.2.2.2.2,x.1,x.2.1,x.2.2.1,x.2.2.2):Int⊕_)) (b:=.inl 16) (p:=λs=>!decide (0<=s/\s<f.2.2.2.1.length)) (Lf:=λk i=>Or N k (((bp ng x++bp qF x).length:Int),i,ts,xs,fs,f.1,f.2.1,f.2.2.1,f.2.2.2.1,f.2.2.2.2.1,f.2.2.2.2.2.1,f.2.2.2.2.2.2,x.1,x.2.1,x.2.2.1,x.2.2.2,bp ng x++bp qF x)) (λk _=>by simp only[Or.eq_2,aN,af]) (λk i s hx _=>by have hi:=aE hx;simp only[Or.eq_2,aM hi,au,cC hi,aj,bd,hx,ae,Jp,ai (show i<9223372036854775807by omega)];cases decide (0<=s/\s<(f.2.2.2.1.length:Int))<;>rfl) (k:=N) (by omega);rw[Xo.eq_1,OS,hc];simp only[au,ae,show((0:Int)!=0)=false from rfl,af,aq (show(bp ng x).length+(bp qF x).length<=10000000by omega) (show 8<=1000by omega),aj,key];unfold n7;rw[qn];by_cases h1:∀s,s∈bp ng x++bp qF x->s<(f.2.2.2.1.length:Int)
 .have hn:¬∃s,s∈bp ng x++bp qF x/\(!decide (0<=s/\s<(f.2.2.2.1.length:Int)))=true:=λ⟨s,hs,h⟩=>by rw[aU ⟨(hnn s hs).1,h1 s hs⟩]at h;cases h
  simp only[be hn,yV,ae,abX];by_cases h2:called x<(fs.length:Int)
  .rw[aQ (show¬called x>=(fs.length:Int)by omega)];by_cases h3:x.1=2
   .have h0:0<=x.2.2.1:=by have e:yH 2=some (119,116,45):=rfl;simp[eY,h3,e,fits,al,db]at hc;exact hc.2.1.1
    grind
   grind
  grind
 .have hy:∃s,s∈bp ng x++bp qF x/\(!decide (0<=s/\s<(f.2.2.2.1.length:Int)))=true:=by grind
  grind
def apE{N:Nat}(hN:1300<N){f:Func}{g:Int}(hf:idx fs g=some f){x:Instr}(hc:eY x=true):VY N (ts,xs,fs,g,x.1,x.2.1,x.2.2.1,x.2.2.2)=some (decide (n7 xs.length (fZ fs) f.2.2.2.1 x)):=by
 obtain⟨h6,hnn⟩:=ER hc;have hlen:(bp ng x++bp qF x).length<=6:=by grind
 have key:=gu (l:=bp ng x++bp qF x) (a:=(.inr (ts,xs,fs,x.1,x.2.1,x.2.2.1,x.2.2.2):Bool⊕_)) (b:=.inl false) (p:=λs=>decide (s>=(f.2.2.2.1.length:Int))) (Lf:=λk i=>Hk N k (g,bp ng x++bp qF x,i,ts,xs,fs,x.1,x.2.1,x.2.2.1,x.2.2.2)) (λk _=>by simp only[Hk.eq_2,aN,af]) (λk i s hx _=>by have hi:=aE hx;simp only[Hk.eq_2,aM hi,au,aG hx,ae,hf,ai (show i<9223372036854775807by omega)];cases decide (s>=(f.2.2.2.1.length:Int))<;>rfl) (k:=N) (by omega);rw[VY.eq_1,w8 N hc];simp only[ae,ii,m8,jn,aq (show(bp ng x).length<=10000000by omega) (show 8<=1000by omega),aq (show(bp ng x).length+(bp qF x).length<=10000000by omega) (show 8<=1000by omega),aj,key];have hnb:n7 xs.length (fZ fs) f.2.2.2.1 x↔(∀s,s∈bp ng x++bp qF x->s<(f.2.2.2.1.length:Int))/\called x<(fs.length:Int)/\(x.1=2->x.2.2.1<(xs.length:Int)):=by unfold n7;rw[qn]
 by_cases h1:∀s,s∈bp ng x++bp qF x->s<(f.2.2.2.1.length:Int)
 .have hn:¬∃s,s∈bp ng x++bp qF x/\decide (s>=(f.2.2.2.1.length:Int))=true:=λ⟨s,hs,h⟩=>by have:=h1 s hs;rw[aQ (by omega)]at h;cases h
  simp only[be hn,QG,ae,zR]<;>grind
 .have hy:∃s,s∈bp ng x++bp qF x/\decide (s>=(f.2.2.2.1.length:Int))=true:=by grind
  grind
end
def MA(ts:List aB)(S:List Sg)(sl:List Field)(re:Int)(x:Instr):Bool:=bif x.1==1||x.1==32then decide (kd ts (fR sl x.2.1)=2)else bif x.1==2then decide (kd ts (fR sl x.2.1)=3)else bif x.1==3||x.1==23then decide (kd ts (fR sl x.2.1)=1)else bif x.1==5then decide (fR sl x.2.1=fR sl x.2.2.1)else bif x.1==6||(x.1==7||(x.1==8||x.1==9))then decide (kd ts (fR sl x.2.1)=2/\kd ts (fR sl x.2.2.1)=2/\kd ts (fR sl x.2.2.2)=2)else bif x.1==10then decide (kd ts (fR sl x.2.1)=1/\kd ts (fR sl x.2.2.1)=2/\kd ts (fR sl x.2.2.2)=2)else bif x.1==11then decide (kd ts (fR sl x.2.1)=1/\fR sl x.2.2.1=fR sl x.2.2.2/\Mw (kd ts (fR sl x.2.2.1)))else bif x.1==12then decide (kd ts (fR sl x.2.1)=1/\kd ts (fR sl x.2.2.1)=1)else bif x.1==13then decide (abW ts (fR sl x.2.2.1) x.2.2.2 (fR sl x.2.1))else bif x.1==14then decide (abW ts (fR sl x.2.1) x.2.2.1 (fR sl x.2.2.2))else bif x.1==15then decide (kd ts (fR sl x.2.1)=4)else bif x.1==16then decide (kd ts (fR sl x.2.2.1)=4/\elt ts (fR sl x.2.2.1)=fR sl x.2.1)else bif x.1==17then decide (kd ts (fR sl x.2.1)=4/\elt ts (fR sl x.2.1)=fR sl x.2.2.1)else bif x.1==18then decide (kd ts (fR sl x.2.1)=7/\kd ts (fR sl x.2.2.1)=2)else bif x.1==19then decide ((kd ts (fR sl x.2.2.1)=7\/kd ts (fR sl x.2.2.1)=6)/\elt ts (fR sl x.2.2.1)=fR sl x.2.1/\kd ts (fR sl x.2.2.2)=2)else bif x.1==20then decide ((kd ts (fR sl x.2.1)=7\/kd ts (fR sl x.2.1)=6)/\elt ts (fR sl x.2.1)=fR sl x.2.2.2/\kd ts (fR sl x.2.2.1)=2)else bif x.1==21then decide (kd ts (fR sl x.2.1)=2/\(kd ts (fR sl x.2.2.1)=3\/kd ts (fR sl x.2.2.1)=7\/kd ts (fR sl x.2.2.1)=6))else bif x.1==25then decide (x.2.1<0\/(O8 S x.2.2.1).2.1=fR sl x.2.1)else bif x.1==26||x.1==27then decide (EL ts (O8 S x.2.1))else bif x.1==28then decide (kd ts (fR sl x.2.1)=2\/kd ts (fR sl x.2.1)=1\/kd ts (fR sl x.2.1)=3)else bif x.1==29||x.1==33then decide (kd ts (fR sl x.2.1)=1/\kd ts (fR sl x.2.2.1)=2)else bif x.1==34then decide (x.2.1<0\/re=fR sl x.2.1)else true
def n8{β:Type}{l:List Int}{q:Int->Bool}{r:β}{h:Int->β}{Lf:Nat->Int->Option β}(h0:∀k,Lf (k+1) (l.length:Int)=some r)(hs:∀k(i:Nat)x,l[i]?=some x->x∈l->Lf (k+1) (i:Int)=if q x=true then Lf k ((i+1:Nat):Int)else some (h (i:Int))){N:Nat}(hN:l.length<N):(l.all q=true/\Lf N 0=some r)\/(l.all q=false/\∃i:Nat,Lf N 0=some (h (i:Int))):=by
 rcases dK (l:=l) (g:=λ_:Unit=>r) (Out:=λz=>l.all q=false/\∃i:Nat,z=h (i:Int)) (Inv:=λi _=>∀j x,j<i->l[j]?=some x->q x=true) (Lf:=λk i _=>Lf k i) (λk _ _=>h0 k) (λk i x _ hx hI=>by cases hq:q x with|false=>exact .inl ⟨_,⟨by rw[List.all_eq_false];exact⟨x,aW hx,by rw[hq];exact Bool.false_ne_true⟩,i,rfl⟩,by show Lf _ _=_;rw[hs k i x hx (aW hx),hq];rfl⟩|true=>
  refine .inr ⟨(),λj y hj hy=>?_,by show Lf _ _=_;rw[hs k i x hx (aW hx),hq];rfl⟩;by_cases e:j=i;.subst e;rw[hx]at hy;rw[<-fj hy];exact hq
  .exact hI j y (by omega) hy) (k:=N) (s:=()) (λj x hj=>by omega) hN with⟨z,⟨h1,i,rfl⟩,h2⟩|⟨_,h1,h2⟩;.grind
 .refine .inl ⟨eQ.2 λx hx=>?_,h2⟩;obtain⟨i,hi,rfl⟩:=io.1 hx<;>simp_all
section
variable{ts:List aB}{xs:List (List UInt8)}{fs:List Func}
def abZ{N:Nat}(hN:1300<N)(f:Func){l:List Int}(hl:l.length<=10){c:Int}(hc:c=l.length)(ht:∀t,t∈l->-1<=t/\t<ts.length):(l.all (λt=>decide (kd ts t=2))=true/\mQ N N (l,c,0,ts,xs,fs,f.1,f.2.1,f.2.2.1,f.2.2.2.1,f.2.2.2.2.1,f.2.2.2.2.2.1,f.2.2.2.2.2.2)=some (.inr ()))\/(l.all (λt=>decide (kd ts t=2))=false/\∃i:Nat,mQ N N (l,c,0,ts,xs,fs,f.1,f.2.1,f.2.2.1,f.2.2.2.1,f.2.2.2.2.1,f.2.2.2.2.2.1,f.2.2.2.2.2.2)=some (.inl (i:Int))):=by subst hc;refine n8 (N:=N) (l:=l) (q:=(λt=>decide (kd ts t=2))) (r:=.inr ()) (h:=λi=>.inl i) (Lf:=λk i=>mQ N k (l,(l.length:Int),i,ts,xs,fs,f.1,f.2.1,f.2.2.1,f.2.2.2.1,f.2.2.2.2.1,f.2.2.2.2.2.1,f.2.2.2.2.2.2)) (λk=>by simp only[mQ.eq_2,aN,af]) (λk i x hx hm=>?_) (by omega);have hi:=aE hx;simp only[mQ.eq_2,aM hi,au,aG hx,ae,EO hN f (ht x hm) (show[2].length<=10by decide) (show¬(0:Int)∈[2]by decide),ai (show i<9223372036854775807by omega),bv]<;>grind
def ab0{N:Nat}(hN:1300<N)(f:Func){l:List Int}(hl:l.length<=10){c:Int}(hc:c=l.length)(ht:∀t,t∈l->-1<=t/\t<ts.length):(l.all (λt=>decide (kd ts t=2))=true/\mR N N (l,c,0,ts,xs,fs,f.1,f.2.1,f.2.2.1,f.2.2.2.1,f.2.2.2.2.1,f.2.2.2.2.2.1,f.2.2.2.2.2.2)=some (.inr ()))\/(l.all (λt=>decide (kd ts t=2))=false/\∃i:Nat,mR N N (l,c,0,ts,xs,fs,f.1,f.2.1,f.2.2.1,f.2.2.2.1,f.2.2.2.2.1,f.2.2.2.2.2.1,f.2.2.2.2.2.2)=some (.inl (i:Int))):=by subst hc;refine n8 (N:=N) (l:=l) (q:=(λt=>decide (kd ts t=2))) (r:=.inr ()) (h:=λi=>.inl i) (Lf:=λk i=>mR N k (l,(l.length:Int),i,ts,xs,fs,f.1,f.2.1,f.2.2.1,f.2.2.2.1,f.2.2.2.2.1,f.2.2.2.2.2.1,f.2.2.2.2.2.2)) (λk=>by simp only[mR.eq_2,aN,af]) (λk i x hx hm=>?_) (by omega);have hi:=aE hx;simp only[mR.eq_2,aM hi,au,aG hx,ae,EO hN f (ht x hm) (show[2].length<=10by decide) (show¬(0:Int)∈[2]by decide),ai (show i<9223372036854775807by omega),bv]<;>grind
def ab1{N:Nat}(hN:1300<N)(f:Func){l:List Int}(hl:l.length<=10){c:Int}(hc:c=l.length)(ht:∀t,t∈l->-1<=t/\t<ts.length):(l.all (λt=>decide (kd ts t=2))=true/\mT N N (l,c,0,ts,xs,fs,f.1,f.2.1,f.2.2.1,f.2.2.2.1,f.2.2.2.2.1,f.2.2.2.2.2.1,f.2.2.2.2.2.2)=some (.inr ()))\/(l.all (λt=>decide (kd ts t=2))=false/\∃i:Nat,mT N N (l,c,0,ts,xs,fs,f.1,f.2.1,f.2.2.1,f.2.2.2.1,f.2.2.2.2.1,f.2.2.2.2.2.1,f.2.2.2.2.2.2)=some (.inl (i:Int))):=by subst hc;refine n8 (N:=N) (l:=l) (q:=(λt=>decide (kd ts t=2))) (r:=.inr ()) (h:=λi=>.inl i) (Lf:=λk i=>mT N k (l,(l.length:Int),i,ts,xs,fs,f.1,f.2.1,f.2.2.1,f.2.2.2.1,f.2.2.2.2.1,f.2.2.2.2.2.1,f.2.2.2.2.2.2)) (λk=>by simp only[mT.eq_2,aN,af]) (λk i x hx hm=>?_) (by omega);have hi:=aE hx;simp only[mT.eq_2,aM hi,au,aG hx,ae,EO hN f (ht x hm) (show[2].length<=10by decide) (show¬(0:Int)∈[2]by decide),ai (show i<9223372036854775807by omega),bv]<;>grind
def ab2{N:Nat}(hN:1300<N)(f:Func){l:List Int}(hl:l.length<=10){c:Int}(hc:c=l.length)(ht:∀t,t∈l->-1<=t/\t<ts.length):(l.all (λt=>decide (kd ts t=2))=true/\mU N N (l,c,0,ts,xs,fs,f.1,f.2.1,f.2.2.1,f.2.2.2.1,f.2.2.2.2.1,f.2.2.2.2.2.1,f.2.2.2.2.2.2)=some (.inr ()))\/(l.all (λt=>decide (kd ts t=2))=false/\∃i:Nat,mU N N (l,c,0,ts,xs,fs,f.1,f.2.1,f.2.2.1,f.2.2.2.1,f.2.2.2.2.1,f.2.2.2.2.2.1,f.2.2.2.2.2.2)=some (.inl (i:Int))):=by subst hc;refine n8 (N:=N) (l:=l) (q:=(λt=>decide (kd ts t=2))) (r:=.inr ()) (h:=λi=>.inl i) (Lf:=λk i=>mU N k (l,(l.length:Int),i,ts,xs,fs,f.1,f.2.1,f.2.2.1,f.2.2.2.1,f.2.2.2.2.1,f.2.2.2.2.2.1,f.2.2.2.2.2.2)) (λk=>by simp only[mU.eq_2,aN,af]) (λk i x hx hm=>?_) (by omega);have hi:=aE hx;simp only[mU.eq_2,aM hi,au,aG hx,ae,EO hN f (ht x hm) (show[2].length<=10by decide) (show¬(0:Int)∈[2]by decide),ai (show i<9223372036854775807by omega),bv]<;>grind
def ab3{N:Nat}(hN:1300<N)(f:Func){l:List Int}(hl:l.length<=10){c:Int}(hc:c=l.length)(ht:∀t,t∈l->-1<=t/\t<ts.length):(l.all (λt=>decide (kd ts t=2))=true/\mV N N (l,c,0,ts,xs,fs,f.1,f.2.1,f.2.2.1,f.2.2.2.1,f.2.2.2.2.1,f.2.2.2.2.2.1,f.2.2.2.2.2.2)=some (.inr ()))\/(l.all (λt=>decide (kd ts t=2))=false/\∃i:Nat,mV N N (l,c,0,ts,xs,fs,f.1,f.2.1,f.2.2.1,f.2.2.2.1,f.2.2.2.2.1,f.2.2.2.2.2.1,f.2.2.2.2.2.2)=some (.inl (i:Int))):=by subst hc;refine n8 (N:=N) (l:=l) (q:=(λt=>decide (kd ts t=2))) (r:=.inr ()) (h:=λi=>.inl i) (Lf:=λk i=>mV N k (l,(l.length:Int),i,ts,xs,fs,f.1,f.2.1,f.2.2.1,f.2.2.2.1,f.2.2.2.2.1,f.2.2.2.2.2.1,f.2.2.2.2.2.2)) (λk=>by simp only[mV.eq_2,aN,af]) (λk i x hx hm=>?_) (by omega);have hi:=aE hx;simp only[mV.eq_2,aM hi,au,aG hx,ae,EO hN f (ht x hm) (show[2].length<=10by decide) (show¬(0:Int)∈[2]by decide),ai (show i<9223372036854775807by omega),bv]<;>grind
def ab4{N:Nat}(hN:1300<N)(f:Func){l:List Int}(hl:l.length<=10){c:Int}(hc:c=l.length)(ht:∀t,t∈l->-1<=t/\t<ts.length):(l.all (λt=>decide (kd ts t=2))=true/\mW N N (l,c,0,ts,xs,fs,f.1,f.2.1,f.2.2.1,f.2.2.2.1,f.2.2.2.2.1,f.2.2.2.2.2.1,f.2.2.2.2.2.2)=some (.inr ()))\/(l.all (λt=>decide (kd ts t=2))=false/\∃i:Nat,mW N N (l,c,0,ts,xs,fs,f.1,f.2.1,f.2.2.1,f.2.2.2.1,f.2.2.2.2.1,f.2.2.2.2.2.1,f.2.2.2.2.2.2)=some (.inl (i:Int))):=by subst hc;refine n8 (N:=N) (l:=l) (q:=(λt=>decide (kd ts t=2))) (r:=.inr ()) (h:=λi=>.inl i) (Lf:=λk i=>mW N k (l,(l.length:Int),i,ts,xs,fs,f.1,f.2.1,f.2.2.1,f.2.2.2.1,f.2.2.2.2.1,f.2.2.2.2.2.1,f.2.2.2.2.2.2)) (λk=>by simp only[mW.eq_2,aN,af]) (λk i x hx hm=>?_) (by omega);have hi:=aE hx;simp only[mW.eq_2,aM hi,au,aG hx,ae,EO hN f (ht x hm) (show[2].length<=10by decide) (show¬(0:Int)∈[2]by decide),ai (show i<9223372036854775807by omega),bv]<;>grind
def ab5{N:Nat}(hN:1300<N)(f:Func){l:List Int}(hl:l.length<=10){c:Int}(hc:c=l.length)(ht:∀t,t∈l->-1<=t/\t<ts.length):(l.all (λt=>decide (kd ts t=2))=true/\mY N N (l,c,0,ts,xs,fs,f.1,f.2.1,f.2.2.1,f.2.2.2.1,f.2.2.2.2.1,f.2.2.2.2.2.1,f.2.2.2.2.2.2)=some (.inr ()))\/(l.all (λt=>decide (kd ts t=2))=false/\∃i:Nat,mY N N (l,c,0,ts,xs,fs,f.1,f.2.1,f.2.2.1,f.2.2.2.1,f.2.2.2.2.1,f.2.2.2.2.2.1,f.2.2.2.2.2.2)=some (.inl (i:Int))):=by subst hc;refine n8 (N:=N) (l:=l) (q:=(λt=>decide (kd ts t=2))) (r:=.inr ()) (h:=λi=>.inl i) (Lf:=λk i=>mY N k (l,(l.length:Int),i,ts,xs,fs,f.1,f.2.1,f.2.2.1,f.2.2.2.1,f.2.2.2.2.1,f.2.2.2.2.2.1,f.2.2.2.2.2.2)) (λk=>by simp only[mY.eq_2,aN,af]) (λk i x hx hm=>?_) (by omega);have hi:=aE hx;simp only[mY.eq_2,aM hi,au,aG hx,ae,EO hN f (ht x hm) (show[2].length<=10by decide) (show¬(0:Int)∈[2]by decide),ai (show i<9223372036854775807by omega),bv]<;>grind
def ab6{N:Nat}(hN:1300<N)(f:Func){l:List Int}(hl:l.length<=10){c:Int}(hc:c=l.length)(ht:∀t,t∈l->-1<=t/\t<ts.length):(l.all (λt=>decide (kd ts t=2))=true/\mX N N (l,c,0,ts,xs,fs,f.1,f.2.1,f.2.2.1,f.2.2.2.1,f.2.2.2.2.1,f.2.2.2.2.2.1,f.2.2.2.2.2.2)=some (.inr (ts,xs,fs,f.1,f.2.1,f.2.2.1,f.2.2.2.1,f.2.2.2.2.1,f.2.2.2.2.2.1,f.2.2.2.2.2.2)))\/(l.all (λt=>decide (kd ts t=2))=false/\∃i:Nat,mX N N (l,c,0,ts,xs,fs,f.1,f.2.1,f.2.2.1,f.2.2.2.1,f.2.2.2.2.1,f.2.2.2.2.2.1,f.2.2.2.2.2.2)=some (.inl ((i:Int),ts,xs,fs,f.1,f.2.1,f.2.2.1,f.2.2.2.1,f.2.2.2.2.1,f.2.2.2.2.2.1,f.2.2.2.2.2.2))):=by subst hc;refine n8 (N:=N) (l:=l) (q:=(λt=>decide (kd ts t=2))) (r:=.inr (ts,xs,fs,f.1,f.2.1,f.2.2.1,f.2.2.2.1,f.2.2.2.2.1,f.2.2.2.2.2.1,f.2.2.2.2.2.2)) (h:=λi=>.inl (i,ts,xs,fs,f.1,f.2.1,f.2.2.1,f.2.2.2.1,f.2.2.2.2.1,f.2.2.2.2.2.1,f.2.2.2.2.2.2)) (Lf:=λk i=>mX N k (l,(l.length:Int),i,ts,xs,fs,f.1,f.2.1,f.2.2.1,f.2.2.2.1,f.2.2.2.2.1,f.2.2.2.2.2.1,f.2.2.2.2.2.2)) (λk=>by simp only[mX.eq_2,aN,af]) (λk i x hx hm=>?_) (by omega);have hi:=aE hx;simp only[mX.eq_2,aM hi,au,aG hx,ae,EO hN f (ht x hm) (show[2].length<=10by decide) (show¬(0:Int)∈[2]by decide),ai (show i<9223372036854775807by omega),bv]<;>grind
def apF{N:Nat}(hN:1300<N)(hv:iD ts xs fs)(f:Func){t i o:Int}(h:-1<=t/\t<ts.length):Sr N (ts,xs,fs,f.1,f.2.1,f.2.2.1,f.2.2.2.1,f.2.2.2.2.1,f.2.2.2.2.2.1,f.2.2.2.2.2.2,t,i,o)=some (decide (abW ts t i o)):=by
 rw[Sr.eq_1];simp only[EO hN f h (show[5].length<=10by decide) (show¬(0:Int)∈[5]by decide),ae,bv];by_cases h5:kd ts t=5
 .have h0:=Jr (ts:=ts) (t:=t) (by omega);rw[aU h5,au,qm ⟨h0,h.2⟩];simp only[ae,Jp];by_cases hi:0<=i/\i<(ez ts t.toNat).2.2.2.length;.rw[aU hi,au,Aj hi,ae]<;>grind
  grind
 grind
def apG{N:Nat}(hv:iD ts xs fs){t i o:Int}(h:-1<=t/\t<ts.length)(ho:0<=o):(Sf N (ts,xs,fs,t,i)).bind (λA=>some (A==o))=some (decide (abW ts t i o)):=by
 rw[Sf.eq_1,Mz N h];simp only[ae];by_cases h5:kd ts t=5
 .have h0:=Jr (ts:=ts) (t:=t) (by omega);rw[show(kd ts t !=5)=false by simp[h5],af,qm ⟨h0,h.2⟩];simp only[ae,dS];by_cases hi:0<=i/\i<(ez ts t.toNat).2.2.2.length;.rw[aQ (show¬i<0 by omega),aQ (show¬i>=((ez ts t.toNat).2.2.2.length:Int)by omega),Do,af,Aj hi]<;>grind
  .rw[show(decide (i<0)||decide (i>=((ez ts t.toNat).2.2.2.length:Int)))=true by rw[<-Bool.decide_or];exact aU (by omega),au,ae,aQ (λh:(_/\_/\_)=>hi h.2.1),show((-1:Int)==o)=false by rw[mi];omega]
 .rw[show(kd ts t !=5)=true by simp[bne,h5],au,ae,au,ae,aQ (λh:(_/\_/\_)=>h5 h.1),show((-1:Int)==o)=false by rw[mi];omega]
def ab7{N:Nat}(hN:1300<N)(f:Func){t o:Int}(h:-1<=t/\t<ts.length){K:List Int}(hK:K.length<=10)(h0:¬(0:Int)∈K):LR N (ts,xs,fs,f.1,f.2.1,f.2.2.1,f.2.2.2.1,f.2.2.2.2.1,f.2.2.2.2.2.1,f.2.2.2.2.2.2,t,o,K)=some (decide (kd ts t∈K/\elt ts t=o)):=by
 rw[LR.eq_1];simp only[EO hN f h hK h0,ae];by_cases hk:kd ts t∈K;.have ht:=Jr (ts:=ts) (t:=t) (λe=>h0 (e▸hk));rw[aU hk,au,qm ⟨ht,h.2⟩];unfold elt;simp[hk,EM]
 .rw[aQ hk,af,aQ (λh:(_/\_)=>hk h.1)];rfl
def ofR{N:Nat}{t:Int}(h:-1<=t/\t<ts.length){a b:Int}(ha:a≠0)(hb:b≠0):LD N (ts,xs,fs,t,a,b)=some (if kd ts t=a\/kd ts t=b then elt ts t else-1):=by
 rw[LD.eq_1,Mz N h];simp only[ae,zR];by_cases hk:kd ts t=a\/kd ts t=b;.have ht:=Jr (ts:=ts) (t:=t) (λe=>by rcases hk with hk|hk<;>rw[e]at hk<;>first|exact ha hk.symm|exact hb hk.symm);rw[ba hk,aQ (show¬t<0 by omega),show(bif(kd ts t !=a)then(kd ts t !=b)else false)=false by rcases hk with hk|hk<;>simp[hk]];simp[af,qm (show 0<=t/\t<(ts.length:Int)by omega),ae];rfl
 grind
def S5{N:Nat}(hN:1300<N)(hv:iD ts xs fs)(f:Func){g:Func}(hg:fB ts.length g):Xr N (ts,xs,fs,f.1,f.2.1,f.2.2.1,f.2.2.2.1,f.2.2.2.2.1,f.2.2.2.2.2.1,f.2.2.2.2.2.2,g.1,g.2.1,g.2.2.1,g.2.2.2.1,g.2.2.2.2.1,g.2.2.2.2.2.1,g.2.2.2.2.2.2)=some (decide (EL ts (sg g))):=by
 rw[Xr.eq_1];rw[show decide (EL ts (sg g))=decide (g.2.2.1<0/\(g.2.1=0\/g.2.1=1/\Mw (kd ts (fl g.2.2.2.1 0).2)))from ka.2 At];by_cases h1:g.2.2.1<0
 .rw[aU h1,au];by_cases h2:g.2.1=0;.grind
  .rw[show(g.2.1==(0:Int))=false by simpa using h2,af];by_cases h3:g.2.1=1
   .have hl:(0:Int)<=0/\(0:Int)<g.2.2.2.1.length:=by have:=hg.2.2.2.1.2;omega
    have hm:fl g.2.2.2.1 0∈g.2.2.2.1:=by unfold fl<;>grind
    have hr:=hg.2.2.2.2.2.1 _ hm;have e:=Aj hl;simp at e;rw[show(g.2.1==(1:Int))=true by simpa using h3,e];simp only[ae,EO hN f (show-1<=(fl g.2.2.2.1 0).2/\(fl g.2.2.2.1 0).2<(ts.length:Int)by omega) (show[1,2,4].length<=10by decide) (show¬(0:Int)∈[1,2,4]by decide)]<;>grind
   grind
 grind
def S6{N:Nat}(hv:iD ts xs fs){i:Int}{g:Func}(hi:idx fs i=some g)(hg:fB ts.length g):VZ N (ts,xs,fs,i)=some (decide (EL ts (sg g))):=by
 rw[VZ.eq_1,hi];rw[show decide (EL ts (sg g))=decide (g.2.2.1<0/\(g.2.1=0\/g.2.1=1/\Mw (kd ts (fl g.2.2.2.1 0).2)))from ka.2 At];simp only[ae];have y7:=hg.2.2.2.2.1.1;by_cases h1:g.2.2.1<0
 .rw[show(g.2.2.1==(-1:Int))=true by rw[lx];omega];by_cases h2:g.2.1=0;.grind
  .rw[show(g.2.1==(0:Int))=false by simpa using h2];by_cases h3:g.2.1=1
   .have hl:(0:Int)<=0/\(0:Int)<g.2.2.2.1.length:=by have:=hg.2.2.2.1.2;omega
    have hm:fl g.2.2.2.1 0∈g.2.2.2.1:=by unfold fl<;>grind
    have hr:=hg.2.2.2.2.2.1 _ hm;have e:=Aj hl;simp at e;rw[au,e];simp[ae,qm hr,Se.eq_1,dS];rw[<-aee hr.1]<;>grind
   grind
 grind
def ahR{N:Nat}(hN:1300<N)(hv:iD ts xs fs){f:Func}(hf:fB ts.length f){x:Instr}(hc:eY x=true)(hn:n7 xs.length (fZ fs) f.2.2.2.1 x):XA N (ts,xs,fs,f.1,f.2.1,f.2.2.1,f.2.2.2.1,f.2.2.2.2.1,f.2.2.2.2.2.1,f.2.2.2.2.2.2,x.1,x.2.1,x.2.2.1,x.2.2.2)=some (MA ts (fZ fs) f.2.2.2.1 f.2.2.1 x):=by
 have hr:=hf.2.2.2.2.2.1;have hA:=w9 hr x.2.1;have hB:=w9 hr x.2.2.1;have hC:=w9 hr x.2.2.2;rw[XA.eq_1];simp only[aec,ae,dS];unfold MA;refine bu (λh=>?_) (λ_=>?_)
 .rcases abZ hN f (l:=[fR f.2.2.2.1 x.2.1]) (by simp) (c:=1) rfl (λt ht=>by rw[bv.1 ht];exact hA)with⟨e1,e2⟩|⟨e1,i,e2⟩;.rw[e2];show some true=_;congr 1;simp_all
  .rw[e2];show some (!decide ((i:Int)>=0))=_;rw[aU (show(i:Int)>=0 by omega)];congr 1;simp_all
 refine bu (λh=>?_) (λ_=>?_);.rw[EO hN f hA (show[3].length<=10by decide) (show¬(0:Int)∈[3]by decide),ae];congr 1;simp
 refine bu (λh=>?_) (λ_=>?_);.rw[EO hN f hA (show[1].length<=10by decide) (show¬(0:Int)∈[1]by decide),ae];congr 1;simp
 refine bu (λh=>?_) (λ_=>?_);.rw[EM]
 refine bu (λh=>?_) (λ_=>?_)
 .rcases ab0 hN f (l:=[fR f.2.2.2.1 x.2.1,fR f.2.2.2.1 x.2.2.1,fR f.2.2.2.1 x.2.2.2]) (by simp) (c:=3) rfl (λt ht=>by simp only[dj,dC,km]at ht;rcases ht with rfl|rfl|rfl<;>assumption)with⟨e1,e2⟩|⟨e1,i,e2⟩;.rw[e2];show some true=_;congr 1;simp_all
  .rw[e2];show some (!decide ((i:Int)>=0))=_;rw[aU (show(i:Int)>=0 by omega)];congr 1;simp_all
 refine bu (λh=>?_) (λ_=>?_)
 .rw[EO hN f hA (show[1].length<=10by decide) (show¬(0:Int)∈[1]by decide),ae];by_cases hk:kd ts (fR f.2.2.2.1 x.2.1)=1
  .rw[aU (show kd ts (fR f.2.2.2.1 x.2.1)∈[1]by simpa using hk),au];rcases ab1 hN f (l:=[fR f.2.2.2.1 x.2.2.1,fR f.2.2.2.1 x.2.2.2]) (by simp) (c:=2) rfl (λt ht=>by simp only[dj,dC,km]at ht;rcases ht with rfl|rfl<;>assumption)with⟨e1,e2⟩|⟨e1,i,e2⟩;.rw[e2];show some true=_;congr 1;simp_all
   .rw[e2];show some (!decide ((i:Int)>=0))=_;rw[aU (show(i:Int)>=0 by omega)];congr 1;simp_all
  .rw[aQ (show¬kd ts (fR f.2.2.2.1 x.2.1)∈[1]by simpa using hk),af,aQ (λh:(_/\_/\_)=>hk h.1)]
 refine bu (λh=>?_) (λ_=>?_);.rw[EO hN f hA (show[1].length<=10by decide) (show¬(0:Int)∈[1]by decide),ae,EO hN f hB (show[2,1,4].length<=10by decide) (show¬(0:Int)∈[2,1,4]by decide),ae,zR,zR];congr 1;by_cases h1:kd ts (fR f.2.2.2.1 x.2.1)=1<;>by_cases h2:fR f.2.2.2.1 x.2.2.1=fR f.2.2.2.1 x.2.2.2<;>simp[h1,h2,Mw,or_left_comm]
 refine bu (λh=>?_) (λ_=>?_);.rw[EO hN f hA (show[1].length<=10by decide) (show¬(0:Int)∈[1]by decide),ae,EO hN f hB (show[1].length<=10by decide) (show¬(0:Int)∈[1]by decide),ae,gC];congr 1;simp
 refine bu (λh=>?_) (λ_=>?_);.rw[apF hN hv f hB,ae]
 refine bu (λh=>?_) (λ_=>?_);.rw[apF hN hv f hA,ae]
 refine bu (λh=>?_) (λ_=>?_);.rw[EO hN f hA (show[4].length<=10by decide) (show¬(0:Int)∈[4]by decide),ae];congr 1;simp
 refine bu (λh=>?_) (λ_=>?_);.rw[ab7 hN f hB (show[4].length<=10by decide) (show¬(0:Int)∈[4]by decide),ae];congr 1;simp
 refine bu (λh=>?_) (λ_=>?_);.rw[ab7 hN f hA (show[4].length<=10by decide) (show¬(0:Int)∈[4]by decide),ae];congr 1;simp
 refine bu (λh=>?_) (λ_=>?_)
 .rw[EO hN f hA (show[7].length<=10by decide) (show¬(0:Int)∈[7]by decide),ae];by_cases hk:kd ts (fR f.2.2.2.1 x.2.1)=7
  .rw[aU (show kd ts (fR f.2.2.2.1 x.2.1)∈[7]by simpa using hk),au];rcases ab2 hN f (l:=[fR f.2.2.2.1 x.2.2.1]) (by simp) (c:=1) rfl (λt ht=>by rw[bv.1 ht];exact hB)with⟨e1,e2⟩|⟨e1,i,e2⟩;.rw[e2];show some true=_;congr 1;simp_all
   .rw[e2];show some (!decide ((i:Int)>=0))=_;rw[aU (show(i:Int)>=0 by omega)];congr 1;simp_all
  .rw[aQ (show¬kd ts (fR f.2.2.2.1 x.2.1)∈[7]by simpa using hk),af,aQ (λh:(_/\_)=>hk h.1)]
 refine bu (λh=>?_) (λ_=>?_)
 .rw[ab7 hN f hB (show[7,6].length<=10by decide) (show¬(0:Int)∈[7,6]by decide),ae];by_cases hk:kd ts (fR f.2.2.2.1 x.2.2.1)∈[7,6]/\elt ts (fR f.2.2.2.1 x.2.2.1)=fR f.2.2.2.1 x.2.1
  .rw[aU hk,au];rcases ab3 hN f (l:=[fR f.2.2.2.1 x.2.2.2]) (by simp) (c:=1) rfl (λt ht=>by rw[bv.1 ht];exact hC)with⟨e1,e2⟩|⟨e1,i,e2⟩;.rw[e2];show some true=_;congr 1;simp_all
   .rw[e2];show some (!decide ((i:Int)>=0))=_;rw[aU (show(i:Int)>=0 by omega)];congr 1;simp_all
  .rw[aQ hk,af,aQ (λh:(_/\_/\_)=>hk ⟨by simpa using h.1,h.2.1⟩)]
 refine bu (λh=>?_) (λ_=>?_)
 .rw[ab7 hN f hA (show[7,6].length<=10by decide) (show¬(0:Int)∈[7,6]by decide),ae];by_cases hk:kd ts (fR f.2.2.2.1 x.2.1)∈[7,6]/\elt ts (fR f.2.2.2.1 x.2.1)=fR f.2.2.2.1 x.2.2.2
  .rw[aU hk,au];rcases ab4 hN f (l:=[fR f.2.2.2.1 x.2.2.1]) (by simp) (c:=1) rfl (λt ht=>by rw[bv.1 ht];exact hB)with⟨e1,e2⟩|⟨e1,i,e2⟩;.rw[e2];show some true=_;congr 1;simp_all
   .rw[e2];show some (!decide ((i:Int)>=0))=_;rw[aU (show(i:Int)>=0 by omega)];congr 1;simp_all
  .rw[aQ hk,af,aQ (λh:(_/\_/\_)=>hk ⟨by simpa using h.1,h.2.1⟩)]
 refine bu (λh=>?_) (λ_=>?_)
 .rcases ab6 hN f (l:=[fR f.2.2.2.1 x.2.1]) (by simp) (c:=1) rfl (λt ht=>by rw[bv.1 ht];exact hA)with⟨e1,e2⟩|⟨e1,i,e2⟩;.rw[e2];simp only[ae,EO hN f hB (show[3,7,6].length<=10by decide) (show¬(0:Int)∈[3,7,6]by decide)];congr 1;simp_all
  .rw[e2];simp only[ae,aU (show(i:Int)>=0 by omega),dl,af];congr 1;simp_all
 refine bu (λh=>?_) (λ_=>?_)
 .have JG:x.1=25:=by simpa using h
  have lu:called x=x.2.2.1:=by unfold called;rw[ba JG]
  have h0:0<=x.2.2.1:=by have e:yH 25=some (103,99,45):=rfl;simp only[eY,JG,e,fits,al,db]at hc;exact hc.2.1.1
  have h2:=hn.2.1;rw[lu,qn]at h2;obtain⟨g,g1,_,g3⟩:=EN (fs:=fs) ⟨h0,h2⟩;rw[g1,g3];simp only[ae,dS,sg];congr 1;by_cases e:x.2.1<0<;>simp[e,EM]
 refine bu (λh=>?_) (λ_=>?_)
 .have JG:x.1=26\/x.1=27:=by simpa using h
  have lu:called x=x.2.1:=by unfold called;rw[be (by omega),ba JG]
  have h0:0<=x.2.1:=by
   rcases JG with JG|JG;.have e:yH 26=some (99,45,45):=rfl;simp only[eY,JG,e,fits,al,db]at hc;exact hc.1.1
   .have e:yH 27=some (99,45,45):=rfl;simp only[eY,JG,e,fits,al,db]at hc;exact hc.1.1
  have h2:=hn.2.1;rw[lu,qn]at h2;obtain⟨g,g1,g2,g3⟩:=EN (fs:=fs) ⟨h0,h2⟩;rw[g1,g3];simp only[ae,S5 hN hv f (hv.get g2)]
 refine bu (λh=>?_) (λ_=>?_);.rw[EO hN f hA (show[2,1,3].length<=10by decide) (show¬(0:Int)∈[2,1,3]by decide),ae];congr 1;simp
 refine bu (λh=>?_) (λ_=>?_)
 .rw[EO hN f hA (show[1].length<=10by decide) (show¬(0:Int)∈[1]by decide),ae];by_cases hk:kd ts (fR f.2.2.2.1 x.2.1)=1
  .rw[aU (show kd ts (fR f.2.2.2.1 x.2.1)∈[1]by simpa using hk),au];rcases ab5 hN f (l:=[fR f.2.2.2.1 x.2.2.1]) (by simp) (c:=1) rfl (λt ht=>by rw[bv.1 ht];exact hB)with⟨e1,e2⟩|⟨e1,i,e2⟩;.rw[e2];show some true=_;congr 1;simp_all
   .rw[e2];show some (!decide ((i:Int)>=0))=_;rw[aU (show(i:Int)>=0 by omega)];congr 1;simp_all
  .rw[aQ (show¬kd ts (fR f.2.2.2.1 x.2.1)∈[1]by simpa using hk),af,aQ (λh:(_/\_)=>hk h.1)]
 refine bu (λh=>?_) (λ_=>?_);.congr 1;by_cases e:x.2.1<0<;>simp[e,EM]
 rfl
def ahS{N:Nat}{i:Int}(hv:iD ts xs fs){f:Func}(hf:fB ts.length f){x:Instr}(hc:eY x=true)(hn:n7 xs.length (fZ fs) f.2.2.2.1 x)(hfi:idx fs i=some f):V0 N (ts,xs,fs,i,x.1,x.2.1,x.2.2.1,x.2.2.2)=some (MA ts (fZ fs) f.2.2.2.1 f.2.2.1 x):=by
 have hr:=hf.2.2.2.2.2.1;have hA:=w9 hr x.2.1;have hB:=w9 hr x.2.2.1;have hC:=w9 hr x.2.2.2;rw[V0.eq_1];simp only[aed N hfi,Mz N hA,Mz N hB,Mz N hC,ae,dS];refine bu (λh=>?_) (λ_=>?_);.rw[EM]
 refine bu (λh=>?_) (λ_=>?_);.rw[EM]
 refine bu (λh=>?_) (λ_=>?_);.rw[EM]
 refine bu (λh=>?_) (λ_=>?_);.rw[EM]
 refine bu (λh=>?_) (λ_=>?_);.grind
 refine bu (λh=>?_) (λ_=>?_);.grind
 refine bu (λh=>?_) (λ_=>?_)
 .have h11:x.1=11:=by grind
  obtain⟨_,s2,_⟩:=jm hc (p:=119) (q:=114) (r:=114) (by rw[h11];rfl);obtain⟨b0,b1⟩:=s2 (.inr rfl);have hb:=qH hr ⟨b0,hn.1 _ b1⟩;simp only[qm hb,ae,Se.eq_1,dS,gC];rw[<-aee hb.1];congr 1;grind
 refine bu (λh=>?_) (λ_=>?_);.grind
 refine bu (λh=>?_) (λ_=>?_)
 .have hk:x.1=13:=by grind
  obtain⟨s1,_,_⟩:=jm hc (p:=119) (q:=114) (r:=102) (by rw[hk];rfl);obtain⟨b0,b1⟩:=s1 (.inl rfl);exact apG hv hB (qH hr ⟨b0,hn.1 _ b1⟩).1
 refine bu (λh=>?_) (λ_=>?_)
 .have hk:x.1=14:=by grind
  obtain⟨_,_,s3⟩:=jm hc (p:=114) (q:=102) (r:=114) (by rw[hk];rfl);obtain⟨b0,b1⟩:=s3 (.inr rfl);exact apG hv hA (qH hr ⟨b0,hn.1 _ b1⟩).1
 refine bu (λh=>?_) (λ_=>?_);.rw[EM]
 refine bu (λh=>?_) (λ_=>?_)
 .have hk:x.1=16:=by grind
  obtain⟨s1,_,_⟩:=jm hc (p:=119) (q:=114) (r:=45) (by rw[hk];rfl);obtain⟨b0,b1⟩:=s1 (.inl rfl);have ho:=(qH hr ⟨b0,hn.1 _ b1⟩).1;rw[ofR hB (show(4:Int)≠0 by decide) (show(4:Int)≠0 by decide),ae];congr 1;grind
 refine bu (λh=>?_) (λ_=>?_)
 .have hk:x.1=17:=by grind
  obtain⟨_,s1,_⟩:=jm hc (p:=114) (q:=114) (r:=45) (by rw[hk];rfl);obtain⟨b0,b1⟩:=s1 (.inr rfl);have ho:=(qH hr ⟨b0,hn.1 _ b1⟩).1;rw[ofR hA (show(4:Int)≠0 by decide) (show(4:Int)≠0 by decide),ae];congr 1;grind
 refine bu (λh=>?_) (λ_=>?_);.grind
 refine bu (λh=>?_) (λ_=>?_)
 .have hk:x.1=19:=by grind
  obtain⟨s1,_,_⟩:=jm hc (p:=119) (q:=114) (r:=114) (by rw[hk];rfl);obtain⟨b0,b1⟩:=s1 (.inl rfl);have ho:=(qH hr ⟨b0,hn.1 _ b1⟩).1;rw[ofR hB (show(7:Int)≠0 by decide) (show(6:Int)≠0 by decide),ae]<;>grind
 refine bu (λh=>?_) (λ_=>?_)
 .have hk:x.1=20:=by grind
  obtain⟨_,_,s1⟩:=jm hc (p:=114) (q:=114) (r:=114) (by rw[hk];rfl);obtain⟨b0,b1⟩:=s1 (.inr rfl);have ho:=(qH hr ⟨b0,hn.1 _ b1⟩).1;rw[ofR hA (show(7:Int)≠0 by decide) (show(6:Int)≠0 by decide),ae]<;>grind
 refine bu (λh=>?_) (λ_=>?_);.simp only[dS,gC,ae];simp[EM]
 refine bu (λh=>?_) (λ_=>?_)
 .have JG:x.1=25:=by grind
  have lu:called x=x.2.2.1:=by unfold called<;>grind
  have h0:0<=x.2.2.1:=by have e:yH 25=some (103,99,45):=rfl;simp[eY,JG,e,fits,al,db]at hc;exact hc.2.1.1
  have h2:=hn.2.1;rw[lu,qn]at h2;obtain⟨g,g1,_,g3⟩:=EN (fs:=fs) ⟨h0,h2⟩;rw[g1,g3];simp[ae,dS,sg];have hm:-1<=x.2.1:=by have e:yH 25=some (103,99,45):=rfl;simp[eY,JG,e,fits,al,db]at hc;exact hc.1.1
  grind
 refine bu (λh=>?_) (λ_=>?_)
 .have JG:x.1=26\/x.1=27:=by grind
  have lu:called x=x.2.1:=by unfold called<;>grind
  have h0:0<=x.2.1:=by
   rcases JG with JG|JG;.have e:yH 26=some (99,45,45):=rfl;simp[eY,JG,e,fits,al,db]at hc;exact hc.1.1
   .have e:yH 27=some (99,45,45):=rfl;simp[eY,JG,e,fits,al,db]at hc;exact hc.1.1
  have h2:=hn.2.1;rw[lu,qn]at h2;obtain⟨g,g1,g2,g3⟩:=EN (fs:=fs) ⟨h0,h2⟩;rw[g3];rw[S6 hv g1 (hv.get g2)];rfl
 refine bu (λh=>?_) (λ_=>?_);.simp[EM]
 refine bu (λh=>?_) (λ_=>?_);.grind
 refine bu (λh=>?_) (λ_=>?_)
 .have hk:x.1=34:=by grind
  have hm:-1<=x.2.1:=by have e:yH 34=some (101,45,45):=rfl;simp[eY,hk,e,fits,al,db]at hc;exact hc.1.1
  rw[hfi];by_cases e:x.2.1<0<;>grind
 rfl
end
def EP(x:List Ex):Prop:=∀i:Int,0<=i->i<x.length->1<=(fF x i).1
def MB{C:Int}(hC:1000<=C){x:List Ex}(hx:EX C x)(hp:EP x):∀(fs:List Field)(s a:Int),0<=s->AL a->(∀f,f∈fs->0<=f.2/\f.2<x.length)->(1<=s\/fs≠[])->1<=(gw C x s a fs).2.1
 |[],s,a,_,_,_,h=>by
  rcases h with h|h;.exact h
  grind|f::r,s,a,h0,ha,hf,_=>by obtain⟨b1,b2⟩:=hf f ca;have h1:=hp f.2 b1 b2;obtain⟨e1,e2,e3⟩:=hx.get (by omega) f.2;have hu:=pR e1 h0;exact MB hC hx hp r _ _ (by omega) (ha.max e1) (λg hg=>hf g (ci _ hg)) (.inl (by omega))
def S7{C:Int}(hC:1000<=C)(h8:C%8=0){out:List Ex}(ho:EX C out)(hp:EP out){n i:Nat}{t:aB}(hi:i=out.length)(ht:dg n i t):1<=(qj C out t).1:=by
 unfold qj;unfold dg at ht;split;.omega
 .split;.omega
  .split;.omega
   .split;.rename_i h1 h3 h7 h6;rw[be (by omega),be (by omega),ba h6]at ht;obtain⟨⟨a1,a2⟩,⟨b1,b2⟩,_⟩:=ht;have:=hp t.2.1 a1 (by omega);have:1<=t.2.2.1*(fF out t.2.1).1:=zr (by omega) (ul b1 this (by omega) (by omega):(1:Int)*1<=_)<;>grind
    .split;.rename_i h1 h3 h7 h6 h5;rw[be (by omega),be (by omega),be h6,ba h5]at ht;obtain⟨_,_,⟨b1,b2⟩,_,hf⟩:=ht;obtain⟨c1,c2,_⟩:=qi (C:=C) (by omega) ho t.2.2.2 0 1 (by omega) (by omega) (.inl rfl);have h:=MB hC ho hp t.2.2.2 0 1 (by omega) (.inl rfl) (λf hm=>by have:=hf f hm;omega) (.inr (λe=>by rw[e]at b1;simp at b1));have hu:=pR c2 c1.1<;>grind
     omega
def ES{C:Int}(hC:1000<=C)(h8:C%8=0){l:List aB}(ht:zX l):∀i,i<=l.length->EP (cQ C l i)
 |0,_=>λj h0 h1=>by simp[cQ]at h1;omega|i+1,hi=>λj h0 h1=>by
  rw[cQ,Eu,fQ];rw[fQ]at h1;split;.exact ES hC h8 ht i (by omega) j h0 (by rw[fQ];omega)
  .rw[ba (by omega)];exact S7 hC h8 (kM hC h8 ht i (by omega)) (ES hC h8 ht i (by omega)) (n:=l.length) (i:=i) (by rw[fQ]) (ht i (by omega))
section
variable{ts:List aB}{xs:List (List UInt8)}{fs:List Func}
def iD.size(h:iD ts xs fs){t:Int}(ht:0<=t/\t<ts.length):fF (exs ts) t=fF (cQ 1000000 ts ts.length) t/\1<=(fF (exs ts) t).1/\(fF (exs ts) t).1<=256:=by
 obtain⟨n,rfl⟩:=dE ht.1;have hT:=h.Jq.1;have h1:=h.Jq.2.2.2.1 n (by omega);refine⟨?_,ES (by omega) (by omega) hT.2.1 ts.length (bc _) n (by omega) (by rw[fQ];omega),h1⟩;rcases uZ hT.2.1 ts.length (bc _) (n:Int)with⟨hr|hr,hq⟩;.exact Prod.ext hr hq
 .have:(fF (exs ts) (n:Int)).1=(fF (cQ 1048576 ts ts.length) (n:Int)).1:=rfl;omega
def iD.wide(h:iD ts xs fs){t:Int}(ht:0<=t/\t<ts.length):8<=wide ts t/\Go.Proofs.YtclkonemhghbkaaGreat.wide ts t<=263:=by obtain⟨_,h1,h2⟩:=h.size ht;have:=up8 h1;unfold Go.Proofs.YtclkonemhghbkaaGreat.wide;omega
def Mx.pW(h:iD ts xs fs):∀{s:List Int},Mx ts s->8*(s.length:Int)<=pW ts s/\Go.Proofs.YtclkonemhghbkaaGreat.pW ts s<=263*(s.length:Int)|[],_=>by simp[Go.Proofs.YtclkonemhghbkaaGreat.pW]|t::s,hs=>by have h1:=h.wide (hs t ca);have h2:=Mx.pW h (s:=s) λx hx=>hs x (ci _ hx);simp only[Go.Proofs.YtclkonemhghbkaaGreat.pW,fd];omega
def Mx.take{s:List Int}(h:Mx ts s)(n:Nat):Mx ts (s.take n):=λt ht=>h t (ls ht)
def ahT{N:Nat}{n:Int}(h:0<=n/\n<=4000000):LS N n=some (up 8 n,0):=by have e:=sG (a:=8) (s:=n) (.inr rfl) h;rw[aO (n:=n+8) (by omega),show n+8-1=n+7by omega,aO (n:=(8:Int)-1) (by decide)]at e;rw[LS.eq_1,aQ (show¬n<0 by omega)]<;>grind
def Zf{N:Nat}{n:Int}(h:0<=n/\n<=4000000):F61 N n=some (up 8 n):=by rw[F61.eq_1,Cn (.inr rfl) h];rfl
def MC{s:List Int}{i:Nat}{t:Int}(h:s[i]?=some t):pW ts (s.take (i+1))=pW ts (s.take i)+wide ts t:=by rw[take_succ h,QF];simp[pW]
def Js{N:Nat}(hN:1300<N)(hv:iD ts xs fs)(f:Func){s:List Int}(hs:Mx ts s)(hl:s.length<=1000):Ss N (ts,xs,fs,f.1,f.2.1,f.2.2.1,f.2.2.2.1,f.2.2.2.2.1,f.2.2.2.2.2.1,f.2.2.2.2.2.2,s)=some (pW ts s,0):=by obtain⟨z,hz,he⟩:=gv (l:=s) (g:=λv:Int=>(.inr v:(Int×Int)⊕Int)) (Inv:=λi v=>v=pW ts (s.take i)) (Lf:=λk i v=>Pl N k (v,s,(s.length:Int),i,ts,xs,fs,f.1,f.2.1,f.2.2.1,f.2.2.2.1,f.2.2.2.2.1,f.2.2.2.2.2.1,f.2.2.2.2.2.2)) (λk v _=>by simp only[Pl.eq_2,aN,af]) (λk i t v ht hI=>by
 have hi:=aE ht;have hm:=hs t (aW ht);obtain⟨_,z1,z2⟩:=hv.size hm;obtain⟨w1,w2⟩:=hv.wide hm;obtain⟨y1,y2⟩:=(hs.take i).pW hv;have Ng:(s.take i).length<=1000:=by rw[ft];omega
 refine⟨v+wide ts t,by rw[hI,MC ht],?_⟩;simp only[Pl.eq_2,aM hi,au,aG ht,ae,Qv hN hv.fit.1.1 hv.Jq.1 hm,ba z2,iC,af,ahT (N:=N) (n:=(fF (exs ts) t).1) (by omega),ai (show i<9223372036854775807by omega)];rw[show up 8 (fF (exs ts) t).1=wide ts t from rfl,aO (by omega)]) (k:=N) (s:=0) (by simp[pW]) (by omega);rw[Ss.eq_1,he,hz,f4];rfl
def O9{N:Nat}(hN:1300<N)(hv:iD ts xs fs){s:List Int}(hs:Mx ts s)(hl:s.length<=1000):Om N (ts,xs,fs,s)=some (pW ts s):=by obtain⟨z,hz,he⟩:=gv (l:=s) (g:=λv:Int=>v) (Inv:=λi v=>v=pW ts (s.take i)) (Lf:=λk i v=>H0 N k (s,(cQ 1000000 ts ts.length).map (·.1),v,i)) (λk v _=>by simp only[H0.eq_2,aN,af]) (λk i t v ht hI=>by
 have hi:=aE ht;have hm:=hs t (aW ht);obtain⟨z0,z1,z2⟩:=hv.size hm;obtain⟨w1,w2⟩:=hv.wide hm;obtain⟨y1,y2⟩:=(hs.take i).pW hv;have Ng:(s.take i).length<=1000:=by rw[ft];omega
 have hx:idx ((cQ 1000000 ts ts.length).map (·.1)) t=some (fF (exs ts) t).1:=by rw[z0];exact yM (g:=λe:Ex=>e.1) (sH (by rw[fQ];exact hm))
 refine⟨v+wide ts t,by rw[hI,MC ht],?_⟩;simp only[H0.eq_2,aM hi,au,aG ht,ae,hx,Zf (N:=N) (n:=(fF (exs ts) t).1) (by omega),ai (show i<9223372036854775807by omega)];rw[show up 8 (fF (exs ts) t).1=wide ts t from rfl,aO (by omega)]) (k:=N) (s:=0) (by simp[pW]) (by omega);rw[Om.eq_1,Et (by omega) hv.fit.1.1.1 hv.Jq.1.2.1,ae,he,hz,f4];rfl
def ET{N:Nat}{l m:List Int}(hl:l.length<N)(hb:l.length<9223372036854775807):Si N (l,m)=some (decide (l=m)):=by
 rw[Si.eq_1,EA];by_cases h:l.length=m.length;.have key:=vw (l:=l) (m:=m) (a:=(.inr ():Bool⊕Unit)) (b:=.inl false) (Lf:=λk i=>Hn N k (l,m,i)) h (λk=>by simp only[Hn.eq_2,aN,af]) (λk i x y _ _ h1 h2=>by
  simp only[Hn.eq_2,aM (aE h1),au,aG h1,aG h2,ae,ai (show i<9223372036854775807by have:=aE h1;omega)];by_cases hxy:x=y;.subst hxy;simp
  .rw[be hxy,show(x !=y)=true by simp[bne,hxy]];rfl) N hl;grind
 .rw[bo h,bo (λe=>h (by rw[e]))];rfl
def S8{N:Nat}{l m:List Int}(hl:l.length<N)(hb:l.length<9223372036854775807):XF N (l,m)=some (decide (l=m)):=by
 rw[XF.eq_1,EA];by_cases h:l.length=m.length;.have key:=vw (l:=l) (m:=m) (a:=(.inr ():Bool⊕Unit)) (b:=.inl false) (Lf:=λk i=>PH N k (l,m,(l.length:Int),i)) h (λk=>by simp only[PH.eq_2,aN,af]) (λk i x y _ _ h1 h2=>by
  simp only[PH.eq_2,aM (aE h1),au,aG h1,aG h2,ae,ai (show i<9223372036854775807by have:=aE h1;omega)];by_cases hxy:x=y;.subst hxy;simp
  .rw[be hxy,show(x !=y)=true by simp[bne,hxy]];rfl) N hl;grind
 .rw[bo h,bo (λe=>h (by rw[e]))];rfl
def EU(hv:iD ts xs fs){x:Instr}(hn:called x<fs.length)(h0:0<=called x):∃g,idx fs (called x)=some g/\takes (fZ fs) x=(g.2.2.2.1.take g.2.1.toNat).map (·.2)/\fB ts.length g/\((takes (fZ fs) x).length:Int)=g.2.1/\(takes (fZ fs) x).length<=16:=by
 obtain⟨g,g1,g2,g3⟩:=EN (fs:=fs) ⟨h0,hn⟩;have hg:=hv.get g2;have ht:takes (fZ fs) x=(g.2.2.2.1.take g.2.1.toNat).map (·.2):=by unfold takes;rw[ba h0,g3];rfl
 have hp:=hg.2.2.2.1;have FB:=hg.2.1<;>grind
def xb{x:Instr}(h:¬0<=called x):takes (fZ fs) x=[]:=by unfold takes<;>grind
def Zg{x:Instr}(h:x.1=24):called x=-1:=by unfold called<;>grind
def Pa{a b:Nat}(ha:a<=10000000)(hb:b<=10000000):av ((a:Int)-(b:Int))=(a:Int)-(b:Int):=aO (by omega)
def ahU(hv:iD ts xs fs){sl:List Field}(hr:ko sl ts.length){x:Instr}(hc:eY x=true)(hn:n7 xs.length (fZ fs) sl x){s s':List Int}(hs:Mx ts s)(h:S4 ts (fZ fs) sl x s=some s'):Mx ts s'/\s'.length<=512:=by
 obtain⟨t,h1,h2⟩:=lr.1 h;split at h2;case isFalse=>cases h2
 cases fj h2;have ho:Mx ts s':=by
  unfold rest at h1;split at h1
  .rename_i Fc;cases fj h1;intro y hy;rcases bj.1 hy with hy|hy;.exact hs y hy
   .rw[bv.1 hy];obtain⟨s1,_,_⟩:=jm hc (p:=114) (q:=45) (r:=45) (by rw[Fc];rfl);obtain⟨b0,b1⟩:=s1 (.inr rfl);exact qH hr ⟨b0,hn.1 _ b1⟩
  .split at h1;.cases fj h1;exact hs.take _
   grind
 have:=(ho.pW hv).1<;>grind
def apH{N:Nat}(hN:1300<N)(hv:iD ts xs fs){f:Func}(hr:ko f.2.2.2.1 ts.length){x:Instr}(hc:eY x=true)(hn:n7 xs.length (fZ fs) f.2.2.2.1 x){s:List Int}(hs:Mx ts s)(hl:s.length<=600):∃r b,Ja N (ts,xs,fs,f.1,f.2.1,f.2.2.1,f.2.2.2.1,f.2.2.2.2.1,f.2.2.2.2.2.1,f.2.2.2.2.2.2,x.1,x.2.1,x.2.2.1,x.2.2.2,s)=some (r,b)/\S4 ts (fZ fs) f.2.2.2.1 x s=if b=true then some r else none:=by
 have lu:=hn.2.1;rw[qn]at lu;have fin:∀t:List Int,(if pW ts t<=4096then some t else none)=if decide (pW ts t<=4096)=true then some t else none:=λt=>by by_cases h:pW ts t<=4096<;>simp[h]
 by_cases Fc:x.1=24
 .obtain⟨s1,_,_⟩:=jm hc (p:=114) (q:=45) (r:=45) (by rw[Fc];rfl);obtain⟨b0,b1⟩:=s1 (.inr rfl);have hT:=qH hr ⟨b0,hn.1 _ b1⟩;have ho:Mx ts (s++[fR f.2.2.2.1 x.2.1]):=λy hy=>by
   rcases bj.1 hy with hy|hy;.exact hs y hy
   .rw[bv.1 hy];exact hT
  have hlen:(s++[fR f.2.2.2.1 x.2.1]).length<=1000:=by grind
  refine⟨s++[fR f.2.2.2.1 x.2.1],decide (pW ts (s++[fR f.2.2.2.1 x.2.1])<=4096),?_,?_⟩;.have apI:anV N s=some s:=rfl;rw[Ja.eq_1];simp[show(x.1==(24:Int))=true by simpa using Fc,au,apI,aec,ae,aq (show s.length+1<=10000000by omega) (show 8<=1000by omega),aj,yV,Zg Fc,show decide ((-1:Int)>=0)=false from rfl,af,Js hN hv f ho hlen,show((0:Int)==0)=true from rfl]
  .unfold S4 rest<;>grind
 .have ahV:(x.1==(24:Int))=false:=by grind
  by_cases h0:0<=called x
  .obtain⟨g,g1,g2,g3,g4,g5⟩:=EU hv lu h0;by_cases hle:(takes (fZ fs) x).length<=s.length
   .have hwi:av ((s.length:Int)-g.2.1)=((s.length-(takes (fZ fs) x).length:Nat):Int):=by rw[<-g4,Pa (by omega) (by omega)];omega
    have hdl:(s.drop (s.length-(takes (fZ fs) x).length)).length=(takes (fZ fs) x).length:=by grind
    have key:=dK (l:=s.drop (s.length-(takes (fZ fs) x).length)) (g:=λ_:Unit=>(.inr (s,((s.length-(takes (fZ fs) x).length:Nat):Int),ts,xs,fs,f.1,f.2.1,f.2.2.1,f.2.2.2.1,f.2.2.2.2.1,f.2.2.2.2.2.1,f.2.2.2.2.2.2):Bool⊕_)) (Out:=λr=>s.drop (s.length-(takes (fZ fs) x).length)≠takes (fZ fs) x/\r=.inl false) (Inv:=λi _=>∀j,j<i->(s.drop (s.length-(takes (fZ fs) x).length))[j]?=(takes (fZ fs) x)[j]?) (Lf:=λk i _=>Ps N k (s,((s.length-(takes (fZ fs) x).length:Nat):Int),s.drop (s.length-(takes (fZ fs) x).length),((s.drop (s.length-(takes (fZ fs) x).length)).length:Int),i,ts,xs,fs,f.1,f.2.1,f.2.2.1,f.2.2.2.1,f.2.2.2.2.1,f.2.2.2.2.2.1,f.2.2.2.2.2.2,g.1,g.2.1,g.2.2.1,g.2.2.2.1,g.2.2.2.2.1,g.2.2.2.2.2.1,g.2.2.2.2.2.2)) (λk _ _=>by simp only[Ps.eq_2,aN,af]) (λk i y _ hy hI=>by
      have hi:=aE hy;have hit:i<(takes (fZ fs) x).length:=by omega
      have hp:=g3.2.2.2.1;have hig:i<g.2.2.2.1.length:=by omega
      have hgi:=aw hig;have hti:(takes (fZ fs) x)[i]?=some (g.2.2.2.1[i]).2:=by rw[g2,fi,fa,ba (by omega),hgi];rfl
      simp only[Ps.eq_2,aM hi,au,aG hy,aG hgi,ae,ai (show i<9223372036854775807by omega)];by_cases he:(g.2.2.2.1[i]).2=y
      .refine .inr ⟨(),λj hj=>?_,by rw[show((g.2.2.2.1[i]).2!=y)=false by simp[he],af]⟩;by_cases hji:j=i;.subst hji;rw[hy,hti,he]
       .exact hI j (by omega)
      .exact .inl ⟨_,⟨λe=>he (by rw[e,hti]at hy;exact fj hy),rfl⟩,by rw[show((g.2.2.2.1[i]).2!=y)=true by simp[bne,he],au]⟩) (k:=N) (s:=()) (λj hj=>by omega) (by omega);have hpre:Ja N (ts,xs,fs,f.1,f.2.1,f.2.2.1,f.2.2.2.1,f.2.2.2.2.1,f.2.2.2.2.2.1,f.2.2.2.2.2.2,x.1,x.2.1,x.2.2.1,x.2.2.2,s)=some (if s.drop (s.length-(takes (fZ fs) x).length)=takes (fZ fs) x then(s.take (s.length-(takes (fZ fs) x).length),decide (pW ts (s.take (s.length-(takes (fZ fs) x).length))<=4096))else([],false)):=by
     rw[Ja.eq_1];simp only[ahV,af,ae,yV,aU (show called x>=0from h0),au,g1,hwi,aQ (show¬((s.length-(takes (fZ fs) x).length:Nat):Int)<0 by omega),aU (show(0:Int)<=((s.length-(takes (fZ fs) x).length:Nat):Int)by omega),bd,aU (show s.length-(takes (fZ fs) x).length<=s.length by omega),aj];rcases key with⟨r,⟨k1,rfl⟩,k2⟩|⟨_,k1,k2⟩;.grind
     .have he:s.drop (s.length-(takes (fZ fs) x).length)=takes (fZ fs) x:=by apply lL;grind
      have hlen:(s.take (s.length-(takes (fZ fs) x).length)).length<=1000:=by grind
      simp only[k2,ae,ba he,bd,aU (show(0:Int)<=((s.length-(takes (fZ fs) x).length:Nat):Int)by omega),aU (show s.length-(takes (fZ fs) x).length<=s.length by omega),aj,Js hN hv f (hs.take _) hlen,show((0:Int)==0)=true from rfl,au]
    by_cases he:s.drop (s.length-(takes (fZ fs) x).length)=takes (fZ fs) x;.rw[ba he]at hpre;refine⟨_,_,hpre,?_⟩;unfold S4 rest;rw[be Fc,ba ⟨hle,he⟩,ae];exact fin _
    .rw[be he]at hpre;refine⟨_,_,hpre,?_⟩;unfold S4 rest;rw[be Fc,be (λh=>he h.2)];rfl
   .refine⟨[],false,?_,?_⟩
    .have hwi:av ((s.length:Int)-g.2.1)=(s.length:Int)-g.2.1:=by rw[<-g4,Pa (by omega) (by omega)]
     rw[Ja.eq_1];simp[ahV,af,ae,yV,aU (show called x>=0from h0),au,g1,hwi,aU (show(s.length:Int)-g.2.1<0 by omega)]
    .unfold S4 rest<;>grind
  .refine⟨s,decide (pW ts s<=4096),?_,?_⟩;.rw[Ja.eq_1];simp[ahV,af,ae,yV,aQ (show¬called x>=0from h0),Js hN hv f hs (show s.length<=1000by omega),show((0:Int)==0)=true from rfl,au]
   .unfold S4 rest;rw[be Fc,xb h0,ba ⟨by simp,by simp⟩,ae];simp only[m8,yn,f4];exact fin _
def ab8{N:Nat}(hN:1300<N)(hv:iD ts xs fs){f:Func}{i:Int}(hf:idx fs i=some f){x:Instr}(lu:called x<fs.length):V6 N (ts,xs,fs,i,x.1,x.2.1,x.2.2.1,x.2.2.2)=some (if x.1=24then([],fR f.2.2.2.1 x.2.1)else(takes (fZ fs) x,-1)):=by
 rw[V6.eq_1];by_cases Fc:x.1=24;.rw[show(x.1==(24:Int))=true by simpa using Fc,aed N hf,ba Fc];rfl
 .rw[show(x.1==(24:Int))=false by simpa using Fc,af,QG,ae,be Fc];by_cases h0:0<=called x;.obtain⟨g,g1,g2,g3,g4,g5⟩:=EU hv lu h0;rw[aU (show called x>=0from h0)];have key:=kK (n:=(takes (fZ fs) x).length) (Lf:=λk j=>Hm N k ((takes (fZ fs) x).take j.toNat,called x,j,ts,xs,fs)) (g:=λ_=>some (takes (fZ fs) x)) (λk=>by simp only[Hm.eq_2,g1,ae];rw[aQ (show¬(((takes (fZ fs) x).length:Nat):Int)<g.2.1by omega),af,bd,f4]) (λk j hj ih=>by
   have hp:=g3.2.2.2.1;have hjg:j<g.2.2.2.1.length:=by omega
   have hgj:=aw hjg;have htj:(takes (fZ fs) x)[j]?=some (g.2.2.2.1[j]).2:=by rw[g2,fi,fa,ba (by omega),hgj];rfl
   have hlen:((takes (fZ fs) x).take j).length<=16:=by rw[ft];omega
   simp only[bd]at ih⊢;simp only[Hm.eq_2,g1,ae,aU (show(j:Int)<g.2.1by omega),au,aG hgj,aq (show((takes (fZ fs) x).take j).length+1<=10000000by omega) (show 8<=1000by omega),aj,ai (show j<9223372036854775807by omega)];rw[<-ih,take_succ htj]) N 0 (by omega) (by omega);grind
  .rw[aQ (show¬called x>=0from h0),af,xb h0]
def ahW{N:Nat}(hN:1300<N)(hv:iD ts xs fs){f:Func}{i:Int}(hf:idx fs i=some f)(hr:ko f.2.2.2.1 ts.length){x:Instr}(hc:eY x=true)(hn:n7 xs.length (fZ fs) f.2.2.2.1 x){s:List Int}(hs:Mx ts s)(hl:s.length<=600):∃r b,V9 N (ts,xs,fs,i,x.1,x.2.1,x.2.2.1,x.2.2.2,s)=some (r,b)/\S4 ts (fZ fs) f.2.2.2.1 x s=if b=true then some r else none:=by
 have lu:=hn.2.1;rw[qn]at lu;have fin:∀t:List Int,(if pW ts t<=4096then some t else none)=if decide (pW ts t<=4096)=true then some t else none:=λt=>by by_cases h:pW ts t<=4096<;>simp[h]
 rw[V9.eq_1,ab8 hN hv hf lu,ae];by_cases Fc:x.1=24
 .obtain⟨s1,_,_⟩:=jm hc (p:=114) (q:=45) (r:=45) (by rw[Fc];rfl);obtain⟨b0,b1⟩:=s1 (.inr rfl);have hT:=qH hr ⟨b0,hn.1 _ b1⟩;have ho:Mx ts (s++[fR f.2.2.2.1 x.2.1]):=λy hy=>by
   rcases bj.1 hy with hy|hy;.exact hs y hy
   .rw[bv.1 hy];exact hT
  have hlen:(s++[fR f.2.2.2.1 x.2.1]).length<=1000:=by grind
  have hwi:av ((s.length:Int)-((([]:List Int).length:Nat):Int))=((s.length:Nat):Int):=by rw[aO (by simp;omega)];simp
  refine⟨s++[fR f.2.2.2.1 x.2.1],decide (pW ts (s++[fR f.2.2.2.1 x.2.1])<=4096),?_,?_⟩;.simp only[ba Fc,hwi,aQ (show¬((s.length:Nat):Int)<0 by omega),af,aU (show(0:Int)<=((s.length:Nat):Int)by omega),bd,aU (bc s.length),aj,sf,ET (N:=N) (l:=[]) (m:=[]) (by grind) (by simp),pi,ae,dl,f4,ii,aq (show 0+s.length<=10000000by omega) (show 8<=1000by omega),aq (show s.length+1<=10000000by omega) (show 8<=1000by omega),aU (show fR f.2.2.2.1 x.2.1>=0from hT.1),au,O9 hN hv ho hlen]
  .unfold S4 rest<;>grind
 .have FB:(takes (fZ fs) x).length<=16:=by
   by_cases h0:0<=called x;.obtain⟨_,_,_,_,_,g5⟩:=EU hv lu h0<;>omega
   .rw[xb h0];simp
  have hwi:av ((s.length:Int)-((takes (fZ fs) x).length:Int))=(s.length:Int)-((takes (fZ fs) x).length:Int):=Pa (by omega) (by omega);simp only[be Fc,hwi];by_cases hle:(takes (fZ fs) x).length<=s.length
  .have e:(s.length:Int)-((takes (fZ fs) x).length:Int)=((s.length-(takes (fZ fs) x).length:Nat):Int):=by omega
   have hlen:(s.take (s.length-(takes (fZ fs) x).length)).length<=1000:=by grind
   have hdl:(s.drop (s.length-(takes (fZ fs) x).length)).length<=1000:=by grind
   simp only[e,aQ (show¬((s.length-(takes (fZ fs) x).length:Nat):Int)<0 by omega),af,aU (show(0:Int)<=((s.length-(takes (fZ fs) x).length:Nat):Int)by omega),bd,aU (show s.length-(takes (fZ fs) x).length<=s.length by omega),aj,ET (N:=N) (l:=s.drop (s.length-(takes (fZ fs) x).length)) (m:=takes (fZ fs) x) (by omega) (by omega),ae];by_cases he:s.drop (s.length-(takes (fZ fs) x).length)=takes (fZ fs) x
   .refine⟨s.take (s.length-(takes (fZ fs) x).length),decide (pW ts (s.take (s.length-(takes (fZ fs) x).length))<=4096),?_,?_⟩;.simp only[aU he,dl,af,ii,aq (show 0+(s.take (s.length-(takes (fZ fs) x).length)).length<=10000000by omega) (show 8<=1000by omega),aj,show decide ((-1:Int)>=0)=false from rfl,O9 hN hv (hs.take _) hlen,ae]
    .unfold S4 rest<;>grind
   .refine⟨[],false,by simp only[aQ he,ge,au],?_⟩;unfold S4 rest<;>grind
  .refine⟨[],false,by simp only[aU (show(s.length:Int)-((takes (fZ fs) x).length:Int)<0 by omega),au,ae],?_⟩;unfold S4 rest<;>grind
end
structure Fn(ts:List aB)(xs:List (List UInt8))(fs:List Func)(f:Func):Prop where
 img:iD ts xs fs
 ok:fB ts.length f
 code:kq f.2.2.2.2.1=true
 near:∀x,x∈f.2.2.2.2.1->n7 xs.length (fZ fs) f.2.2.2.1 x
def fh(ts:List aB)(fs:List Func)(f:Func):Instr->List Int->Option (List Int):=S4 ts (fZ fs) f.2.2.2.1
section
variable{ts:List aB}{xs:List (List UInt8)}{fs:List Func}{f:Func}
def Fn.len(h:Fn ts xs fs f):1<=f.2.2.2.2.1.length/\f.2.2.2.2.1.length<=200:=h.ok.2.2.2.2.2.2.1
def Fn.aL(h:Fn ts xs fs f){x:Instr}(hx:x∈f.2.2.2.2.1):eY x=true:=h.ok.2.2.2.2.2.2.2.1 x hx
def Fn.rng(h:Fn ts xs fs f):ko f.2.2.2.1 ts.length:=h.ok.2.2.2.2.2.1
def Fn.vc(h:Fn ts xs fs f):VC f.2.2.2.2.1:=yO h.code
def Fn.ps(h:Fn ts xs fs f){k:Nat}{s:List Int}(hp:PS f.2.2.2.2.1 (fh ts fs f) k s):Mx ts s/\s.length<=512:=by induction hp with|zero=>exact⟨λt ht=>(by cases ht),by simp⟩|step _ hx ha _ ih=>exact ahU h.img h.rng (h.aL (aW hx)) (h.near _ (aW hx)) ih.1 ha
def apJ{N:Nat}{l:List Instr}(hv:kq l=true)(hl:l.length<=200)(hN:500<N){i:Nat}(hi:i<l.length):XD N (l,(i:Int))=some (cN (nx l i),0):=by rw[XD.eq_1,OU (by omega) (by omega),hv];simp only[au,ae,show((0:Int)!=0)=false from rfl,af,show decide ((i:Int)<0)=false by simp,show decide ((i:Int)>=(l.length:Int))=false by grind,OV (yO hv) hi]
def Pb{N:Nat}(hN:1300<N)(h:Fn ts xs fs f){b:List (List Int)}{m:List Bool}{o:List Nat}{i:Nat}{x:Instr}{s s':List Int}(hk:Kn f.2.2.2.2.1 (fh ts fs f) b m)(ho:o.length<=1000)(hp:PS f.2.2.2.2.1 (fh ts fs f) i s)(hx:f.2.2.2.2.1[i]?=some x)(ha:fh ts fs f x s=some s'):(∃r:Bool⊕_,(¬vI f.2.2.2.2.1 (fh ts fs f)/\r=.inl false)/\iT N N (f.2.2.2.2.1,s',cN (nx f.2.2.2.2.1 i),((cN (nx f.2.2.2.2.1 i)).length:Int),0,ts,xs,fs,f.1,f.2.1,f.2.2.1,f.2.2.2.1,f.2.2.2.2.1,f.2.2.2.2.2.1,f.2.2.2.2.2.2,b,m,cN o)=some r)\/∃b' m' p,(Kn f.2.2.2.2.1 (fh ts fs f) b' m'/\Grow b m b' m'/\(∀q,q∈p->T m' q)/\(∀q,T m' q->T m q\/q∈p)/\gm m'+p.length<=gm m/\∀k,k∈nx f.2.2.2.2.1 i->T m' k/\b'[k]?=some s')/\iT N N (f.2.2.2.2.1,s',cN (nx f.2.2.2.2.1 i),((cN (nx f.2.2.2.2.1 i)).length:Int),0,ts,xs,fs,f.1,f.2.1,f.2.2.1,f.2.2.2.1,f.2.2.2.2.1,f.2.2.2.2.2.1,f.2.2.2.2.2.2,b,m,cN o)=some (.inr (f.2.2.2.2.1,ts,xs,fs,f.1,f.2.1,f.2.2.1,f.2.2.2.1,f.2.2.2.2.1,f.2.2.2.2.2.1,f.2.2.2.2.2.2,b',m',cN (o++p))):=by
 have hle:=h.len.2;have hv:=h.vc;have key:=dK (l:=cN (nx f.2.2.2.2.1 i)) (g:=λq:List (List Int)×List Bool×List Nat=>(.inr (f.2.2.2.2.1,ts,xs,fs,f.1,f.2.1,f.2.2.1,f.2.2.2.1,f.2.2.2.2.1,f.2.2.2.2.2.1,f.2.2.2.2.2.2,q.1,q.2.1,cN (o++q.2.2)):Bool⊕_)) (Out:=λr=>¬vI f.2.2.2.2.1 (fh ts fs f)/\r=.inl false) (Inv:=λj q=>Kn f.2.2.2.2.1 (fh ts fs f) q.1 q.2.1/\Grow b m q.1 q.2.1/\(∀z,z∈q.2.2->T q.2.1 z)/\(∀z,T q.2.1 z->T m z\/z∈q.2.2)/\gm q.2.1+q.2.2.length<=gm m/\∀k,k∈(nx f.2.2.2.2.1 i).take j->T q.2.1 k/\q.1[k]?=some s') (Lf:=λk j q=>iT N k (f.2.2.2.2.1,s',cN (nx f.2.2.2.2.1 i),((cN (nx f.2.2.2.2.1 i)).length:Int),j,ts,xs,fs,f.1,f.2.1,f.2.2.1,f.2.2.2.1,f.2.2.2.2.1,f.2.2.2.2.2.1,f.2.2.2.2.2.2,q.1,q.2.1,cN (o++q.2.2))) (λk q _=>by simp only[iT.eq_2,aN,af]) (λk j y q hy⟨h1,h2,h3,h4,h5,h6⟩=>by
   obtain⟨t,ht,rfl⟩:=Ad hy;have hlt:=BH hv (aW ht);have Tw:t<q.2.1.length:=by rw[h1.lm];exact hlt
   have hlb:t<q.1.length:=by rw[h1.lb];exact hlt
   have hL:=aE hy;have hj:j<9223372036854775807:=by have:=aE ht;have:=sJ f.2.2.2.2.1 i;omega
   have hpt:PS f.2.2.2.2.1 (fh ts fs f) t s':=.step hp hx ha (aW ht);have tk:∀{b':List (List Int)}{m':List Bool},Grow q.1 q.2.1 b' m'->(T m' t/\b'[t]?=some s')->∀k,k∈(nx f.2.2.2.2.1 i).take (j+1)->T m' k/\b'[k]?=some s':=λhg hh k hk'=>by
    rw[take_succ ht,bj,bv]at hk';rcases hk' with hk'|rfl;.obtain⟨g1,g2⟩:=h6 k hk';exact⟨(hg k g1).1,by rw[(hg k g1).2];exact g2⟩
    .exact hh
   rcases Mp Tw with hb|hb
   .obtain⟨v,v1,v2⟩:=h1.met t hb;have v3:=(h.ps v2).2;simp only[iT.eq_2,aM hL,au,aG hy,ae,cC Tw,cC hlb,aj,bd,ai hj,hb,dl,af,v1,S8 (N:=N) (l:=v) (m:=s') (by omega) (by omega)];by_cases he:v=s';.subst he;refine .inr ⟨q,⟨h1,h2,h3,h4,h5,tk (.refl _ _) ⟨hb,v1⟩⟩,by simp⟩
    .exact .inl ⟨_,⟨λhS=>he (hS.one t v s' v2 hpt),rfl⟩,by rw[aQ he,ge,au]⟩
   .have hnT:¬T q.2.1 t:=λhT=>by unfold T at hT;rw[hb]at hT;cases hT
    have hc:=u7 hb;have lu:=sK m;rw[hk.lm]at lu;have hr:room ((cN (o++q.2.2)).length+1) 8=true:=aq (by rw[bO,bb];omega) (by omega);have e1:=aw hlb;refine .inr ⟨(q.1.set t s',q.2.1.set t true,q.2.2++[t]),⟨h1.add hlt hnT hpt,h2.trans (.add hnT),λz hz=>?_,λz hz=>?_,?_,tk (.add hnT) ⟨(fe Tw).2 (.inl rfl),by simp[hlb]⟩⟩,?_⟩
    .rcases bj.1 hz with hz|hz;.exact(fe Tw).2 (.inr (h3 z hz))
     .rw[bv.1 hz];exact(fe Tw).2 (.inl rfl)
    .rcases(fe Tw).1 hz with rfl|hz;.exact .inr (bj.2 (.inr (bv.2 rfl)))
     .rcases h4 z hz with hz|hz;.exact .inl hz
      .exact .inr (bj.2 (.inl hz))
    .simp only[bb,fd,m8];omega
    .simp only[iT.eq_2,aM hL,au,aG hy,ae,cC Tw,cC hlb,aj,bd,ai hj,hb,ge,hr,e1];rw[<-bi,vC (o++q.2.2) [t]];rfl) (k:=N) (s:=(b,m,[])) ⟨hk,.refl _ _,λz hz=>(by cases hz),λz hz=>.inl hz,by simp,λk hk=>by simp at hk⟩ (by rw[bO];have:=sJ f.2.2.2.2.1 i;omega);rcases key with⟨r,h1,h2⟩|⟨⟨b',m',p⟩,⟨h1,h2,h3,h4,h5,h6⟩,he⟩;.grind
 .refine .inr ⟨b',m',p,⟨h1,h2,h3,h4,h5,λk hk'=>h6 k (by rw[bO,f4];exact hk')⟩,by simpa using he⟩
structure avv(l:List Instr)(a:Instr->List Int->Option (List Int))(s:List (List Int)×List Bool)(o:List Nat):Prop where
 kn:Kn l a s.1 s.2yR:∀j,j∈o->T s.2 j
 shut:∀j,T s.2 j->j∈o\/Ai l a s.1 s.2 j
 few:gm s.2+o.length<=300
def S9{N:Nat}(hN:1300<N)(h:Fn ts xs fs f):(∃r:Bool⊕_,(¬vI f.2.2.2.2.1 (fh ts fs f)/\r=.inl false)/\iU N N (f.2.2.2.2.1,ts,xs,fs,f.1,f.2.1,f.2.2.1,f.2.2.2.1,f.2.2.2.2.1,f.2.2.2.2.2.1,f.2.2.2.2.2.2,List.replicate f.2.2.2.2.1.length [],(List.replicate f.2.2.2.2.1.length false).set 0 true,[0])=some r)\/∃b m,(Kn f.2.2.2.2.1 (fh ts fs f) b m/\∀j,T m j->Ai f.2.2.2.2.1 (fh ts fs f) b m j)/\iU N N (f.2.2.2.2.1,ts,xs,fs,f.1,f.2.1,f.2.2.1,f.2.2.2.1,f.2.2.2.2.1,f.2.2.2.2.2.1,f.2.2.2.2.2.2,List.replicate f.2.2.2.2.1.length [],(List.replicate f.2.2.2.2.1.length false).set 0 true,[0])=some (.inr (f.2.2.2.2.1,ts,xs,fs,f.1,f.2.1,f.2.2.1,f.2.2.2.1,f.2.2.2.2.1,f.2.2.2.2.2.1,f.2.2.2.2.2.2,b)):=by
 obtain⟨hpos,hle⟩:=h.len;have hv:=h.vc;have hc0:=sK ((List.replicate f.2.2.2.2.1.length false).set 0 true);simp at hc0;have key:=Mv (σ:=List (List Int)×List Bool) (Inv:=avv f.2.2.2.2.1 (fh ts fs f)) (μ:=λs=>gm s.2) (g:=λs=>(.inr (f.2.2.2.2.1,ts,xs,fs,f.1,f.2.1,f.2.2.1,f.2.2.2.1,f.2.2.2.2.1,f.2.2.2.2.2.1,f.2.2.2.2.2.2,s.1):Bool⊕_)) (Out:=λr=>¬vI f.2.2.2.2.1 (fh ts fs f)/\r=.inl false) (Lf:=λk s o=>iU N k (f.2.2.2.2.1,ts,xs,fs,f.1,f.2.1,f.2.2.1,f.2.2.2.1,f.2.2.2.2.1,f.2.2.2.2.2.1,f.2.2.2.2.2.2,s.1,s.2,cN o)) (λk s _=>by rw[show cN []=[]from rfl,iU.eq_2,show decide (((([]:List Int).length:Nat):Int)>0)=false from rfl,af]) (λk s o i hI=>by
  have hi:T s.2 i:=hI.yR i (by simp);have Ay:i<f.2.2.2.2.1.length:=by rw[<-hI.kn.lm];exact hi.lt
  have avw:=hI.few;rw[bb,dp]at avw;obtain⟨v,v1,v2⟩:=hI.kn.met i hi;obtain⟨v3,v4⟩:=h.ps v2;have hx:=aw Ay;have hm:=aW hx;obtain⟨r,c,e1,e2⟩:=apH hN h.img h.rng (h.aL hm) (h.near _ hm) v3 (show v.length<=600by omega);have hlen:(cN (o++[i])).length=o.length+1:=by simp[cN]
  have q1:av (((o.length+1:Nat):Int)-1)=(o.length:Int):=by rw[aO (by omega)];omega
  have q2:(cN (o++[i]))[o.length]?=some (i:Int):=by simp[cN]
  have q3:(cN (o++[i])).take o.length=cN o:=by simp[cN]
  have hib:i<s.1.length:=by rw[hI.kn.lb];exact Ay
  simp only[iU.eq_2,hlen,q1,bm (show((o.length+1:Nat):Int)>0 by omega),au,cC (show o.length<o.length+1by omega),aj,bd,q2,ae,show decide ((0:Int)<=(o.length:Int))=true by simp,show decide (o.length<=o.length+1)=true by simp,aG hx,cC hib,v1,e1,apJ h.code hle (show 500<N by omega) Ay,show((0:Int)!=0)=false from rfl,q3];cases c with|false=>refine .inl ⟨_,⟨λhS=>?_,rfl⟩,rfl⟩;obtain⟨s',hs'⟩:=hS.go i v _ v2 hx;unfold fh at hs';rw[e2]at hs';cases hs'|true=>
    have ha:fh ts fs f f.2.2.2.2.1[i] v=some r:=e2;simp only[dl,af,ae];rcases Pb hN h (o:=o) hI.kn (by omega) v2 hx ha with⟨z,⟨z1,rfl⟩,z2⟩|⟨b',m',p,⟨g1,g2,g3,g4,g5,g6⟩,g7⟩;.exact .inl ⟨_,⟨z1,rfl⟩,by rw[z2];rfl⟩
    .refine .inr ⟨(b',m'),p,⟨g1,λj hj=>?_,λj hj=>?_,?_⟩,g5,by rw[g7];rfl⟩
     .rcases bj.1 hj with hj|hj;.exact(g2 j (hI.yR j (by simp[hj]))).1
      .exact g3 j hj
     .rcases g4 j hj with hj|hj
      .by_cases hji:j=i;.subst hji;exact .inr ⟨_,v,r,hx,by rw[(g2 j hj).2];exact v1,ha,g6⟩
       .rcases hI.shut j hj with hs|hs
        .rcases bj.1 hs with hs|hs;.exact .inl (bj.2 (.inl hs))
         .exact absurd (bv.1 hs) hji
        .exact .inr (hs.grow hj g2)
      .exact .inl (bj.2 (.inr hj))
     .show gm m'+(o++p).length<=300;rw[bb];omega) N (List.replicate f.2.2.2.2.1.length [],(List.replicate f.2.2.2.2.1.length false).set 0 true) [0] ⟨.start hv,λj hj=>by rw[bv.1 hj];exact(kN hpos 0).2 rfl,λj hj=>by rw[(kN hpos j).1 hj];exact .inl (bv.2 rfl),by simp only[dp];omega⟩ (by simp only[dp];omega);rcases key with⟨r,h1,h2⟩|⟨⟨b,m⟩,hI,he⟩;.exact .inl ⟨r,h1,h2⟩
 .refine .inr ⟨b,m,⟨hI.kn,λj hj=>?_⟩,he⟩;rcases hI.shut j hj with hs|hs<;>grind
def vb(ts:List aB)(fs:List Func)(f:Func):List Int:=(List.range f.2.2.2.2.1.length).map λk=>pW ts (HD f.2.2.2.2.1 (fh ts fs f) k)
def Fn.Pc(h:Fn ts xs fs f)(k:Nat):Mx ts (HD f.2.2.2.2.1 (fh ts fs f) k)/\(Go.Proofs.YtclkonemhghbkaaGreat.HD f.2.2.2.2.1 (fh ts fs f) k).length<=512:=by
 unfold Go.Proofs.YtclkonemhghbkaaGreat.HD;split;.rename_i e;exact h.ps e.choose_spec
 .exact⟨λt ht=>(by cases ht),by simp⟩
def Fn.ahZ(h:Fn ts xs fs f){y:Int}(hy:y∈vb ts fs f):0<=y/\y<=1000000:=by obtain⟨k,_,rfl⟩:=i6.1 hy;obtain⟨h1,h2⟩:=h.Pc k;have:=h1.pW h.img;omega
def qo(ts:List aB)(fs:List Func)(f:Func):(vb ts fs f).length=f.2.2.2.2.1.length:=by simp[vb]
def Zh{N:Nat}(hN:1300<N)(h:Fn ts xs fs f):∃r c,Su N (ts,xs,fs,f.1,f.2.1,f.2.2.1,f.2.2.2.1,f.2.2.2.2.1,f.2.2.2.2.2.1,f.2.2.2.2.2.2)=some (r,c)/\(c=true↔vI f.2.2.2.2.1 (fh ts fs f))/\(c=true->r=vb ts fs f):=by
 obtain⟨hpos,hle⟩:=h.len;have pre:∀X:Bool⊕_,iU N N (f.2.2.2.2.1,ts,xs,fs,f.1,f.2.1,f.2.2.1,f.2.2.2.1,f.2.2.2.2.1,f.2.2.2.2.2.1,f.2.2.2.2.2.2,List.replicate f.2.2.2.2.1.length [],(List.replicate f.2.2.2.2.1.length false).set 0 true,[0])=some X->Su N (ts,xs,fs,f.1,f.2.1,f.2.2.1,f.2.2.2.1,f.2.2.2.2.1,f.2.2.2.2.2.1,f.2.2.2.2.2.2)=(match X with|.inl o=>some ([],o)|.inr a=>(aL (decide (0<=(a.1.length:Int))) (aL (decide (0<=(a.1.length:Int))) (aL (decide ((Int.toNat (a.1.length:Int))<=(Int.toNat (a.1.length:Int)))&&room (Int.toNat (a.1.length:Int)) 8) ((wX N N (a.1,(a.2.2.2.2.2.2.2.2.2.2.2.length:Int),0,a.2.1,a.2.2.1,a.2.2.2.1,a.2.2.2.2.1,a.2.2.2.2.2.1,a.2.2.2.2.2.2.1,a.2.2.2.2.2.2.2.1,a.2.2.2.2.2.2.2.2.1,a.2.2.2.2.2.2.2.2.2.1,a.2.2.2.2.2.2.2.2.2.2.1,a.2.2.2.2.2.2.2.2.2.2.2,(List.replicate (Int.toNat (a.1.length:Int)) (0:Int)))).bind λp=>(match p with|.inl q=>some ([],q)|.inr c=>(aL (gB (av ((c.1.length:Int)-1)) c.2.1.length) ((c.2.1[(Int.toNat (av ((c.1.length:Int)-1)))]?).bind λr=>some (c.2.2,((r.length:Int)==0)))))))))):=λX hX=>by rw[Su.eq_1];simp only[bd,show decide ((0:Int)<=(f.2.2.2.2.1.length:Int))=true by simp,aj,bc,pi,f8,aq (show f.2.2.2.2.1.length<=10000000by omega) (show 24<=1000by omega),aq (show f.2.2.2.2.1.length<=10000000by omega) (show 1<=1000by omega),kb,show gB 0 f.2.2.2.2.1.length=true from cC (i:=0) (by omega),show Int.toNat 0=0from rfl,sN (show 1<=f.2.2.2.2.1.length by omega),ae,hX];rfl
 rcases S9 hN h with⟨r,⟨h1,rfl⟩,h2⟩|⟨b,m,⟨hk,hs⟩,h2⟩;.grind
 .have B3:=hk.lb;obtain⟨v,⟨hv,hvb⟩,he2⟩:=gv (l:=b) (g:=λv:List Int=>(.inr (f.2.2.2.2.1,b,v):Bool⊕_)) (Inv:=λi v=>v.length=f.2.2.2.2.1.length/\∀k,k<i->v[k]?=some (pW ts (HD f.2.2.2.2.1 (fh ts fs f) k))) (Lf:=λk i v=>wX N k (f.2.2.2.2.1,(b.length:Int),i,ts,xs,fs,f.1,f.2.1,f.2.2.1,f.2.2.2.1,f.2.2.2.2.1,f.2.2.2.2.2.1,f.2.2.2.2.2.2,b,v)) (λk v _=>by simp only[wX.eq_2,aN,af]) (λk i y v hy⟨hv,hvb⟩=>by
    have hi:=aE hy;have e:=hk.get hs (k:=i) (by omega);rw[hy]at e;obtain⟨o1,o2⟩:=h.Pc i;rw[<-fj e]at o1 o2;have hiv:i<v.length:=by omega
    obtain⟨b1,b2⟩:=o1.pW h.img;refine⟨v.set i (pW ts y),⟨by simp[hv],λj hj=>?_⟩,?_⟩
    .by_cases hji:j=i;.subst hji;rw[List.getElem?_set_self hiv,<-fj e]
     .rw[oi,be (pv hji)];exact hvb j (by omega)
    .simp only[wX.eq_2,aM hi,au,cC hi,aj,bd,hy,ae,Js hN h.img f o1 (show y.length<=1000by omega),show((0:Int)!=0)=false from rfl,af,cC hiv,aw hiv,ai (show i<9223372036854775807by omega),aY (n:=pW ts y) (by omega)]) (k:=N) (s:=List.replicate f.2.2.2.2.1.length 0) ⟨by simp,λj hj=>by omega⟩ (by omega);have hvs:v=vb ts fs f:=by
   apply lL;intro k;by_cases hkl:k<f.2.2.2.2.1.length;.rw[hvb k (by omega)];unfold vb<;>grind
   .rw[d8 (by omega),d8 (by rw[qo];omega)]
  have e1:av ((f.2.2.2.2.1.length:Int)-1)=((f.2.2.2.2.1.length-1:Nat):Int):=vD (by omega) (by omega);rw[B3]at he2;refine⟨v,decide (HD f.2.2.2.2.1 (fh ts fs f) (f.2.2.2.2.1.length-1)=[]),?_,?_,λ_=>hvs⟩;.rw[pre _ h2];simp[bd,show decide ((0:Int)<=(f.2.2.2.2.1.length:Int))=true by simp,aj,bc,pi,f8,aq (show f.2.2.2.2.1.length<=10000000by omega) (show 8<=1000by omega),B3,he2,ae,e1,cC (show f.2.2.2.2.1.length-1<f.2.2.2.2.1.length by omega),hk.get hs (show f.2.2.2.2.1.length-1<f.2.2.2.2.1.length by omega)];rw[m9,db,lx]<;>simp_all
  .rw[db];exact(hk.ok h.vc hs).symm
end
section
variable{ts:List aB}{xs:List (List UInt8)}{fs:List Func}{f:Func}
def Pd{N:Nat}(hN:1300<N)(h:Fn ts xs fs f){b:List (List Int)}{m:List Bool}{c:Bool}{g:Int}{i:Nat}{x:Instr}{s s':List Int}(hk:Kn f.2.2.2.2.1 (fh ts fs f) b m)(hp:PS f.2.2.2.2.1 (fh ts fs f) i s)(hx:f.2.2.2.2.1[i]?=some x)(ha:fh ts fs f x s=some s'):(∃r:Bool⊕_,(¬vI f.2.2.2.2.1 (fh ts fs f)/\r=.inl false)/\iR N N (g,f.2.2.2.2.1,c,(i:Int),s',cN (nx f.2.2.2.2.1 i),0,ts,xs,fs,b,m)=some r)\/∃b' m' c',(Kn f.2.2.2.2.1 (fh ts fs f) b' m'/\Grow b m b' m'/\(c'=false->c=false/\b'=b/\m'=m)/\gm m'<=gm m/\(c'=true->c=true\/gm m'<gm m)/\∀k,k∈nx f.2.2.2.2.1 i->T m' k/\b'[k]?=some s')/\iR N N (g,f.2.2.2.2.1,c,(i:Int),s',cN (nx f.2.2.2.2.1 i),0,ts,xs,fs,b,m)=some (.inr (g,f.2.2.2.2.1,c',(i:Int),ts,xs,fs,b',m')):=by
 have hv:=h.vc;have key:=dK (l:=cN (nx f.2.2.2.2.1 i)) (g:=λq:List (List Int)×List Bool×Bool=>(.inr (g,f.2.2.2.2.1,q.2.2,(i:Int),ts,xs,fs,q.1,q.2.1):Bool⊕_)) (Out:=λr=>¬vI f.2.2.2.2.1 (fh ts fs f)/\r=.inl false) (Inv:=λj q=>Kn f.2.2.2.2.1 (fh ts fs f) q.1 q.2.1/\Grow b m q.1 q.2.1/\(q.2.2=false->c=false/\q.1=b/\q.2.1=m)/\gm q.2.1<=gm m/\(q.2.2=true->c=true\/gm q.2.1<gm m)/\∀k,k∈(nx f.2.2.2.2.1 i).take j->T q.2.1 k/\q.1[k]?=some s') (Lf:=λk j q=>iR N k (g,f.2.2.2.2.1,q.2.2,(i:Int),s',cN (nx f.2.2.2.2.1 i),j,ts,xs,fs,q.1,q.2.1)) (λk q _=>by simp only[iR.eq_2,aN,af]) (λk j y q hy⟨h1,h2,h3,h4,h5,h6⟩=>by
   obtain⟨t,ht,rfl⟩:=Ad hy;have hlt:=BH hv (aW ht);have Tw:t<q.2.1.length:=by rw[h1.lm];exact hlt
   have hlb:t<q.1.length:=by rw[h1.lb];exact hlt
   have hL:=aE hy;have hj:j<9223372036854775807:=by have:=aE ht;have:=sJ f.2.2.2.2.1 i;omega
   have hpt:PS f.2.2.2.2.1 (fh ts fs f) t s':=.step hp hx ha (aW ht);have tk:∀{b':List (List Int)}{m':List Bool},Grow q.1 q.2.1 b' m'->(T m' t/\b'[t]?=some s')->∀k,k∈(nx f.2.2.2.2.1 i).take (j+1)->T m' k/\b'[k]?=some s':=λhg hh k hk'=>by
    rw[take_succ ht,bj,bv]at hk';rcases hk' with hk'|rfl;.obtain⟨g1,g2⟩:=h6 k hk';exact⟨(hg k g1).1,by rw[(hg k g1).2];exact g2⟩
    .exact hh
   rcases Mp Tw with hb|hb
   .obtain⟨v,v1,v2⟩:=h1.met t hb;have v3:=(h.ps v2).2;simp only[iR.eq_2,aM hL,au,aG hy,ae,cC Tw,cC hlb,aj,bd,ai hj,hb,dl,af,v1,ET (N:=N) (l:=v) (m:=s') (by omega) (by omega)];by_cases he:v=s';.subst he;refine .inr ⟨q,⟨h1,h2,h3,h4,h5,tk (.refl _ _) ⟨hb,v1⟩⟩,by simp⟩
    .exact .inl ⟨_,⟨λhS=>he (hS.one t v s' v2 hpt),rfl⟩,by rw[aQ he,ge,au]⟩
   .have hnT:¬T q.2.1 t:=λhT=>by unfold T at hT;rw[hb]at hT;cases hT
    have hc:=u7 hb;have e1:=aw hlb;refine .inr ⟨(q.1.set t s',q.2.1.set t true,true),⟨h1.add hlt hnT hpt,h2.trans (.add hnT),(λe=>by cases e),by simp only;omega,λ_=>.inr (by simp only;omega),tk (.add hnT) ⟨(fe Tw).2 (.inl rfl),by simp[hlb]⟩⟩,?_⟩;simp only[iR.eq_2,aM hL,au,af,aG hy,ae,cC Tw,cC hlb,aj,bd,ai hj,hb,ge,e1]) (k:=N) (s:=(b,m,c)) ⟨hk,.refl _ _,λe=>⟨e,rfl,rfl⟩,bc _,.inl,λk hk=>by simp at hk⟩ (by rw[bO];have:=sJ f.2.2.2.2.1 i;omega);rcases key with⟨r,h1,h2⟩|⟨⟨b',m',c'⟩,⟨h1,h2,h3,h4,h5,h6⟩,he⟩;.grind
 .exact .inr ⟨b',m',c',⟨h1,h2,h3,h4,h5,λk hk'=>h6 k (by rw[bO,f4];exact hk')⟩,he⟩
def Pe{N:Nat}(hN:1300<N)(h:Fn ts xs fs f){g:Int}(hf:idx fs g=some f){b:List (List Int)}{m:List Bool}(hk:Kn f.2.2.2.2.1 (fh ts fs f) b m):(∃r:Bool⊕_,(¬vI f.2.2.2.2.1 (fh ts fs f)/\r=.inl false)/\eG N N (g,f.2.2.2.2.1,false,0,ts,xs,fs,b,m)=some r)\/∃b' m' c',(Kn f.2.2.2.2.1 (fh ts fs f) b' m'/\(c'=false->∀j,T m' j->Ai f.2.2.2.2.1 (fh ts fs f) b' m' j)/\(c'=true->gm m'<gm m))/\eG N N (g,f.2.2.2.2.1,false,0,ts,xs,fs,b,m)=some (.inr (g,f.2.2.2.2.1,c',ts,xs,fs,b',m')):=by
 have hle:=h.len.2;have hv:=h.vc;have key:=dK (l:=f.2.2.2.2.1) (g:=λq:List (List Int)×List Bool×Bool=>(.inr (g,f.2.2.2.2.1,q.2.2,ts,xs,fs,q.1,q.2.1):Bool⊕_)) (Out:=λr=>¬vI f.2.2.2.2.1 (fh ts fs f)/\r=.inl false) (Inv:=λj q=>Kn f.2.2.2.2.1 (fh ts fs f) q.1 q.2.1/\(q.2.2=false->q.1=b/\q.2.1=m/\∀i,i<j->T m i->Ai f.2.2.2.2.1 (fh ts fs f) b m i)/\gm q.2.1<=gm m/\(q.2.2=true->gm q.2.1<gm m)) (Lf:=λk j q=>eG N k (g,f.2.2.2.2.1,q.2.2,j,ts,xs,fs,q.1,q.2.1)) (λk q _=>by simp only[eG.eq_2,aN,af]) (λk i x q hx⟨h1,h2,h3,h4⟩=>by
   have hi:=aE hx;have him:i<q.2.1.length:=by rw[h1.lm];exact hi
   have hib:i<q.1.length:=by rw[h1.lb];exact hi
   rcases Mp him with hb|hb;.obtain⟨v,v1,v2⟩:=h1.met i hb;obtain⟨v3,v4⟩:=h.ps v2;have hm:=aW hx;obtain⟨r,c,e1,e2⟩:=ahW hN h.img hf h.rng (h.aL hm) (h.near _ hm) v3 (show v.length<=600by omega);simp only[eG.eq_2,aM hi,au,cC him,cC hib,aj,bd,hb,ae,dl,af,aG hx,v1,e1,Ah hv hi];cases c with|false=>refine .inl ⟨_,⟨λhS=>?_,rfl⟩,rfl⟩;obtain⟨s',hs'⟩:=hS.go i v _ v2 hx;unfold fh at hs';rw[e2]at hs';cases hs'|true=>
     have ha:fh ts fs f x v=some r:=e2;simp only[dl,af];rcases Pd hN h (c:=q.2.2) (g:=g) h1 v2 hx ha with⟨z,⟨z1,rfl⟩,z2⟩|⟨b',m',c',⟨g1,g2,g3,g4,g5,g6⟩,g7⟩;.exact .inl ⟨_,⟨z1,rfl⟩,by rw[z2];rfl⟩
     .refine .inr ⟨(b',m',c'),⟨g1,λhc=>?_,by simp only;omega,λhc=>?_⟩,by rw[g7];simp only[ae,ai (show i<9223372036854775807by omega)]⟩
      .obtain⟨q1,q2,q3⟩:=g3 hc;obtain⟨q4,q5,q6⟩:=h2 q1;simp only;refine⟨by rw[q2,q4],by rw[q3,q5],λj hj hT=>?_⟩;by_cases hji:j=i;.subst hji;rw[q2,q3,q4,q5]at g6;exact⟨x,v,r,hx,by rw[<-q4];exact v1,ha,g6⟩
       .exact q6 j (by omega) hT
      .rcases g5 hc with hc|hc;.have:=h4 hc;simp only at*;omega
       .simp only at*;omega
   .refine .inr ⟨q,⟨h1,λhc=>?_,h3,h4⟩,by simp only[eG.eq_2,aM hi,au,cC him,aj,bd,hb,ae,ge,ai (show i<9223372036854775807by omega)]⟩;obtain⟨q4,q5,q6⟩:=h2 hc;refine⟨q4,q5,λj hj hT=>?_⟩;by_cases hji:j=i;.subst hji;rw[q5]at hb;unfold T at hT;rw[hb]at hT;cases hT
    .exact q6 j (by omega) hT) (k:=N) (s:=(b,m,false)) ⟨hk,λ_=>⟨rfl,rfl,λi hi=>by omega⟩,bc _,λe=>by cases e⟩ (by omega);rcases key with⟨r,h1,h2⟩|⟨⟨b',m',c'⟩,⟨h1,h2,h3,h4⟩,he⟩;.grind
 .refine .inr ⟨b',m',c',⟨h1,λhc j hj=>?_,h4⟩,he⟩;obtain⟨g1,g2,g3⟩:=h2 hc;simp at g1 g2;rw[g1,g2];rw[g2]at hj;exact g3 j (by rw[<-hk.lm];exact hj.lt) hj
def MD{N:Nat}(hN:1300<N)(h:Fn ts xs fs f){g:Int}(hf:idx fs g=some f):∃r c,On N (ts,xs,fs,g)=some (r,c)/\(c=true↔vI f.2.2.2.2.1 (fh ts fs f))/\(c=true->r=(List.range f.2.2.2.2.1.length).map (HD f.2.2.2.2.1 (fh ts fs f))):=by
 obtain⟨hpos,hle⟩:=h.len;have hc0:=sK ((List.replicate f.2.2.2.2.1.length false).set 0 true);simp at hc0;have key:=EK (σ:=List (List Int)×List Bool) (Inv:=λs=>Kn f.2.2.2.2.1 (fh ts fs f) s.1 s.2) (FD:=λs=>∀j,T s.2 j->Ai f.2.2.2.2.1 (fh ts fs f) s.1 s.2 j) (μ:=λs=>gm s.2) (g:=λs=>(.inr (f.2.2.2.2.1,s.1):Bool⊕_)) (Out:=λr=>¬vI f.2.2.2.2.1 (fh ts fs f)/\r=.inl false) (Lf:=λk c s=>jL N k (g,f.2.2.2.2.1,c,ts,xs,fs,s.1,s.2)) (λk s _ _=>by rw[jL.eq_2];rfl) (λk s hI=>by
   rcases Pe hN h hf hI with⟨z,⟨z1,rfl⟩,z2⟩|⟨b',m',c',⟨g1,g2,g3⟩,g4⟩;.exact .inl ⟨_,⟨z1,rfl⟩,by rw[jL.eq_2,au,z2];rfl⟩
   .exact .inr ⟨(b',m'),c',g1,g2,g3,by rw[jL.eq_2,au,g4];rfl⟩) N (List.replicate f.2.2.2.2.1.length [],(List.replicate f.2.2.2.2.1.length false).set 0 true) (.start h.vc) (by simp only;omega);rw[On.eq_1,hf];simp only[ae,bd,show decide ((0:Int)<=(f.2.2.2.2.1.length:Int))=true by simp,aj,bc,pi,f8,aq (show f.2.2.2.2.1.length<=10000000by omega) (show 24<=1000by omega),aq (show f.2.2.2.2.1.length<=10000000by omega) (show 1<=1000by omega),kb,show gB 0 f.2.2.2.2.1.length=true from cC (i:=0) (by omega),show Int.toNat 0=0from rfl,sN (show 1<=f.2.2.2.2.1.length by omega)];rcases key with⟨r,⟨h1,rfl⟩,h2⟩|⟨⟨b,m⟩,hk,hs,h2⟩;.simp_all
 .have e1:av ((f.2.2.2.2.1.length:Int)-1)=((f.2.2.2.2.1.length-1:Nat):Int):=vD (by omega) (by omega);have B3:=hk.lb;simp at B3 hk hs;refine⟨b,decide (HD f.2.2.2.2.1 (fh ts fs f) (f.2.2.2.2.1.length-1)=[]),?_,?_,λ_=>hk.eq hs⟩;.rw[h2];simp[ae,e1,cC (show f.2.2.2.2.1.length-1<b.length by omega),aj,bd,hk.get hs (show f.2.2.2.2.1.length-1<f.2.2.2.2.1.length by omega)];rw[m9,db,lx]<;>simp_all
  .rw[db];exact(hk.ok h.vc hs).symm
end
end Go.Proofs.YtclkonemhghbkaaGreat
end
