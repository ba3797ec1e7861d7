/- A part of the proof: Law12chl7f, Law12chl7g. -/
import Derived.Test.YtdogilonhnbapaaGreatDoorLaw12chl7d
set_option linter.unusedVariables false
set_option linter.unusedSimpArgs false
namespace Go.Proofs.YtdogilonhnbapaaGreatDoor
open Go Go.bI Go.Sym
open Classical
noncomputable def sub(a b:Nat):Prop:=∀k,a.testBit k=true->b.testBit k=true
theorem ja(a:Nat):sub a a:=λ_ h=>h
theorem fR{a b c:Nat}(h:sub a b)(k:sub b c):sub a c:=λi hi=>k i (h i hi)
theorem wS{a b:Nat}(h:sub a b)(k:sub b a):a=b:=Nat.eq_of_testBit_eq λi=>by
 cases h1:a.testBit i<;>cases h2:b.testBit i;.rfl
 .exact absurd (k i h2) (by rw[h1];decide)
 .exact absurd (h i h1) (by rw[h2];decide)
 .rfl
theorem zL(a b:Nat):sub a (a|||b):=λk h=>by grind
theorem qO(a b:Nat):sub b (a|||b):=λk h=>by grind
theorem MI{a b c:Nat}(h:sub a c)(k:sub b c):sub (a|||b) c:=λi hi=>by simp at hi;exact hi.elim (h i) (k i)
theorem or_mono{a b c d:Nat}(h:sub a c)(k:sub b d):sub (a|||b) (c|||d):=MI (fR h (zL _ _)) (fR k (qO _ _))
theorem qP(a b:Nat):sub (a&&&b) a:=λk h=>by grind
theorem oY(a b:Nat):sub (a&&&b) b:=λk h=>by grind
theorem Hq{a b c:Nat}(h:sub a b)(k:sub a c):sub a (b&&&c):=λi hi=>by rw[Nat.testBit_and,h i hi,k i hi];rfl
theorem zero_sub(a:Nat):sub 0 a:=λk h=>by simp at h
theorem MJ{a s:Nat}:a<2^s↔sub a (2^s-1):=by
 constructor
 .intro h k hk;rw[Nat.testBit_two_pow_sub_one];rcases Nat.lt_or_ge k s with h1|h1;.grind
  .rw[Nat.testBit_lt_two_pow (Nat.lt_of_lt_of_le h (Nat.pow_le_pow_right (by omega) h1))]at hk<;>grind
 .intro h;refine Nat.lt_pow_two_of_testBit _ λk hk=>?_;cases hb:a.testBit k with|false=>rfl|true=>have:=h k hb<;>grind
theorem CH{a s t:Nat}(h:a<2^s)(hs:s<=t):a<2^t:=Nat.lt_of_lt_of_le h (Nat.pow_le_pow_right (by omega) hs)
theorem CI{a:Nat}(h:a<2^64):IntKind.u64.wrap (a:Int)=(a:Int):=iC (by omega)
theorem AD{a b:Nat}(ha:a<2^64)(hb:b<2^64):EU .u64 (a:Int) (b:Int)=((a|||b:Nat):Int):=by
 unfold EU;have e:(BitVec.ofNat 64 a|||BitVec.ofNat 64 b).toNat=a|||b:=by grind
 show IntKind.u64.wrap (((BitVec.ofNat 64 a|||BitVec.ofNat 64 b).toNat:Nat):Int)=_;rw[e,CI (Nat.or_lt_two_pow ha hb)]
theorem CJ{a b:Nat}(ha:a<2^64)(hb:b<2^64):z8 .u64 (a:Int) (b:Int)=((a&&&b:Nat):Int):=by
 unfold z8;have e:(BitVec.ofNat 64 a&&&BitVec.ofNat 64 b).toNat=a&&&b:=by grind
 show IntKind.u64.wrap (((BitVec.ofNat 64 a&&&BitVec.ofNat 64 b).toNat:Nat):Int)=_;rw[e,CI (Nat.lt_of_le_of_lt Nat.and_le_left ha)]
theorem Y9{s:Int}(h0:0<=s)(h:s<=15):cx ((1:Int)*(2^min (Int.toNat s) 64))=((2^s.toNat:Nat):Int):=by
 rw[Nat.min_eq_left (by omega),Int.one_mul];have:(2:Int)^s.toNat=((2^s.toNat:Nat):Int):=by simp
 rw[this];exact CI (Nat.pow_lt_pow_right (by omega) (by omega))
theorem Fh{n:Int}(h0:0<=n)(h:n<=16):cx ((cx ((1:Int)*(2^min (Int.toNat n) 64)))-1)=((2^n.toNat-1:Nat):Int):=by
 rw[Nat.min_eq_left (by omega),Int.one_mul];have e:(2:Int)^n.toNat=((2^n.toNat:Nat):Int):=by simp
 have h2:2^n.toNat<2^64:=Nat.pow_lt_pow_right (by omega) (by omega);have h3:1<=2^n.toNat:=Nat.one_le_two_pow;rw[e];rw[show cx ((2^n.toNat:Nat):Int)=((2^n.toNat:Nat):Int)from CI h2];have e2:((2^n.toNat:Nat):Int)-1=((2^n.toNat-1:Nat):Int):=by omega
 rw[e2];exact CI (by omega)
noncomputable def tB(m:Nat)(s:Int):Nat:=m|||2^s.toNat
noncomputable def eC(m:Nat)(l:List Int):Nat:=l.foldl tB m
noncomputable def AE(l:List Int):Prop:=∀s∈l,0<=s/\s<=15
theorem zM{l:List Int}(h:AE l):∀{m:Nat},m<2^16->eC m l<2^16:=by unfold eC;induction l with|nil=>grind|cons s r ih=>intro m hm;refine ih (λx hx=>h x (List.mem_cons_of_mem _ hx)) ?_;have:=h s List.mem_cons_self;exact Nat.or_lt_two_pow hm (Nat.pow_lt_pow_right (by omega) (by omega))
theorem zN(l:List Int):∀m:Nat,eC m l=m|||eC 0 l:=by unfold eC;induction l with|nil=>simp|cons s r ih=>intro m;rw[List.foldl_cons,List.foldl_cons,ih (tB m s),ih (tB 0 s)];simp[tB,Nat.or_assoc]
theorem Fi{α σ β:Type}{l:List α}{Lf:Nat->Int->σ->Option β}{f:σ->α->σ}{g:σ->β}{Inv:σ->Prop}(h0:∀k s,Lf (k+1) (l.length:Int) s=some (g s))(hs:∀k(i:Nat)x s,l[i]?=some x->Inv s->Inv (f s x)/\Lf (k+1) (i:Int) s=Lf k ((i+1:Nat):Int) (f s x)){k:Nat}{s:σ}(h:Inv s)(hk:l.length<k):Lf k 0 s=some (g (l.foldl f s)):=by obtain⟨s',⟨_,h1⟩,h2⟩:=dY (l:=l) (Lf:=Lf) (g:=g) (Inv:=λi q=>Inv q/\q=(l.take i).foldl f s) (λk s _=>h0 k s) (λk i x q hx⟨h1,h2⟩=>by obtain⟨g1,g2⟩:=hs k i x q hx h1;exact⟨_,⟨g1,by rw[take_succ hx,List.foldl_append,h2];rfl⟩,g2⟩) (k:=k) (s:=s) ⟨h,rfl⟩ hk;grind
theorem Va{m:Nat}(hm:m<2^16){s:Int}(h0:0<=s)(h:s<=15):EU .u64 (m:Int) (cx ((1:Int)*(2^min (Int.toNat s) 64)))=((tB m s:Nat):Int):=by rw[Y9 h0 h,AD (CH hm (by omega)) (Nat.pow_lt_pow_right (by omega) (by omega))];rfl
theorem Fj{m:Nat}(hm:m<2^16){s:Int}(h:s<=15):tB m s<2^16:=Nat.or_lt_two_pow hm (Nat.pow_lt_pow_right (by omega) (by omega))
theorem jM(f:UInt8->Int->Bool)(x:Instr):(aP f x).length<=3:=by unfold aP one<;>grind
theorem anT{c:UInt8}(h:(U c).2.2.1=true\/(U c).2.2.2=true):(U c).2.1=15:=by
 unfold U at h⊢;repeat' split
 all_goals simp_all
theorem n4{x:Instr}(hc:dL x=true):AE (aP jF x)/\AE (aP ny x):=by unfold dL at hc;unfold aP;cases hs:wH x.1with|none=>grind|some t=>
 rw[hs]at hc;simp at hc;have Vb:∀{k:UInt8}{v s:Int}{q:Bool},fits k v=true->((U k).2.2.1=true\/(U k).2.2.2=true)->s∈one (decide (v>=0)) v->0<=s/\s<=15:=λhf hu hm=>by simp only[fits,Bool.and_eq_true,decide_eq_true_eq,anT hu]at hf;unfold one at hm;rename_i v s _;cases h:decide (v>=0)with|false=>rw[h]at hm;cases hm|true=>rw[h]at hm;have:=of_decide_eq_true h;simp only[au,List.mem_singleton]at hm;omega
 have apz:∀{k:UInt8}{v s:Int},fits k v=true->s∈one (jF k v) v->0<=s/\s<=15:=λ{k v s}hf hm=>by unfold jF at hm;cases hu:(U k).2.2.1with|false=>rw[hu]at hm;cases hm|true=>rw[hu,Bool.true_and]at hm;exact Vb (q:=true) hf (.inl hu) hm
 have apA:∀{k:UInt8}{v s:Int},fits k v=true->s∈one (ny k v) v->0<=s/\s<=15:=λ{k v s}hf hm=>by unfold ny at hm;cases hu:(U k).2.2.2with|false=>rw[hu]at hm;cases hm|true=>rw[hu,Bool.true_and]at hm;exact Vb (q:=true) hf (.inr hu) hm
 constructor;.intro s hm;grind
 .intro s hm;grind
noncomputable def QH(x:Instr):Nat:=eC 0 (aP ny x)
noncomputable def Rk(x:Instr):Nat:=eC (eC 0 (aP jF x)) (aP ny x)
theorem afq{x:Instr}(hc:dL x=true):QH x<2^16:=zM (n4 hc).2 (by omega)
theorem ajz(x:Instr):sub (QH x) (Rk x):=by unfold Rk QH;rw[zN (aP ny x) (eC 0 (aP jF x))];exact qO _ _
theorem Vc{N:Nat}{l:List Int}(hN:500<N)(hl:l.length<=3)(h:AE l):L8 N l=some ((eC 0 l:Nat):Int):=by rw[L8.eq_1];have:=Fi (l:=l) (f:=tB) (g:=λm:Nat=>(m:Int)) (Inv:=λm=>m<2^16) (Lf:=λk i(m:Nat)=>f117.bg N k ((m:Int),l,(l.length:Int),i)) (λk s=>by simp only[f117.bg.eq_2,aL,ak]) (λk i x s hx hs=>by have hx2:=h x (aS hx);exact⟨Fj hs hx2.2,by simp only[f117.bg.eq_2,aI (aA hx),au,aD hx,Option.bind_some,show(!decide (x<0))=true by simp;omega,af,Va hs hx2.1 hx2.2,aj (show i<9223372036854775807by have:=aA hx;omega)]⟩) (k:=N) (s:=0) (by omega) (by omega);simp at this;rw[this];rfl
noncomputable def kN(l:List Instr)(most:Nat):Bool:=!(l.any λx=>decide (¬Rk x<2^most))
noncomputable def CK(l:List Instr)(params most:Int):Int:=if most<0\/most>16\/params<0\/params>most then 2 else if kN l most.toNat then 0 else 16
theorem or4(a b c d:Bool):(bif a then some true else bif b then some true else bif c then some true else some d:Option Bool)=some (a||(b||(c||d))):=by grind
theorem Za(params most:Int):(decide (most<0)||(decide (most>16)||(decide (params<0)||decide (params>most))))=decide (most<0\/most>16\/params<0\/params>most):=by grind
end Go.Proofs.YtdogilonhnbapaaGreatDoor
namespace Go.Proofs.YtdogilonhnbapaaGreatDoor
open Go Go.bI Go.Sym
open Classical
noncomputable def Ab:Nat->(Nat->Nat)->Nat|0,_=>0|n+1,f=>Ab n f+f n
theorem MK{n:Nat}{f g:Nat->Nat}(h:∀k,k<n->f k=g k):Ab n f=Ab n g:=by induction n with|zero=>rfl|succ n ih=>simp only[Ab]<;>grind
theorem CM{n m:Nat}{f g:Nat->Nat}(hm:m<n)(h:∀k,k≠m->f k=g k):Ab n f+g m=Ab n g+f m:=by induction n with|zero=>omega|succ n ih=>
 simp[Ab];by_cases he:m=n;.subst he;rw[MK (f:=f) (g:=g) λk hk=>h k (by omega)];omega
 grind
theorem On{n b:Nat}{f:Nat->Nat}(h:∀k,f k<=b):Ab n f<=n*b:=by induction n with|zero=>simp[Ab]|succ n ih=>simp only[Ab]<;>grind
noncomputable def O(o:List Nat)(k:Nat):Nat:=o.getD k 0
theorem Oo{o:List Nat}{k:Nat}(h:k<o.length):o[k]?=some (O o k):=by simp only[O,List.getD_eq_getElem?_getD,List.getElem?_eq_getElem h];rfl
theorem fE{o:List Nat}{m v k:Nat}(h:m<o.length):O (o.set m v) k=if k=m then v else O o k:=by simp only[O,List.getD_eq_getElem?_getD,List.getElem?_set]<;>grind
theorem gr{o:List Nat}{k:Nat}(h:k<o.length):(cN o)[k]?=some ((O o k:Nat):Int):=by simp[cN,List.getElem?_map,Oo h,Option.map_some]
theorem qQ(o:List Nat)(m v:Nat):(cN o).set m (v:Int)=cN (o.set m v):=by simp[cN,List.map_set]
theorem ajA{a b:List Nat}(h:a.length=b.length)(hk:∀k,k<a.length->O a k=O b k):a=b:=by
 apply List.ext_getElem?;intro k;by_cases h1:k<a.length;.rw[Oo h1,Oo (by omega),hk k h1]
 grind
theorem ajB{o:List Nat}{m:Nat}(h:m<o.length):o.set m (O o m)=o:=Co (Oo h)
noncomputable def wr(l:List Instr)(i:Nat):Nat:=match l[i]?with|some x=>QH x|none=>0
noncomputable def Vd(l:List Instr)(P:Nat)(S:Nat->Nat):Prop:=sub (S 0) P/\∀i,Reach l i->∀k∈nx l i,sub (S k) (S i|||wr l i)
structure CN(l:List Instr)(P F:Nat)(G:Nat->Nat):Prop where
 sol:Vd l P G
 J8:∀k,sub (G k) F
 most:∀S,Vd l P S->∀k,Reach l k->sub (S k) (G k)
theorem CN.eq{l:List Instr}{P F:Nat}{G H:Nat->Nat}(h:CN l P F G)(hs:Vd l P H)(hm:∀S,Vd l P S->(∀k,sub (S k) F)->∀k,Reach l k->sub (S k) (H k)){k:Nat}(hk:Reach l k):G k=H k:=wS (hm G h.sol h.J8 k hk) (h.most H hs k hk)
structure VM(l:List Instr)(P F p s:Nat):Prop where
 v:VC l
 le:l.length<=200sle:s<=16ps:p<=s
 eP:P=2^p-1
 eF:F=2^s-1us:∀(i:Nat)x,l[i]?=some x->Rk x<2^s
theorem VM.PF{l:List Instr}{P F p s:Nat}(h:VM l P F p s):sub P F:=by rw[h.eF];refine MJ.1 ?_;rw[h.eP];have:2^p<=2^s:=Nat.pow_le_pow_right (by omega) h.ps<;>grind
theorem VM.wF{l:List Instr}{P F p s:Nat}(h:VM l P F p s)(i:Nat):sub (wr l i) F:=by
 unfold wr;split;.rename_i x hx;rw[h.eF];exact fR (ajz x) (MJ.1 (h.us i x hx))
 .exact zero_sub _
theorem VM.lt{l:List Instr}{P F p s a:Nat}(h:VM l P F p s)(ha:sub a F):a<65536:=by rw[h.eF]at ha;exact CH (MJ.2 ha) h.sle
structure Lv(l:List Instr)(P F:Nat)(b:List Bool)(o:List Nat):Prop where
 VQ:QF l b
 len:o.length=l.length
 J8:∀k,sub (O o k) F
 p0:sub (O o 0) P
 un:∀k,¬T b k->O o k=0great:∀S,Vd l P S->∀k,T b k->sub (S k) (O o k)
structure LvP(l:List Instr)(P F:Nat)(b:List Bool)(o q:List Nat):Prop where
 lv:Lv l P F b o
 wQ:∀k∈q,T b k
 shut:∀i,T b i->i∈q\/∀k∈nx l i,T b k/\sub (O o k) (O o i|||wr l i)
noncomputable def mu(n:Nat)(b:List Bool)(o:List Nat):Nat:=Ab n λk=>if T b k then O o k else 65536
theorem afr{n m v:Nat}{b:List Bool}{o:List Nat}(hm:m<n)(hb:b.length=n)(ho:o.length=n)(hf:¬T b m)(hv:v<65536):mu n (b.set m true) (o.set m v)+1<=mu n b o:=by
 have:=CM (n:=n) (m:=m) (f:=λk=>if T (b.set m true) k then O (o.set m v) k else 65536) (g:=λk=>if T b k then O o k else 65536) hm (λk hk=>by
  simp only[fE (show m<o.length by omega),if_neg hk];by_cases h:T b k;.rw[if_pos h,if_pos ((ef (by omega)).2 (.inr h))]
  .rw[if_neg h,if_neg λh'=>((ef (by omega)).1 h').elim hk h]);rw[if_neg hf,if_pos ((ef (show m<b.length by omega)).2 (.inl rfl):T (b.set m true) m),fE (show m<o.length by omega),if_pos rfl]at this;unfold mu;omega
theorem Zb{n m v:Nat}{b:List Bool}{o:List Nat}(hm:m<n)(ho:o.length=n)(hf:T b m)(hv:v<O o m):mu n b (o.set m v)+1<=mu n b o:=by have:=CM (n:=n) (m:=m) (f:=λk=>if T b k then O (o.set m v) k else 65536) (g:=λk=>if T b k then O o k else 65536) hm (λk hk=>by simp only[fE (show m<o.length by omega),if_neg hk]);rw[if_pos hf,if_pos hf,fE (show m<o.length by omega),if_pos rfl]at this;unfold mu;omega
theorem wT{a b:Nat}(h:a&&&b≠a):a&&&b<a:=Nat.lt_of_le_of_ne Nat.and_le_left h
theorem J9{N:Nat}{l:List Instr}{P F p s:Nat}(hv:VM l P F p s)(hN:500<N){b:List Bool}{o q:List Nat}{i:Nat}{ws:List Nat}(rJ:∀k,O ws k=wr l k)(hwl:ws.length=l.length)(h:LvP l P F b o (q++[i]))(hq:mu l.length b o+q.length<=14000000):∃b' o' r,LvP l P F b' o' (q++r)/\mu l.length b' o'+r.length<=mu l.length b o/\f65.eA N N (l,(i:Int),cN (nx l i),((cN (nx l i)).length:Int),0,(p:Int),b,cN o,cN ws,cN q)=some (l,(p:Int),b',cN o',cN ws,cN (q++r)):=by
 have hi:T b i:=h.wQ i (by simp);have Om:=h.lv.VQ.reach i hi;have yw:i<l.length:=Om.lt hv.v;have hnl:=qL l i;have Hr:∀{a:Nat},sub a F->a<2^64:=λha=>Nat.lt_of_lt_of_le (hv.lt ha) (by omega);obtain⟨⟨b',o',r⟩,hI,he⟩:=dY (l:=cN (nx l i)) (g:=λt:List Bool×List Nat×List Nat=>(l,(p:Int),t.1,cN t.2.1,cN ws,cN (q++t.2.2))) (Inv:=λj t=>Lv l P F t.1 t.2.1/\(∀k∈q++t.2.2,T t.1 k)/\(∀k,T t.1 k->k∈q++t.2.2\/k=i\/∀k'∈nx l k,T t.1 k'/\sub (O t.2.1 k') (O t.2.1 k|||wr l k))/\(∀k∈(nx l i).take j,T t.1 k/\sub (O t.2.1 k) (O o i|||wr l i))/\mu l.length t.1 t.2.1+t.2.2.length<=mu l.length b o/\T t.1 i/\O t.2.1 i=O o i) (Lf:=λk j t=>f65.eA N k (l,(i:Int),cN (nx l i),((cN (nx l i)).length:Int),j,(p:Int),t.1,cN t.2.1,cN ws,cN (q++t.2.2))) (λk t _=>by simp only[f65.eA.eq_2,aL,ak]) (λk j x t hx⟨h1,h2,h3,h4,h5,h6,h7⟩=>by
   obtain⟨b1,o1,r1⟩:=t;simp only at h1 h2 h3 h4 h5 h6 h7;obtain⟨m,hm,rfl⟩:=ya hx;have hml:=zK hv.v (aS hm);have hmb:m<b1.length:=by rw[h1.VQ.len];exact hml
   have hmo:m<o1.length:=by rw[h1.len];exact hml
   have hio:i<o1.length:=by rw[h1.len];exact yw
   have hiw:i<ws.length:=by rw[hwl];exact yw
   have hj:j<9223372036854775807:=by have:=aA hm;omega
   have hlF:sub (O o1 i|||wr l i) F:=MI (h1.J8 i) (hv.wF i);have hr:room ((cN (q++r1)).length+1) 8=true:=N5 (by rw[bF,List.length_append];omega) (by rw[bF,List.length_append];omega);simp only[f65.eA.eq_2,aI (aA hm),au,aD hx,Option.bind_some,show decide ((i:Int)<0)=false by simp,ak,bF,bW hio,bW hiw,bW hmb,bW hmo,af,Int.toNat_natCast,gr hio,gr hiw,rJ,AD (Hr (h1.J8 i)) (Hr (hv.wF i)),aj hj];have hle:∀k∈(nx l i).take (j+1),k∈(nx l i).take j\/k=m:=λk hk=>by rw[take_succ hm,List.mem_append,List.mem_singleton]at hk;exact hk
   rcases J7 hmb with hb|hb
   .have hbT:T b1 m:=hb;simp only[hb,Option.bind_some,Bool.not_true,ak,gr hmo,qQ,CJ (Hr (h1.J8 m)) (Hr hlF),bF,List.length_set,bW hmo,af,gr (show m<(o1.set m (O o1 m&&&(O o1 i|||wr l i))).length by simp;exact hmo),fE hmo,if_true];by_cases hnew:O o1 m&&&(O o1 i|||wr l i)=O o1 m
    .rw[hnew,ajB hmo];refine⟨(b1,o1,r1),⟨h1,h2,h3,λk hk=>?_,h5,h6,h7⟩,by simp⟩;rcases hle k hk with hk|rfl;.exact h4 k hk
     .refine⟨hbT,?_⟩;have:=oY (O o1 k) (O o1 i|||wr l i);simp only;rw[hnew]at this;rw[<-h7];exact this
    .have hmi:m≠i:=λe=>hnew (by subst e;exact wS (qP _ _) (Hq (ja _) (zL _ _)));have hlt:=wT hnew;have O6:∀k,sub (O (o1.set m (O o1 m&&&(O o1 i|||wr l i))) k) (O o1 k):=λk=>by
      rw[fE hmo];split;.rename_i e;subst e;exact qP _ _
      .exact ja _
     refine⟨(b1,o1.set m (O o1 m&&&(O o1 i|||wr l i)),r1++[m]),⟨⟨h1.VQ,by simp[h1.len],λk=>fR (O6 k) (h1.J8 k),fR (O6 0) h1.p0,λk hk=>?_,λS hS k hk=>?_⟩,λk hk=>?_,λk hk=>?_,λk hk=>?_,?_,h6,?_⟩,?_⟩;.rw[fE hmo,if_neg (λe=>hk (by rw[e];exact hbT))];exact h1.un k hk
     .rw[fE hmo];split;.rename_i e;subst e;exact Hq (h1.great S hS k hk) (fR (hS.2 i Om k (aS hm)) (or_mono (h1.great S hS i h6) (ja _)))
      .exact h1.great S hS k hk
     .simp only at hk;rw[<-List.append_assoc,List.mem_append,List.mem_singleton]at hk;rcases hk with hk|rfl;.exact h2 k hk
      .exact hbT
     .simp only;by_cases hkm:k=m;.subst hkm;exact .inl (by simp)
      .rcases h3 k hk with g|g|g;.exact .inl (by rw[<-List.append_assoc];exact List.mem_append_left _ g)
       .exact .inr (.inl g)
       .refine .inr (.inr λk' hk'=>⟨(g k' hk').1,?_⟩);rw[fE hmo (k:=k),if_neg hkm];exact fR (O6 k') (g k' hk').2
     .simp only;rcases hle k hk with hk|rfl;.exact⟨(h4 k hk).1,fR (O6 k) (h4 k hk).2⟩
      .refine⟨hbT,?_⟩;rw[fE hmo,if_pos rfl,<-h7];exact oY _ _
     .have:=Zb (n:=l.length) hml h1.len hbT hlt;simp only[List.length_append,List.length_singleton];omega
     .simp only;rw[fE hmo,if_neg (Ne.symm hmi)];exact h7
     .rw[show(((O o1 m&&&(O o1 i|||wr l i):Nat):Int)!=((O o1 m:Nat):Int))=true by simp[bne];omega,au,show room ((q++r1).length+1) 8=true by rw[bF]at hr;exact hr,af,<-List.append_assoc,tR (q++r1) [m]];rfl
   .have hbF:¬T b1 m:=λe=>by unfold T at e;rw[hb]at e;cases e
    have hmi:m≠i:=λe=>hbF (by rw[e];exact h6);simp only[hb,Option.bind_some,Bool.not_false,au,gr hmo,af,qQ,show room ((q++r1).length+1) 8=true by rw[bF]at hr;exact hr];refine⟨(b1.set m true,o1.set m (O o1 i|||wr l i),r1++[m]),⟨⟨⟨by simp[h1.VQ.len],(ef hmb).2 (.inr h1.VQ.zero),λk hk=>?_⟩,by simp[h1.len],λk=>?_,?_,λk hk=>?_,λS hS k hk=>?_⟩,λk hk=>?_,λk hk=>?_,λk hk=>?_,?_,(ef hmb).2 (.inr h6),?_⟩,?_⟩
    .rcases(ef hmb).1 hk with rfl|hk;.exact .step Om (aS hm)
     .exact h1.VQ.reach k hk
    .rw[fE hmo];split;.exact hlF
     .exact h1.J8 k
    .rw[fE hmo,if_neg (λe=>hbF (by rw[<-e];exact h1.VQ.zero))];exact h1.p0
    .rw[fE hmo,if_neg (λe=>hk ((ef hmb).2 (.inl e)))];exact h1.un k λh'=>hk ((ef hmb).2 (.inr h'))
    .rw[fE hmo];split;.rename_i e;subst e;exact fR (hS.2 i Om k (aS hm)) (or_mono (h1.great S hS i h6) (ja _))
     .rename_i e;rcases(ef hmb).1 hk with hk|hk;.exact absurd hk e
      .exact h1.great S hS k hk
    .simp only at hk;rw[<-List.append_assoc,List.mem_append,List.mem_singleton]at hk;rcases hk with hk|rfl;.exact(ef hmb).2 (.inr (h2 k hk))
     .exact(ef hmb).2 (.inl rfl)
    .simp only at hk⊢;rcases(ef hmb).1 hk with rfl|hk;.exact .inl (by simp)
     .rcases h3 k hk with g|g|g;.exact .inl (by rw[<-List.append_assoc];exact List.mem_append_left _ g)
      .exact .inr (.inl g)
      .refine .inr (.inr λk' hk'=>⟨(ef hmb).2 (.inr (g k' hk').1),?_⟩);rw[fE hmo,fE hmo,if_neg (λe=>hbF (by rw[<-e];exact(g k' hk').1)),if_neg (λe=>hbF (by rw[<-e];exact hk))];exact(g k' hk').2
    .simp only;rcases hle k hk with hk|rfl;.refine⟨(ef hmb).2 (.inr (h4 k hk).1),?_⟩;rw[fE hmo,if_neg (λe=>hbF (by rw[<-e];exact(h4 k hk).1))];exact(h4 k hk).2
     .refine⟨(ef hmb).2 (.inl rfl),?_⟩;rw[fE hmo,if_pos rfl,h7];exact ja _
    .have:=afr (n:=l.length) hml h1.VQ.len h1.len hbF (hv.lt hlF);simp only[List.length_append,List.length_singleton];omega
    .simp only;rw[fE hmo,if_neg (Ne.symm hmi)];exact h7
    .rw[<-List.append_assoc,tR (q++r1) [m]];rfl) (k:=N) (s:=(b,o,[])) ⟨h.lv,λk hk=>h.wQ k (by simp at hk;simp[hk]),λk hk=>by
   rcases h.shut k hk with h'|h'
   .simp at h';rcases h' with h'|h';.exact .inl (by simpa using h')
    .exact .inr (.inl h')
   .exact .inr (.inr h'),λk hk=>by simp at hk,by simp,hi,rfl⟩ (by rw[bF];omega);obtain⟨h1,h2,h3,h4,h5,h6,h7⟩:=hI;refine⟨b',o',r,⟨h1,h2,λk hk=>?_⟩,h5,by simpa using he⟩;rcases h3 k hk with g|rfl|g;.grind
 .right;intro k' hk';rw[h7];exact h4 k' (by rw[bF,List.take_length];exact hk')
 grind
end Go.Proofs.YtdogilonhnbapaaGreatDoor
