/- A part of the proof: Law12mkl7f, Law12mkl7g. -/
import Derived.Test.YtgkllgjmfpjeoaaGreatDoorLaw12mkl7d
set_option linter.unusedVariables false
set_option linter.unusedSimpArgs false
namespace Go.Proofs.YtgkllgjmfpjeoaaGreatDoor
open Go Go.bJ Go.Sym
open Classical
noncomputable def sub(a b:Nat):Prop:=∀k,a.testBit k=true->b.testBit k=true
theorem iW(a:Nat):sub a a:=λ_ h=>h
theorem fQ{a b c:Nat}(h:sub a b)(k:sub b c):sub a c:=λi hi=>k i (h i hi)
theorem wu{a b:Nat}(h:sub a b)(k:sub b a):a=b:=Nat.eq_of_testBit_eq λi=>by
 cases h1:a.testBit i<;>cases h2:b.testBit i;.rfl
 .exact absurd (k i h2) (by rw[h1];decide)
 .exact absurd (h i h1) (by rw[h2];decide)
 .rfl
theorem sS(a b:Nat):sub a (a|||b):=λk h=>by grind
theorem wv(a b:Nat):sub b (a|||b):=λk h=>by grind
theorem Lx{a b c:Nat}(h:sub a c)(k:sub b c):sub (a|||b) c:=λi hi=>by simp at hi;exact hi.elim (h i) (k i)
theorem or_mono{a b c d:Nat}(h:sub a c)(k:sub b d):sub (a|||b) (c|||d):=Lx (fQ h (sS _ _)) (fQ k (wv _ _))
theorem qE(a b:Nat):sub (a&&&b) a:=λk h=>by grind
theorem oR(a b:Nat):sub (a&&&b) b:=λk h=>by grind
theorem Gu{a b c:Nat}(h:sub a b)(k:sub a c):sub a (b&&&c):=λi hi=>by rw[Nat.testBit_and,h i hi,k i hi];rfl
theorem zero_sub(a:Nat):sub 0 a:=λk h=>by simp at h
theorem Lz{a s:Nat}:a<2^s↔sub a (2^s-1):=by
 constructor
 .intro h k hk;rw[Nat.testBit_two_pow_sub_one];rcases Nat.lt_or_ge k s with h1|h1;.grind
  .rw[Nat.testBit_lt_two_pow (Nat.lt_of_lt_of_le h (Nat.pow_le_pow_right (by omega) h1))]at hk<;>grind
 .intro h;refine Nat.lt_pow_two_of_testBit _ λk hk=>?_;cases hb:a.testBit k with|false=>rfl|true=>have:=h k hb<;>grind
theorem Cb{a s t:Nat}(h:a<2^s)(hs:s<=t):a<2^t:=Nat.lt_of_lt_of_le h (Nat.pow_le_pow_right (by omega) hs)
theorem Cc{a:Nat}(h:a<2^64):IntKind.u64.wrap (a:Int)=(a:Int):=iD (by omega)
theorem zX{a b:Nat}(ha:a<2^64)(hb:b<2^64):Eh .u64 (a:Int) (b:Int)=((a|||b:Nat):Int):=by
 unfold Eh;have e:(BitVec.ofNat 64 a|||BitVec.ofNat 64 b).toNat=a|||b:=by grind
 show IntKind.u64.wrap (((BitVec.ofNat 64 a|||BitVec.ofNat 64 b).toNat:Nat):Int)=_;rw[e,Cc (Nat.or_lt_two_pow ha hb)]
theorem Cd{a b:Nat}(ha:a<2^64)(hb:b<2^64):zC .u64 (a:Int) (b:Int)=((a&&&b:Nat):Int):=by
 unfold zC;have e:(BitVec.ofNat 64 a&&&BitVec.ofNat 64 b).toNat=a&&&b:=by grind
 show IntKind.u64.wrap (((BitVec.ofNat 64 a&&&BitVec.ofNat 64 b).toNat:Nat):Int)=_;rw[e,Cc (Nat.lt_of_le_of_lt Nat.and_le_left ha)]
theorem WV{s:Int}(h0:0<=s)(h:s<=15):cv ((1:Int)*(2^min (Int.toNat s) 64))=((2^s.toNat:Nat):Int):=by
 rw[Nat.min_eq_left (by omega),Int.one_mul];have:(2:Int)^s.toNat=((2^s.toNat:Nat):Int):=by simp
 rw[this];exact Cc (Nat.pow_lt_pow_right (by omega) (by omega))
theorem EF{n:Int}(h0:0<=n)(h:n<=16):cv ((cv ((1:Int)*(2^min (Int.toNat n) 64)))-1)=((2^n.toNat-1:Nat):Int):=by
 rw[Nat.min_eq_left (by omega),Int.one_mul];have e:(2:Int)^n.toNat=((2^n.toNat:Nat):Int):=by simp
 have h2:2^n.toNat<2^64:=Nat.pow_lt_pow_right (by omega) (by omega);have h3:1<=2^n.toNat:=Nat.one_le_two_pow;rw[e];rw[show cv ((2^n.toNat:Nat):Int)=((2^n.toNat:Nat):Int)from Cc h2];have e2:((2^n.toNat:Nat):Int)-1=((2^n.toNat-1:Nat):Int):=by omega
 rw[e2];exact Cc (by omega)
noncomputable def sU(m:Nat)(s:Int):Nat:=m|||2^s.toNat
noncomputable def gf(m:Nat)(l:List Int):Nat:=l.foldl sU m
noncomputable def zY(l:List Int):Prop:=∀s∈l,0<=s/\s<=15
theorem zj{l:List Int}(h:zY l):∀{m:Nat},m<2^16->gf m l<2^16:=by unfold gf;induction l with|nil=>grind|cons s r ih=>intro m hm;refine ih (λx hx=>h x (List.mem_cons_of_mem _ hx)) ?_;have:=h s List.mem_cons_self;exact Nat.or_lt_two_pow hm (Nat.pow_lt_pow_right (by omega) (by omega))
theorem zk(l:List Int):∀m:Nat,gf m l=m|||gf 0 l:=by unfold gf;induction l with|nil=>simp|cons s r ih=>intro m;rw[List.foldl_cons,List.foldl_cons,ih (sU m s),ih (sU 0 s)];simp[sU,Nat.or_assoc]
theorem EG{α σ β:Type}{l:List α}{Lf:Nat->Int->σ->Option β}{f:σ->α->σ}{g:σ->β}{Inv:σ->Prop}(h0:∀k s,Lf (k+1) (l.length:Int) s=some (g s))(hs:∀k(i:Nat)x s,l[i]?=some x->Inv s->Inv (f s x)/\Lf (k+1) (i:Int) s=Lf k ((i+1:Nat):Int) (f s x)){k:Nat}{s:σ}(h:Inv s)(hk:l.length<k):Lf k 0 s=some (g (l.foldl f s)):=by obtain⟨s',⟨_,h1⟩,h2⟩:=eS (l:=l) (Lf:=Lf) (g:=g) (Inv:=λi q=>Inv q/\q=(l.take i).foldl f s) (λk s _=>h0 k s) (λk i x q hx⟨h1,h2⟩=>by obtain⟨g1,g2⟩:=hs k i x q hx h1;exact⟨_,⟨g1,by rw[take_succ hx,List.foldl_append,h2];rfl⟩,g2⟩) (k:=k) (s:=s) ⟨h,rfl⟩ hk;grind
theorem Un{m:Nat}(hm:m<2^16){s:Int}(h0:0<=s)(h:s<=15):Eh .u64 (m:Int) (cv ((1:Int)*(2^min (Int.toNat s) 64)))=((sU m s:Nat):Int):=by rw[WV h0 h,zX (Cb hm (by omega)) (Nat.pow_lt_pow_right (by omega) (by omega))];rfl
theorem EH{m:Nat}(hm:m<2^16){s:Int}(h:s<=15):sU m s<2^16:=Nat.or_lt_two_pow hm (Nat.pow_lt_pow_right (by omega) (by omega))
theorem jN(f:UInt8->Int->Bool)(x:Instr):(aQ f x).length<=3:=by unfold aQ one<;>grind
theorem alQ{c:UInt8}(h:(U c).2.2.1=true\/(U c).2.2.2=true):(U c).2.1=15:=by
 unfold U at h⊢;repeat' split
 all_goals simp_all
theorem nQ{x:Instr}(hc:dD x=true):zY (aQ jL x)/\zY (aQ oE x):=by unfold dD at hc;unfold aQ;cases hs:vX x.1with|none=>grind|some t=>
 rw[hs]at hc;simp at hc;have Uo:∀{k:UInt8}{v s:Int}{q:Bool},fits k v=true->((U k).2.2.1=true\/(U k).2.2.2=true)->s∈one (decide (v>=0)) v->0<=s/\s<=15:=λhf hu hm=>by simp only[fits,Bool.and_eq_true,decide_eq_true_eq,alQ hu]at hf;unfold one at hm;rename_i v s _;cases h:decide (v>=0)with|false=>rw[h]at hm;cases hm|true=>rw[h]at hm;have:=of_decide_eq_true h;simp only[au,List.mem_singleton]at hm;omega
 have ao6:∀{k:UInt8}{v s:Int},fits k v=true->s∈one (jL k v) v->0<=s/\s<=15:=λ{k v s}hf hm=>by unfold jL at hm;cases hu:(U k).2.2.1with|false=>rw[hu]at hm;cases hm|true=>rw[hu,Bool.true_and]at hm;exact Uo (q:=true) hf (.inl hu) hm
 have ao7:∀{k:UInt8}{v s:Int},fits k v=true->s∈one (oE k v) v->0<=s/\s<=15:=λ{k v s}hf hm=>by unfold oE at hm;cases hu:(U k).2.2.2with|false=>rw[hu]at hm;cases hm|true=>rw[hu,Bool.true_and]at hm;exact Uo (q:=true) hf (.inr hu) hm
 constructor;.intro s hm;grind
 .intro s hm;grind
noncomputable def Pq(x:Instr):Nat:=gf 0 (aQ oE x)
noncomputable def Nf(x:Instr):Nat:=gf (gf 0 (aQ jL x)) (aQ oE x)
theorem aci{x:Instr}(hc:dD x=true):Pq x<2^16:=zj (nQ hc).2 (by omega)
theorem ahy(x:Instr):sub (Pq x) (Nf x):=by unfold Nf Pq;rw[zk (aQ oE x) (gf 0 (aQ jL x))];exact wv _ _
theorem Up{N:Nat}{l:List Int}(hN:500<N)(hl:l.length<=3)(h:zY l):OR N l=some ((gf 0 l:Nat):Int):=by rw[OR.eq_1];have:=EG (l:=l) (f:=sU) (g:=λm:Nat=>(m:Int)) (Inv:=λm=>m<2^16) (Lf:=λk i(m:Nat)=>f120.bx N k ((m:Int),l,(l.length:Int),i)) (λk s=>by simp only[f120.bx.eq_2,aM,aq]) (λk i x s hx hs=>by have hx2:=h x (aU hx);exact⟨EH hs hx2.2,by simp only[f120.bx.eq_2,aJ (az hx),au,aE hx,Option.bind_some,show(!decide (x<0))=true by simp;omega,ai,Un hs hx2.1 hx2.2,aj (show i<9223372036854775807by have:=az hx;omega)]⟩) (k:=N) (s:=0) (by omega) (by omega);simp at this;rw[this];rfl
noncomputable def kI(l:List Instr)(most:Nat):Bool:=!(l.any λx=>decide (¬Nf x<2^most))
noncomputable def Ce(l:List Instr)(params most:Int):Int:=if most<0\/most>16\/params<0\/params>most then 2 else if kI l most.toNat then 0 else 16
theorem or4(a b c d:Bool):(bif a then some true else bif b then some true else bif c then some true else some d:Option Bool)=some (a||(b||(c||d))):=by grind
theorem WW(params most:Int):(decide (most<0)||(decide (most>16)||(decide (params<0)||decide (params>most))))=decide (most<0\/most>16\/params<0\/params>most):=by grind
end Go.Proofs.YtgkllgjmfpjeoaaGreatDoor
namespace Go.Proofs.YtgkllgjmfpjeoaaGreatDoor
open Go Go.bJ Go.Sym
open Classical
noncomputable def zD:Nat->(Nat->Nat)->Nat|0,_=>0|n+1,f=>zD n f+f n
theorem LA{n:Nat}{f g:Nat->Nat}(h:∀k,k<n->f k=g k):zD n f=zD n g:=by induction n with|zero=>rfl|succ n ih=>simp only[zD]<;>grind
theorem Cf{n m:Nat}{f g:Nat->Nat}(hm:m<n)(h:∀k,k≠m->f k=g k):zD n f+g m=zD n g+f m:=by induction n with|zero=>omega|succ n ih=>
 simp[zD];by_cases he:m=n;.subst he;rw[LA (f:=f) (g:=g) λk hk=>h k (by omega)];omega
 grind
theorem Ng{n b:Nat}{f:Nat->Nat}(h:∀k,f k<=b):zD n f<=n*b:=by induction n with|zero=>simp[zD]|succ n ih=>simp only[zD]<;>grind
noncomputable def O(o:List Nat)(k:Nat):Nat:=o.getD k 0
theorem Nh{o:List Nat}{k:Nat}(h:k<o.length):o[k]?=some (O o k):=by simp only[O,List.getD_eq_getElem?_getD,List.getElem?_eq_getElem h];rfl
theorem fD{o:List Nat}{m v k:Nat}(h:m<o.length):O (o.set m v) k=if k=m then v else O o k:=by simp only[O,List.getD_eq_getElem?_getD,List.getElem?_set]<;>grind
theorem gq{o:List Nat}{k:Nat}(h:k<o.length):(cN o)[k]?=some ((O o k:Nat):Int):=by simp[cN,List.getElem?_map,Nh h,Option.map_some]
theorem qF(o:List Nat)(m v:Nat):(cN o).set m (v:Int)=cN (o.set m v):=by simp[cN,List.map_set]
theorem ahz{a b:List Nat}(h:a.length=b.length)(hk:∀k,k<a.length->O a k=O b k):a=b:=by
 apply List.ext_getElem?;intro k;by_cases h1:k<a.length;.rw[Nh h1,Nh (by omega),hk k h1]
 grind
theorem ahA{o:List Nat}{m:Nat}(h:m<o.length):o.set m (O o m)=o:=BR (Nh h)
noncomputable def wr(l:List Instr)(i:Nat):Nat:=match l[i]?with|some x=>Pq x|none=>0
noncomputable def Uq(l:List Instr)(P:Nat)(S:Nat->Nat):Prop:=sub (S 0) P/\∀i,Reach l i->∀k∈nx l i,sub (S k) (S i|||wr l i)
structure Cg(l:List Instr)(P F:Nat)(G:Nat->Nat):Prop where
 sol:Uq l P G
 Jm:∀k,sub (G k) F
 most:∀S,Uq l P S->∀k,Reach l k->sub (S k) (G k)
theorem Cg.eq{l:List Instr}{P F:Nat}{G H:Nat->Nat}(h:Cg l P F G)(hs:Uq l P H)(hm:∀S,Uq l P S->(∀k,sub (S k) F)->∀k,Reach l k->sub (S k) (H k)){k:Nat}(hk:Reach l k):G k=H k:=wu (hm G h.sol h.Jm k hk) (h.most H hs k hk)
structure VM(l:List Instr)(P F p s:Nat):Prop where
 v:VC l
 le:l.length<=200sle:s<=16ps:p<=s
 eP:P=2^p-1
 eF:F=2^s-1us:∀(i:Nat)x,l[i]?=some x->Nf x<2^s
theorem VM.PF{l:List Instr}{P F p s:Nat}(h:VM l P F p s):sub P F:=by rw[h.eF];refine Lz.1 ?_;rw[h.eP];have:2^p<=2^s:=Nat.pow_le_pow_right (by omega) h.ps<;>grind
theorem VM.wF{l:List Instr}{P F p s:Nat}(h:VM l P F p s)(i:Nat):sub (wr l i) F:=by
 unfold wr;split;.rename_i x hx;rw[h.eF];exact fQ (ahy x) (Lz.1 (h.us i x hx))
 .exact zero_sub _
theorem VM.lt{l:List Instr}{P F p s a:Nat}(h:VM l P F p s)(ha:sub a F):a<65536:=by rw[h.eF]at ha;exact Cb (Lz.2 ha) h.sle
structure Lv(l:List Instr)(P F:Nat)(b:List Bool)(o:List Nat):Prop where
 U3:Po l b
 len:o.length=l.length
 Jm:∀k,sub (O o k) F
 p0:sub (O o 0) P
 un:∀k,¬T b k->O o k=0great:∀S,Uq l P S->∀k,T b k->sub (S k) (O o k)
structure LvP(l:List Instr)(P F:Nat)(b:List Bool)(o q:List Nat):Prop where
 lv:Lv l P F b o
 wq:∀k∈q,T b k
 shut:∀i,T b i->i∈q\/∀k∈nx l i,T b k/\sub (O o k) (O o i|||wr l i)
noncomputable def mu(n:Nat)(b:List Bool)(o:List Nat):Nat:=zD n λk=>if T b k then O o k else 65536
theorem acj{n m v:Nat}{b:List Bool}{o:List Nat}(hm:m<n)(hb:b.length=n)(ho:o.length=n)(hf:¬T b m)(hv:v<65536):mu n (b.set m true) (o.set m v)+1<=mu n b o:=by
 have:=Cf (n:=n) (m:=m) (f:=λk=>if T (b.set m true) k then O (o.set m v) k else 65536) (g:=λk=>if T b k then O o k else 65536) hm (λk hk=>by
  simp only[fD (show m<o.length by omega),if_neg hk];by_cases h:T b k;.rw[if_pos h,if_pos ((dY (by omega)).2 (.inr h))]
  .rw[if_neg h,if_neg λh'=>((dY (by omega)).1 h').elim hk h]);rw[if_neg hf,if_pos ((dY (show m<b.length by omega)).2 (.inl rfl):T (b.set m true) m),fD (show m<o.length by omega),if_pos rfl]at this;unfold mu;omega
theorem WX{n m v:Nat}{b:List Bool}{o:List Nat}(hm:m<n)(ho:o.length=n)(hf:T b m)(hv:v<O o m):mu n b (o.set m v)+1<=mu n b o:=by have:=Cf (n:=n) (m:=m) (f:=λk=>if T b k then O (o.set m v) k else 65536) (g:=λk=>if T b k then O o k else 65536) hm (λk hk=>by simp only[fD (show m<o.length by omega),if_neg hk]);rw[if_pos hf,if_pos hf,fD (show m<o.length by omega),if_pos rfl]at this;unfold mu;omega
theorem wz{a b:Nat}(h:a&&&b≠a):a&&&b<a:=Nat.lt_of_le_of_ne Nat.and_le_left h
theorem Jn{N:Nat}{l:List Instr}{P F p s:Nat}(hv:VM l P F p s)(hN:500<N){b:List Bool}{o q:List Nat}{i:Nat}{ws:List Nat}(xl:∀k,O ws k=wr l k)(hwl:ws.length=l.length)(h:LvP l P F b o (q++[i]))(hq:mu l.length b o+q.length<=14000000):∃b' o' r,LvP l P F b' o' (q++r)/\mu l.length b' o'+r.length<=mu l.length b o/\f69.ez N N (l,(i:Int),cN (nx l i),((cN (nx l i)).length:Int),0,(p:Int),b,cN o,cN ws,cN q)=some (l,(p:Int),b',cN o',cN ws,cN (q++r)):=by
 have hi:T b i:=h.wq i (by simp);have Nd:=h.lv.U3.reach i hi;have wM:i<l.length:=Nd.lt hv.v;have hnl:=qA l i;have Gv:∀{a:Nat},sub a F->a<2^64:=λha=>Nat.lt_of_lt_of_le (hv.lt ha) (by omega);obtain⟨⟨b',o',r⟩,hI,he⟩:=eS (l:=cN (nx l i)) (g:=λt:List Bool×List Nat×List Nat=>(l,(p:Int),t.1,cN t.2.1,cN ws,cN (q++t.2.2))) (Inv:=λj t=>Lv l P F t.1 t.2.1/\(∀k∈q++t.2.2,T t.1 k)/\(∀k,T t.1 k->k∈q++t.2.2\/k=i\/∀k'∈nx l k,T t.1 k'/\sub (O t.2.1 k') (O t.2.1 k|||wr l k))/\(∀k∈(nx l i).take j,T t.1 k/\sub (O t.2.1 k) (O o i|||wr l i))/\mu l.length t.1 t.2.1+t.2.2.length<=mu l.length b o/\T t.1 i/\O t.2.1 i=O o i) (Lf:=λk j t=>f69.ez N k (l,(i:Int),cN (nx l i),((cN (nx l i)).length:Int),j,(p:Int),t.1,cN t.2.1,cN ws,cN (q++t.2.2))) (λk t _=>by simp only[f69.ez.eq_2,aM,aq]) (λk j x t hx⟨h1,h2,h3,h4,h5,h6,h7⟩=>by
   obtain⟨b1,o1,r1⟩:=t;simp only at h1 h2 h3 h4 h5 h6 h7;obtain⟨m,hm,rfl⟩:=xM hx;have hml:=zi hv.v (aU hm);have hmb:m<b1.length:=by rw[h1.U3.len];exact hml
   have hmo:m<o1.length:=by rw[h1.len];exact hml
   have hio:i<o1.length:=by rw[h1.len];exact wM
   have hiw:i<ws.length:=by rw[hwl];exact wM
   have hj:j<9223372036854775807:=by have:=az hm;omega
   have hlF:sub (O o1 i|||wr l i) F:=Lx (h1.Jm i) (hv.wF i);have hr:room ((cN (q++r1)).length+1) 8=true:=MX (by rw[bG,List.length_append];omega) (by rw[bG,List.length_append];omega);simp only[f69.ez.eq_2,aJ (az hm),au,aE hx,Option.bind_some,show decide ((i:Int)<0)=false by simp,aq,bG,bS hio,bS hiw,bS hmb,bS hmo,ai,Int.toNat_natCast,gq hio,gq hiw,xl,zX (Gv (h1.Jm i)) (Gv (hv.wF i)),aj hj];have hle:∀k∈(nx l i).take (j+1),k∈(nx l i).take j\/k=m:=λk hk=>by rw[take_succ hm,List.mem_append,List.mem_singleton]at hk;exact hk
   rcases Jl hmb with hb|hb
   .have hbT:T b1 m:=hb;simp only[hb,Option.bind_some,Bool.not_true,aq,gq hmo,qF,Cd (Gv (h1.Jm m)) (Gv hlF),bG,List.length_set,bS hmo,ai,gq (show m<(o1.set m (O o1 m&&&(O o1 i|||wr l i))).length by simp;exact hmo),fD hmo,if_true];by_cases hnew:O o1 m&&&(O o1 i|||wr l i)=O o1 m
    .rw[hnew,ahA hmo];refine⟨(b1,o1,r1),⟨h1,h2,h3,λk hk=>?_,h5,h6,h7⟩,by simp⟩;rcases hle k hk with hk|rfl;.exact h4 k hk
     .refine⟨hbT,?_⟩;have:=oR (O o1 k) (O o1 i|||wr l i);simp only;rw[hnew]at this;rw[<-h7];exact this
    .have hmi:m≠i:=λe=>hnew (by subst e;exact wu (qE _ _) (Gu (iW _) (sS _ _)));have hlt:=wz hnew;have NW:∀k,sub (O (o1.set m (O o1 m&&&(O o1 i|||wr l i))) k) (O o1 k):=λk=>by
      rw[fD hmo];split;.rename_i e;subst e;exact qE _ _
      .exact iW _
     refine⟨(b1,o1.set m (O o1 m&&&(O o1 i|||wr l i)),r1++[m]),⟨⟨h1.U3,by simp[h1.len],λk=>fQ (NW k) (h1.Jm k),fQ (NW 0) h1.p0,λk hk=>?_,λS hS k hk=>?_⟩,λk hk=>?_,λk hk=>?_,λk hk=>?_,?_,h6,?_⟩,?_⟩;.rw[fD hmo,if_neg (λe=>hk (by rw[e];exact hbT))];exact h1.un k hk
     .rw[fD hmo];split;.rename_i e;subst e;exact Gu (h1.great S hS k hk) (fQ (hS.2 i Nd k (aU hm)) (or_mono (h1.great S hS i h6) (iW _)))
      .exact h1.great S hS k hk
     .simp only at hk;rw[<-List.append_assoc,List.mem_append,List.mem_singleton]at hk;rcases hk with hk|rfl;.exact h2 k hk
      .exact hbT
     .simp only;by_cases hkm:k=m;.subst hkm;exact .inl (by simp)
      .rcases h3 k hk with g|g|g;.exact .inl (by rw[<-List.append_assoc];exact List.mem_append_left _ g)
       .exact .inr (.inl g)
       .refine .inr (.inr λk' hk'=>⟨(g k' hk').1,?_⟩);rw[fD hmo (k:=k),if_neg hkm];exact fQ (NW k') (g k' hk').2
     .simp only;rcases hle k hk with hk|rfl;.exact⟨(h4 k hk).1,fQ (NW k) (h4 k hk).2⟩
      .refine⟨hbT,?_⟩;rw[fD hmo,if_pos rfl,<-h7];exact oR _ _
     .have:=WX (n:=l.length) hml h1.len hbT hlt;simp only[List.length_append,List.length_singleton];omega
     .simp only;rw[fD hmo,if_neg (Ne.symm hmi)];exact h7
     .rw[show(((O o1 m&&&(O o1 i|||wr l i):Nat):Int)!=((O o1 m:Nat):Int))=true by simp[bne];omega,au,show room ((q++r1).length+1) 8=true by rw[bG]at hr;exact hr,ai,<-List.append_assoc,tC (q++r1) [m]];rfl
   .have hbF:¬T b1 m:=λe=>by unfold T at e;rw[hb]at e;cases e
    have hmi:m≠i:=λe=>hbF (by rw[e];exact h6);simp only[hb,Option.bind_some,Bool.not_false,au,gq hmo,ai,qF,show room ((q++r1).length+1) 8=true by rw[bG]at hr;exact hr];refine⟨(b1.set m true,o1.set m (O o1 i|||wr l i),r1++[m]),⟨⟨⟨by simp[h1.U3.len],(dY hmb).2 (.inr h1.U3.zero),λk hk=>?_⟩,by simp[h1.len],λk=>?_,?_,λk hk=>?_,λS hS k hk=>?_⟩,λk hk=>?_,λk hk=>?_,λk hk=>?_,?_,(dY hmb).2 (.inr h6),?_⟩,?_⟩
    .rcases(dY hmb).1 hk with rfl|hk;.exact .step Nd (aU hm)
     .exact h1.U3.reach k hk
    .rw[fD hmo];split;.exact hlF
     .exact h1.Jm k
    .rw[fD hmo,if_neg (λe=>hbF (by rw[<-e];exact h1.U3.zero))];exact h1.p0
    .rw[fD hmo,if_neg (λe=>hk ((dY hmb).2 (.inl e)))];exact h1.un k λh'=>hk ((dY hmb).2 (.inr h'))
    .rw[fD hmo];split;.rename_i e;subst e;exact fQ (hS.2 i Nd k (aU hm)) (or_mono (h1.great S hS i h6) (iW _))
     .rename_i e;rcases(dY hmb).1 hk with hk|hk;.exact absurd hk e
      .exact h1.great S hS k hk
    .simp only at hk;rw[<-List.append_assoc,List.mem_append,List.mem_singleton]at hk;rcases hk with hk|rfl;.exact(dY hmb).2 (.inr (h2 k hk))
     .exact(dY hmb).2 (.inl rfl)
    .simp only at hk⊢;rcases(dY hmb).1 hk with rfl|hk;.exact .inl (by simp)
     .rcases h3 k hk with g|g|g;.exact .inl (by rw[<-List.append_assoc];exact List.mem_append_left _ g)
      .exact .inr (.inl g)
      .refine .inr (.inr λk' hk'=>⟨(dY hmb).2 (.inr (g k' hk').1),?_⟩);rw[fD hmo,fD hmo,if_neg (λe=>hbF (by rw[<-e];exact(g k' hk').1)),if_neg (λe=>hbF (by rw[<-e];exact hk))];exact(g k' hk').2
    .simp only;rcases hle k hk with hk|rfl;.refine⟨(dY hmb).2 (.inr (h4 k hk).1),?_⟩;rw[fD hmo,if_neg (λe=>hbF (by rw[<-e];exact(h4 k hk).1))];exact(h4 k hk).2
     .refine⟨(dY hmb).2 (.inl rfl),?_⟩;rw[fD hmo,if_pos rfl,h7];exact iW _
    .have:=acj (n:=l.length) hml h1.U3.len h1.len hbF (hv.lt hlF);simp only[List.length_append,List.length_singleton];omega
    .simp only;rw[fD hmo,if_neg (Ne.symm hmi)];exact h7
    .rw[<-List.append_assoc,tC (q++r1) [m]];rfl) (k:=N) (s:=(b,o,[])) ⟨h.lv,λk hk=>h.wq k (by simp at hk;simp[hk]),λk hk=>by
   rcases h.shut k hk with h'|h'
   .simp at h';rcases h' with h'|h';.exact .inl (by simpa using h')
    .exact .inr (.inl h')
   .exact .inr (.inr h'),λk hk=>by simp at hk,by simp,hi,rfl⟩ (by rw[bG];omega);obtain⟨h1,h2,h3,h4,h5,h6,h7⟩:=hI;refine⟨b',o',r,⟨h1,h2,λk hk=>?_⟩,h5,by simpa using he⟩;rcases h3 k hk with g|rfl|g;.grind
 .right;intro k' hk';rw[h7];exact h4 k' (by rw[bG,List.take_length];exact hk')
 grind
end Go.Proofs.YtgkllgjmfpjeoaaGreatDoor
