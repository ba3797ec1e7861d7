/- The plain law, in one text. -/
import Derived.Test.YtokjmkblnafppaaGreatDoorLaw12loA
namespace Go.Proofs.YtokjmkblnafppaaGreatDoor
set_option linter.unusedSimpArgs false
set_option linter.unusedVariables false
open Go Go.bI Go.Sym
open Go Go.bI Go.Sym
open Go Go.bI Go.Sym
open Go Go.bI Go.Sym
open Go Go.bI Go.Sym
open Classical
open Go Go.bI Go.Sym
open Classical
open Go Go.bI Go.Sym
open Classical
open Go Go.bI Go.Sym
open Classical
open Go Go.bI Go.Sym
open Classical
open Go Go.bI Go.Sym
open Classical
open Go Go.bI Go.Sym
open Classical
open Go Go.bI Go.Sym
open Classical
open Go Go.bI Go.Sym
open Classical
open Go Go.bI Go.Sym
open Classical
open Go Go.bI Go.Sym
open Go Go.bI Go.Sym
open Go Go.bI Go.Sym
open Classical
theorem TD {b:List Bool} {i:Nat} (h:i<b.length):b[i]?=some true∨b[i]?=some false:=by
 rw[List.getElem?_eq_getElem h]
 cases b[i]<;>simp
structure Zr (l:List Instr) (s:List Bool):Prop where
 len:s.length=l.length
 zero:T s 0
 reach:∀ i,T s i→Reach l i
structure InP (l:List Instr) (s:List Bool) (o:List Nat):Prop where
 base:Zr l s
 rQ:∀ k∈o,T s k
 shut:∀ i,T s i→i∈o∨∀ k∈nx l i,T s k
theorem T.lt {b:List Bool} {k:Nat} (h:T b k):k<b.length:=bp h
theorem rK (a b:List Nat):cN (a++b)=cN a++cN b:=by simp[cN]
theorem cP (a:List Nat):(cN a).length=a.length:=by simp[cN]
theorem BP {N:Nat} {l:List Instr} (hv:VC l) (hN:500<N) {s:List Bool} {o:List Nat} {i:Nat} (h:InP l s (o++[i])) (ho:o.length≤1000000) :
  ∃ s' p,InP l s' (o++p)∧cntF s'+p.length≤cntF s∧f50.fD N N (l,(i:Int),cN (nx l i),((cN (nx l i)).length:Int),0,s,cN o)=some (l,s',cN (o++p)):=by
 have hi:T s i:=h.rQ i (by simp)
 have Zs:=h.base.reach i hi
 obtain⟨⟨s',p⟩,hI,he⟩:=jV (l:=cN (nx l i)) (g:=fun q:List Bool×List Nat=>(l,q.1,cN (o++q.2)))
  (Inv:=fun j q=>Zr l q.1∧(∀ k∈o++q.2,T q.1 k)∧(∀ k,T q.1 k→k∈o++q.2∨k=i∨∀ k'∈nx l k,T q.1 k')∧(∀ k∈(nx l i).take j,T q.1 k)∧cntF q.1+q.2.length≤cntF s∧T q.1 i)
  (Lf:=fun k j q=>f50.fD N k (l,(i:Int),cN (nx l i),((cN (nx l i)).length:Int),j,q.1,cN (o++q.2)))
  (fun k q _=>by simp only[f50.fD.eq_2,bZ,aS])
  (fun k j x q hx ⟨h1, h2, h3, h4, h5, h6⟩ => by
   obtain⟨m,hm,rfl⟩:=Jp hx
   have hml:=P9 hv (cz hm)
   have yd:m<q.1.length:=by rw[h1.len];exact hml
   have hj:j<9223372036854775807:=by have:=bp hm;have:=Bd l i;omega
   have e1:=List.getElem?_eq_getElem yd
   simp only[f50.fD.eq_2,bY (bp hx),aV,bE hx,Option.bind_some,dR yd,aF,Int.toNat_natCast,aW hj]
   rcases TD yd with hb|hb
   ·refine ⟨q, ⟨h1, h2, h3, fun k' hk' => ?_, h5, h6⟩, ?_⟩
    ·rw [take_succ hm, List.mem_append, List.mem_singleton] at hk'
     rcases hk' with hk'|rfl
     ·exact h4 k' hk'
     ·exact hb
    ·simp only[hb,Option.bind_some,Bool.not_true,aS,BO hb]
   ·refine ⟨(q.1.set m true, q.2 ++ [m]), ⟨⟨by simp [h1.len], (eY yd).2 (.inr h1.zero), fun k' hk' => ?_⟩, fun k' hk' => ?_, fun k' hk' => ?_, fun k' hk' => ?_, ?_, (eY yd).2 (.inr h6)⟩, ?_⟩
    ·rcases (eY yd).1 hk' with rfl | hk'
     ·exact .step Zs (cz hm)
     ·exact h1.reach k' hk'
    ·rw [← List.append_assoc, List.mem_append, List.mem_singleton] at hk'
     rcases hk' with hk'|rfl
     ·exact (eY yd).2 (.inr (h2 k' hk'))
     ·exact (eY yd).2 (.inl rfl)
    ·rcases (eY yd).1 hk' with rfl | hk'
     ·exact .inl (by simp)
     ·rcases h3 k' hk' with h | h | h
      ·exact .inl (by rw[←List.append_assoc];exact List.mem_append_left _ h)
      ·exact .inr (.inl h)
      ·exact .inr (.inr fun k'' agx=>(eY yd).2 (.inr (h k'' agx)))
    ·rw [take_succ hm, List.mem_append, List.mem_singleton] at hk'
     rcases hk' with hk'|rfl
     ·exact (eY yd).2 (.inr (h4 k' hk'))
     ·exact (eY yd).2 (.inl rfl)
    ·have := Hj hb
     simp only[List.length_append,List.length_cons,List.length_nil]
     omega
    ·have hlen : q.2.length ≤ s.length := by have := rJ s; omega
     rw[h.base.len] at hlen
     have:=hv.le
     have hr:room ((cN (o++q.2)).length+1) 8=true:=aI (by rw[cP,List.length_append];omega) (by omega)
     simp only[hb,Option.bind_some,Bool.not_false,aV,hr,aF]
     rw[←List.append_assoc,rK (o++q.2) [m]]
     rfl) (k:=N) (s:=(s,[])) ⟨h.base,fun k hk=>h.rQ k (by simp at hk;simp[hk]),fun k hk=>by
      rcases h.shut k hk with h'|h'
      ·simp at h'; rcases h' with h' | h'
       ·exact .inl (by simpa using h')
       ·exact .inr (.inl h')
      ·exact .inr (.inr h'), fun k hk => by simp at hk, by simp, hi⟩ (by
       rw[cP]
       have:=Bd l i
       omega)
 obtain⟨h1,h2,h3,h4,h5,h6⟩:=hI
 refine⟨s',p,⟨h1,h2,fun k hk=>?_⟩,h5,by simpa using he⟩
 rcases h3 k hk with h|rfl|h
 ·exact .inl h
 ·right
  intro k' hk'
  have:(nx l k).take (cN (nx l k)).length=nx l k:=by rw[cP];exact List.take_length
  exact h4 k' (by rw[this];exact hk')
 ·exact .inr h
noncomputable def lB (l:List Instr):List Bool:=(List.range l.length).map fun k=>decide (Reach l k)
theorem o8 {l:List Instr} {k:Nat} (h:k<l.length):(lB l)[k]?=some (decide (Reach l k)):=by
 simp[lB,h]
theorem mG (l:List Instr):(lB l).length=l.length:=by simp[lB]
theorem Qc {l:List Instr} (hv:VC l) {k:Nat} : T (lB l) k↔Reach l k:=by
 unfold T
 by_cases h:k<l.length
 ·rw[o8 h];simp
 ·rw [List.getElem?_eq_none (by rw [mG]; omega)]
  constructor
  ·intro h';cases h'
  ·intro h';exact absurd (h'.lt hv) h
theorem Mz {l:List Instr} {s:List Bool} (hl:s.length=l.length) (h:∀ k,T s k↔Reach l k):s=lB l:=by
 apply List.ext_getElem? ; intro k
 by_cases hk:k<l.length
 ·rw [o8 hk]
  rcases TD (b:=s) (i:=k) (by omega) with h1|h1
  ·rw[h1,decide_eq_true ((h k).1 h1)]
  ·rw[h1,decide_eq_false fun h2=>by have:=(h k).2 h2;unfold T at this;rw[h1] at this;cases this]
 ·rw[List.getElem?_eq_none (by omega),List.getElem?_eq_none (by rw[mG];omega)]
theorem Zr.all {l:List Instr} {s:List Bool} (h:Zr l s) (hs:∀ i,T s i→∀ k∈nx l i,T s k):s=lB l:=
 Mz h.len fun k=>⟨h.reach k,fun hr=>by
  induction hr with
  |zero=>exact h.zero
  |step _ hk ih=>exact hs _ ih _ hk⟩
theorem rL (n:Nat):((List.replicate n false).set 0 true).length=n:=by simp
theorem kJ {n:Nat} (h:1≤n) (k:Nat):T ((List.replicate n false).set 0 true) k↔k=0:=by
 rw[eY (by simp;omega)]
 constructor
 ·rintro (h | h)
  ·exact h
  ·simp[T,List.getElem?_replicate] at h
 ·exact .inl
theorem C4 {l:List Instr} (hv:VC l):Zr l ((List.replicate l.length false).set 0 true):=
 ⟨by simp,(kJ hv.pos 0).2 rfl,fun i hi=>by rw[(kJ hv.pos i).1 hi];exact .zero⟩
theorem El {n:Nat} (h1:1≤n) (h2:n≤10000000):aH ((n:Int)-1)=((n-1:Nat):Int):=by rw[cB (by omega)];omega
theorem Em {α : Type} {n:Nat} (h:1≤n) (x : α):(List.replicate n x)[0]?=some x:=by simp[List.getElem?_replicate];omega
theorem En {N:Nat} {l:List Instr} (hv:VC l) (hN:500<N):f50.iC N N (l,(List.replicate l.length false).set 0 true,[(0:Int)])=some (lB l):=by
 have hle:=hv.le
 obtain⟨s,hI,he⟩:=rQ (Inv:=fun s o=>InP l s o∧cntF s+o.length≤300) (μ:=cntF) (g:=fun s=>s) (Lf:=fun k s o=>f50.iC N k (l,s,cN o))
  (fun k s _=>by rw[show cN []=[] from rfl,f50.iC.eq_2];rfl)
  (fun k s o i ⟨h, hm⟩ => by
   rw[List.length_append,List.length_singleton] at hm
   have hi:T s i:=h.rQ i (by simp)
   have Fg:i<l.length:=by rw[←h.base.len];exact hi.lt
   obtain⟨s',p,h1,h2,h3⟩:=BP hv hN h (by omega)
   refine⟨s',p,⟨h1,by rw[List.length_append];omega⟩,h2,?_⟩
   have hlen:(cN (o++[i])).length=o.length+1:=by simp[cN]
   have e1:aH (((o.length+1:Nat):Int)-1)=(o.length:Int):=by rw[cB (by omega)];omega
   have e2:(cN (o++[i]))[o.length]?=some (i:Int):=by simp[cN]
   have e3:(cN (o++[i])).take o.length=cN o:=by simp[cN]
   simp only[f50.iC.eq_2,hlen,e1,decide_eq_true (show ((o.length+1:Nat):Int)>0 by omega),aV,dR (show o.length<o.length+1 by omega),aF,Int.toNat_natCast,e2,Option.bind_some,
    show decide ((0:Int)≤(o.length:Int))=true by simp,show decide (o.length≤o.length+1)=true by simp,Jo hv Fg,e3,h3])
  N ((List.replicate l.length false).set 0 true) [0] ⟨⟨C4 hv,fun k hk=>by simp at hk;subst hk;exact (kJ hv.pos 0).2 rfl,fun i hi=>.inl (by rw[(kJ hv.pos i).1 hi];simp)⟩,by
   have:=rJ ((List.replicate l.length false).set 0 true)
   rw[rL] at this
   simp only[List.length_singleton];omega⟩ (by
   have:=rJ ((List.replicate l.length false).set 0 true)
   rw[rL] at this
   simp only[List.length_singleton];omega)
 rw[show [(0:Int)]=cN [0] from rfl,he]
 congr 1
 exact hI.1.base.all fun i hi k hk=>by
  rcases hI.1.shut i hi with h|h
  ·simp at h
  ·exact h k hk
theorem Yp {N:Nat} {l:List Instr} (hN:500<N) (hl:l.length≤9223372036854775807):W7 N l=some (if mF l then ((lB l).set (l.length-1) true,0) else ([],8)):=by
 rw[W7.eq_1,Jn (by omega) hl,Option.bind_some]
 cases h:mF l with
 |false=>rfl
 | true =>
  have hv:=yO h
  have h1:=hv.pos
  have h2:=hv.le
  simp only[aV,show ((0:Int) != 0)=false from rfl,aS,if_true,Int.toNat_natCast,show decide ((0:Int)≤(l.length:Int))=true by simp,aF,Nat.le_refl,decide_true,Bool.true_and,
   aI (show l.length≤10000000 by omega) (show 1≤1000 by omega),List.length_replicate,show jq 0 l.length=true from dR (i:=0) h1,show Int.toNat 0=0 from rfl,Em h1,Option.bind_some,En hv hN,
   mG,El h1 (by omega),dR (show l.length-1<l.length by omega),o8 (show l.length-1<l.length by omega)]
open Go Go.bI Go.Sym
open Classical
noncomputable def sub (a b:Nat):Prop:=∀ k,a.testBit k=true→b.testBit k=true
theorem mH (a:Nat):sub a a:=fun _ h=>h
theorem iN {a b c:Nat} (h:sub a b) (k:sub b c):sub a c:=fun i hi=>k i (h i hi)
theorem Eo {a b:Nat} (h:sub a b) (k:sub b a):a=b:=Nat.eq_of_testBit_eq fun i=>by
 cases h1:a.testBit i<;>cases h2:b.testBit i
 ·rfl
 ·exact absurd (k i h2) (by rw[h1];decide)
 ·exact absurd (h i h1) (by rw[h2];decide)
 ·rfl
theorem qZ (a b:Nat):sub a (a ||| b):=fun k h=>by rw[Nat.testBit_or,h];rfl
theorem vf (a b:Nat):sub b (a ||| b):=fun k h=>by rw[Nat.testBit_or,h,Bool.or_true]
theorem Qd {a b c:Nat} (h:sub a c) (k:sub b c):sub (a ||| b) c:=fun i hi=>by
 rw[Nat.testBit_or,Bool.or_eq_true] at hi
 exact hi.elim (h i) (k i)
theorem or_mono {a b c d:Nat} (h:sub a c) (k:sub b d):sub (a ||| b) (c ||| d):=Qd (iN h (qZ _ _)) (iN k (vf _ _))
theorem vg (a b:Nat):sub (a &&& b) a:=fun k h=>by rw[Nat.testBit_and,Bool.and_eq_true] at h;exact h.1
theorem sn (a b:Nat):sub (a &&& b) b:=fun k h=>by rw[Nat.testBit_and,Bool.and_eq_true] at h;exact h.2
theorem KL {a b c:Nat} (h:sub a b) (k:sub a c):sub a (b &&& c):=fun i hi=>by rw[Nat.testBit_and,h i hi,k i hi];rfl
theorem zero_sub (a:Nat):sub 0 a:=fun k h=>by simp at h
theorem Jq {a s:Nat} : a<2 ^ s↔sub a (2 ^ s-1):=by
 constructor
 ·intro h k hk
  rw[Nat.testBit_two_pow_sub_one]
  rcases Nat.lt_or_ge k s with h1|h1
  ·exact decide_eq_true h1
  ·rw [Nat.testBit_lt_two_pow (Nat.lt_of_lt_of_le h (Nat.pow_le_pow_right (by omega) h1))] at hk
   cases hk
 ·intro h
  refine Nat.lt_pow_two_of_testBit _ fun k hk=>?_
  cases hb:a.testBit k with
  |false=>rfl
  |true=>
   have:=h k hb
   rw[Nat.testBit_two_pow_sub_one] at this
   have:=of_decide_eq_true this
   omega
theorem Be {a s t:Nat} (h:a<2 ^ s) (hs:s≤t):a<2 ^ t:=Nat.lt_of_lt_of_le h (Nat.pow_le_pow_right (by omega) hs)
theorem Ep (a:Nat):BitVec.ofInt IntKind.u64.bits (a:Int)=BitVec.ofNat 64 a:=BitVec.ofInt_natCast 64 a
theorem Bf {a:Nat} (h:a<2 ^ 64):IntKind.u64.wrap (a:Int)=(a:Int):=mU (by omega)
theorem Er {a b:Nat} (ha:a<2 ^ 64) (hb:b<2 ^ 64):Gz .u64 (a:Int) (b:Int)=((a ||| b:Nat):Int):=by
 unfold Gz
 rw[Ep,Ep]
 have e:(BitVec.ofNat 64 a ||| BitVec.ofNat 64 b).toNat=a ||| b:=by
  rw[BitVec.toNat_or,BitVec.toNat_ofNat,BitVec.toNat_ofNat,Nat.mod_eq_of_lt ha,Nat.mod_eq_of_lt hb]
 show IntKind.u64.wrap (((BitVec.ofNat 64 a ||| BitVec.ofNat 64 b).toNat:Nat):Int)=_
 rw[e,Bf (Nat.or_lt_two_pow ha hb)]
theorem Hl {a b:Nat} (ha:a<2 ^ 64) (hb:b<2 ^ 64):BH .u64 (a:Int) (b:Int)=((a &&& b:Nat):Int):=by
 unfold BH
 rw[Ep,Ep]
 have e:(BitVec.ofNat 64 a &&& BitVec.ofNat 64 b).toNat=a &&& b:=by
  rw[BitVec.toNat_and,BitVec.toNat_ofNat,BitVec.toNat_ofNat,Nat.mod_eq_of_lt ha,Nat.mod_eq_of_lt hb]
 show IntKind.u64.wrap (((BitVec.ofNat 64 a &&& BitVec.ofNat 64 b).toNat:Nat):Int)=_
 rw[e,Bf (Nat.lt_of_le_of_lt Nat.and_le_left ha)]
theorem TE {s:Int} (h0:0≤s) (h:s≤15):dn ((1:Int)*(2 ^ min (Int.toNat s) 64))=((2 ^ s.toNat:Nat):Int):=by
 have h1:s.toNat≤15:=by omega
 rw[Nat.min_eq_left (by omega),Int.one_mul]
 have:(2:Int) ^ s.toNat=((2 ^ s.toNat:Nat):Int):=by simp
 rw[this]
 exact Bf (Nat.pow_lt_pow_right (by omega) (by omega))
theorem MA {n:Int} (h0:0≤n) (h:n≤16):dn ((dn ((1:Int)*(2 ^ min (Int.toNat n) 64)))-1)=((2 ^ n.toNat-1:Nat):Int):=by
 have h1:n.toNat≤16:=by omega
 rw[Nat.min_eq_left (by omega),Int.one_mul]
 have e:(2:Int) ^ n.toNat=((2 ^ n.toNat:Nat):Int):=by simp
 have h2:2 ^ n.toNat<2 ^ 64:=Nat.pow_lt_pow_right (by omega) (by omega)
 have h3:1≤2 ^ n.toNat:=Nat.one_le_two_pow
 rw[e]
 rw[show dn ((2 ^ n.toNat:Nat):Int)=((2 ^ n.toNat:Nat):Int) from Bf h2]
 have e2:((2 ^ n.toNat:Nat):Int)-1=((2 ^ n.toNat-1:Nat):Int):=by omega
 rw[e2]
 exact Bf (by omega)
noncomputable def tq (m:Nat) (s:Int):Nat:=m ||| 2 ^ s.toNat
noncomputable def gJ (m:Nat) (l:List Int):Nat:=l.foldl tq m
noncomputable def yP (l:List Int):Prop:=∀ s∈l,0≤s∧s≤15
theorem xJ {l:List Int} (h:yP l):∀ {m:Nat},m<2 ^ 16→gJ m l<2 ^ 16:=by
 unfold gJ
 induction l with
 |nil=>intro m hm;exact hm
 |cons s r ih=>
  intro m hm
  rw[List.foldl_cons]
  refine ih (fun x hx=>h x (List.mem_cons_of_mem _ hx)) ?_
  have:=h s List.mem_cons_self
  exact Nat.or_lt_two_pow hm (Nat.pow_lt_pow_right (by omega) (by omega))
theorem xK (l:List Int):∀ m:Nat,gJ m l=m ||| gJ 0 l:=by
 unfold gJ
 induction l with
 |nil=>intro m;simp
 |cons s r ih=>
  intro m
  rw[List.foldl_cons,List.foldl_cons,ih (tq m s),ih (tq 0 s)]
  simp[tq,Nat.or_assoc]
theorem MB {α σ β : Type} {l:List α} {Lf:Nat→Int→σ→Option β} {f : σ→α→σ} {g : σ→β} {Inv : σ→Prop} (h0:∀ k s,Lf (k+1) (l.length:Int) s=some (g s))
  (hs:∀ k (i:Nat) x s,l[i]?=some x→Inv s→Inv (f s x)∧Lf (k+1) (i:Int) s=Lf k ((i+1:Nat):Int) (f s x)) {k:Nat} {s : σ} (h:Inv s) (hk:l.length<k):Lf k 0 s=some (g (l.foldl f s)):=by
 obtain⟨s',⟨_,h1⟩,h2⟩:=jV (l:=l) (Lf:=Lf) (g:=g) (Inv:=fun i q=>Inv q∧q=(l.take i).foldl f s) (fun k s _=>h0 k s) (fun k i x q hx ⟨h1,h2⟩=>by
  obtain⟨g1,g2⟩:=hs k i x q hx h1
  exact⟨_,⟨g1,by rw[take_succ hx,List.foldl_append,h2];rfl⟩,g2⟩) (k:=k) (s:=s) ⟨h,rfl⟩ hk
 rw[h2,h1,List.take_length]
theorem Yq {m:Nat} (hm:m<2 ^ 16) {s:Int} (h0:0≤s) (h:s≤15):Gz .u64 (m:Int) (dn ((1:Int)*(2 ^ min (Int.toNat s) 64)))=((tq m s:Nat):Int):=by
 rw[TE h0 h,Er (Be hm (by omega)) (Nat.pow_lt_pow_right (by omega) (by omega))]
 rfl
theorem MC {m:Nat} (hm:m<2 ^ 16) {s:Int} (h:s≤15):tq m s<2 ^ 16:=Nat.or_lt_two_pow hm (Nat.pow_lt_pow_right (by omega) (by omega))
theorem o9 (f:UInt8→Int→Bool) (x:Instr):(dV f x).length≤3:=by
 unfold dV one
 split
 ·rename_i a b c _
  cases f a x.2.1<;>cases f b x.2.2.1<;>cases f c x.2.2.2<;>simp
 ·simp
theorem agy {c:UInt8} (h:(U c).2.2.1=true∨(U c).2.2.2=true):(U c).2.1=15:=by
 unfold U at h ⊢
 repeat' split
 all_goals simp_all
theorem Bg {x:Instr} (hc:jX x=true):yP (dV BN x)∧yP (dV P6 x):=by
 unfold jX at hc
 unfold dV
 cases hs:Jd x.1 with
 |none=>exact⟨fun s h=>(by cases h),fun s h=>(by cases h)⟩
 | some t =>
  obtain⟨a,b,c⟩:=t
  rw[hs] at hc
  simp only[Bool.and_eq_true] at hc
  have Qe:∀ {k:UInt8} {v s:Int} {q:Bool},fits k v=true→((U k).2.2.1=true∨(U k).2.2.2=true)→s∈one (decide (v≥0)) v→0≤s∧s≤15:=fun hf hu hm=>by
   simp only[fits,Bool.and_eq_true,decide_eq_true_eq,agy hu] at hf
   unfold one at hm
   rename_i v s _
   cases h:decide (v≥0) with
   |false=>rw[h] at hm;cases hm
   |true=>
    rw[h] at hm
    have:=of_decide_eq_true h
    simp only[aV,List.mem_singleton] at hm
    omega
  have Qf:∀ {k:UInt8} {v s:Int},fits k v=true→s∈one (BN k v) v→0≤s∧s≤15:=fun {k v s} hf hm=>by
   unfold BN at hm
   cases hu:(U k).2.2.1 with
   |false=>rw[hu] at hm;cases hm
   |true=>rw[hu,Bool.true_and] at hm;exact Qe (q:=true) hf (.inl hu) hm
  have Qg:∀ {k:UInt8} {v s:Int},fits k v=true→s∈one (P6 k v) v→0≤s∧s≤15:=fun {k v s} hf hm=>by
   unfold P6 at hm
   cases hu:(U k).2.2.2 with
   |false=>rw[hu] at hm;cases hm
   |true=>rw[hu,Bool.true_and] at hm;exact Qe (q:=true) hf (.inr hu) hm
  constructor
  ·intro s hm
   simp only[List.mem_append] at hm
   rcases hm with (hm|hm)|hm
   ·exact Qf hc.1 hm
   ·exact Qf hc.2.1 hm
   ·exact Qf hc.2.2 hm
  ·intro s hm
   simp only[List.mem_append] at hm
   rcases hm with (hm|hm)|hm
   ·exact Qg hc.1 hm
   ·exact Qg hc.2.1 hm
   ·exact Qg hc.2.2 hm
noncomputable def QO (x:Instr):Nat:=gJ 0 (dV P6 x)
noncomputable def MD (x:Instr):Nat:=gJ (gJ 0 (dV BN x)) (dV P6 x)
theorem Yr {x:Instr} (hc:jX x=true):QO x<2 ^ 16:=xJ (Bg hc).2 (by omega)
theorem acN (x:Instr):sub (QO x) (MD x):=by
 unfold MD QO
 rw[xK (dV P6 x) (gJ 0 (dV BN x))]
 exact vf _ _
theorem Qh {N:Nat} {l:List Int} (hN:500<N) (hl:l.length≤3) (h:yP l):XP N l=some ((gJ 0 l:Nat):Int):=by
 rw[XP.eq_1]
 have:=MB (l:=l) (f:=tq) (g:=fun m:Nat=>(m:Int)) (Inv:=fun m=>m<2 ^ 16) (Lf:=fun k i (m:Nat)=>f94.dD N k ((m:Int),l,(l.length:Int),i))
  (fun k s => by simp only [f94.dD.eq_2, bZ, aS]) (fun k i x s hx hs => by
   have hx2:=h x (cz hx)
   exact⟨MC hs hx2.2,by simp only[f94.dD.eq_2,bY (bp hx),aV,bE hx,Option.bind_some,show (!decide (x<0))=true by simp;omega,aF,Yq hs hx2.1 hx2.2,aW (show i<9223372036854775807 by have:=bp hx;omega)]⟩)
  (k:=N) (s:=0) (by omega) (by omega)
 rw[show ((0:Nat):Int)=0 from rfl] at this
 rw[this];rfl
noncomputable def lC (l:List Instr) (most:Nat):Bool:=!(l.any fun x=>decide (¬MD x<2 ^ most))
noncomputable def Ho (l:List Instr) (params most:Int):Int:=
 if most<0∨most>16∨params<0∨params>most then 2 else if lC l most.toNat then 0 else 16
theorem or4 (a b c d:Bool):(bif a then some true else bif b then some true else bif c then some true else some d:Option Bool)=some (a||(b||(c||d))):=by cases a<;>cases b<;>cases c<;>rfl
theorem TF (params most:Int):(decide (most<0)||(decide (most>16)||(decide (params<0)||decide (params>most))))=decide (most<0∨most>16∨params<0∨params>most):=by
 by_cases h1:most<0<;>by_cases h2:most>16<;>by_cases h3:params<0<;>by_cases h4:params>most<;>simp[h1,h2,h3,h4]
open Go Go.bI Go.Sym
open Classical
noncomputable def Bh:Nat→(Nat→Nat)→Nat
 |0,_=>0
 |n+1,f=>Bh n f+f n
theorem Jr {n:Nat} {f g:Nat→Nat} (h:∀ k,k<n→f k=g k):Bh n f=Bh n g:=by
 induction n with
 |zero=>rfl
 |succ n ih=>simp only[Bh];rw[ih fun k hk=>h k (by omega),h n (by omega)]
theorem Hp {n m:Nat} {f g:Nat→Nat} (hm:m<n) (h:∀ k,k≠m→f k=g k):Bh n f+g m=Bh n g+f m:=by
 induction n with
 |zero=>omega
 | succ n ih =>
  simp only[Bh]
  by_cases he:m=n
  ·subst he
   rw[Jr (f:=f) (g:=g) fun k hk=>h k (by omega)]
   omega
  ·have := ih (by omega)
   rw[h n (by omega)]
   omega
theorem TG {n b:Nat} {f:Nat→Nat} (h:∀ k,f k≤b):Bh n f≤n*b:=by
 induction n with
 |zero=>simp[Bh]
 |succ n ih=>simp only[Bh];have:=h n;rw[Nat.succ_mul];omega
noncomputable def O (o:List Nat) (k:Nat):Nat:=o.getD k 0
theorem KM {o:List Nat} {k:Nat} (h:k<o.length):o[k]?=some (O o k):=by
 simp only[O,List.getD_eq_getElem?_getD,List.getElem?_eq_getElem h];rfl
theorem gV {o:List Nat} {m v k:Nat} (h:m<o.length):O (o.set m v) k=if k=m then v else O o k:=by
 simp only[O,List.getD_eq_getElem?_getD,List.getElem?_set]
 by_cases hk:m=k
 ·subst hk;simp[h]
 ·rw[if_neg hk,if_neg (Ne.symm hk)]
theorem jZ {o:List Nat} {k:Nat} (h:k<o.length):(cN o)[k]?=some ((O o k:Nat):Int):=by
 simp only[cN,List.getElem?_map,KM h,Option.map_some]
theorem Bi (o:List Nat) (m v:Nat):(cN o).set m (v:Int)=cN (o.set m v):=by simp[cN,List.map_set]
theorem acO {a b:List Nat} (h:a.length=b.length) (hk:∀ k,k<a.length→O a k=O b k):a=b:=by
 apply List.ext_getElem?;intro k
 by_cases h1:k<a.length
 ·rw[KM h1,KM (by omega),hk k h1]
 ·rw[List.getElem?_eq_none (by omega),List.getElem?_eq_none (by omega)]
theorem acP {o:List Nat} {m:Nat} (h:m<o.length):o.set m (O o m)=o:=GB (KM h)
noncomputable def wr (l:List Instr) (i:Nat):Nat:=match l[i]? with
 |some x=>QO x
 |none=>0
noncomputable def Sol (l:List Instr) (P:Nat) (S:Nat→Nat):Prop:=sub (S 0) P∧∀ i,Reach l i→∀ k∈nx l i,sub (S k) (S i ||| wr l i)
structure UK (l:List Instr) (P F:Nat) (G:Nat→Nat):Prop where
 sol:Sol l P G
 TH:∀ k,sub (G k) F
 most:∀ S,Sol l P S→∀ k,Reach l k→sub (S k) (G k)
structure VM (l:List Instr) (P F p s:Nat):Prop where
 v:VC l
 le:l.length≤200
 sle:s≤16
 ps:p≤s
 eP:P=2 ^ p-1
 eF:F=2 ^ s-1
 us:∀ (i:Nat) x,l[i]?=some x→MD x<2 ^ s
theorem VM.PF {l:List Instr} {P F p s:Nat} (h:VM l P F p s):sub P F:=by
 rw[h.eF]
 refine Jq.1 ?_
 rw[h.eP]
 have:2 ^ p≤2 ^ s:=Nat.pow_le_pow_right (by omega) h.ps
 have:=Nat.one_le_two_pow (n:=p)
 omega
theorem VM.wF {l:List Instr} {P F p s:Nat} (h:VM l P F p s) (i:Nat):sub (wr l i) F:=by
 unfold wr
 split
 ·rename_i x hx
  rw[h.eF]
  exact iN (acN x) (Jq.1 (h.us i x hx))
 ·exact zero_sub _
theorem VM.lt {l:List Instr} {P F p s a:Nat} (h:VM l P F p s) (ha:sub a F):a<65536:=by
 rw[h.eF] at ha
 exact Be (Jq.2 ha) h.sle
structure Lv (l:List Instr) (P F:Nat) (b:List Bool) (o:List Nat):Prop where
 QS:Zr l b
 len:o.length=l.length
 TH:∀ k,sub (O o k) F
 p0:sub (O o 0) P
 un:∀ k,¬T b k→O o k=0
 great:∀ S,Sol l P S→∀ k,T b k→sub (S k) (O o k)
structure LvP (l:List Instr) (P F:Nat) (b:List Bool) (o q:List Nat):Prop where
 lv:Lv l P F b o
 rQ:∀ k∈q,T b k
 shut:∀ i,T b i→i∈q∨∀ k∈nx l i,T b k∧sub (O o k) (O o i ||| wr l i)
noncomputable def mu (n:Nat) (b:List Bool) (o:List Nat):Nat:=Bh n fun k=>if T b k then O o k else 65536
theorem Ys {n m v:Nat} {b:List Bool} {o:List Nat} (hm:m<n) (hb:b.length=n) (ho:o.length=n) (hf:¬T b m) (hv:v<65536):mu n (b.set m true) (o.set m v)+1≤mu n b o:=by
 have:=Hp (n:=n) (m:=m) (f:=fun k=>if T (b.set m true) k then O (o.set m v) k else 65536) (g:=fun k=>if T b k then O o k else 65536) hm (fun k hk=>by
  simp only[gV (show m<o.length by omega),if_neg hk]
  by_cases h:T b k
  ·rw[if_pos h,if_pos ((eY (by omega)).2 (.inr h))]
  ·rw[if_neg h,if_neg fun h'=>((eY (by omega)).1 h').elim hk h])
 rw[if_neg hf,if_pos ((eY (show m<b.length by omega)).2 (.inl rfl):T (b.set m true) m),gV (show m<o.length by omega),if_pos rfl] at this
 unfold mu
 omega
theorem TI {n m v:Nat} {b:List Bool} {o:List Nat} (hm:m<n) (ho:o.length=n) (hf:T b m) (hv:v<O o m):mu n b (o.set m v)+1≤mu n b o:=by
 have:=Hp (n:=n) (m:=m) (f:=fun k=>if T b k then O (o.set m v) k else 65536) (g:=fun k=>if T b k then O o k else 65536) hm (fun k hk=>by
  simp only[gV (show m<o.length by omega),if_neg hk])
 rw[if_pos hf,if_pos hf,gV (show m<o.length by omega),if_pos rfl] at this
 unfold mu
 omega
theorem Es {a b:Nat} (h:a &&& b≠a):a &&& b<a:=Nat.lt_of_le_of_ne Nat.and_le_left h
theorem Hq {N : Nat} {l : List Instr} {P F p s : Nat} (hv : VM l P F p s) (hN : 500 < N) {b : List Bool} {o q : List Nat} {i : Nat} {ws : List Nat} (iM : ∀ k, O ws k = wr l k) (hwl : ws.length = l.length)
  (h:LvP l P F b o (q++[i])) (hq:mu l.length b o+q.length≤14000000) :
  ∃ b' o' r,LvP l P F b' o' (q++r)∧mu l.length b' o'+r.length≤mu l.length b o∧
   f54.dS N N (l,(i:Int),cN (nx l i),((cN (nx l i)).length:Int),0,(p:Int),b,cN o,cN ws,cN q)=some (l,(p:Int),b',cN o',cN ws,cN (q++r)):=by
 have hi:T b i:=h.rQ i (by simp)
 have Zs:=h.lv.QS.reach i hi
 have Fg:i<l.length:=Zs.lt hv.v
 have hnl:=Bd l i
 have TJ:∀ {a:Nat},sub a F→a<2 ^ 64:=fun ha=>Nat.lt_of_lt_of_le (hv.lt ha) (by omega)
 obtain ⟨⟨b', o', r⟩, hI, he⟩ := jV (l := cN (nx l i)) (g := fun t : List Bool × List Nat × List Nat => (l, (p : Int), t.1, cN t.2.1, cN ws, cN (q ++ t.2.2)))
  (Inv := fun j t => Lv l P F t.1 t.2.1 ∧ (∀ k ∈ q ++ t.2.2, T t.1 k) ∧ (∀ k, T t.1 k → k ∈ q ++ t.2.2 ∨ k = i ∨ ∀ k' ∈ nx l k, T t.1 k' ∧ sub (O t.2.1 k') (O t.2.1 k ||| wr l k)) ∧
   (∀ k∈(nx l i).take j,T t.1 k∧sub (O t.2.1 k) (O o i ||| wr l i))∧mu l.length t.1 t.2.1+t.2.2.length≤mu l.length b o∧T t.1 i∧O t.2.1 i=O o i)
  (Lf:=fun k j t=>f54.dS N k (l,(i:Int),cN (nx l i),((cN (nx l i)).length:Int),j,(p:Int),t.1,cN t.2.1,cN ws,cN (q++t.2.2)))
  (fun k t _=>by simp only[f54.dS.eq_2,bZ,aS])
  (fun k j x t hx ⟨h1, h2, h3, h4, h5, h6, h7⟩ => by
   obtain⟨b1,o1,r1⟩:=t
   simp only at h1 h2 h3 h4 h5 h6 h7
   obtain⟨m,hm,rfl⟩:=Jp hx
   have hml:=P9 hv.v (cz hm)
   have hmb:m<b1.length:=by rw[h1.QS.len];exact hml
   have hmo:m<o1.length:=by rw[h1.len];exact hml
   have hio:i<o1.length:=by rw[h1.len];exact Fg
   have hiw:i<ws.length:=by rw[hwl];exact Fg
   have hj:j<9223372036854775807:=by have:=bp hm;omega
   have hlF:sub (O o1 i ||| wr l i) F:=Qd (h1.TH i) (hv.wF i)
   have hr:room ((cN (q++r1)).length+1) 8=true:=Kt (by rw[cP,List.length_append];omega) (by rw[cP,List.length_append];omega)
   simp only[f54.dS.eq_2,bY (bp hm),aV,bE hx,Option.bind_some,show decide ((i:Int)<0)=false by simp,aS,cP,dR hio,dR hiw,dR hmb,dR hmo,aF,Int.toNat_natCast,jZ hio,jZ hiw,
    iM,Er (TJ (h1.TH i)) (TJ (hv.wF i)),aW hj]
   have hle:∀ k∈(nx l i).take (j+1),k∈(nx l i).take j∨k=m:=fun k hk=>by
    rw[take_succ hm,List.mem_append,List.mem_singleton] at hk;exact hk
   rcases TD hmb with hb|hb
   ·have hbT : T b1 m := hb
    simp only[hb,Option.bind_some,Bool.not_true,aS,jZ hmo,Bi,Hl (TJ (h1.TH m)) (TJ hlF),cP,List.length_set,dR hmo,aF,jZ (show m<(o1.set m (O o1 m &&& (O o1 i ||| wr l i))).length by simp;exact hmo),gV hmo,if_true]
    by_cases hnew:O o1 m &&& (O o1 i ||| wr l i)=O o1 m
    ·rw [hnew, acP hmo]
     refine⟨(b1,o1,r1),⟨h1,h2,h3,fun k hk=>?_,h5,h6,h7⟩,by simp⟩
     rcases hle k hk with hk|rfl
     ·exact h4 k hk
     ·refine ⟨hbT, ?_⟩
      have:=sn (O o1 k) (O o1 i ||| wr l i)
      simp only
      rw[hnew] at this;rw[←h7];exact this
    ·have hmi : m ≠ i := fun e => hnew (by
      subst e
      exact Eo (vg _ _) (KL (mH _) (qZ _ _)))
     have hlt:=Es hnew
     have QE:∀ k,sub (O (o1.set m (O o1 m &&& (O o1 i ||| wr l i))) k) (O o1 k):=fun k=>by
      rw[gV hmo]
      split
      ·rename_i e;subst e;exact vg _ _
      ·exact mH _
     refine⟨(b1,o1.set m (O o1 m &&& (O o1 i ||| wr l i)),r1++[m]),⟨⟨h1.QS,by simp[h1.len],fun k=>iN (QE k) (h1.TH k),iN (QE 0) h1.p0,fun k hk=>?_,fun S hS k hk=>?_⟩,fun k hk=>?_,fun k hk=>?_,fun k hk=>?_,?_,h6,?_⟩,?_⟩
     ·rw[gV hmo,if_neg (fun e=>hk (by rw[e];exact hbT))];exact h1.un k hk
     ·rw [gV hmo]
      split
      ·rename_i e; subst e
       exact KL (h1.great S hS k hk) (iN (hS.2 i Zs k (cz hm)) (or_mono (h1.great S hS i h6) (mH _)))
      ·exact h1.great S hS k hk
     ·simp only at hk
      rw[←List.append_assoc,List.mem_append,List.mem_singleton] at hk
      rcases hk with hk|rfl
      ·exact h2 k hk
      ·exact hbT
     ·simp only
      by_cases hkm:k=m
      ·subst hkm;exact .inl (by simp)
      ·rcases h3 k hk with g | g | g
       ·exact .inl (by rw[←List.append_assoc];exact List.mem_append_left _ g)
       ·exact .inr (.inl g)
       ·refine .inr (.inr fun k' hk' => ⟨(g k' hk').1, ?_⟩)
        rw[gV hmo (k:=k),if_neg hkm]
        exact iN (QE k') (g k' hk').2
     ·simp only
      rcases hle k hk with hk|rfl
      ·exact⟨(h4 k hk).1,iN (QE k) (h4 k hk).2⟩
      ·refine ⟨hbT, ?_⟩
       rw[gV hmo,if_pos rfl,←h7]
       exact sn _ _
     ·have := TI (n := l.length) hml h1.len hbT hlt
      simp only[List.length_append,List.length_singleton];omega
     ·simp only
      rw[gV hmo,if_neg (Ne.symm hmi)];exact h7
     ·rw [show (((O o1 m &&& (O o1 i ||| wr l i) : Nat) : Int) != ((O o1 m : Nat) : Int)) = true by simp [bne]; omega, aV, show room ((q ++ r1).length + 1) 8 = true by rw [cP] at hr; exact hr, aF, ← List.append_assoc, rK (q ++ r1) [m]]
      rfl
   ·have Zt : ¬ T b1 m := fun e => by unfold T at e; rw [hb] at e; cases e
    have hmi:m≠i:=fun e=>Zt (by rw[e];exact h6)
    simp only[hb,Option.bind_some,Bool.not_false,aV,jZ hmo,aF,Bi,show room ((q++r1).length+1) 8=true by rw[cP] at hr;exact hr]
    refine⟨(b1.set m true,o1.set m (O o1 i ||| wr l i),r1++[m]),⟨⟨⟨by simp[h1.QS.len],(eY hmb).2 (.inr h1.QS.zero),fun k hk=>?_⟩,by simp[h1.len],fun k=>?_,?_,fun k hk=>?_,fun S hS k hk=>?_⟩,fun k hk=>?_,fun k hk=>?_,fun k hk=>?_,?_,(eY hmb).2 (.inr h6),?_⟩,?_⟩
    ·rcases (eY hmb).1 hk with rfl | hk
     ·exact .step Zs (cz hm)
     ·exact h1.QS.reach k hk
    ·rw [gV hmo]
     split
     ·exact hlF
     ·exact h1.TH k
    ·rw[gV hmo,if_neg (fun e=>Zt (by rw[←e];exact h1.QS.zero))];exact h1.p0
    ·rw [gV hmo, if_neg (fun e => hk ((eY hmb).2 (.inl e)))]
     exact h1.un k fun h'=>hk ((eY hmb).2 (.inr h'))
    ·rw [gV hmo]
     split
     ·rename_i e; subst e
      exact iN (hS.2 i Zs k (cz hm)) (or_mono (h1.great S hS i h6) (mH _))
     ·rename_i e
      rcases (eY hmb).1 hk with hk|hk
      ·exact absurd hk e
      ·exact h1.great S hS k hk
    ·simp only at hk
     rw[←List.append_assoc,List.mem_append,List.mem_singleton] at hk
     rcases hk with hk|rfl
     ·exact (eY hmb).2 (.inr (h2 k hk))
     ·exact (eY hmb).2 (.inl rfl)
    ·simp only at hk ⊢
     rcases (eY hmb).1 hk with rfl|hk
     ·exact .inl (by simp)
     ·rcases h3 k hk with g | g | g
      ·exact .inl (by rw[←List.append_assoc];exact List.mem_append_left _ g)
      ·exact .inr (.inl g)
      ·refine .inr (.inr fun k' hk' => ⟨(eY hmb).2 (.inr (g k' hk').1), ?_⟩)
       rw[gV hmo,gV hmo,if_neg (fun e=>Zt (by rw[←e];exact (g k' hk').1)),if_neg (fun e=>Zt (by rw[←e];exact hk))]
       exact (g k' hk').2
    ·simp only
     rcases hle k hk with hk|rfl
     ·refine ⟨(eY hmb).2 (.inr (h4 k hk).1), ?_⟩
      rw[gV hmo,if_neg (fun e=>Zt (by rw[←e];exact (h4 k hk).1))]
      exact (h4 k hk).2
     ·refine ⟨(eY hmb).2 (.inl rfl), ?_⟩
      rw[gV hmo,if_pos rfl,h7]
      exact mH _
    ·have := Ys (n := l.length) hml h1.QS.len h1.len Zt (hv.lt hlF)
     simp only[List.length_append,List.length_singleton];omega
    ·simp only
     rw[gV hmo,if_neg (Ne.symm hmi)];exact h7
    ·rw [← List.append_assoc, rK (q ++ r1) [m]]
     rfl)
  (k := N) (s := (b, o, [])) ⟨h.lv, fun k hk => h.rQ k (by simp at hk; simp [hk]), fun k hk => by
   rcases h.shut k hk with h'|h'
   ·simp at h'; rcases h' with h' | h'
    ·exact .inl (by simpa using h')
    ·exact .inr (.inl h')
   ·exact .inr (.inr h'),fun k hk=>by simp at hk,by simp,hi,rfl⟩ (by rw[cP];omega)
 obtain⟨h1,h2,h3,h4,h5,h6,h7⟩:=hI
 refine⟨b',o',r,⟨h1,h2,fun k hk=>?_⟩,h5,by simpa using he⟩
 rcases h3 k hk with g|rfl|g
 ·exact .inl g
 ·right
  intro k' hk'
  rw[h7]
  exact h4 k' (by rw[cP,List.take_length];exact hk')
 ·exact .inr g
open Go Go.bI Go.Sym
open Classical
theorem acR {n:Nat} {b:List Bool} {o:List Nat} (h:∀ k,O o k<65536):mu n b o≤n*65536:=TG fun k=>by
 split
 ·exact Nat.le_of_lt (h k)
 ·exact Nat.le_refl _
theorem UL (n k:Nat):O (List.replicate n 0) k=0:=by
 simp only[O,List.getD_eq_getElem?_getD,List.getElem?_replicate]
 split<;>rfl
theorem Yt (n:Nat):List.replicate n (0:Int)=cN (List.replicate n 0):=by simp[cN]
noncomputable def Bj (l:List Instr) (G:Nat→Nat):List Nat:=(List.range l.length).map fun k=>if Reach l k∧k≠l.length-1 then G k else 0
theorem C5 (l:List Instr) (G:Nat→Nat):(Bj l G).length=l.length:=by simp[Bj]
theorem C6 {l:List Instr} {G:Nat→Nat} {k:Nat} (h:k<l.length):O (Bj l G) k=if Reach l k∧k≠l.length-1 then G k else 0:=by
 simp[O,List.getD_eq_getElem?_getD,Bj,h]
theorem Qi {l:List Instr} {G:Nat→Nat} {o:List Nat} (hl:o.length=l.length) (h:∀ k,k<l.length→O o k=if Reach l k∧k≠l.length-1 then G k else 0):o=Bj l G:=
 acO (by rw[hl,C5]) fun k hk=>by rw[h k (by omega),C6 (by omega)]
theorem Js {N:Nat} {l:List Instr} {P F p s:Nat} (hv:VM l P F p s) (hN:14000000<N) {ws:List Nat} (iM:∀ k,O ws k=wr l k) (hwl:ws.length=l.length) :
  ∃ G o,UK l P F G∧o.length=l.length∧(∀ k,k<l.length→O o k=if Reach l k then G k else 0)∧
   f54.iD N N (l,(p:Int),(List.replicate l.length false).set 0 true,(cN (List.replicate l.length 0)).set 0 (P:Int),cN ws,[(0:Int)])=some (cN o):=by
 have hpos:=hv.v.pos
 have hle:=hv.le
 have hP:sub P F:=hv.PF
 have hO0:∀ k,O ((List.replicate l.length 0).set 0 P) k=if k=0 then P else 0:=fun k=>by
  rw[gV (by simp;omega),UL]
 have start:Lv l P F ((List.replicate l.length false).set 0 true) ((List.replicate l.length 0).set 0 P):=⟨C4 hv.v,by simp,fun k=>by
   rw[hO0];split
   ·exact hP
   ·exact zero_sub _,by rw[hO0,if_pos rfl];exact mH _,fun k hk=>by
   rw[hO0,if_neg fun e=>hk ((kJ hpos k).2 e)],fun S hS k hk=>by
   rw[(kJ hpos k).1 hk,hO0,if_pos rfl];exact hS.1⟩
 have YX:∀ b o,Lv l P F b o→mu l.length b o≤13200000:=fun b o h=>by
  have:=acR (n:=l.length) (b:=b) (o:=o) fun k=>hv.lt (h.TH k)
  omega
 obtain⟨⟨b,o⟩,hI,he⟩:=rQ (Inv:=fun t q=>LvP l P F t.1 t.2 q∧mu l.length t.1 t.2+q.length≤13200001) (μ:=fun t=>mu l.length t.1 t.2) (g:=fun t=>cN t.2)
  (Lf:=fun k t q=>f54.iD N k (l,(p:Int),t.1,cN t.2,cN ws,cN q))
  (fun k t _=>by rw[show cN []=[] from rfl,f54.iD.eq_2];rfl)
  (fun k t q i ⟨h, hm⟩ => by
   rw[List.length_append,List.length_singleton] at hm
   have hi:T t.1 i:=h.rQ i (by simp)
   have Fg:i<l.length:=by rw[←h.lv.QS.len];exact hi.lt
   obtain⟨b',o',r,h1,h2,h3⟩:=Hq (N:=N) hv (by omega) iM hwl h (by omega)
   refine⟨(b',o'),r,⟨h1,by rw[List.length_append];simp only;omega⟩,h2,?_⟩
   have hlen:(cN (q++[i])).length=q.length+1:=by simp[cN]
   have e1:aH (((q.length+1:Nat):Int)-1)=(q.length:Int):=by rw[cB (by omega)];omega
   have e2:(cN (q++[i]))[q.length]?=some (i:Int):=by simp[cN]
   have e3:(cN (q++[i])).take q.length=cN q:=by simp[cN]
   simp only[f54.iD.eq_2,hlen,e1,decide_eq_true (show ((q.length+1:Nat):Int)>0 by omega),aV,dR (show q.length<q.length+1 by omega),aF,Int.toNat_natCast,e2,Option.bind_some,
    show decide ((0:Int)≤(q.length:Int))=true by simp,show decide (q.length≤q.length+1)=true by simp,Jo hv.v Fg,e3,h3])
  N ((List.replicate l.length false).set 0 true,(List.replicate l.length 0).set 0 P) [0] ⟨⟨start,fun k hk=>by simp at hk;subst hk;exact (kJ hpos 0).2 rfl,fun i hi=>.inl (by rw[(kJ hpos i).1 hi];simp)⟩,by
   have:=YX _ _ start
   simp only[List.length_singleton];omega⟩ (by
   have:=YX _ _ start
   simp only[List.length_singleton];omega)
 obtain⟨⟨h1,h2,h3⟩,_⟩:=hI
 have hsh:∀ i,T b i→∀ k∈nx l i,T b k∧sub (O o k) (O o i ||| wr l i):=fun i hi=>by
  rcases h3 i hi with g|g
  ·simp at g
  ·exact g
 have hall:=h1.QS.all fun i hi k hk=>(hsh i hi k hk).1
 have hT:∀ k,T b k↔Reach l k:=fun k=>by simp only at hall;rw[hall];exact Qc hv.v
 refine⟨O o,o,⟨⟨h1.p0,fun i hi k hk=>(hsh i ((hT i).2 hi) k hk).2⟩,h1.TH,fun S hS k hk=>h1.great S hS k ((hT k).2 hk)⟩,h1.len,fun k hk=>?_,by rw[show [(0:Int)]=cN [0] from rfl,Bi];exact he⟩
 split
 ·rfl
 ·rename_i hn;exact h1.un k fun h=>hn ((hT k).1 h)
theorem fdiv_pow {a s:Nat} (hs:s≤16):(Int.fdiv (a:Int) (2 ^ min (Int.toNat (s:Int)) 64) != 0)=decide (¬a<2 ^ s):=by
 rw[Int.toNat_natCast,Nat.min_eq_left (by omega)]
 have e:(2:Int) ^ s=((2 ^ s:Nat):Int):=by simp
 have hp:=Nat.one_le_two_pow (n:=s)
 rw[e,Int.fdiv_eq_ediv_of_nonneg _ (Int.natCast_nonneg _),←Int.natCast_ediv]
 by_cases h:a<2 ^ s
 ·rw[Nat.div_eq_of_lt h,decide_eq_false (not_not.2 h)];rfl
 ·rw [decide_eq_true h]
  have:a / 2 ^ s≠0:=fun e=>by
   rw[Nat.div_eq_zero_iff] at e
   rcases e with e|e
   ·omega
   ·exact h e
  generalize a / 2 ^ s=n at this ⊢
  rw[bne_iff_ne]
  omega
theorem Qj {l:List Instr} {i:Nat} {x:Instr} (h:l[i]?=some x):wr l i=QO x:=by simp only[wr,h]
theorem Et {N:Nat} {l:List Instr} (hv:VC l) (hN:500<N) {p s:Nat} (hs:s≤16) :
  if lC l s then ∃ ws:List Nat,(∀ k,O ws k=wr l k)∧ws.length=l.length∧f54.jW N N (l,(s:Int),l,(l.length:Int),0,(p:Int),cN (List.replicate l.length 0))=some (.inr (l,(p:Int),cN ws))
   else f54.jW N N (l,(s:Int),l,(l.length:Int),0,(p:Int),cN (List.replicate l.length 0))=some (.inl 16):=by
 have hle:=hv.le
 have key := uV (l := l) (Out := fun r => r = .inl 16 ∧ lC l s = false) (g := fun ws : List Nat => (.inr (l, (p : Int), cN ws) : Int ⊕ (List Instr × Int × List Int)))
  (Inv:=fun j ws=>ws.length=l.length∧(∀ k,O ws k=if k<j then wr l k else 0)∧∀ k x,k<j→l[k]?=some x→MD x<2 ^ s)
  (Lf:=fun k i ws=>f54.jW N k (l,(s:Int),l,(l.length:Int),i,(p:Int),cN ws))
  (fun k ws _=>by simp only[f54.jW.eq_2,bZ,aS])
  (fun k j x ws hx ⟨h1, h2, h3⟩ => by
   have hj:=bp hx
   have hc:=hv.aZ j x hx
   have hw:j<ws.length:=by omega
   have xX:=Bg hc
   have e1:(cN ws).set j ((gJ 0 (dV P6 x):Nat):Int)=cN (ws.set j (QO x)):=Bi _ _ _
   have iM:j<(ws.set j (QO x)).length:=by simp;exact hw
   have acS:∀ {a:Nat},a<2 ^ 16→a<2 ^ 64:=fun h=>Be h (by omega)
   simp only[f54.jW.eq_2,bY hj,aV,bE hx,Option.bind_some,P7,hc,show ((0:Int) != 0)=false from rfl,aS,Qh hN (o9 P6 x) xX.2,Qh hN (o9 BN x) xX.1,cP,dR hw,aF,Int.toNat_natCast,jZ hw,
    e1,dR iM,jZ iM,gV hw,if_true,Er (acS (xJ (m:=0) xX.1 (by omega))) (acS (Yr hc)),show (!decide ((s:Int)<0))=true by simp]
   have hu:gJ 0 (dV BN x) ||| QO x=MD x:=by rw[MD,xK (dV P6 x)];rfl
   rw[hu]
   have hf:=fdiv_pow (a:=MD x) hs
   rw[Int.toNat_natCast] at hf
   simp only[hf]
   by_cases hsu:MD x<2 ^ s
   ·right
    rw[decide_eq_false (not_not.2 hsu),aS]
    refine⟨ws.set j (QO x),⟨by simp[h1],fun k=>?_,fun k y hk hy=>?_⟩,by rw[aW (by omega)]⟩
    ·rw [gV hw, h2]
     by_cases hk:k=j
     ·subst hk;rw[if_pos rfl,if_pos (by omega),Qj hx]
     ·rw [if_neg hk]
      by_cases hk2:k<j
      ·rw[if_pos hk2,if_pos (by omega)]
      ·rw[if_neg hk2,if_neg (by omega)]
    ·by_cases hk2 : k = j
     ·subst hk2;rw[hx] at hy;injection hy with hy;subst hy;exact hsu
     ·exact h3 k y (by omega) hy
   ·left
    rw[decide_eq_true hsu,aV]
    refine⟨_,⟨rfl,?_⟩,rfl⟩
    simp only[lC,Bool.not_eq_false',List.any_eq_true,decide_eq_true_eq]
    exact⟨x,cz hx,hsu⟩)
  (k:=N) (s:=List.replicate l.length 0) ⟨by simp,fun k=>by rw[UL,if_neg (by omega)],fun k x hk=>by omega⟩ (by omega)
 rcases key with⟨r,⟨h1,h2⟩,h3⟩|⟨ws,⟨h1,h2,h3⟩,h4⟩
 ·rw[h2];simp only[Bool.false_eq_true,if_false];rw[h3,h1]
 ·have hb : lC l s = true := by
   simp only[lC,Bool.not_eq_true',List.any_eq_false,decide_eq_true_eq,not_not]
   intro x hx
   obtain⟨i,hi,rfl⟩:=List.mem_iff_getElem.1 hx
   exact h3 i _ hi (List.getElem?_eq_getElem hi)
  rw[hb,if_pos rfl]
  refine⟨ws,fun k=>?_,h1,h4⟩
  rw[h2]
  split
  ·rfl
  ·rw[wr,List.getElem?_eq_none (by omega)]
theorem Yu {N:Nat} {l:List Instr} (hN:14000000<N) (hl:l.length≤9223372036854775807) (PW:mF l=true→l.length≤200) (params most:Int) :
  if mF l then
   if Ho l params most=0 then ∃ G,VM l (2 ^ params.toNat-1) (2 ^ most.toNat-1) params.toNat most.toNat∧UK l (2 ^ params.toNat-1) (2 ^ most.toNat-1) G∧Tf N (l,params,most)=some (cN (Bj l G),0)
   else Tf N (l,params,most)=some ([],Ho l params most)
  else Tf N (l,params,most)=some ([],8):=by
 rw[Tf.eq_1,Jn (by omega) hl,Option.bind_some]
 cases h:mF l with
 |false=>rfl
 | true =>
  have hv:=yO h
  have h1:=hv.pos
  have h2:=PW h
  simp only[aV,show ((0:Int) != 0)=false from rfl,aS,if_true,or4,TF,Option.bind_some]
  unfold Ho
  by_cases ha:most<0∨most>16∨params<0∨params>most
  ·rw[if_pos ha,decide_eq_true ha,aV,if_neg (by decide)]
  ·rw [if_neg ha, decide_eq_false ha, aS]
   simp only[not_or,Int.not_lt] at ha
   obtain⟨s,rfl⟩:∃ s:Nat,most=(s:Int):=⟨most.toNat,by omega⟩
   obtain⟨p,rfl⟩:∃ p:Nat,params=(p:Int):=⟨params.toNat,by omega⟩
   have hs:s≤16:=by omega
   have hps:p≤s:=by omega
   simp only[Int.toNat_natCast,show decide ((0:Int)≤(l.length:Int))=true by simp,aF,Nat.le_refl,decide_true,Bool.true_and,aI (show l.length≤10000000 by omega) (show 8≤1000 by omega),
    aI (show l.length≤10000000 by omega) (show 1≤1000 by omega),Yt]
   have key:=Et (N:=N) hv (by omega) (p:=p) hs
   by_cases hb:lC l s=true
   case neg=>
    rw[if_neg hb] at key
    rw[if_neg (show ¬(if lC l s=true then (0:Int) else 16)=0 by rw[if_neg hb];decide),if_neg hb,key]
    rfl
   case pos=>
    rw[if_pos hb] at key
    rw[if_pos (show (if lC l s=true then (0:Int) else 16)=0 by rw[if_pos hb])]
    obtain⟨ws,k1,k2,k3⟩:=key
    have hVM:VM l (2 ^ p-1) (2 ^ s-1) p s:=⟨hv,h2,hs,hps,rfl,rfl,fun i x hx=>by
     simp only[lC,Bool.not_eq_true',List.any_eq_false,decide_eq_true_eq,not_not] at hb
     exact hb x (cz hx)⟩
    obtain⟨G,o,g1,g2,g3,g4⟩:=Js hVM hN k1 k2
    refine⟨G,hVM,g1,?_⟩
    have e0:dn ((dn ((1:Int)*(2 ^ min p 64)))-1)=((2 ^ p-1:Nat):Int):=MA (n:=(p:Int)) (by omega) (by omega)
    have Qk:aH ((o.length:Int)-1)=((l.length-1:Nat):Int):=by rw[g2];exact El h1 (by omega)
    simp only[k3,Option.bind_some,Int.toNat_natCast,show decide ((0:Int)≤(l.length:Int))=true by simp,aF,Nat.le_refl,decide_true,Bool.true_and,aI (show l.length≤10000000 by omega) (show 8≤1000 by omega),
     aI (show l.length≤10000000 by omega) (show 1≤1000 by omega),show (!decide ((p:Int)<0))=true by simp,List.length_replicate,cP,show jq 0 l.length=true from dR (i:=0) h1,show Int.toNat 0=0 from rfl,
     Em h1,jZ (show 0<(List.replicate l.length 0).length by simp;omega),e0,g4,Qk,dR (show l.length-1<o.length by omega),jZ (show l.length-1<o.length by omega)]
    congr 2
    rw[show (0:Int)=((0:Nat):Int) from rfl,Bi]
    congr 1
    refine Qi (by simp[g2]) fun k hk=>?_
    rw[gV (by omega)]
    by_cases JY:k=l.length-1
    ·rw[if_pos JY,if_neg (fun h'=>h'.2 JY)]
    ·rw [if_neg JY, g3 k hk]
     by_cases hr:Reach l k
     ·rw[if_pos hr,if_pos ⟨hr,JY⟩]
     ·rw[if_neg hr,if_neg (fun h'=>hr h'.1)]
open Go Go.bI Go.Sym
noncomputable def gY:Instr:=(34,-1,0,0)
noncomputable def wh:List Instr:=[(1,0,5,0),(3,1,1,0),(2,2,0,0),(15,3,0,0),(4,4,0,0),(4,5,0,0),(1,7,2,0),(18,6,7,0),(15,8,0,0)]
noncomputable def gW:List Instr:=(List.range 32).map (fun v:Nat=>((1,0,(v:Int),0):Instr))++wh++[(6,0,0,7),(7,7,7,0),(8,0,0,7),(9,0,0,7),(10,1,0,7),(12,1,1,0),(11,1,0,7),(17,3,0,0),(16,0,3,0),
 (4,3,0,0),(14,4,0,0),(13,7,4,0),(14,4,2,3),(17,8,4,0),(16,4,8,0),(20,6,7,0),(19,0,6,7),(20,5,7,0),(19,0,5,7),(21,7,6,0),
 (26,5,0,0),(26,6,0,0),(33,1,7,0),(5,7,0,0),(2,2,1,0),(29,1,0,0)]
noncomputable def pairs:List (Instr×Instr):=[((24,0,0,0),(25,0,1,0)),((24,7,0,0),(27,3,0,0)),((24,0,0,0),(26,2,0,0)),((24,0,0,0),(26,4,0,0)),((24,0,0,0),(26,7,0,0))]
noncomputable def ends:List Instr:=[(28,0,0,0),(30,0,0,0),(32,7,0,0)]
inductive Ql (f:Int):List Instr→Prop where
 |one {x:Instr} : x∈gW→Ql f [x]
 |two {x y:Instr} : (x,y)∈pairs→Ql f [x,y]
 |br {y:Instr} : y∈ends→Ql f [(23,1,aH (aH (f+0)+2),0),y]
noncomputable def Yv:List Instr→Bool
 |[x]=>gW.contains x
 |[x,y]=>pairs.contains (x,y)
 |_=>false
theorem Qm {c:List Instr} {f:Int} (h:Yv c=true):Ql f c:=by
 unfold Yv at h
 split at h
 ·exact .one (List.contains_iff_mem.1 h)
 ·exact .two (List.contains_iff_mem.1 h)
 ·cases h
noncomputable def rep (k:Nat):Nat:=match k % 32 with
 |0=>k
 |25=>25+32*((k / 32) % 3)
 |26=>26+32*((k / 32) % 2)
 |28=>28+32*((k / 32) % 4)
 |r=>r
noncomputable def acT:List Nat:=(List.range 32).map (32 * ·)++(List.range' 1 27)++[57,89,58,28,60,92,124]
theorem TK:∀ k,k<1024→rep k∈acT∨29≤rep k∧rep k≤31:=by decide +kernel
theorem wj {N n:Nat} (hn:n≤100000):xE N (n:Int)=xE N ((n % 1024:Nat):Int):=by
 have h1:∀ m:Nat,m≤100000→Int.tmod (max (m:Int) 0) 32=((m % 32:Nat):Int):=fun m _=>by
  rw[show max (m:Int) 0=(m:Int) by omega,show (32:Int)=((32:Nat):Int) from rfl,GD]
 have h2:∀ m:Nat,m≤100000→Int.tmod (aH (Int.tdiv (max (m:Int) 0) 32)) 32=((m / 32 % 32:Nat):Int):=fun m hm=>by
  rw[show max (m:Int) 0=(m:Int) by omega,show (32:Int)=((32:Nat):Int) from rfl,OG,OD (by omega),GD]
 rw[xE.eq_1,xE.eq_1]
 simp only[h1 n hn,h2 n hn,h1 (n % 1024) (by omega),h2 (n % 1024) (by omega),show n % 1024 % 32=n % 32 by omega,show n % 1024 / 32 % 32=n / 32 % 32 by omega]
noncomputable def UM (N k:Nat):Bool:=match xE N (k:Int),xE N ((rep k:Nat):Int) with
 |some a,some b=>a==b
 |_,_=>false
theorem Jt (N:Nat):((List.range 1024).all (UM N))=true:=by kernel_rfl
theorem ME {N k:Nat} (h:k<1024):xE N (k:Int)=xE N ((rep k:Nat):Int):=by
 have h:=List.all_eq_true.1 (Jt N) _ (List.mem_range.2 h)
 unfold UM at h
 split at h
 ·rename_i a b ha hb
  rw[ha,hb,eq_of_beq h]
 ·cases h
noncomputable def JH (N:Nat) (f:Int) (k:Nat):Bool:=match xE N (k:Int) with
 |some s=>match BJ (N+60) (s,f) with
  |some c=>Yv c
  |none=>false
 |none=>false
theorem MF (N:Nat) (f:Int):(acT.all (JH N f))=true:=by kernel_rfl
theorem TL (N:Nat) (f:Int):[29,30,31].map (fun k:Nat=>(xE N (k:Int)).bind fun s=>BJ (N+60) (s,f))=ends.map fun y=>some [(23,1,aH (aH (f+0)+2),0),y]:=by kernel_rfl
theorem MG {N n:Nat} (hn:n≤100000) (f:Int):∃ s c,xE N (n:Int)=some s∧BJ (N+60) (s,f)=some c∧Ql f c:=by
 have hk:n % 1024<1024:=Nat.mod_lt _ (by omega)
 have h1:=ME (N:=N) hk
 rw[wj hn,h1]
 rcases TK _ hk with h|h
 ·have h2 := List.all_eq_true.1 (MF N f) _ h
  unfold JH at h2
  split at h2
  ·rename_i s hs
   split at h2
   ·rename_i c hc
    exact⟨s,c,hs,hc,Qm h2⟩
   ·cases h2
  ·cases h2
 ·have h2 := TL N f
  simp only[List.map_cons,List.map_nil,List.cons.injEq,and_true,ends] at h2
  have fin:∀ {k:Nat} {y:Instr},y∈ends→((xE N (k:Int)).bind fun s=>BJ (N+60) (s,f))=some [(23,1,aH (aH (f+0)+2),0),y]→∃ s c,xE N (k:Int)=some s∧BJ (N+60) (s,f)=some c∧Ql f c:=by
   intro k y hy h
   cases hs:xE N (k:Int) with
   |none=>rw[hs] at h;cases h
   |some s=>rw[hs] at h;exact⟨s,_,rfl,h,.br hy⟩
  obtain⟨q1,q2,q3⟩:=h2
  have:rep (n % 1024)=29∨rep (n % 1024)=30∨rep (n % 1024)=31:=by omega
  rcases this with e|e|e<;>rw[e]
  ·exact fin (by simp[ends]) q1
  ·exact fin (by simp[ends]) q2
  ·exact fin (by simp[ends]) q3
theorem Ju {N:Nat} {x i:Nat} (hx:x≤1023) (hi:i≤60):xE N (((x+1024*i:Nat)):Int)=xE N (x:Int):=by
 rw[wj (by omega),wj (n:=x) (by omega),show (x+1024*i) % 1024=x % 1024 by omega]
open Go Go.bI Go.Sym
inductive Code:Nat→List Instr→Prop where
 |fin {i:Nat} : Code i [gY]
 |one {i:Nat} {x:Instr} {r:List Instr} : x∈gW→Code (i+1) r→Code i (x :: r)
 |two {i:Nat} {x y:Instr} {r:List Instr} : (x,y)∈pairs→Code (i+2) r→Code i (x :: y :: r)
 |br {i:Nat} {y:Instr} {r:List Instr} : y∈ends→Code (i+2) r→Code i ((23,1,((i+2:Nat):Int),0) :: y :: r)
theorem Ql.len {f:Int} {c:List Instr} (h:Ql f c):1≤c.length∧c.length≤2:=by cases h<;>simp
theorem Ql.code {i:Nat} (hi:i≤1000) {c r:List Instr} (h:Ql (i:Int) c) (hr:Code (i+c.length) r):Code i (c++r):=by
 cases h with
 |one h=>exact .one h hr
 |two h=>exact .two h hr
 |br h=>
  have e:aH (aH ((i:Int)+0)+2)=((i+2:Nat):Int):=by rw[cB (n:=(i:Int)+0) (by omega),cB (by omega)];omega
  rw[e]
  exact .br h hr
inductive Bs (N:Nat):List Instr→List Int→List Instr→Prop where
 |nil {b:List Instr} : Bs N b [] b
 |cons {b:List Instr} {x:Int} {xs:List Int} {s:List UInt8} {c b':List Instr} : xE N x=some s→BJ N (s,(b.length:Int))=some c→Ql (b.length:Int) c→Bs N (b++c) xs b'→Bs N b (x :: xs) b'
theorem Bs.app {N:Nat} {b b' b'':List Instr} {xs ys:List Int} (h:Bs N b xs b') (k:Bs N b' ys b''):Bs N b (xs++ys) b'':=by
 induction h with
 |nil=>exact k
 |cons h1 h2 h3 _ ih=>exact .cons h1 h2 h3 (ih k)
theorem Bs.pre {N:Nat} {b b':List Instr} {xs:List Int} (h:Bs N b xs b'):∃ r,b'=b++r∧r.length≤2*xs.length∧∀ t,b'.length≤1000→Code b'.length t→Code b.length (r++t):=by
 induction h with
 |nil=>exact⟨[],by simp,by simp,fun t _ ht=>ht⟩
 | @cons b x xs s c b' h1 h2 h3 _ ih=>
  obtain⟨r,rfl,hl,hc⟩:=ih
  have hcl:=h3.len
  refine⟨c++r,by simp,by simp only[List.length_append,List.length_cons];omega,fun t ht hk=>?_⟩
  have:=hc t ht hk
  rw[List.length_append] at this
  rw[List.append_assoc]
  simp only[List.length_append] at ht
  exact h3.code (by omega) this
theorem Bs.ex {N:Nat} : ∀ {xs:List Int} {b:List Instr},(∀ x,x∈xs→0≤x∧x≤100000)→∃ b',Bs (N+60) b xs b'
 |[],b,_=>⟨b,.nil⟩
 |x :: xs,b,h=>by
  obtain⟨n,rfl⟩:∃ n:Nat,x=(n:Int):=⟨x.toNat,by have:=h x List.mem_cons_self;omega⟩
  have hn:=h _ (List.mem_cons_self (a:=(n:Int)) (l:=xs))
  obtain⟨s,c,h1,h2,h3⟩:=MG (N:=N) (n:=n) (by omega) (b.length:Int)
  have h1:xE (N+60) (n:Int)=some s:=by rw[←h1,xE.eq_1,xE.eq_1];rfl
  obtain⟨b',hb⟩:=Bs.ex (N:=N) (b:=b++c) fun x hx=>h x (List.mem_cons_of_mem _ hx)
  exact⟨b',.cons h1 h2 h3 hb⟩
noncomputable def base:List Instr:=gW++ends++[gY]++pairs.map (·.1)++pairs.map (·.2)
theorem Jv:(base.all fun x=>jX x&&(x.1 != 22&&x.1 != 23)&&decide (-1000≤x.2.1∧x.2.1≤1000∧-1000≤x.2.2.1∧x.2.2.1≤1000∧-1000≤x.2.2.2∧x.2.2.2≤1000))=true:=by decide +kernel
theorem Code.good {i:Nat} {r:List Instr} (h:Code i r):(1≤r.length)∧r.getLast?=some gY∧∀ x,x∈r→x∈base∨∃ t,t<i+r.length∧x=(23,1,(t:Int),0):=by
 induction h with
 |fin=>exact⟨by simp,rfl,fun x hx=>.inl (by rw[List.mem_singleton.1 hx];simp[base])⟩
 | @one i x r hx _ ih =>
  obtain⟨h1,h2,h3⟩:=ih
  refine⟨by simp,by rw[List.getLast?_cons,h2];rfl,fun y hy=>?_⟩
  rcases List.mem_cons.1 hy with rfl|hy
  ·exact .inl (by simp[base,hx])
  ·rcases h3 y hy with h | ⟨t, ht, h⟩
   ·exact .inl h
   ·exact .inr ⟨t,by simp only[List.length_cons];omega,h⟩
 | @two i x y r hx _ ih =>
  obtain⟨h1,h2,h3⟩:=ih
  refine⟨by simp,by rw[List.getLast?_cons,List.getLast?_cons,h2];rfl,fun z hz=>?_⟩
  rcases List.mem_cons.1 hz with rfl|hz
  ·exact .inl (by simp only[base,List.mem_append,List.mem_map];exact .inl (.inr ⟨_,hx,rfl⟩))
  rcases List.mem_cons.1 hz with rfl|hz
  ·exact .inl (by simp only[base,List.mem_append,List.mem_map];exact .inr ⟨_,hx,rfl⟩)
  ·rcases h3 z hz with h | ⟨t, ht, h⟩
   ·exact .inl h
   ·exact .inr ⟨t,by simp only[List.length_cons];omega,h⟩
 | @br i y r hy _ ih =>
  obtain⟨h1,h2,h3⟩:=ih
  refine⟨by simp,by rw[List.getLast?_cons,List.getLast?_cons,h2];rfl,fun z hz=>?_⟩
  rcases List.mem_cons.1 hz with rfl|hz
  ·exact .inr ⟨i+2,by simp only[List.length_cons];omega,rfl⟩
  rcases List.mem_cons.1 hz with rfl|hz
  ·exact .inl (by simp[base,hy])
  ·rcases h3 z hz with h | ⟨t, ht, h⟩
   ·exact .inl h
   ·exact .inr ⟨t,by simp only[List.length_cons];omega,h⟩
noncomputable def sc (l:List Instr):Nat→List Int
 |0=>[]
 |k+1=>match l[k]? with
  |some x=>if x.1=24 then [0] else []
  |none=>[]
theorem vh {l:List Instr} {k:Nat} {x:Instr} (h:l[k]?=some x):sc l (k+1)=if x.1=24 then [0] else []:=by simp only[sc,h]
inductive Bk:Instr→List Int→List Int→Prop where
 |one {x:Instr} : x∈gW∨x∈ends∨x=gY→Bk x [] []
 |br {t:Nat} : t<200→Bk (23,1,(t:Int),0) [] []
 |arg {x y:Instr} : (x,y)∈pairs→Bk x [] [0]
 |call {x y:Instr} : (x,y)∈pairs→Bk y [0] []
theorem wm:∀ x,x∈gW→x.1≠34∧x.1≠28∧x.1≠30∧x.1≠22∧x.1≠23∧x.1≠24:=by
 have:(gW.all fun x=>decide (x.1≠34∧x.1≠28∧x.1≠30∧x.1≠22∧x.1≠23∧x.1≠24))=true:=by decide +kernel
 exact fun x hx=>of_decide_eq_true (List.all_eq_true.1 this x hx)
theorem yQ:∀ x y,(x,y)∈pairs→x.1=24∧y.1≠34∧y.1≠28∧y.1≠30∧y.1≠22∧y.1≠23∧y.1≠24:=by
 have:(pairs.all fun p=>decide (p.1.1=24∧p.2.1≠34∧p.2.1≠28∧p.2.1≠30∧p.2.1≠22∧p.2.1≠23∧p.2.1≠24))=true:=by decide +kernel
 exact fun x y hx=>of_decide_eq_true (List.all_eq_true.1 this _ hx)
theorem Yw:∀ x,x∈ends→(x.1=28∨x.1=30∨x.1=32):=by
 have:(ends.all fun x=>decide (x.1=28∨x.1=30∨x.1=32))=true:=by decide +kernel
 exact fun x hx=>of_decide_eq_true (List.all_eq_true.1 this x hx)
theorem k8 {l:List Instr} {i:Nat} {x:Instr} (h:l[i]?=some x) (h1:x.1≠34∧x.1≠28∧x.1≠30∧x.1≠22∧x.1≠23):nx l i=[i+1]:=by
 simp[nx,h,h1]
theorem KN {l:List Instr} {i:Nat} {x:Instr} (h:l[i]?=some x) (h1:x.1=34∨x.1=28∨x.1=30):nx l i=[]:=by
 simp[nx,h,h1]
theorem Qn {l:List Instr} {i:Nat} (h:l[i]?=some (23,1,((i+2:Nat):Int),0)):nx l i=[i+1,i+2]:=by
 have e:((i+2:Nat):Int).toNat=i+2:=Int.toNat_natCast _
 unfold nx
 rw[h]
 simp only[e]
 rw[if_neg (by decide),if_neg (by decide),if_pos trivial,if_neg (by omega),Nat.min_eq_left (by omega),Nat.max_eq_right (by omega)]
structure At (l:List Instr) (k:Nat):Prop where
 ex:∃ x s',l[k]?=some x∧Bk x (sc l k) s'∧∀ k',k'∈nx l k→sc l k'=s'∧(k'=k+1∨k'=k+2)∧k'<l.length
theorem pg (p:List Instr) (x:Instr) (r:List Instr):(p++x :: r)[p.length]?=some x:=by simp
theorem Bl (p:List Instr) (x y:Instr) (r:List Instr):(p++x :: y :: r)[p.length+1]?=some y:=by
 rw[List.getElem?_append_right (by omega)];simp
theorem Code.facts {i:Nat} {r:List Instr} (h:Code i r):∀ {p:List Instr},p.length=i→sc (p++r) i=[]→(p++r).length≤200→∀ k,i≤k→k<(p++r).length→At (p++r) k:=by
 induction h with
 | @fin i=>
  intro p hp hs hl k h1 h2
  subst hp
  simp only[List.length_append,List.length_singleton] at h2
  have:k=p.length:=by omega
  subst this
  have e:=pg p gY []
  exact⟨_,[],e,by rw[hs];exact .one (.inr (.inr rfl)),fun k' hk'=>by rw[KN e (.inl rfl)] at hk';cases hk'⟩
 | @one i x r hx hc ih =>
  intro p hp hs hl k h1 h2
  subst hp
  have e:=pg p x r
  have ho:=wm x hx
  have hpos:=hc.good.1
  have hs':sc (p++x :: r) (p.length+1)=[]:=by rw[vh e,if_neg ho.2.2.2.2.2]
  by_cases hk:k=p.length
  ·subst hk
   refine⟨_,[],e,by rw[hs];exact .one (.inl hx),fun k' hk'=>?_⟩
   rw[k8 e ⟨ho.1,ho.2.1,ho.2.2.1,ho.2.2.2.1,ho.2.2.2.2.1⟩,List.mem_singleton] at hk'
   subst hk'
   exact⟨hs',.inl rfl,by simp only[List.length_append,List.length_cons];omega⟩
  ·have := @ih (p ++ [x]) (by simp)
   rw[List.append_assoc,List.singleton_append] at this
   exact this hs' hl k (by omega) h2
 | @two i x y r hx hc ih =>
  intro p hp hs hl k h1 h2
  subst hp
  have e:=pg p x (y :: r)
  have e2:=Bl p x y r
  have ho:=yQ x y hx
  have hpos:=hc.good.1
  have hs1:sc (p++x :: y :: r) (p.length+1)=[0]:=by rw[vh e,if_pos ho.1]
  have hs2:sc (p++x :: y :: r) (p.length+2)=[]:=by rw[vh e2,if_neg ho.2.2.2.2.2.2]
  by_cases hk:k=p.length
  ·subst hk
   refine⟨_,[0],e,by rw[hs];exact .arg hx,fun k' hk'=>?_⟩
   rw[k8 e (by rw[ho.1];decide),List.mem_singleton] at hk'
   subst hk'
   exact⟨hs1,.inl rfl,by simp only[List.length_append,List.length_cons];omega⟩
  by_cases hk2:k=p.length+1
  ·subst hk2
   refine⟨_,[],e2,by rw[hs1];exact .call hx,fun k' hk'=>?_⟩
   rw[k8 e2 ⟨ho.2.1,ho.2.2.1,ho.2.2.2.1,ho.2.2.2.2.1,ho.2.2.2.2.2.1⟩,List.mem_singleton] at hk'
   subst hk'
   exact⟨hs2,.inl rfl,by simp only[List.length_append,List.length_cons];omega⟩
  ·have := @ih (p ++ [x, y]) (by simp)
   rw[List.append_assoc,List.cons_append,List.singleton_append] at this
   exact this hs2 hl k (by omega) h2
 | @br i y r hy hc ih =>
  intro p hp hs hl k h1 h2
  subst hp
  have e:=pg p (23,1,((p.length+2:Nat):Int),0) (y :: r)
  have e2:=Bl p (23,1,((p.length+2:Nat):Int),0) y r
  have ho:=Yw y hy
  have hpos:=hc.good.1
  have hs1:sc (p++(23,1,((p.length+2:Nat):Int),0) :: y :: r) (p.length+1)=[]:=by rw[vh e];rfl
  have hs2:sc (p++(23,1,((p.length+2:Nat):Int),0) :: y :: r) (p.length+2)=[]:=by rw[vh e2,if_neg (by omega)]
  simp only[List.length_append,List.length_cons] at hl h2
  by_cases hk:k=p.length
  ·subst hk
   refine⟨_,[],e,by rw[hs];exact .br (by omega),fun k' hk'=>?_⟩
   rw[Qn e] at hk'
   simp only[List.mem_cons,List.not_mem_nil,or_false] at hk'
   rcases hk' with rfl|rfl
   ·exact⟨hs1,.inl rfl,by simp only[List.length_append,List.length_cons];omega⟩
   ·exact⟨hs2,.inr rfl,by simp only[List.length_append,List.length_cons];omega⟩
  by_cases hk2:k=p.length+1
  ·subst hk2
   refine⟨_,[],e2,by rw[hs1];exact .one (.inr (.inl hy)),fun k' hk'=>?_⟩
   by_cases h32:y.1=32
   ·rw [k8 e2 (by rw [h32]; decide), List.mem_singleton] at hk'
    subst hk'
    exact⟨hs2,.inl rfl,by simp only[List.length_append,List.length_cons];omega⟩
   ·rw[KN e2 (by omega)] at hk';cases hk'
  ·have := @ih (p ++ [(23, 1, ((p.length + 2 : Nat) : Int), 0), y]) (by simp)
   rw[List.append_assoc,List.cons_append,List.singleton_append] at this
   exact this hs2 (by simp only[List.length_append,List.length_cons];omega) k (by omega) (by simp only[List.length_append,List.length_cons];omega)
theorem Code.reach {i:Nat} {r:List Instr} (h:Code i r):∀ {p:List Instr},p.length=i→Reach (p++r) i→∀ k,i≤k→k<(p++r).length→Reach (p++r) k:=by
 induction h with
 | @fin i=>
  intro p hp hr k h1 h2
  simp only[List.length_append,List.length_singleton] at h2
  rw[show k=i by omega];exact hr
 | @one i x r hx hc ih =>
  intro p hp hr k h1 h2
  subst hp
  by_cases hk:k=p.length
  ·rw[hk];exact hr
  ·have ho := wm x hx
   have:=@ih (p++[x]) (by simp)
   rw[List.append_assoc,List.singleton_append] at this
   exact this (.step hr (by rw[k8 (pg p x r) ⟨ho.1,ho.2.1,ho.2.2.1,ho.2.2.2.1,ho.2.2.2.2.1⟩];simp)) k (by omega) h2
 | @two i x y r hx hc ih =>
  intro p hp hr k h1 h2
  subst hp
  have ho:=yQ x y hx
  have yy:Reach (p++x :: y :: r) (p.length+1):=.step hr (by rw[k8 (pg p x (y :: r)) (by rw[ho.1];decide)];simp)
  by_cases hk:k=p.length
  ·rw[hk];exact hr
  by_cases hk2:k=p.length+1
  ·rw[hk2];exact yy
  ·have := @ih (p ++ [x, y]) (by simp)
   rw[List.append_assoc,List.cons_append,List.singleton_append] at this
   exact this (.step yy (by rw[k8 (Bl p x y r) ⟨ho.2.1,ho.2.2.1,ho.2.2.2.1,ho.2.2.2.2.1,ho.2.2.2.2.2.1⟩];simp)) k (by omega) h2
 | @br i y r hy hc ih =>
  intro p hp hr k h1 h2
  subst hp
  have e:=pg p (23,1,((p.length+2:Nat):Int),0) (y :: r)
  by_cases hk:k=p.length
  ·rw[hk];exact hr
  by_cases hk2:k=p.length+1
  ·rw[hk2];exact .step hr (by rw[Qn e];simp)
  ·have := @ih (p ++ [(23, 1, ((p.length + 2 : Nat) : Int), 0), y]) (by simp)
   rw[List.append_assoc,List.cons_append,List.singleton_append] at this
   exact this (.step hr (by rw[Qn e];simp)) k (by omega) h2
open Go Go.bI Go.Sym
noncomputable def fJ:List aq:=[(2,0,0,[]),(1,0,0,[]),(3,0,0,[]),(4,0,0,[]),(5,0,0,[([110],0),([111,110],1),([97,116],3)]),(6,0,3,[]),(7,0,0,[]),(4,4,0,[])]
noncomputable def fK:List (List UInt8):=[[108,97,116,101],[116,97,115,107],[98,111,111,109]]
noncomputable def vi:List Field:=[([110],0),([111,110],1),([115],2),([112],3),([114],4),([97],5),([108],6),([107],0),([113],7)]
noncomputable def gf:List UInt8:=[109,97,105,110]
noncomputable def k9:List Func:=[
 ([119,111,114,107],1,0,[([110],0),([107],0),([111,110],1)],[(1,1,1,0),(10,2,0,1),(23,2,8,0),(7,1,0,1),(24,1,0,0),(25,1,1,0),(6,1,1,0),(34,1,0,0),(34,0,0,0),(34,-1,0,0)],[(0,0)],[(0,0)]),
 ([108,97,116,101],1,-1,[([110],0),([111,110],1),([107],0)],[(29,1,2,0),(23,1,4,0),(10,1,0,2),(23,1,5,0),(34,-1,0,0),(28,0,0,0),(34,-1,0,0)],[(0,0)],[(0,0)]),
 ([116,97,115,107],1,-1,[([107],0),([111,110],1)],[(31,0,0,0),(33,1,0,0),(23,1,4,0),(32,0,0,0),(34,-1,0,0)],[(0,0)],[(0,0)]),
 ([102,97,105,108],1,-1,[([110],0)],[(28,0,0,0),(34,-1,0,0)],[(0,0)],[(0,0)]),
 ([108,101,97,118,101],0,-1,[],[(30,0,0,0),(34,-1,0,0)],[(0,0)],[(0,0)]),
 ([113,117,105,101,116],0,-1,[([111,110],1),([110],0)],[(29,0,1,0),(34,-1,0,0)],[(0,0)],[(0,0)]),
 ([97,103,97,105,110],1,-1,[([110],0),([111,110],1),([107],0)],[(29,1,2,0),(28,0,0,0),(34,-1,0,0)],[(0,0)],[(0,0)])]
noncomputable def ri (l:List Instr):Func:=(gf,0,-1,vi,l,[(0,0)],[(0,0)])
noncomputable def mX (l:List Instr):List Func:=ri l :: k9
noncomputable def brs:List Instr:=(List.range 200).map fun t:Nat=>((23,1,(t:Int),0):Instr)
noncomputable def acU (N:Nat) (l:List Instr) (x:Instr):Bool:=decide (Ze (N+60) (fJ,fK,mX l,gf,0,-1,vi,l,[(0,0)],[(0,0)],x.1,x.2.1,x.2.2.1,x.2.2.2)=some 0)
noncomputable def Yx (N:Nat) (l:List Instr) (x:Instr):Bool:=decide (Zf (N+60) (fJ,fK,mX l,gf,0,-1,vi,l,[(0,0)],[(0,0)],x.1,x.2.1,x.2.2.1,x.2.2.2)=some true)
noncomputable def Qo (N:Nat) (l:List Instr) (s s':List Int) (x:Instr):Bool:=decide (Zg (N+60) (fJ,fK,mX l,gf,0,-1,vi,l,[(0,0)],[(0,0)],x.1,x.2.1,x.2.2.1,x.2.2.2,s)=some (s',true))
theorem Qp (N:Nat) (l:List Instr):((base++brs).all (acU N l))=true:=by kernel_rfl
theorem MH (N:Nat) (l:List Instr):((base++brs).all (Yx N l))=true:=by kernel_rfl
theorem Hr (N:Nat) (l:List Instr):((gW++ends++[gY]++brs).all (Qo N l [] []))=true:=by kernel_rfl
theorem Hs (N:Nat) (l:List Instr):(pairs.all fun p=>Qo N l [] [0] p.1&&Qo N l [0] [] p.2)=true:=by kernel_rfl
theorem C7 (N:Nat) (l:List Instr):UG (N+60) (fJ,fK,mX l,gf,0,-1,vi,l,[(0,0)],[(0,0)],[])=some (0,0)∧UG (N+60) (fJ,fK,mX l,gf,0,-1,vi,l,[(0,0)],[(0,0)],[0])=some (8,0):=⟨by kernel_rfl,by kernel_rfl⟩
theorem Jw {t:Nat} (h:t<200):((23,1,(t:Int),0):Instr)∈brs:=List.mem_map.2 ⟨t,List.mem_range.2 h,rfl⟩
theorem TM {N:Nat} {l:List Instr} {x:Instr} (h:x∈base∨∃ t:Nat,t<200∧x=(23,1,(t:Int),0)):Ze (N+60) (fJ,fK,mX l,gf,0,-1,vi,l,[(0,0)],[(0,0)],x.1,x.2.1,x.2.2.1,x.2.2.2)=some 0:=by
 refine of_decide_eq_true (List.all_eq_true.1 (Qp N l) x (List.mem_append.2 ?_))
 rcases h with h|⟨t,ht,rfl⟩
 ·exact .inl h
 ·exact .inr (Jw ht)
theorem Qq {N:Nat} {l:List Instr} {x:Instr} (h:x∈base∨∃ t:Nat,t<200∧x=(23,1,(t:Int),0)):Zf (N+60) (fJ,fK,mX l,gf,0,-1,vi,l,[(0,0)],[(0,0)],x.1,x.2.1,x.2.2.1,x.2.2.2)=some true:=by
 refine of_decide_eq_true (List.all_eq_true.1 (MH N l) x (List.mem_append.2 ?_))
 rcases h with h|⟨t,ht,rfl⟩
 ·exact .inl h
 ·exact .inr (Jw ht)
theorem Qr {N:Nat} {l:List Instr} {x:Instr} {s s':List Int} (h:Bk x s s'):Zg (N+60) (fJ,fK,mX l,gf,0,-1,vi,l,[(0,0)],[(0,0)],x.1,x.2.1,x.2.2.1,x.2.2.2,s)=some (s',true):=by
 cases h with
 |one h=>
  refine of_decide_eq_true (List.all_eq_true.1 (Hr N l) x ?_)
  simp only[List.mem_append,List.mem_singleton]
  rcases h with h|h|h
  ·exact .inl (.inl (.inl h))
  ·exact .inl (.inl (.inr h))
  ·exact .inl (.inr h)
 |br h=>exact of_decide_eq_true (List.all_eq_true.1 (Hr N l) _ (List.mem_append.2 (.inr (Jw h))))
 |arg h=>
  have:=List.all_eq_true.1 (Hs N l) _ h
  rw[Bool.and_eq_true] at this
  exact of_decide_eq_true this.1
 |call h=>
  have:=List.all_eq_true.1 (Hs N l) _ h
  rw[Bool.and_eq_true] at this
  exact of_decide_eq_true this.2
noncomputable def Ht (i:Nat):List bD×List bD×Int×Int:=(Px 400 (fJ,fK,mX [],(i:Int))).getD ([],[],0,0)
noncomputable def others:List Nat:=[1,2,3,4,5,6,7]
theorem MI (N:Nat) (l:List Instr):(others.map fun i:Nat=>Px (N+400) (fJ,fK,mX l,(i:Int)))=others.map fun i:Nat=>some (Ht i):=by kernel_rfl
theorem MJ:(others.all fun i=>(Ht i).2.2.2==0)=true:=by kernel_rfl
theorem TN (N:Nat) (p:List Int):F5 (N+60) p=(bif (decide ((p.length:Int)>(60:Int))) then some ([],[],[],(4:Int))
 else (Option.bind (f5.fA (N+60) (N+60) (p,(p.length:Int),(0:Int),wh)) fun b=>aZ (room (b.length+[gY].length) 32) (Option.bind (UI (N+60) (fJ,fK,mX (b++[gY]))) fun y=>some (y.1,y.2.1,y.2.2.1,y.2.2.2)))):=by kernel_rfl
theorem C8 {N:Nat} {p:List Int} (hp:p.length≤60):∀ (k i:Nat) (b b':List Instr),i≤p.length→p.length-i<k→b.length≤9+2*i→Bs N b (p.drop i) b'→f5.fA N k (p,(p.length:Int),(i:Int),b)=some b'
 |0,_,_,_,_,h,_,_=>by omega
 | k + 1, i, b, b', hi, hk, hb, h => by
  rw[f5.fA.eq_2]
  by_cases he:i=p.length
  ·subst he
   rw[List.drop_length] at h
   cases h
   rw[bZ];rfl
  ·have hlt : i < p.length := by omega
   rw[List.drop_eq_getElem_cons hlt] at h
   cases h with
   |cons h1 h2 h3 h4=>
    have hc:=h3.len
    rw[bY hlt,aV,bE (List.getElem?_eq_getElem hlt),Option.bind_some,h1,Option.bind_some,h2,Option.bind_some,aI (by omega) (by omega),aF,aW (by omega)]
    exact C8 hp k (i+1) _ _ (by omega) (by omega) (by rw[List.length_append];omega) h4
open Go Go.bI Go.Sym
open Classical
theorem Bm {N:Nat} {v:List Int} (hN:500<N) (h1:1≤v.length) (h2:v.length≤200):∃ r,XT N v=some (r,0)∧r.length≤200∧∀ x,x∈r→x.2∈v:=by
 rw[XT.eq_1,WS.eq_1]
 have e1:decide ((v.length:Int)<1)=false:=decide_eq_false (by omega)
 have e2:decide ((v.length:Int)>200)=false:=decide_eq_false (by omega)
 simp only[e1,e2,aS,lu,Option.bind_some,Bool.or_self,Bool.false_or,show ((0:Int) != 0)=false from rfl]
 obtain⟨s,hs,he⟩:=jV (l:=v) (g:=fun s:List bD=>s) (Inv:=fun i s=>s.length≤i∧∀ x,x∈s→x.2∈v)
  (Lf:=fun k i s=>f56.rO N k (v,s,(v.length:Int),i))
  (fun k s _=>by simp only[f56.rO.eq_2,bZ,aS])
  (fun k i x s hx ⟨hs, hm⟩ => by
   have hi:=bp hx
   have hm':∀ z,z∈s++[((i:Int),x)]→z.2∈v:=fun z hz=>by
    rcases List.mem_append.1 hz with hz|hz
    ·exact hm z hz
    ·rw[List.mem_singleton.1 hz];exact cz hx
   simp only[f56.rO.eq_2,bY hi,aV,bE hx,Option.bind_some,aW (show i<9223372036854775807 by omega)]
   have hroom:room (s.length+1) 16=true:=aI (by omega) (by omega)
   by_cases h0:i=0
   ·subst h0
    refine⟨s++[(((0:Nat):Int),x)],⟨by simp only[List.length_append,List.length_singleton];omega,hm'⟩,?_⟩
    simp[hroom,aF]
   ·have hp : decide ((i : Int) > 0) = true := decide_eq_true (by omega)
    have hw:aH ((i:Int)-1)=((i-1:Nat):Int):=by rw[cB (by omega)];omega
    have hy:=List.getElem?_eq_getElem (l:=v) (i:=i-1) (by omega)
    simp only[hp,aV,hw,bE hy,Option.bind_some]
    cases (x==v[i-1]) with
    |true=>exact⟨s,⟨by omega,hm⟩,by simp⟩
    |false=>exact⟨s++[((i:Int),x)],⟨by simp only[List.length_append,List.length_singleton];omega,hm'⟩,by simp[hroom,aF]⟩)
  (k:=N) (s:=[]) (by simp) (by omega)
 exact⟨s,by rw[he];rfl,by omega,hs.2⟩
structure Good (l:List Instr):Prop where
 code:Code 0 l
 len:l.length≤200
 pro:∃ r,l=wh++r∧1≤r.length
variable {l:List Instr}
theorem Good.inst (h:Good l) {x:Instr} (hx:x∈l):x∈base∨∃ t:Nat,t<l.length∧x=(23,1,(t:Int),0):=by
 rcases h.code.good.2.2 x hx with h|⟨t,ht,rfl⟩
 ·exact .inl h
 ·exact .inr ⟨t,by omega,rfl⟩
theorem Good.inst200 (h:Good l) {x:Instr} (hx:x∈l):x∈base∨∃ t:Nat,t<200∧x=(23,1,(t:Int),0):=by
 rcases h.inst hx with h'|⟨t,ht,rfl⟩
 ·exact .inl h'
 ·exact .inr ⟨t,by have:=h.len;omega,rfl⟩
theorem Bn {x:Instr} (h:x∈base):jX x=true∧x.1≠22∧x.1≠23∧QN x:=by
 have:=List.all_eq_true.1 Jv x h
 simp only[Bool.and_eq_true,decide_eq_true_eq,bne_iff_ne] at this
 obtain⟨⟨h1,h2,h3⟩,h4⟩:=this
 exact⟨h1,h2,h3,by unfold QN i64;omega⟩
theorem Yy:((List.range 200).all fun t:Nat=>jX (23,1,(t:Int),0))=true:=by decide +kernel
theorem Good.aZ (h:Good l) {x:Instr} (hx:x∈l):jX x=true∧QN x:=by
 rcases h.inst200 hx with h|⟨t,ht,rfl⟩
 ·exact⟨(Bn h).1,(Bn h).2.2.2⟩
 ·exact⟨List.all_eq_true.1 Yy t (List.mem_range.2 ht),by unfold QN i64;simp only;omega⟩
theorem Good.last (h:Good l):qY l=gY:=by
 have:=h.code.good.2.1
 simp only[qY,List.getD_eq_getElem?_getD]
 rw[List.getLast?_eq_getElem?] at this
 rw[this];rfl
theorem Good.pos (h:Good l):10≤l.length:=by
 obtain⟨r,rfl,hr⟩:=h.pro
 rw[List.length_append]
 show 10≤9+r.length
 omega
theorem Good.valid (h:Good l):mF l=true:=by
 have:=h.pos
 unfold mF
 rw[decide_eq_true (by omega),decide_eq_true h.len,h.last]
 simp only[Bool.true_and]
 refine Bool.and_eq_true_iff.2 ⟨?_,rfl⟩
 rw[Bool.not_eq_true',List.any_eq_false]
 intro x hx
 unfold My
 rw[(h.aZ hx).1]
 rcases h.inst hx with h'|⟨t,ht,rfl⟩
 ·have := Bn h'
  simp[Ek,this.2.1,this.2.2.1]
 ·simp[Ek];omega
theorem Good.at (h:Good l) {k:Nat} (hk:k<l.length):At l k:=by
 have:=h.code.facts (p:=[]) rfl rfl (by simpa using h.len) k (by omega) (by simpa using hk)
 simpa using this
theorem Good.reach (h:Good l) {k:Nat} (hk:k<l.length):Reach l k:=by
 have:=h.code.reach (p:=[]) rfl .zero k (by omega) (by simpa using hk)
 simpa using this
theorem Good.lB (h:Good l):(Go.Proofs.YtokjmkblnafppaaGreatDoor.lB l).set (l.length-1) true=List.replicate l.length true:=by
 apply List.ext_getElem?
 intro k
 by_cases hk:k<l.length
 ·rw [List.getElem?_set, List.getElem?_replicate, if_pos hk, mG, o8 hk, decide_eq_true (h.reach hk)]
  split
  ·rw[if_pos (by omega)]
  ·rfl
 ·rw[List.getElem?_eq_none (by simp[mG];omega),List.getElem?_eq_none (by simp;omega)]
structure Yz (l:List Instr) (b:List (List Int)) (m:List Bool) (o:List Nat):Prop where
 lb:b.length=l.length
 lm:m.length=l.length
 met:∀ k,T m k→b[k]?=some (sc l k)
 new:∀ k,k<l.length→¬T m k→b[k]?=some []
 rQ:∀ k,k∈o→T m k
theorem YA {N:Nat} (hN:500<N) (a:List Int) (ha:a.length≤10):Zi N (a,a)=some true:=by
 rw[Zi.eq_1]
 simp only[show (((a.length:Int) != (a.length:Int))=false) by simp,aS]
 have:=GA (l:=a) (a:=(.inr ():Bool⊕Unit)) (b:=.inl false) (p:=fun _=>false) (Lf:=fun k i=>f92.cc N k (a,a,(a.length:Int),i))
  (fun k => by simp only [f92.cc.eq_2, bZ, aS]) (fun k i x hx hi => by
   have:=bp hi
   simp only[f92.cc.eq_2,bY this,aV,bE hi,Option.bind_some,show (x != x)=false by simp,aS,aW (show i<9223372036854775807 by omega)]
   simp) N (by omega)
 rw[this]
 simp
theorem YB (l:List Instr) (k:Nat):sc l k=[]∨sc l k=[0]:=by
 cases k with
 |zero=>exact .inl rfl
 |succ k=>
  simp only[sc]
  split
  ·split<;>simp
  ·simp
theorem TO {N:Nat} (h:Good l) (hN:500<N) {i:Nat} (hi:i<l.length):Zh N (l,(i:Int))=some (cN (nx l i),0):=by
 have hl:=h.len
 rw[Zh.eq_1,Jn (by omega) (by omega),h.valid]
 simp only[aV,Option.bind_some,show ((0:Int) != 0)=false from rfl,aS,show decide ((i:Int)<0)=false by simp,show decide ((i:Int)≥(l.length:Int))=false by simp;omega,Jo (yO h.valid) hi]
section
variable (a:List aq) (b:List (List UInt8)) (c:List Func) (d:List UInt8) (e f:Int) (g:List Field) (w:List Instr) (si li:List bD)
theorem MK {N:Nat} (hg:Good l) (hN:500<N) {bs:List (List Int)} {m:List Bool} {o:List Nat} {i:Nat} (h:Yz l bs m (o++[i])) (ho:o.length≤1000000) {s':List Int} (hs:s'.length≤1) (hx:∀ k',k'∈nx l i→sc l k'=s'∧k'<l.length) :
  ∃ bs' m' p,Yz l bs' m' (o++p)∧cntF m'+p.length≤cntF m∧f53.jB N N (l,s',cN (nx l i),((cN (nx l i)).length:Int),0,a,b,c,d,e,f,g,w,si,li,bs,m,cN o)=some (.inr (l,a,b,c,d,e,f,g,w,si,li,bs',m',cN (o++p))):=by
 obtain⟨⟨bs',m',p⟩,⟨h1,h2⟩,he⟩:=jV (l:=cN (nx l i)) (g:=fun q:List (List Int)×List Bool×List Nat=>(.inr (l,a,b,c,d,e,f,g,w,si,li,q.1,q.2.1,cN (o++q.2.2)):Bool⊕_))
  (Inv:=fun _ q=>Yz l q.1 q.2.1 (o++q.2.2)∧cntF q.2.1+q.2.2.length≤cntF m)
  (Lf:=fun k j q=>f53.jB N k (l,s',cN (nx l i),((cN (nx l i)).length:Int),j,a,b,c,d,e,f,g,w,si,li,q.1,q.2.1,cN (o++q.2.2)))
  (fun k q _=>by simp only[f53.jB.eq_2,bZ,aS])
  (fun k j x q hxj ⟨h1, h2⟩ => by
   obtain⟨t,ht,rfl⟩:=Jp hxj
   obtain⟨hs1,hlt⟩:=hx t (cz ht)
   have YC:t<q.2.1.length:=by rw[h1.lm];exact hlt
   have hlb:t<q.1.length:=by rw[h1.lb];exact hlt
   have hj:j<9223372036854775807:=by have:=bp ht;have:=Bd l i;omega
   simp only[f53.jB.eq_2,bY (bp hxj),aV,bE hxj,Option.bind_some,dR YC,dR hlb,aF,Int.toNat_natCast,aW hj]
   rcases TD YC with hb|hb
   ·refine ⟨q, ⟨h1, h2⟩, ?_⟩
    simp only[hb,Option.bind_some,Bool.not_true,aS,h1.met t hb,hs1,YA hN s' (by omega),Bool.not_true]
   ·have hnT : ¬ T q.2.1 t := fun hT => by unfold T at hT; rw [hb] at hT; cases hT
    refine⟨(q.1.set t s',q.2.1.set t true,q.2.2++[t]),⟨⟨by simp[h1.lb],by simp[h1.lm],fun k' hk'=>?_,fun k' hk' hn=>?_,fun k' hk'=>?_⟩,?_⟩,?_⟩
    ·by_cases hkt : k' = t
     ·subst hkt;simp[List.getElem?_set,hlb,hs1]
     ·rcases (eY YC).1 hk' with h | h
      ·exact absurd h hkt
      ·simp only[List.getElem?_set,if_neg (Ne.symm hkt)];exact h1.met k' h
    ·have h3 : k' ≠ t := fun h => hn ((eY YC).2 (.inl h))
     simp only[List.getElem?_set,if_neg (Ne.symm h3)]
     exact h1.new k' hk' fun h=>hn ((eY YC).2 (.inr h))
    ·rw [← List.append_assoc, List.mem_append, List.mem_singleton] at hk'
     rcases hk' with hk'|rfl
     ·exact (eY YC).2 (.inr (h1.rQ k' hk'))
     ·exact (eY YC).2 (.inl rfl)
    ·have := Hj hb
     simp only[List.length_append,List.length_cons,List.length_nil]
     omega
    ·have hlen : q.2.2.length ≤ m.length := by have := rJ m; omega
     rw[h.lm] at hlen
     have:=hg.len
     have hr:room ((cN (o++q.2.2)).length+1) 8=true:=aI (by rw[cP,List.length_append];omega) (by omega)
     have e1:=List.getElem?_eq_getElem hlb
     simp only[hb,Option.bind_some,Bool.not_false,aV,hr,aF,e1]
     rw[←List.append_assoc,rK (o++q.2.2) [t]]
     rfl) (k:=N) (s:=(bs,m,[])) ⟨⟨h.lb,h.lm,h.met,h.new,fun k hk=>h.rQ k (by simp at hk;simp[hk])⟩,by simp⟩ (by
      rw[cP]
      have:=Bd l i
      omega)
 exact⟨bs',m',p,h1,h2,by simpa using he⟩
end
theorem Qs {x:Instr} {s s':List Int} (h:Bk x s s'):s'.length≤1:=by cases h<;>simp
theorem Qt {N:Nat} (hg:Good l) (hN:500<N):∃ bs m,Yz l bs m []∧f53.cc (N+60) (N+60) (l,fJ,fK,mX l,gf,0,-1,vi,l,[(0,0)],[(0,0)],List.replicate l.length [],(List.replicate l.length false).set 0 true,[0])=some (.inr (l,fJ,fK,mX l,gf,0,-1,vi,l,[(0,0)],[(0,0)],bs)):=by
 have hle:=hg.len
 have hpos:=hg.pos
 obtain⟨⟨bs,m⟩,hI,he⟩:=rQ (σ:=List (List Int)×List Bool) (Inv:=fun s o=>Yz l s.1 s.2 o∧cntF s.2+o.length≤300) (μ:=fun s=>cntF s.2) (g:=fun s=>(.inr (l,fJ,fK,mX l,gf,(0:Int),(-1:Int),vi,l,[((0:Int),(0:Int))],[((0:Int),(0:Int))],s.1):Bool⊕_))
  (Lf:=fun k s o=>f53.cc (N+60) k (l,fJ,fK,mX l,gf,0,-1,vi,l,[(0,0)],[(0,0)],s.1,s.2,cN o))
  (fun k s _=>by rw[show cN []=[] from rfl,f53.cc.eq_2,show decide (((([]:List Int).length:Nat):Int)>0)=false from rfl,aS])
  (fun k s o i ⟨h, hm⟩ => by
   rw[List.length_append,List.length_singleton] at hm
   have hi:T s.2 i:=h.rQ i (by simp)
   have Fg:i<l.length:=by rw[←h.lm];exact hi.lt
   obtain⟨x,s',hx,hst,eE⟩:=(hg.at Fg).ex
   obtain⟨bs',m',p,h1,h2,h3⟩:=MK fJ fK (mX l) gf 0 (-1) vi l [(0,0)] [(0,0)] (N:=N+60) hg (by omega) h (by omega) (Qs hst) (fun k' hk'=>⟨(eE k' hk').1,(eE k' hk').2.2⟩)
   refine⟨(bs',m'),p,⟨h1,by show cntF m'+(o++p).length≤300;rw[List.length_append];omega⟩,h2,?_⟩
   have hlen:(cN (o++[i])).length=o.length+1:=by simp[cN]
   have e1:aH (((o.length+1:Nat):Int)-1)=(o.length:Int):=by rw[cB (by omega)];omega
   have e2:(cN (o++[i]))[o.length]?=some (i:Int):=by simp[cN]
   have e3:(cN (o++[i])).take o.length=cN o:=by simp[cN]
   have hib:i<s.1.length:=by rw[h.lb];exact Fg
   simp only[f53.cc.eq_2,hlen,e1,decide_eq_true (show ((o.length+1:Nat):Int)>0 by omega),aV,dR (show o.length<o.length+1 by omega),aF,Int.toNat_natCast,e2,Option.bind_some,
    show decide ((0:Int)≤(o.length:Int))=true by simp,show decide (o.length≤o.length+1)=true by simp,bE hx,dR hib,h.met i hi,Qr hst,TO hg (show 500<N+60 by omega) Fg,Bool.not_true,aS,show ((0:Int) != 0)=false from rfl,e3,h3])
  (N + 60) (List.replicate l.length [], (List.replicate l.length false).set 0 true) [0] ⟨⟨by simp, by simp, fun k hk => by
    rw[(kJ (by omega) k).1 hk];simp only[sc];rw[List.getElem?_replicate,if_pos (by omega)],fun k hk _=>by rw[List.getElem?_replicate,if_pos hk],fun k hk=>by
    rw[List.mem_singleton.1 hk];exact (kJ (by omega) 0).2 rfl⟩,by
   have:=rJ ((List.replicate l.length false).set 0 true)
   rw[rL] at this
   simp only[List.length_singleton];omega⟩ (by
   have:=rJ ((List.replicate l.length false).set 0 true)
   rw[rL] at this
   simp only[List.length_singleton];omega)
 exact⟨bs,m,hI.1,by rw[show [(0:Int)]=cN [0] from rfl,he]⟩
theorem Qu {N:Nat} {s:List Int} (h:s=[]∨s=[0]):∃ v,(v=0∨v=8)∧UG (N+60) (fJ,fK,mX l,gf,0,-1,vi,l,[(0,0)],[(0,0)],s)=some (v,0):=by
 rcases h with rfl|rfl
 ·exact⟨_,.inl rfl,(C7 N l).1⟩
 ·exact⟨_,.inr rfl,(C7 N l).2⟩
theorem Yz.two {bs:List (List Int)} {m:List Bool} {o:List Nat} (h:Yz l bs m o) {k:Nat} (hk:k<l.length):∃ s,bs[k]?=some s∧(s=[]∨s=sc l k):=by
 by_cases hT:T m k
 ·exact⟨_,h.met k hT,.inr rfl⟩
 ·exact⟨_,h.new k hk hT,.inl rfl⟩
theorem Jx {N:Nat} (hg:Good l) (hN:500<N):∃ v,Zk (N+60) (fJ,fK,mX l,gf,0,-1,vi,l,[(0,0)],[(0,0)])=some (v,true)∧v.length=l.length∧∀ y,y∈v→0≤y∧y≤18446744073709551615:=by
 have hle:=hg.len
 have hpos:=hg.pos
 obtain⟨bs,m,h,he⟩:=Qt hg hN
 have EW:=h.lb
 rw[Zk.eq_1]
 obtain⟨v,⟨hv,hvb⟩,he2⟩:=jV (l:=bs) (g:=fun v:List Int=>(.inr (l,bs,v):Bool⊕_)) (Inv:=fun _ v=>v.length=l.length∧∀ y,y∈v→0≤y∧y≤18446744073709551615)
  (Lf:=fun k i v=>f53.AW (N+60) k (l,(bs.length:Int),i,fJ,fK,mX l,gf,0,-1,vi,l,[(0,0)],[(0,0)],bs,v))
  (fun k v _=>by simp only[f53.AW.eq_2,bZ,aS])
  (fun k i x v hx ⟨hv, hvb⟩ => by
   have hi:=bp hx
   obtain⟨s,hs,hs2⟩:=h.two (k:=i) (by omega)
   rw[hx] at hs
   injection hs with hs;subst hs
   obtain⟨y,hy8,hy⟩:=Qu (N:=N) (l:=l) (s:=x) (by rcases hs2 with rfl|rfl;exact .inl rfl;exact YB l i)
   have hiv:i<v.length:=by omega
   have hy9:dn y=y:=mU (by omega)
   refine⟨v.set i (dn y),⟨by simp[hv],fun z hz=>?_⟩,?_⟩
   ·rcases List.mem_or_eq_of_mem_set hz with hz | rfl
    ·exact hvb z hz
    ·rw[hy9];omega
   simp only[f53.AW.eq_2,bY hi,aV,dR hi,aF,Int.toNat_natCast,hx,Option.bind_some,hy,show ((0:Int) != 0)=false from rfl,aS,dR hiv,List.getElem?_eq_getElem hiv,aW (show i<9223372036854775807 by omega)])
  (k:=N+60) (s:=List.replicate l.length 0) ⟨by simp,fun y hy=>by rw[(List.mem_replicate.1 hy).2];omega⟩ (by omega)
 obtain⟨s,hs,hs2⟩:=h.two (k:=l.length-1) (by omega)
 have Qk:s=[]:=by
  rcases hs2 with h|h
  ·exact h
  ·obtain ⟨x, s', hx, hst, _⟩ := (hg.at (k := l.length - 1) (by omega)).ex
   have hr:x=gY:=by
    have:=hg.last
    simp only[qY,List.getD_eq_getElem?_getD,hx] at this
    exact this
   subst hr
   rw[h]
   generalize sc l (l.length-1)=q at hst
   cases hst with
   |one _=>rfl
   |arg hp=>exact absurd (yQ _ _ hp).1 (by decide)
   |call hp=>exact absurd rfl (yQ _ _ hp).2.1
 refine⟨v,?_,hv,hvb⟩
 have e1:aH ((l.length:Int)-1)=((l.length-1:Nat):Int):=El (by omega) (by omega)
 rw[EW] at he2
 simp only[Int.toNat_natCast,show decide ((0:Int)≤(l.length:Int))=true by simp,aF,Nat.le_refl,decide_true,Bool.true_and,aI (show l.length≤10000000 by omega) (show 24≤1000 by omega),aI (show l.length≤10000000 by omega) (show 1≤1000 by omega),
  aI (show l.length≤10000000 by omega) (show 8≤1000 by omega),List.length_replicate,show jq 0 l.length=true from dR (i:=0) (by omega),show Int.toNat 0=0 from rfl,Em (show 1≤l.length by omega),Option.bind_some,he,he2,e1,EW,dR (show l.length-1<l.length by omega),hs,Qk]
 rfl
open Go Go.bI Go.Sym
open Classical
noncomputable def YD:List Nat:=[0,1,3,7,15,31,63,191,255]
noncomputable def SM (k:Nat):Nat:=YD.getD k 511
noncomputable def ni (k:Nat):Instr:=wh.getD k (0,0,0,0)
theorem Qv:((List.range 9).all fun k=>SM (k+1)==(SM k ||| QO (ni k))&&(dV BN (ni k)).all fun s=>decide (0≤s)&&(SM k).testBit s.toNat)=true:=by decide +kernel
theorem TP:(base.all fun x=>decide (MD x<512)&&(dV BN x).all fun s=>decide (0≤s)&&Nat.testBit 511 s.toNat)=true:=by decide +kernel
theorem acV:((List.range 200).all fun t:Nat=>decide (MD (23,1,(t:Int),0)<512)&&(dV BN (23,1,(t:Int),0)).all fun s=>decide (0≤s)&&Nat.testBit 511 s.toNat)=true:=by decide +kernel
theorem Jy {k:Nat} (h:9≤k):SM k=511:=by
 unfold SM
 rw[List.getD_eq_getElem?_getD,List.getElem?_eq_none (by simpa[YD] using h)];rfl
variable {l:List Instr}
theorem Good.us (h:Good l) {x:Instr} (hx:x∈l):MD x<512∧∀ s,s∈dV BN x→0≤s∧Nat.testBit 511 s.toNat=true:=by
 have:(decide (MD x<512)&&(dV BN x).all fun s=>decide (0≤s)&&Nat.testBit 511 s.toNat)=true:=by
  rcases h.inst200 hx with h|⟨t,ht,rfl⟩
  ·exact List.all_eq_true.1 TP x h
  ·exact List.all_eq_true.1 acV t (List.mem_range.2 ht)
 rw[Bool.and_eq_true] at this
 refine⟨of_decide_eq_true this.1,fun s hs=>?_⟩
 have:=List.all_eq_true.1 this.2 s hs
 rw[Bool.and_eq_true] at this
 exact⟨of_decide_eq_true this.1,this.2⟩
theorem Good.first (h:Good l) {k:Nat} (hk:k<9):l[k]?=some (ni k):=by
 obtain⟨r,rfl,_⟩:=h.pro
 rw[List.getElem?_append_left (by show k<9;exact hk)]
 unfold ni
 rw[List.getD_eq_getElem?_getD,List.getElem?_eq_getElem (show k<wh.length from hk)];rfl
theorem Good.sol (h:Good l):Sol l 0 SM:=by
 refine⟨by intro k hk;simp[SM,YD] at hk,fun i hi k hk=>?_⟩
 have Fg:=hi.lt (yO h.valid)
 obtain⟨x,s',hx,_,eE⟩:=(h.at Fg).ex
 by_cases h9:i<9
 ·have hf := h.first h9
  have hs:ni i∈gW:=by
   have:((List.range 9).all fun k=>gW.contains (ni k))=true:=by decide +kernel
   exact List.contains_iff_mem.1 (List.all_eq_true.1 this i (List.mem_range.2 h9))
  have ho:=wm _ hs
  rw[k8 hf ⟨ho.1,ho.2.1,ho.2.2.1,ho.2.2.2.1,ho.2.2.2.2.1⟩,List.mem_singleton] at hk
  subst hk
  have:=List.all_eq_true.1 Qv i (List.mem_range.2 h9)
  rw[Bool.and_eq_true,beq_iff_eq] at this
  rw[this.1,Qj hf]
  exact mH _
 ·have := (eE k hk).2.1
  rw[Jy (k:=k) (by omega),Jy (k:=i) (by omega)]
  exact qZ _ _
theorem ML (h:Good l):Ho l 0 9=0:=by
 have:lC l (9:Int).toNat=true:=by
  unfold lC
  rw[Bool.not_eq_true',List.any_eq_false]
  intro x hx
  have:=(h.us hx).1
  simp only[decide_eq_true_eq,not_not]
  exact this
 unfold Ho
 rw[if_neg (by omega),if_pos this]
theorem Jz {N:Nat} (hN:14000000<N) (h:Good l):∃ ms:List Nat,Tf N (l,0,9)=some (cN ms,0)∧ms.length=l.length∧∀ k x,l[k]?=some x→O ms k<2 ^ 64∧∀ s,s∈dV BN x→0≤s∧(O ms k).testBit s.toNat=true:=by
 have key:=Yu (N:=N) hN (l:=l) (by have:=h.len;omega) (fun _=>h.len) 0 9
 rw[if_pos h.valid,if_pos (ML h)] at key
 obtain⟨G,hVM,hG,he⟩:=key
 refine⟨Bj l G,he,C5 _ _,fun k x hx=>?_⟩
 have JY:=bp hx
 have hmem:=cz hx
 rw[C6 JY]
 have hb:=hG.TH k
 have hlt:G k<2 ^ 64:=by
  have:=hVM.lt hb
  omega
 by_cases hk:k=l.length-1
 ·rw [if_neg (fun h' => h'.2 hk)]
  refine⟨by omega,fun s hs=>?_⟩
  have hr:x=gY:=by
   have:=h.last
   simp only[qY,List.getD_eq_getElem?_getD,←hk,hx] at this
   exact this
  subst hr
  rw[show dV BN gY=[] by decide +kernel] at hs
  cases hs
 ·rw [if_pos ⟨h.reach JY, hk⟩]
  refine⟨hlt,fun s hs=>?_⟩
  have hm:=hG.most SM h.sol k (h.reach JY)
  by_cases h9:k<9
  ·have hf := h.first h9
   rw[hx] at hf
   injection hf with hf;subst hf
   have:=List.all_eq_true.1 Qv k (List.mem_range.2 h9)
   rw[Bool.and_eq_true] at this
   have:=List.all_eq_true.1 this.2 s hs
   rw[Bool.and_eq_true] at this
   exact⟨of_decide_eq_true this.1,hm _ this.2⟩
  ·obtain ⟨h0, h1⟩ := (h.us hmem).2 s hs
   rw[Jy (by omega)] at hm
   exact⟨h0,hm _ h1⟩
theorem YE {m:Nat} {s:Int} (hm:m<2 ^ 64) (h0:0≤s) (hs:s≤15) (hb:m.testBit s.toNat=true):((BH .u64 (Int.fdiv (m:Int) (2 ^ min (Int.toNat s) 64)) 1)==0)=false:=by
 rw[Nat.min_eq_left (by omega),show ((2:Int) ^ s.toNat)=((2 ^ s.toNat:Nat):Int) by rw[Int.natCast_pow];rfl,AD,show (1:Int)=((1:Nat):Int) from rfl,Hl (Nat.lt_of_le_of_lt (Nat.div_le_self _ _) hm) (by omega),Nat.and_one_is_mod]
 rw[Nat.testBit_eq_decide_div_mod_eq,decide_eq_true_eq] at hb
 rw[hb];rfl
theorem MM {N:Nat} (hN:14000000<N) (h:Good l):∃ S L,Px (N+60) (fJ,fK,mX l,0)=some (S,L,0,0)∧(S.length≤200∧L.length≤200)∧CU S∧CU L:=by
 have hle:=h.len
 have hpos:=h.pos
 have e0:idx (mX l) 0=some (ri l):=rfl
 have hR:W7 (N+60) l=some (List.replicate l.length true,0):=by rw[Yp (by omega) (by omega),if_pos h.valid,h.lB]
 obtain⟨sz,hsz,akg,agF⟩:=Jx (N:=N) h (by omega)
 obtain⟨ms,T6,akh,BB⟩:=Jz (N:=N+60) (by omega) h
 obtain⟨_,_,e1⟩:=jV (l:=l) (g:=fun _:Unit=>(.inr (l,0,0,fJ,fK,mX l,gf,0,-1,vi,l,[(0,0)],[(0,0)]):(Int×Int)⊕_)) (Inv:=fun _ _=>True)
  (Lf:=fun k i _=>f36.AY (N+60) k (l,List.replicate l.length true,l,(l.length:Int),i,0,0,fJ,fK,mX l,gf,0,-1,vi,l,[(0,0)],[(0,0)]))
  (fun k _ _=>by simp only[f36.AY.eq_2,bZ,aS])
  (fun k i x _ hx _ => by
   have hi:=bp hx
   have hin:=h.inst200 (cz hx)
   have pZ:(List.replicate l.length true)[i]?=some true:=by rw[List.getElem?_replicate,if_pos hi]
   refine⟨(),trivial,?_⟩
   simp only[f36.AY.eq_2,bY hi,aV,bE hx,Option.bind_some,TM hin,show ((0:Int) != 0)=false from rfl,aS,bE pZ,Bool.not_true,Qq hin,aW (show i<9223372036854775807 by omega)])
  (k:=N+60) (s:=()) trivial (by omega)
 have e2:∀ (k i:Nat) (x:Instr),l[i]?=some x→∀ (r:List Int) (j:Nat) (n:Nat),dV BN x=r→j≤r.length→r.length-j<n→f36.CR k n (sz,cN ms,(i:Int),0,l,(l.length:Int),(i:Int),r,(r.length:Int),(j:Int),0,0)=some (.inr (sz,cN ms,l,(l.length:Int),(i:Int),0,0)):=by
  intro k i x hx r j n hr hj hn
  induction n generalizing j with
  |zero=>omega
  | succ n ih =>
   rw[f36.CR.eq_2]
   by_cases hjr:j=r.length
   ·subst hjr;rw[bZ,aS]
   ·have hlt : j < r.length := by omega
    have hg:=List.getElem?_eq_getElem hlt
    have hs:r[j]∈dV BN x:=by rw[hr];exact List.getElem_mem hlt
    obtain⟨h0,hb⟩:=(BB i x hx).2 _ hs
    have h15:=((Bg (h.aZ (cz hx)).1).1 _ hs).2
    have agG:(cN ms)[i]?=some ((O ms i:Nat):Int):=jZ (by have:=bp hx;omega)
    have hrl:=o9 BN x
    rw[hr] at hrl
    simp only[bY hlt,aV,bE hg,Option.bind_some,show ((0:Int) != 0)=false from rfl,aS,bE agG,show (!decide (r[j]<0))=true by simp;omega,aF,YE (BB i x hx).1 h0 h15 hb,aW (show j<9223372036854775807 by omega)]
    exact ih (j+1) (by omega) (by omega)
 obtain⟨_,_,e3⟩:=jV (l:=l) (g:=fun _:Unit=>(.inr (sz,cN ms,0,0):(Int×Int)⊕_)) (Inv:=fun _ _=>True)
  (Lf:=fun k i _=>f36.AZ (N+60) k (sz,cN ms,l,(l.length:Int),i,0,0))
  (fun k _ _=>by simp only[f36.AZ.eq_2,bZ,aS])
  (fun k i x _ hx _ => by
   have hi:=bp hx
   have bV:=o9 BN x
   have h46:=e2 (N+60) i x hx (dV BN x) 0 (N+60) rfl (by omega) (by omega)
   rw[show ((0:Nat):Int)=0 from rfl] at h46
   refine⟨(),trivial,?_⟩
   simp only[f36.AZ.eq_2,bY hi,aV,bE hx,Option.bind_some,P7,(h.aZ (cz hx)).1,h46,aW (show i<9223372036854775807 by omega)])
  (k:=N+60) (s:=()) trivial (by omega)
 obtain⟨r1,t1,q1,w1⟩:=Bm (N:=N+60) (v:=sz) (by omega) (by omega) (by omega)
 obtain⟨r2,t2,q2,w2⟩:=Bm (N:=N+60) (v:=cN ms) (by omega) (by rw[cP];omega) (by rw[cP];omega)
 have hmb:∀ y,y∈cN ms→0≤y∧y≤18446744073709551615:=fun y hy=>by
  obtain⟨k,hk,rfl⟩:=List.mem_iff_getElem.1 hy
  have JY:k<l.length:=by rw[cP] at hk;omega
  have:=(BB k _ (List.getElem?_eq_getElem JY)).1
  have e:=jZ (o:=ms) (k:=k) (by omega)
  rw[List.getElem?_eq_getElem hk] at e
  injection e with e
  rw[e];omega
 refine⟨r1,r2,?_,⟨q1,q2⟩,fun x hx=>agF _ (w1 x hx),fun x hx=>hmb _ (w2 x hx)⟩
 rw[Px.eq_1]
 have bV:((vi.length:Nat):Int)=9:=rfl
 simp only[e0,Option.bind_some,ri,hR,show ((0:Int) != 0)=false from rfl,aS,show ((0:Int)==0)=true from rfl,aV,show decide ((0:Int)>0)=false from rfl,show decide ((-1:Int)≥0)=false from rfl,e1,hsz,Bool.not_true,bV,T6,e3,t1,t2]
noncomputable def l0:List Instr:=wh++[gY]
theorem Hu {n:Nat} (h:1≤n):iE [(0,0)] (n:Int):=by
 refine⟨by simp,rfl,fun i hi=>by simp at hi,fun i hi=>?_⟩
 simp only[List.length_singleton] at hi
 have:i=0:=by omega
 subst this
 show (0:Int)<n
 omega
theorem Qw (h:Good l):Bc fJ fK (mX l):=by
 have hr:∀ f,f∈k9→vc f∧i64 f.2.2.1:=by
  intro f hf
  simp only[k9,List.mem_cons,List.not_mem_nil,or_false] at hf
  rcases hf with rfl|rfl|rfl|rfl|rfl|rfl|rfl<;>(unfold vc QN CU i64;decide +kernel)
 have hm:vc (ri l)∧i64 (ri l).2.2.1:=by
  have:=h.len
  refine⟨⟨by show vi.length≤300;decide,by show l.length≤1000;omega,by show [((0:Int),(0:Int))].length≤1000;decide,by show [((0:Int),(0:Int))].length≤1000;decide,fun x hx=>(h.aZ hx).2,?_,?_⟩,?_⟩
  ·show CU [(0,0)];unfold CU;decide
  ·show CU [(0,0)];unfold CU;decide
  ·show i64 (-1);unfold i64;decide
 refine⟨⟨⟨by decide,?_⟩,by decide,by decide,by show 8≤50;decide,fun f hf=>?_⟩,fun f hf=>?_⟩
 ·unfold i64 j4;decide +kernel
 ·rcases List.mem_cons.1 hf with rfl | hf
  ·exact hm.1
  ·exact (hr f hf).1
 ·rcases List.mem_cons.1 hf with rfl | hf
  ·exact hm.2
  ·exact (hr f hf).2
theorem acW:Good l0:=by
 refine⟨?_,by decide,[gY],rfl,by decide⟩
 have hs:∀ k,k<9→ni k∈gW:=by
  have:((List.range 9).all fun k=>gW.contains (ni k))=true:=by decide +kernel
  exact fun k hk=>List.contains_iff_mem.1 (List.all_eq_true.1 this k (List.mem_range.2 hk))
 exact .one (hs 0 (by omega)) (.one (hs 1 (by omega)) (.one (hs 2 (by omega)) (.one (hs 3 (by omega)) (.one (hs 4 (by omega)) (.one (hs 5 (by omega)) (.one (hs 6 (by omega)) (.one (hs 7 (by omega)) (.one (hs 8 (by omega)) .fin))))))))
theorem MN {t:List Instr} (h:Code 9 t):Code 0 (wh++t):=by
 have hs:∀ k,k<9→ni k∈gW:=by
  have:((List.range 9).all fun k=>gW.contains (ni k))=true:=by decide +kernel
  exact fun k hk=>List.contains_iff_mem.1 (List.all_eq_true.1 this k (List.mem_range.2 hk))
 exact .one (hs 0 (by omega)) (.one (hs 1 (by omega)) (.one (hs 2 (by omega)) (.one (hs 3 (by omega)) (.one (hs 4 (by omega)) (.one (hs 5 (by omega)) (.one (hs 6 (by omega)) (.one (hs 7 (by omega)) (.one (hs 8 (by omega)) h))))))))
theorem acX:ju fJ fK (mX l0):=by
 have h:=KJ (N:=1400) (by omega) (Qw acW).1
 have k:WV 1400 (fJ,fK,mX l0)=some true:=by kernel_rfl
 rw[k] at h
 injection h with h
 exact of_decide_eq_true h.symm
theorem Qx (l:List Instr) (j:Nat):(C0 (mX l) j).1=(C0 (mX l0) j).1:=by cases j<;>rfl
theorem YF (h:Good l):ju fJ fK (mX l):=by
 obtain⟨h1,h2,h3,h4,h5,h6⟩:=acX
 refine⟨h1,h2,h3,h4,h5,fun i hi=>?_⟩
 have h7:=h6 i hi
 unfold Mt at h7 ⊢
 rw[Bool.and_eq_true,decide_eq_true_eq] at h7 ⊢
 have hd:Hf (mX l) i↔Hf (mX l0) i:=by
  unfold Hf
  simp only[Qx l]
 refine⟨?_,by rw[Bool.not_eq_true',decide_eq_false_iff_not] at h7 ⊢;rw[hd];exact h7.2⟩
 cases i with
 |succ i=>exact h7.1
 |zero=>
  obtain⟨g1,g2,g3,g4,g5,g6,_⟩:=h7.1
  have:=h.len
  have:=h.pos
  exact⟨g1,g2,g3,g4,g5,g6,⟨by show 1≤l.length;omega,h.len⟩,fun x hx=>(h.aZ hx).1,Hu (by show 1≤l.length;omega),Hu (by show 1≤l.length;omega)⟩
theorem YG:(V fJ.length++(fJ.flatMap qV++(V fK.length++(fK.flatMap said++V 8)))).length+(k9.flatMap qW).length+(said gf).length+(V 0).length+(V (Ku (-1))).length+(mW vi).length+(mC [(0,0)]).length+(mC [(0,0)]).length≤5000:=by decide +kernel
theorem KO:∀ l:List Instr,(l.flatMap encI).length≤31*l.length
 |[]=>by simp
 |x :: r=>by
  have:=qR x
  have:=KO r
  simp only[List.flatMap_cons,List.length_append,List.length_cons]
  omega
theorem Qy {N:Nat} (hN:1300<N) (h:Good l):W2 N (fJ,fK,mX l)=some 0:=by
 rw[P3 hN (Qw h)]
 congr 1
 unfold BI
 rw[if_pos (YF h),if_pos]
 have h1:=KO l
 have h2:=h.len
 have h3:=dH l.length
 have h4:=YG
 have e:qX fJ fK (mX l)=V fJ.length++(fJ.flatMap qV++(V fK.length++(fK.flatMap said++(V 8++((said gf++(V 0++(V (Ku (-1))++(mW vi++(V l.length++(l.flatMap encI++(mC [(0,0)]++mC [(0,0)])))))))++k9.flatMap qW))))):=rfl
 rw[e]
 simp only[List.length_append] at h4 ⊢
 omega
open Go Go.bI Go.Sym
open Classical
variable {l:List Instr}
noncomputable def xL:List Func:=others.map fun i=>((k9.getD (i-1) fn0).1,(k9.getD (i-1) fn0).2.1,(k9.getD (i-1) fn0).2.2.1,(k9.getD (i-1) fn0).2.2.2.1,(k9.getD (i-1) fn0).2.2.2.2.1,(Ht i).1,(Ht i).2.1)
noncomputable def pI (l:List Instr) (S L:List bD):List Func:=(gf,0,-1,vi,l,S,L) :: xL
theorem Bo {M i:Nat} {f:Func} {S L:List bD} {q:Int} (hM:1300<M) (h:Good l) (hi:i<8) (hf:idx (mX l) (i:Int)=some f) (h1:f.2.2.2.1.length≤1000) (h2:f.2.2.2.2.1.length≤1000) (hl:Px M (fJ,fK,mX l,(i:Int))=some (S,L,q,0)) :
  UH M (fJ,fK,mX l,(i:Int))=some (f.1,f.2.1,f.2.2.1,f.2.2.2.1,f.2.2.2.2.1,S,L,0):=by
 have hw:Zc M (mX l,(i:Int))=some true:=by
  rw[Zc.eq_1]
  have e1:decide ((i:Int)≥0)=true:=decide_eq_true (by omega)
  have e2:decide ((i:Int)<((mX l).length:Int))=true:=decide_eq_true (by show (i:Int)<((8:Nat):Int);omega)
  simp only[e1,e2,aV,Option.bind_some]
 rw[UH.eq_1,Qy hM h]
 simp only[Option.bind_some,show ((0:Int) != 0)=false from rfl,aS,hw,Bool.not_true,hl,hf,aI (show f.2.2.2.1.length≤10000000 by omega) (show 24≤1000 by omega),aI (show f.2.2.2.2.1.length≤10000000 by omega) (show 32≤1000 by omega),aF]
theorem JA:((List.range 7).all fun i=>decide ((k9.getD i fn0).2.2.2.1.length≤1000∧(k9.getD i fn0).2.2.2.2.1.length≤1000))=true:=by decide +kernel
theorem JB {N i:Nat} (l:List Instr) (hi:i∈others):Px (N+400) (fJ,fK,mX l,(i:Int))=some ((Ht i).1,(Ht i).2.1,(Ht i).2.2.1,0):=by
 have h1:=List.map_inj_left.1 (MI N l) i hi
 have h2:=List.all_eq_true.1 MJ i hi
 rw[beq_iff_eq] at h2
 rw[h1]
 generalize Ht i=r at h2 ⊢
 obtain⟨a,b,c,d⟩:=r
 have h2:d=0:=h2
 rw[h2]
theorem JC {N:Nat} (hN:14000000<N) (h:Good l) {S L:List bD} (hl:Px (N+400) (fJ,fK,mX l,0)=some (S,L,0,0)):∀ (i:Nat) (x:Func),(pI l S L)[i]?=some x→
  UH (N+400) (fJ,fK,mX l,(i:Int))=some (x.1,x.2.1,x.2.2.1,x.2.2.2.1,x.2.2.2.2.1,x.2.2.2.2.2.1,x.2.2.2.2.2.2,0):=by
 intro i x hx
 have hi:=bp hx
 have hi:i<8:=hi
 have hlen:=h.len
 cases i with
 |zero=>
  have hx:some (gf,(0:Int),(-1:Int),vi,l,S,L)=some x:=hx
  rw[←Option.some.inj hx]
  have hf:idx (mX l) ((0:Nat):Int)=some (ri l):=rfl
  have h1:(ri l).2.2.2.1.length≤1000:=by show vi.length≤1000;decide
  have h2:(ri l).2.2.2.2.1.length≤1000:=by show l.length≤1000;omega
  exact Bo (f:=ri l) (by omega) h (by omega) hf h1 h2 hl
 | succ i =>
  have hm:i+1∈others:=by simp only[others,List.mem_cons,List.not_mem_nil,or_false];omega
  have hx:xL[i]?=some x:=hx
  have ho:others[i]?=some (i+1):=by
   have:i=0∨i=1∨i=2∨i=3∨i=4∨i=5∨i=6:=by omega
   rcases this with rfl|rfl|rfl|rfl|rfl|rfl|rfl<;>rfl
  unfold xL at hx
  rw[List.getElem?_map,ho] at hx
  simp only[Option.map_some,Option.some.injEq,Nat.add_sub_cancel] at hx
  subst hx
  have hs:=List.all_eq_true.1 JA i (List.mem_range.2 (by omega))
  have hs:=of_decide_eq_true hs
  have hf:idx (mX l) ((i+1:Nat):Int)=some (k9.getD i fn0):=by
   refine bE ?_
   show k9[i]?=some (k9.getD i fn0)
   rw[List.getD_eq_getElem?_getD,List.getElem?_eq_getElem (show i<k9.length by show i<7;omega)];rfl
  exact Bo (f:=k9.getD i fn0) (by omega) h hi hf hs.1 hs.2 (JB l hm)
theorem MO {N:Nat} {ts:List aq} {xs:List (List UInt8)} {fs D:List Func} (hN:500<N) (hlen:D.length=fs.length) (h32:fs.length≤100)
  (hT:∀ (i:Nat) (x:Func),D[i]?=some x→UH N (ts,xs,fs,(i:Int))=some (x.1,x.2.1,x.2.2.1,x.2.2.2.1,x.2.2.2.2.1,x.2.2.2.2.2.1,x.2.2.2.2.2.2,0)):UI N (ts,xs,fs)=some (ts,xs,D,0):=by
 obtain⟨s,⟨h1,h2⟩,he⟩:=jV (l:=D) (g:=fun s:List Func=>(.inr (ts,xs,fs,s):Int⊕_)) (Inv:=fun i s=>s.length=D.length∧∀ j,j<i→s[j]?=D[j]?)
  (Lf:=fun k i s=>f14.dD N k ((D.length:Int),i,ts,xs,fs,s))
  (fun k s _=>by simp only[f14.dD.eq_2,bZ,aS])
  (fun k i x s hx ⟨h1, h2⟩ => by
   have hi:=bp hx
   have HL:i<s.length:=by omega
   refine⟨s.set i x,⟨by simp[h1],fun j hj=>?_⟩,?_⟩
   ·rw [List.getElem?_set]
    split
    ·rename_i e;subst e;simp only[hx]
    ·exact h2 j (by omega)
   ·simp only[f14.dD.eq_2,bY hi,aV,hT i x hx,Option.bind_some,show ((0:Int) != 0)=false from rfl,aS,dR HL,aF,Int.toNat_natCast,List.getElem?_eq_getElem HL,aW (show i<9223372036854775807 by omega)])
  (k:=N) (s:=List.replicate fs.length (([]:List UInt8),(0:Int),(0:Int),[],[],[],[])) ⟨by simp[hlen],fun j hj=>by omega⟩ (by omega)
 have e:s=D:=List.ext_getElem? fun j=>by
  by_cases hj:j<D.length
  ·exact h2 j hj
  ·rw[List.getElem?_eq_none (by omega),List.getElem?_eq_none (by omega)]
 subst e
 rw[UI.eq_1]
 rw[hlen] at he
 simp only[Int.toNat_natCast,show decide ((0:Int)≤(fs.length:Int))=true by simp,aF,Nat.le_refl,decide_true,Bool.true_and,aI (show fs.length≤10000000 by omega) (show 128≤1000 by omega),he,Option.bind_some]
theorem KP {N:Nat} {p:List Int} {b:List Instr} (hp:p.length≤60) (h:Bs N wh p b):Good (b++[gY])∧b.length≤129:=by
 obtain⟨r,rfl,hl,hc⟩:=h.pre
 have h9:(wh++r).length=9+r.length:=by rw[List.length_append];rfl
 refine⟨⟨?_,by rw[List.length_append,h9,List.length_singleton];omega,r++[gY],by rw[List.append_assoc],by simp⟩,by omega⟩
 rw[List.append_assoc]
 exact MN (hc [gY] (by omega) .fin)
theorem KQ {N:Nat} (hN:14000000<N) {b:List Instr} (hg:Good (b++[gY])) (hb:b.length≤129):∃ S L,((S.length≤200∧L.length≤200)∧CU S∧CU L)∧∀ p:List Int,p.length≤60→Bs (N+400) wh p b→F5 (N+400) p=some (fJ,fK,pI (b++[gY]) S L,0):=by
 obtain⟨S,L,hl,hSL⟩:=MM (N:=N+340) (by omega) hg
 refine⟨S,L,hSL,fun p hp h=>?_⟩
 have KS:=C8 hp (N+400) 0 wh b (by omega) (by omega) (by show 9≤9;omega) h
 have agI:=MO (N:=N+400) (ts:=fJ) (xs:=fK) (fs:=mX (b++[gY])) (D:=pI (b++[gY]) S L) (by omega) rfl (by show 8≤100;omega) (JC hN hg hl)
 have e:=TN (N+340) p
 rw[show N+340+60=N+400 from rfl] at e
 rw[show ((0:Nat):Int)=0 from rfl] at KS
 have hd:decide ((p.length:Int)>60)=false:=decide_eq_false (by omega)
 rw[e,hd,aS,KS,Option.bind_some,aI (by simp only[List.length_singleton];omega) (by omega),aF,agI]
 rfl
theorem Bs.congr {N:Nat} {b b':List Instr} {xs:List Int} (h:Bs N b xs b'):∀ {ys:List Int},ys.length=xs.length→(∀ (i:Nat) x y,xs[i]?=some x→ys[i]?=some y→xE N x=xE N y)→Bs N b ys b':=by
 induction h with
 |nil=>
  intro ys hl _
  cases ys with
  |nil=>exact .nil
  |cons y ys=>cases hl
 | @cons b x xs s c b' h1 h2 h3 _ ih =>
  intro ys hl hp
  cases ys with
  |nil=>cases hl
  |cons y ys=>
   have h0:=hp 0 x y rfl rfl
   exact .cons (by rw[←h0,h1]) h2 h3 (ih (by simpa using hl) fun i x' y' hx hy=>hp (i+1) x' y' hx hy)
theorem L8 {l:List Instr} (h:Good l) {S L:List bD} (hS:(S.length≤200∧L.length≤200)∧CU S∧CU L):Bc fJ fK (pI l S L):=by
 obtain⟨⟨h1,h2,h3,h4,h5⟩,h6⟩:=Qw h
 have hr:∀ f,f∈xL→vc f∧i64 f.2.2.1:=by
  have:(xL.all fun f=>decide (f.2.2.2.1.length≤300∧f.2.2.2.2.1.length≤1000∧f.2.2.2.2.2.1.length≤1000∧f.2.2.2.2.2.2.length≤1000)&&(f.2.2.2.2.1.all fun x=>decide (-1000≤x.2.1∧x.2.1≤1000∧-1000≤x.2.2.1∧x.2.2.1≤1000∧-1000≤x.2.2.2∧x.2.2.2≤1000))&&(f.2.2.2.2.2.1.all fun x=>decide (0≤x.2∧x.2≤100000))&&(f.2.2.2.2.2.2.all fun x=>decide (0≤x.2∧x.2≤100000))&&decide (-1≤f.2.2.1∧f.2.2.1≤1))=true:=by kernel_rfl
  intro f hf
  have:=List.all_eq_true.1 this f hf
  simp only[Bool.and_eq_true,decide_eq_true_eq,List.all_eq_true] at this
  obtain⟨⟨⟨⟨g1,g2⟩,g3⟩,g4⟩,g5⟩:=this
  refine⟨⟨g1.1,g1.2.1,g1.2.2.1,g1.2.2.2,fun x hx=>?_,fun x hx=>?_,fun x hx=>?_⟩,by unfold i64;omega⟩
  ·have:=g2 x hx;unfold QN i64;omega
  ·have:=g3 x hx;omega
  ·have:=g4 x hx;omega
 have hm:=h5 (ri l) List.mem_cons_self
 refine⟨⟨h1,h2,h3,by show 8≤50;decide,fun f hf=>?_⟩,fun f hf=>?_⟩
 ·rcases List.mem_cons.1 hf with rfl | hf
  ·exact⟨hm.1,hm.2.1,by show S.length≤1000;omega,by show L.length≤1000;omega,hm.2.2.2.2.1,hS.2.1,hS.2.2⟩
  ·exact (hr f hf).1
 ·rcases List.mem_cons.1 hf with rfl | hf
  ·exact h6 (ri l) List.mem_cons_self
  ·exact (hr f hf).2
open Go Go.bI Go.Sym
open Classical
theorem TQ (N:Nat):F4 (N+1000) ()=some true:=by kernel_rfl
noncomputable def UN (x:Int):Prop:=0≤x∧x≤1023
theorem JD {N:Nat} (hN:14001000<N) {p q:List Int} (hp:p.length≤2000000) (hq:q.length≤2000000):F3 N (p,q)=some true:=by
 obtain⟨M,rfl⟩:∃ M,N=M+1000:=⟨N-1000,by omega⟩
 have hal:=TQ M
 rw[F3.eq_1]
 simp only[List.nil_append,Nat.zero_add,aI (show p.length≤10000000 by omega) (show 8≤1000 by omega),aI (show p.length+q.length≤10000000 by omega) (show 8≤1000 by omega),aF,List.length_append]
 by_cases h60:p.length+q.length≤60
 case neg=>
  rw[decide_eq_true (show ((p.length+q.length:Nat):Int)>60 by omega),aV,hal];rfl
 rw[decide_eq_false (show ¬((p.length+q.length:Nat):Int)>60 by omega),aS]
 simp only[Int.toNat_natCast,decide_eq_true (show (0:Int)≤((p.length+q.length:Nat):Int) by omega),aF,Nat.le_refl,decide_true,Bool.true_and,aI (show p.length+q.length≤10000000 by omega) (show 8≤1000 by omega)]
 have hlen:(p++q).length=p.length+q.length:=List.length_append
 have KS := uV (l := p ++ q) (g := fun s : List Int => (.inr (p, p ++ q, s) : Bool ⊕ _)) (Out := fun r => r = .inl true) (Inv := fun i s => s.length = (p ++ q).length ∧ ∀ (j : Nat) x, j < i → (p ++ q)[j]? = some x → UN x ∧ s[j]? = some (x + 1024 * (j : Int)))
  (Lf:=fun k i s=>f3.rO (M+1000) k (p,p++q,i,s))
  (fun k s _=>by simp only[f3.rO.eq_2,bZ,aS])
  (fun k i x s hx ⟨h1, h2⟩ => by
   have hi:=bp hx
   have HL:i<s.length:=by omega
   simp only[f3.rO.eq_2,bY hi,aV,bE hx,Option.bind_some]
   by_cases hb:UN x
   ·right
    unfold UN at hb
    have e1:decide (x<0)=false:=decide_eq_false (by omega)
    have e2:decide (x>1023)=false:=decide_eq_false (by omega)
    have e3:aH (1024*(i:Int))=1024*(i:Int):=cB (by omega)
    have e4:aH (x+1024*(i:Int))=x+1024*(i:Int):=cB (by omega)
    refine⟨s.set i (x+1024*(i:Int)),⟨by simp[h1],fun j y hj hy=>?_⟩,?_⟩
    ·rw [List.getElem?_set]
     by_cases hji:j=i
     ·subst hji
      rw[hx] at hy
      injection hy with hy;subst hy
      simp only[HL,if_true]
      exact⟨hb,trivial⟩
     ·rw [if_neg (Ne.symm hji)]
      exact h2 j y (by omega) hy
    ·simp only[e1,e2,e3,e4,aS,Option.bind_some,dR HL,aF,Int.toNat_natCast,List.getElem?_eq_getElem HL,aW (show i<9223372036854775807 by omega)]
   ·left
    refine⟨.inl true,rfl,?_⟩
    unfold UN at hb
    by_cases h0:x<0
    ·simp only[decide_eq_true h0,aV,Option.bind_some,hal]
    ·have e2 : decide (x > 1023) = true := decide_eq_true (by omega)
     simp only[decide_eq_false h0,e2,aV,aS,Option.bind_some,hal])
  (k:=M+1000) (s:=List.replicate (p.length+q.length) 0) ⟨by simp,fun j x hj=>by omega⟩ (by omega)
 rcases KS with⟨r,rfl,he⟩|⟨s,⟨hs1,hs2⟩,he⟩
 ·rw[he];rfl
 rw[he,Option.bind_some]
 have hin:∀ x,x∈p++q→UN x:=fun x hx=>by
  obtain⟨j,hj,rfl⟩:=List.mem_iff_getElem.1 hx
  exact (hs2 j _ hj (List.getElem?_eq_getElem hj)).1
 obtain⟨A,hA⟩:=Bs.ex (N:=M+940) (xs:=p) (b:=wh) fun x hx=>by have:=hin x (List.mem_append_left _ hx);unfold UN at this;omega
 obtain⟨B,hB⟩:=Bs.ex (N:=M+940) (xs:=q) (b:=A) fun x hx=>by have:=hin x (List.mem_append_right _ hx);unfold UN at this;omega
 have hAB:=hA.app hB
 obtain⟨t,rfl,_,_⟩:=hB.pre
 have hC:Bs (M+940+60) wh s (A++t):=hAB.congr hs1 fun i x y hx hy=>by
  obtain⟨h1,h2⟩:=hs2 i x (bp hx) hx
  rw[hy] at h2
  have h2:=Option.some.inj h2
  subst h2
  unfold UN at h1
  have hi:=bp hx
  have hx0:x=((x.toNat:Nat):Int):=by omega
  generalize x.toNat=n at hx0
  have hn:n≤1023:=by omega
  have hi6:i≤60:=by omega
  have e:=Ju (N:=M+940+60) hn hi6
  rw[show ((n+1024*i:Nat):Int)=(n:Int)+1024*(i:Int) by omega] at e
  rw[hx0]
  exact e.symm
 obtain⟨hgA,hlA⟩:=KP (by omega) hA
 obtain⟨hgB,hlB⟩:=KP (by omega) hAB
 obtain⟨S,L,hSL,hmA⟩:=KQ (N:=M+600) (by omega) hgA hlA
 obtain⟨S',L',agK,hmB⟩:=KQ (N:=M+600) (by omega) hgB hlB
 have m1:=hmA p (by omega) hA
 have m2:=hmB (p++q) (by omega) hAB
 have m3:=hmB s (by omega) hC
 have e9:=KK (N:=M+1000) (by omega) (ts':=fJ) (xs':=fK) (fs':=pI (A++t++[gY]) S' L') (L8 hgB agK)
 rw[decide_eq_true ⟨rfl,rfl,rfl⟩] at e9
 have e8:=KK (N:=M+1000) (by omega) (ts':=fJ) (xs':=fK) (fs':=pI (A++[gY]) S L) (L8 hgA hSL)
 rw[decide_eq_true ⟨rfl,rfl,rfl⟩] at e8
 have hl1:(pI (A++[gY]) S L).length=8:=rfl
 have hl2:(pI (A++t++[gY]) S' L').length=8:=rfl
 have i1:idx (pI (A++[gY]) S L) 0=some (gf,0,-1,vi,A++[gY],S,L):=rfl
 have i2:idx (pI (A++t++[gY]) S' L') 0=some (gf,0,-1,vi,A++t++[gY],S',L'):=rfl
 have d2:(pI (A++t++[gY]) S' L').drop 1=xL:=rfl
 have c1:(A++[gY]).length=A.length+1:=by simp
 have c2:(A++t++[gY]).length=A.length+t.length+1:=by simp only[List.length_append,List.length_singleton]
 have w1:aH (((A.length+1:Nat):Int)-1)=(A.length:Int):=by rw[cB (by omega)];omega
 have t1:(A++[gY]).take A.length=A:=by simp
 have t2:(A++t++[gY]).take A.length=A:=by simp
 have sC:=Hi (l:=A) (m:=A) (by omega) (N:=M+1000) (by omega)
 rw[decide_eq_true rfl] at sC
 have hr7:xL.length=7:=rfl
 simp only[m1,m2,m3,Option.bind_some,show ((0:Int) != 0)=false from rfl,aS,e9,Bool.not_true,hl1,hl2,show (((8:Nat):Int) != ((8:Nat):Int))=false from rfl,show decide (((8:Nat):Int)<1)=false from rfl,i1,i2,c1,c2,
  decide_eq_false (show ¬((A.length+1:Nat):Int)<1 by omega),decide_eq_false (show ¬((A.length+t.length+1:Nat):Int)<((A.length+1:Nat):Int) by omega),w1,show decide ((0:Int)≤(A.length:Int))=true by simp,aF,Int.toNat_natCast,
  decide_eq_true (show A.length≤A.length+1 by omega),decide_eq_true (show A.length≤A.length+t.length+1 by omega),t1,t2,sC,decide_eq_true (show 1≤8 by omega),d2,hr7,aI (show 1+7≤10000000 by omega) (show 128≤1000 by omega)]
 rw[show [(gf,(0:Int),(-1:Int),vi,A++[gY],S,L)]++xL=pI (A++[gY]) S L from rfl,e8]
 simp only[Option.bind_some,aV,hal]
end Go.Proofs.YtokjmkblnafppaaGreatDoor
