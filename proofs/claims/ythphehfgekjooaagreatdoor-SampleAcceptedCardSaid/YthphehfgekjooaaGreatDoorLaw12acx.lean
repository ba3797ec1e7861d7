/- A part of the proof: Law12acw2, Law12acx. -/
import Derived.Test.YthphehfgekjooaaGreatDoorLaw12acw
set_option linter.unusedVariables false
set_option linter.unusedSimpArgs false
namespace Go.Proofs.YthphehfgekjooaaGreatDoor
open Go Go.bq Go.Sym
open Classical
noncomputable def nR:mD (Nat×Nat):=dG pv fun _=>pv
noncomputable def nu:Nat→List (Nat×Nat)→List cI
 |_,[]=>[]
 |w,x :: r=>(((w+x.1:Nat):Int),(x.2:Int)) :: nu (w+x.1) r
noncomputable def BV:Int→List cI→List (Nat×Nat)
 |_,[]=>[]
 |w,x :: r=>((x.1-w).toNat,x.2.toNat) :: BV x.1 r
noncomputable def M1 (x:Nat×Nat):List Int:=V x.1++V x.2
theorem I5:∀ (l:List (Nat×Nat)) (w:Nat),(nu w l).length=l.length
 |[],_=>rfl
 |x :: r,w=>by simp only[nu,List.length_cons,I5 r]
theorem I6:∀ (l:List (Nat×Nat)) (w:Nat),Bv w (nu w l)=l.flatMap M1
 |[],_=>rfl
 |x :: r,w=>by
  simp only[nu,Bv,List.flatMap_cons,M1,I6 r,Int.toNat_natCast,show (((w+x.1:Nat):Int)-(w:Int)).toNat=x.1 by omega,List.append_assoc]
theorem I7:∀ (l:List (Nat×Nat)) (w:Nat),(∀ x,x∈l→x.2<18446744073709551616)→nY (nu w l)
 |[],_,_=>fun _ h=>by cases h
 |x :: r,w,h=>fun y hy=>by
  rcases List.mem_cons.1 hy with rfl|hy
  ·have:=h x List.mem_cons_self;exact⟨by simp only;omega,by simp only;omega⟩
  ·exact I7 r _ (fun z hz=>h z (List.mem_cons_of_mem _ hz)) y hy
theorem I8:∀ (l:List cI) (w:Nat),Inc w l→nu w (BV w l)=l
 |[],_,_=>rfl
 |x :: r,w,h=>by
  obtain⟨h1,h2,h3,h4⟩:=h
  simp only[BV,nu]
  rw[show w+(x.1-(w:Int)).toNat=x.1.toNat by omega]
  obtain⟨v,hv⟩:=Int.eq_ofNat_of_zero_le (show 0≤x.1 by omega)
  have ih:=I8 r v (by rw[←hv];exact h4)
  rw[hv,Int.toNat_natCast,ih]
  congr 1
  exact Prod.ext hv.symm (by simp only;omega)
theorem I9:∀ (l:List cI) (w:Int),Inc w l→0≤w→∀ x,x∈BV w l→x.1<18446744073709551616∧x.2<18446744073709551616
 |[],_,_,_,x,hx=>by cases hx
 |y :: r,w,h,hw,x,hx=>by
  obtain⟨h1,h2,h3,h4⟩:=h
  rcases List.mem_cons.1 hx with rfl|hx
  ·exact⟨by simp only;omega,by simp only;omega⟩
  ·exact I9 r _ h4 (by omega) x hx
theorem D5:∀ (l:List cI) (w:Int),(BV w l).length=l.length
 |[],_=>rfl
 |x :: r,w=>by simp only[BV,List.length_cons,D5 r]
noncomputable def abB (n:Nat):mD (List (Nat×Nat)):=sU n nR
noncomputable def nS (n:Nat):mD (List cI):=if 1≤n∧n≤200 then ke (Cz (abB n) fun l=>decide (bO (nu 0 l) n)) (nu 0) else fun _=>none
noncomputable def Td (n:Nat) (l:List cI):Prop:=(1≤n∧n≤200)∧bO l n∧nY l
theorem OZ:oX nR M1 (fun x=>x.1<18446744073709551616∧x.2<18446744073709551616):=qf.then fun _ _=>qf
theorem Te {n:Nat} (hn:n≤200):oX (abB n) (fun l=>V l.length++l.flatMap M1) (fun l=>l.length≤n∧∀ x,x∈l→x.1<18446744073709551616∧x.2<18446744073709551616):=oT OZ (by omega)
theorem D6 (n:Nat):oX (nS n) ju (Td n):=by
 unfold nS
 by_cases hn:1≤n∧n≤200
 ·rw [if_pos hn]
  refine (Te hn.2).flt.map _ (BV 0) (fun l h=>?_) fun l h=>?_
  ·obtain ⟨⟨h1, h2⟩, h3⟩ := h
   refine⟨⟨hn,of_decide_eq_true h3,I7 l 0 fun x hx=>(h2 x hx).2⟩,?_⟩
   have:=I6 l 0
   rw[ju,I5]
   rw[show ((0:Nat):Int)=0 from rfl] at this
   rw[this]
  ·obtain ⟨_, h2, h3⟩ := h
   have hi:=h2.inc (by omega) h3
   have e:=I8 l 0 hi
   rw[show ((0:Nat):Int)=0 from rfl] at e
   exact⟨⟨⟨by rw[D5];exact gy h2,I9 l 0 hi (by omega)⟩,decide_eq_true (by rw[e];exact h2)⟩,e⟩
 ·rw [if_neg hn]
  exact⟨fun x r h=>absurd h.1 hn,fun s x r _ h=>by cases h⟩
noncomputable def yp (L:yT):mD (List Instr×List cI×List cI):=dG (sU L.code nZ) fun l=>dG (nS l.length) fun _=>nS l.length
noncomputable def Tf (L:yT) (z:List Instr×List cI×List cI):Prop:=(z.1.length≤L.code∧∀ x,x∈z.1→fk x=true)∧Td z.1.length z.2.1∧Td z.1.length z.2.2
noncomputable def YR (z:List Instr×List cI×List cI):List Int:=V z.1.length++(z.1.flatMap encI++(ju z.2.1++ju z.2.2))
theorem O0 {L:yT} (hL:L.OK):oX (yp L) YR (Tf L):=
 ((oT LB hL.code).then fun l _=>(D6 l.length).then fun _ _=>D6 l.length).congr fun z _=>by simp only[YR,List.append_assoc]
noncomputable def yq (L:yT):mD Func:=dG (ki L.name) fun _=>dG (pI L.params) fun _=>dG pS fun _=>dG (ld L.name L.ty L.slots) fun _=>yp L
noncomputable def Ja (L:yT) (f:Func):Prop:=
 f.1.length≤L.name∧(0≤f.2.1∧f.2.1≤L.params)∧i64 f.2.2.1∧(f.2.2.2.1.length≤L.slots∧∀ g,g∈f.2.2.2.1→I3 L.name L.ty g)∧Tf L f.2.2.2.2
theorem O1 {L:yT} (hL:L.OK):oX (yq L) lR (Ja L):=
 (wZ (by have:=hL.name;omega)).then fun _ _=>(BT (by have:=hL.params;omega)).then fun _ _=>Lu.then fun _ _=>(yo hL.name hL.ty hL.slots).then fun _ _=>O0 hL
noncomputable def O2 (L:yT):mD DJ:=dG (sU L.types (BU L)) fun _=>dG (sU L.texts (ki L.text)) fun _=>sU L.funcs (yq L)
noncomputable def O3 (L:yT) (m:DJ):Prop:=
 (m.1.length≤L.types∧∀ t,t∈m.1→lg L t.1 t.2)∧(m.2.1.length≤L.texts∧∀ s,s∈m.2.1→s.length≤L.text)∧m.2.2.length≤L.funcs∧∀ f,f∈m.2.2→Ja L f
theorem BW {L:yT} (hL:L.OK):oX (O2 L) (fun m=>fA m.1 m.2.1 m.2.2) (O3 L):=
 ((oT (OX hL) hL.types).then fun _ _=>(oT (wZ (by have:=hL.text;omega)) hL.texts).then fun _ _=>oT (O1 hL) hL.funcs).congr fun z _=>by simp only[fA,List.append_assoc]
structure yT.O4 (L:yT):Prop where
 ok:L.OK
 ty:32≤L.ty
 len:16≤L.len
 name:16≤L.name
 FV:8≤L.FV
 text:64≤L.text
 types:32≤L.types
 texts:32≤L.texts
 funcs:32≤L.funcs
 params:16≤L.params
 slots:16≤L.slots
 code:200≤L.code
theorem FW.fld {L:yT} (hL:L.O4) {l:List Field} (h:dy l) {n:Int} (hn:n≤32) (hr:∀ f,f∈l→0≤f.2∧f.2<n):∀ f,f∈l→I3 L.name L.ty f:=fun f hf=>by
 have h1:=iD (qa h f hf)
 have h2:=hr f hf
 have:=hL.name;have:=hL.ty
 exact⟨by omega,by omega,by omega⟩
theorem cX.lg {L:yT} (hL:L.O4) {n i:Nat} {t:aI} (h:cX n i t) (hn:n≤32) (hi:i≤32):lg L t.1 t.2:=by
 have:=hL.ty;have:=hL.len;have:=hL.FV
 unfold cX at h
 unfold Go.Proofs.YthphehfgekjooaaGreatDoor.lg
 by_cases h1:t.1=1∨t.1=2∨t.1=3
 ·rw [if_pos h1] at h
  rw[if_neg (by omega),if_neg (by omega),if_neg (by omega)]
  exact Prod.ext h.1 (Prod.ext h.2.1 (List.eq_nil_of_length_eq_zero h.2.2))
 ·rw [if_neg h1] at h
  by_cases h2:t.1=4∨t.1=7
  ·rw [if_pos h2] at h ⊢
   exact⟨by omega,Prod.ext h.2.1 (List.eq_nil_of_length_eq_zero h.2.2)⟩
  ·rw [if_neg h2] at h ⊢
   by_cases h3:t.1=6
   ·rw [if_pos h3] at h ⊢
    exact⟨by omega,by omega,List.eq_nil_of_length_eq_zero h.2.2⟩
   ·rw [if_neg h3] at h ⊢
    by_cases h4:t.1=5
    ·rw [if_pos h4] at h ⊢
     exact⟨h.1,h.2.1,by omega,FW.fld hL h.2.2.2.1 (n:=i) (by omega) h.2.2.2.2⟩
    ·rw[if_neg h4] at h;exact h.elim
theorem jZ.Ja {L:yT} (hL:L.O4) {n:Nat} {f:Func} (h:jZ n f) (hn:n≤32) (hr:nY f.2.2.2.2.2.1∧nY f.2.2.2.2.2.2):Ja L f:=by
 obtain⟨h1,h2,h3,h4,h5,h6,h7,h8,h9,h10⟩:=h
 have:=hL.name;have:=hL.params;have:=hL.slots;have:=hL.code
 have:=iD h1
 exact⟨by omega,by omega,⟨by omega,by omega⟩,⟨by omega,FW.fld hL h3 (by omega) h6⟩,⟨by omega,h8⟩,⟨h7,h9,hr.1⟩,h7,h10,hr.2⟩
theorem cG.O3 {L:yT} (hL:L.O4) {ts:List aI} {xs:List (List UInt8)} {fs:List Func} (h:cG ts xs fs) (hr:∀ f,f∈fs→nY f.2.2.2.2.2.1∧nY f.2.2.2.2.2.2):O3 L (ts,xs,fs):=by
 obtain⟨⟨t1,t2,_⟩,h2,h3,_,h5,h6⟩:=h
 have:=hL.types;have:=hL.texts;have:=hL.text;have:=hL.funcs
 refine⟨⟨show ts.length≤_ by omega,fun t ht=>?_⟩,⟨show xs.length≤_ by omega,fun s hs=>by have:=h5 s hs;omega⟩,show fs.length≤_ by omega,fun f hf=>?_⟩
 ·obtain ⟨i, hi, rfl⟩ := iX ty0 ht
  have hi:i<ts.length:=hi
  exact (t2 i hi).lg hL t1 (by omega)
 ·have hm := hr f hf
  obtain⟨i,hi,rfl⟩:=iX fn0 hf
  have:=h6 i hi
  unfold Cu at this
  rw[Bool.and_eq_true,decide_eq_true_eq] at this
  exact this.1.Ja hL t1 hm
theorem r9 {L:yT} (hL:L.O4) {ts:List aI} {xs:List (List UInt8)} {fs:List Func} (h:cG ts xs fs) (hr:∀ f,f∈fs→nY f.2.2.2.2.2.1∧nY f.2.2.2.2.2.2) (r:List Int):O2 L (fA ts xs fs++r)=some ((ts,xs,fs),r):=
 (BW hL.ok).fwd (ts,xs,fs) r (h.O3 hL hr)
end Go.Proofs.YthphehfgekjooaaGreatDoor
namespace Go.Proofs.YthphehfgekjooaaGreatDoor
open Go Go.bq Go.Sym
open Classical
noncomputable def At (b s:List Int) (i:Int):Prop:=∃ pre,b=pre++s∧i=(pre.length:Int)
theorem At.next {b r:List Int} {x:Int} {i:Int} (h:At b (x :: r) i):At b r (i+1):=by
 obtain⟨pre,h1,h2⟩:=h
 exact⟨pre++[x],by rw[h1];simp,by rw[h2];simp⟩
theorem At.len {b s:List Int} {i:Int} (h:At b s i):i+s.length=b.length∧0≤i:=by
 obtain⟨pre,h1,h2⟩:=h
 rw[h1,h2,List.length_append];omega
theorem At.idx {b r:List Int} {x:Int} {i:Int} (h:At b (x :: r) i):idx b i=some x:=by
 obtain⟨pre,h1,h2⟩:=h
 exact Rr h1 h2
theorem At.drop {b s:List Int} {i:Int} (h:At b s i):b.drop i.toNat=s:=by
 obtain⟨pre,h1,h2⟩:=h
 rw[h1,h2,Int.toNat_natCast]
 simp
theorem At.skip {b s:List Int} {i:Int} (h:At b s i) {n:Nat} (hn:n≤s.length):At b (s.drop n) (i+n):=by
 obtain⟨pre,h1,h2⟩:=h
 exact⟨pre++s.take n,by rw[h1,List.append_assoc,List.take_append_drop],by rw[h2,List.length_append,List.length_take];omega⟩
noncomputable def Fit (b:List Int):Prop:=nq b∧b.length≤200000
theorem At.Tg {b s:List Int} {i:Int} (h:At b s i) (hb:Fit b):nq s:=by
 obtain⟨pre,h1,h2⟩:=h
 have:=hb.1
 rw[h1] at this
 exact this.right
theorem At.start (b:List Int):At b b 0:=⟨[],rfl,rfl⟩
theorem WG:∀ a:Nat,a<256→qv .u8 ((a:Nat):Int) (127:Int)=((a % 128:Nat):Int):=by decide +kernel
theorem abC {a d t:Nat} (ha:a<2 ^ t):a ||| d*2 ^ t=a+d*2 ^ t:=by
 have:=Nat.two_pow_add_eq_or_of_lt (i:=t) (b:=a) ha d
 rw[Nat.mul_comm d,Nat.add_comm,this,Nat.or_comm]
theorem M3 {a d t:Nat} (ha:a<2 ^ t) (h:a+d*2 ^ t<18446744073709551616):zk .u64 (a:Int) ((d*2 ^ t:Nat):Int)=((a+d*2 ^ t:Nat):Int):=by
 unfold zk
 have e:(BitVec.ofInt IntKind.u64.bits (a:Int) ||| BitVec.ofInt IntKind.u64.bits ((d*2 ^ t:Nat):Int)).toNat=a+d*2 ^ t:=by
  show (BitVec.ofInt 64 (a:Int) ||| BitVec.ofInt 64 ((d*2 ^ t:Nat):Int)).toNat=_
  rw[BitVec.ofInt_natCast,BitVec.ofInt_natCast,BitVec.toNat_or,BitVec.toNat_ofNat,BitVec.toNat_ofNat,Nat.mod_eq_of_lt (by omega),Nat.mod_eq_of_lt (by omega),abC ha]
 rw[e];exact jN (by omega)
theorem LC (t:Nat):2 ^ (7*t)=128 ^ t:=by rw[Nat.pow_mul]
theorem Th {k t:Nat} (h:k≤t):128 ^ k≤128 ^ t:=Nat.pow_le_pow_right (by omega) h
theorem Jb {a t x:Nat} (ht:t≤9) (ha:a<128 ^ t) (hx:x<256) (h9:t=9→x≤1) :
  zk .u64 (a:Int) (cg ((cg (qv .u8 (x:Int) (127:Int)))*(2 ^ min (Int.toNat (ah ((7:Int)*(t:Int)))) 64)))=((a+(x % 128)*128 ^ t:Nat):Int):=by
 rw[WG x hx,iW (by omega),bn (by omega),show (7:Int)*(t:Int)=((7*t:Nat):Int) by omega,Int.toNat_natCast,Nat.min_eq_left (by omega)]
 have e:((x % 128:Nat):Int)*2 ^ (7*t)=((x % 128*2 ^ (7*t):Nat):Int):=by rw[Int.natCast_mul,Int.natCast_pow];rfl
 have hlt:a+x % 128*2 ^ (7*t)<18446744073709551616:=by
  rw[LC]
  by_cases h:t=9
  ·subst h
   have:=h9 rfl
   have h1:x % 128≤1:=by omega
   have h2:=Nat.mul_le_mul_right (128 ^ 9) h1
   omega
  ·have h1 : x % 128 ≤ 127 := by omega
   have h2:=Nat.mul_le_mul_right (128 ^ t) h1
   have h3:=Th (show t≤8 by omega)
   omega
 rw[e,iW (by omega),M3 (by rw[LC];exact ha) hlt,LC]
theorem aff {n:Nat} (h:n<18446744073709551616):qv .u64 (n:Int) (1:Int)=((n % 2:Nat):Int):=by
 unfold qv
 have e:(BitVec.ofInt IntKind.u64.bits (n:Int) &&& BitVec.ofInt IntKind.u64.bits 1).toNat=n % 2:=by
  show (BitVec.ofInt 64 (n:Int) &&& BitVec.ofInt 64 1).toNat=_
  rw[BitVec.ofInt_natCast,show BitVec.ofInt 64 1=BitVec.ofNat 64 1 from rfl,BitVec.toNat_and,BitVec.toNat_ofNat,BitVec.toNat_ofNat,Nat.mod_eq_of_lt h]
  exact Nat.and_two_pow_sub_one_eq_mod n 1
 rw[e];exact jN (by omega)
theorem LD {n:Nat} (h:n<18446744073709551616):Ir .i64 (ah (Int.fdiv (n:Int) 2)) (ah (0-(ah (qv .u64 (n:Int) (1:Int)))))=tg n:=by
 rw[show (2:Int)=((2:Nat):Int) from rfl,vA,lP (by omega),aff h,lP (by omega)]
 unfold tg
 by_cases h2:n % 2=0
 ·rw [if_pos h2, h2]
  unfold Ir
  have e:(BitVec.ofInt IntKind.i64.bits ((n / 2:Nat):Int) ^^^ BitVec.ofInt IntKind.i64.bits (ah (0-((0:Nat):Int)))).toNat=n / 2:=by
   show (BitVec.ofInt 64 ((n / 2:Nat):Int) ^^^ BitVec.ofInt 64 (ah 0)).toNat=_
   rw[show BitVec.ofInt 64 (ah 0)=0#64 by decide,BitVec.xor_zero,BitVec.ofInt_natCast,BitVec.toNat_ofNat]
   omega
  rw[e];exact lP (by omega)
 ·rw [if_neg h2, show n % 2 = 1 by omega]
  unfold Ir
  have e:(BitVec.ofInt IntKind.i64.bits ((n / 2:Nat):Int) ^^^ BitVec.ofInt IntKind.i64.bits (ah (0-((1:Nat):Int)))).toNat=18446744073709551615-n / 2:=by
   show (BitVec.ofInt 64 ((n / 2:Nat):Int) ^^^ BitVec.ofInt 64 (ah (0-1))).toNat=_
   rw[show BitVec.ofInt 64 (ah (0-1))=BitVec.allOnes 64 by decide,BitVec.xor_allOnes,BitVec.toNat_not,BitVec.ofInt_natCast,BitVec.toNat_ofNat]
   omega
  rw[e]
  show IntKind.i64.wrap _=_
  rw[show ((18446744073709551615-n / 2:Nat):Int)=(-((n / 2:Nat):Int)-1)+18446744073709551616 by omega]
  have:=bn (n:=-((n / 2:Nat):Int)-1) (by omega)
  have e2:∀ m:Int,IntKind.i64.wrap (m+18446744073709551616)=IntKind.i64.wrap m:=fun m=>by
   rw[IntKind.wrap_i64,IntKind.wrap_i64];omega
  rw[e2];exact this
section
variable {N:Nat} {b:List Int}
theorem vL (hb:Fit b) {s:List Int} {i:Int} (h:At b s i):Fz N (b,i)=some 0:=by
 obtain⟨h1,h2⟩:=h.len
 have:=hb.2
 rw[Fz.eq_1,cu (show ¬(b.length:Int)>200000 by omega),ai,cu (show ¬i<0 by omega),ai,cu (show ¬i>(b.length:Int) by omega)]
 rfl
theorem yt (m v:Int) (hb:Fit b):∀ (k:Nat) (s:List Int) (i:Int) (a f:Nat),k≤9→k<f→a<128 ^ (9-k)→At b s i→
  (∃ n r j,CA k s=some (n,r)∧At b r j∧f61.lN N f (m,(a:Int),((9-k:Nat):Int),b,i,v)=some (.inr (m,((a+n*128 ^ (9-k):Nat):Int),b,j,v)))∨
  (CA k s=none∧∃ e t,e≠0∧f61.lN N f (m,(a:Int),((9-k:Nat):Int),b,i,v)=some (.inl (0,e,t)))
 |_,[],i,a,f+1,_,_,_,qq=>by
  obtain⟨h1,h2⟩:=qq.len
  have hi:i=(b.length:Int):=by simpa using h1
  refine .inr ⟨by simp[CA],24,0,by decide,?_⟩
  rw[f61.lN.eq_2,hi,beq_self_eq_true,av]
 | 0, x :: s, i, a, f + 1, h9, hf, ha, qq => by
  obtain⟨h1,h2⟩:=qq.len
  have hx:=qq.Tg hb x List.mem_cons_self
  have hne:(i==(b.length:Int))=false:=by rw[beq_eq_false_iff_ne];simp at h1;omega
  rw[f61.lN.eq_2]
  simp only[hne,ai,qq.idx,Option.bind_some,Nat.sub_zero,show (((9:Nat):Int)==9)=true from rfl,av]
  by_cases h3:x>1
  ·rw [dc h3, av, Option.bind_some, av]
   exact .inr ⟨by simp only[CA];rw[if_neg (by omega)],12,0,by decide,rfl⟩
  ·rw [cu h3, ai, dc (show ((9 : Nat) : Int) > 0 by decide), av, Option.bind_some]
   by_cases h4:x=0
   ·subst h4
    exact .inr ⟨by simp[CA],12,0,by decide,rfl⟩
   ·have h5 : x = ((1 : Nat) : Int) := by omega
    subst h5
    refine .inl ⟨1,s,i+1,by simp[CA],qq.next,?_⟩
    have hl:=hb.2
    rw[show (((1:Nat):Int)==0)=false from rfl,ai,Z2 (by decide),dc (show ((1:Nat):Int)<128 by decide),av,bn (n:=i+1) (by simp at h1;omega),Jb (by omega) ha (by omega) (fun _=>by omega)]
 | k + 1, x :: s, i, a, f + 1, h9, hf, ha, qq => by
  obtain⟨h1,h2⟩:=qq.len
  have hx:=qq.Tg hb x List.mem_cons_self
  have hl:=hb.2
  have hne:(i==(b.length:Int))=false:=by rw[beq_eq_false_iff_ne];simp at h1;omega
  obtain⟨c,rfl⟩:=Int.eq_ofNat_of_zero_le hx.1
  have hi1:ah (i+1)=i+1:=bn (by simp at h1;omega)
  have hk1:ah (((9-(k+1):Nat):Int)+1)=((9-k:Nat):Int):=by rw[bn (by omega)];omega
  have hb8:(bif (((9-(k+1):Nat):Int)==9) then (bif (decide ((c:Int)>1)) then some true else (bif (decide (((9-(k+1):Nat):Int)>0)) then some ((c:Int)==0) else some false)) else (bif (decide (((9-(k+1):Nat):Int)>0)) then some ((c:Int)==0) else some false))=some (decide (k≠8∧(c:Int)=0)):=by
   rw[show (((9-(k+1):Nat):Int)==9)=false by rw[beq_eq_false_iff_ne];omega,ai]
   by_cases h8:k=8
   ·subst h8
    simp
   ·rw [dc (show ((9 - (k + 1) : Nat) : Int) > 0 by omega), av]
    rw[FH]
    simp[h8]
  rw[f61.lN.eq_2]
  simp only[hne,ai,qq.idx,Option.bind_some,hb8,hi1,hk1]
  have hsh:(!decide ((ah ((7:Int)*((9-(k+1):Nat):Int)))<0))=true:=by rw[bn (by omega),cu (by omega)];rfl
  rw[hsh,aj,Jb (by omega) ha (by omega) (fun _=>by omega)]
  by_cases h3:k≠8∧(c:Int)=0
  ·rw [dc h3, av]
   refine .inr ⟨?_,12,0,by decide,rfl⟩
   simp only[CA]
   rw[if_pos (by omega),if_pos h3]
  ·rw [cu h3, ai]
   by_cases h4:c<128
   ·rw [dc (show (c : Int) < 128 by omega), av]
    refine .inl ⟨c,s,i+1,?_,qq.next,by rw[Nat.mod_eq_of_lt h4]⟩
    simp only[CA]
    rw[if_pos (by omega),if_neg h3,Int.toNat_natCast]
   ·rw [cu (show ¬ (c : Int) < 128 by omega), ai]
    have hpw:128 ^ (9-k)=128*128 ^ (9-(k+1)):=by rw[show 9-k=(9-(k+1))+1 by omega,Nat.pow_succ,Nat.mul_comm]
    have hlt:a+c % 128*128 ^ (9-(k+1))<128 ^ (9-k):=by
     rw[hpw]
     have:=Nat.mul_le_mul_right (128 ^ (9-(k+1))) (show c % 128≤127 by omega)
     omega
    have hp:CA (k+1) ((c:Int) :: s)=match CA k s with|some (n,r')=>some (c % 128+128*n,r')|none=>none:=by
     simp only[CA]
     rw[if_neg (by omega),Int.toNat_natCast]
     try (cases CA k s<;>rfl)
    rcases yt m v hb k s (i+1) (a+c % 128*128 ^ (9-(k+1))) f (by omega) (by omega) hlt qq.next with⟨n,r,j,g1,g2,g3⟩|⟨g1,e,t,g2,g3⟩
    ·refine .inl ⟨c % 128 + 128 * n, r, j, by rw [hp, g1], g2, ?_⟩
     have e:a+c % 128*128 ^ (9-(k+1))+n*128 ^ (9-k)=a+(c % 128+128*n)*128 ^ (9-(k+1)):=by
      rw[hpw,Nat.add_mul,Nat.mul_comm 128 n,Nat.mul_assoc,Nat.add_assoc]
     rw[g3,e]
    ·exact .inr ⟨by rw[hp,g1],e,t,g2,g3⟩
 |_,_,_,_,0,_,h,_,_=>by omega
theorem kS (hN:20<N) (hb:Fit b) {s:List Int} {i:Int} (h:At b s i) (m:Nat) :
  (∃ n r j,pN m s=some (n,r)∧At b r j∧vz N (b,i,(m:Int))=some (b,j,(n:Int),0))∨(pN m s=none∧∃ c j e,e≠0∧vz N (b,i,(m:Int))=some (c,j,0,e)):=by
 rw[vz.eq_1,vL hb h,Option.bind_some,iM,ai]
 rcases yt (N:=N) (m:Int) 0 hb 9 s i 0 N (by omega) (by omega) (by simp) h with⟨n,r,j,g1,g2,g3⟩|⟨g1,e,t,g2,g3⟩
 ·simp only [Nat.sub_self, show ((0 : Nat) : Int) = 0 from rfl] at g3
  rw[g3,Option.bind_some]
  simp only[Nat.pow_zero,Nat.mul_one,Nat.zero_add]
  by_cases hm:n≤m
  ·rw [cu (show ¬ (n : Int) > (m : Int) by omega), ai]
   exact .inl ⟨n,r,j,by simp only[pN,Cz,pv,g1,Option.bind_some,dc hm,av],g2,rfl⟩
  ·rw [dc (show (n : Int) > (m : Int) by omega), av]
   exact .inr ⟨by simp only[pN,Cz,pv,g1,Option.bind_some,cu hm];rfl,[],0,4,by decide,rfl⟩
 ·simp only [Nat.sub_self, show ((0 : Nat) : Int) = 0 from rfl] at g3
  rw[g3,Option.bind_some]
  exact .inr ⟨by simp only[pN,Cz,pv,g1,Option.bind_none],[],t,e,g2,rfl⟩
theorem w8 (s:List Int) (hs:nq s):pN 18446744073709551615 s=pv s:=by
 unfold pN Cz
 cases h:pv s with
 |none=>rfl
 |some x=>
  have:=(qf.bwd s x.1 x.2 hs h).1
  simp only[Option.bind_some]
  rw[dc (show x.1≤18446744073709551615 by omega),av]
theorem yu (hN:20<N) (hb:Fit b) {s:List Int} {i:Int} (h:At b s i) :
  (∃ v r j,pS s=some (v,r)∧At b r j∧zn N (b,i)=some (b,j,v,0))∨(pS s=none∧∃ c j e v,e≠0∧zn N (b,i)=some (c,j,v,e)):=by
 rw[zn.eq_1]
 have JL:=w8 s (h.Tg hb)
 rcases kS hN hb h 18446744073709551615 with⟨n,r,j,g1,g2,g3⟩|⟨g1,c,j,e,g2,g3⟩
 ·rw [JL] at g1
  have hn:=(qf.bwd s n r (h.Tg hb) g1).1
  rw[show ((18446744073709551615:Nat):Int)=18446744073709551615 from rfl] at g3
  rw[g3,Option.bind_some]
  simp only[LD hn]
  exact .inl ⟨tg n,r,j,by simp only[pS,ke,g1,Option.map_some],g2,rfl⟩
 ·rw [JL] at g1
  rw[show ((18446744073709551615:Nat):Int)=18446744073709551615 from rfl] at g3
  rw[g3,Option.bind_some]
  exact .inr ⟨by simp only[pS,ke,g1,Option.map_none],c,j,e,_,g2,rfl⟩
theorem O5 (hN:20<N) (hb:Fit b) {s:List Int} {i:Int} (h:At b s i) {m:Nat} (hm:m≤200000) :
  (∃ v r j,ki m s=some (v,r)∧At b r j∧F64 N (b,i,(m:Int))=some (b,j,v,0))∨(ki m s=none∧∃ c j e v,e≠0∧F64 N (b,i,(m:Int))=some (c,j,v,e)):=by
 have hl:=hb.2
 rw[F64.eq_1,vL hb h,Option.bind_some,show ((0:Int)==0)=true from rfl,av,cu (show ¬(m:Int)<0 by omega),ai,cu (show ¬(m:Int)>200000 by omega),Option.bind_some,ai,Option.bind_some,iM,ai,iW (show m<18446744073709551616 by omega)]
 rcases kS hN hb h m with⟨n,r,j,g1,g2,g3⟩|⟨g1,c,j,e,g2,g3⟩
 ·have hr := g2.len
  rw[g3,Option.bind_some]
  simp only[show ((0:Int)==0)=true from rfl,av,Option.bind_some,bn (show -9223372036854775808≤(b.length:Int)-j∧(b.length:Int)-j≤9223372036854775807 by omega),jN (show 0≤(b.length:Int)-j∧(b.length:Int)-j≤18446744073709551615 by omega)]
  by_cases hn:n≤r.length
  ·have w1 : ah (n : Int) = (n : Int) := lP (by omega)
   have w2:ah (j+(n:Int))=j+n:=bn (by omega)
   rw[cu (show ¬(n:Int)>(b.length:Int)-j by omega),ai,Option.bind_some,iM,ai]
   simp only[w1,w2]
   rw[dc (show 0≤j by omega),aj,dc (show 0≤j+(n:Int) by omega),aj,dc (show j.toNat≤(j+(n:Int)).toNat by omega),dc (show (j+(n:Int)).toNat≤b.length by omega),Bool.and_self,aj,g2.drop,show (j+(n:Int)).toNat-j.toNat=n by omega]
   refine .inl ⟨_,_,_,?_,g2.skip hn,rfl⟩
   simp only[ki,ke,dG,g1,Option.bind_some,wY,if_pos hn,Option.map_some]
  ·rw [dc (show (n : Int) > (b.length : Int) - j by omega), av, Option.bind_some]
   refine .inr ⟨?_,[],0,24,[],by decide,rfl⟩
   simp only[ki,ke,dG,g1,Option.bind_some,wY,if_neg hn,Option.map_none]
 ·rw [g3, Option.bind_some]
  have he:(e==(0:Int))=false:=by simpa using g2
  have he2:(e != (0:Int))=true:=by simpa using g2
  simp only[he,ai,Option.bind_some,he2,av]
  exact .inr ⟨by simp only[ki,ke,dG,g1,Option.bind_none,Option.map_none],[],0,e,[],g2,rfl⟩
theorem abD (hN:20<N):Ox N [0,0]=some 0:=by
 obtain⟨k,rfl⟩:∃ k,N=k+3:=⟨N-3,by omega⟩
 rw[Ox.eq_1]
 rw[f101.lM.eq_2]
 simp only[show decide ((0:Int)<(([0,0]:List Int).length:Int))=true from rfl,av,show idx ([0,0]:List Int) 0=some 0 from rfl,Option.bind_some,iM,ai,show ah (0+1)=1 by decide]
 rw[f101.lM.eq_2]
 simp only[show decide ((1:Int)<(([0,0]:List Int).length:Int))=true from rfl,av,show idx ([0,0]:List Int) 1=some 0 from rfl,Option.bind_some,iM,ai,show ah (1+1)=2 by decide]
 rw[f101.lM.eq_2]
 rfl
theorem LF (hN:20<N) (hb:Fit b) {s:List Int} {i:Int} (h:At b s i) :
  (∃ v r j,MZ s=some (v,r)∧At b r j∧F62 N (b,i,1)=some (b,j,v,0))∨(MZ s=none∧∃ c j e,e≠0∧F62 N (b,i,1)=some (c,j,0,e)):=by
 have hl:=hb.2
 have hr:=h.len
 rw[F62.eq_1,vL hb h,Option.bind_some,show R5 N 1=some 0 from by kernel_rfl,Option.bind_some,abD hN,Option.bind_some,iM,ai,bn (show -9223372036854775808≤(b.length:Int)-i∧(b.length:Int)-i≤9223372036854775807 by omega)]
 cases s with
 |nil=>
  simp only[List.length_nil] at hr
  rw[dc (show (1:Int)>(b.length:Int)-i by omega),av]
  exact .inr ⟨rfl,[],0,24,by decide,rfl⟩
 | cons x r =>
  simp only[List.length_cons] at hr
  have hx:=h.Tg hb x List.mem_cons_self
  have w1:ah (i+1)=i+1:=bn (by omega)
  obtain⟨c,rfl⟩:=Int.eq_ofNat_of_zero_le hx.1
  rw[cu (show ¬(1:Int)>(b.length:Int)-i by omega),ai,w1,dc (show 0≤i by omega),aj,dc (show 0≤i+1 by omega),aj,dc (show i.toNat≤(i+1).toNat by omega),dc (show (i+1).toNat≤b.length by omega),Bool.and_self,aj,h.drop,show (i+1).toNat-i.toNat=1 by omega]
  obtain⟨k,rfl⟩:∃ k,N=k+2:=⟨N-2,by omega⟩
  have aiQ:zk .u64 (0:Int) (cg ((cg (c:Int))*(2 ^ min (Int.toNat (ah ((8:Int)*0))) 64)))=(c:Int):=by
   rw[iW (by omega),show (2:Int) ^ min (Int.toNat (ah ((8:Int)*0))) 64=1 from rfl,Int.mul_one,iW (by omega)]
   have:=M3 (a:=0) (d:=c) (t:=0) (by omega) (by omega)
   simpa using this
  rw[show List.take 1 ((c:Int) :: r)=[(c:Int)] from rfl,f62.fM.eq_2]
  simp only[show decide ((0:Int)<(([(c:Int)]:List Int).length:Int))=true from rfl,av,show idx ([(c:Int)]:List Int) 0=some (c:Int) from rfl,Option.bind_some,show (!decide ((ah ((8:Int)*0))<0))=true by decide,aj,aiQ,show ah (0+1)=1 by decide]
  rw[f62.fM.eq_2]
  simp only[show decide ((1:Int)<(([(c:Int)]:List Int).length:Int))=false from rfl,ai,Option.bind_some,w1]
  exact .inl ⟨c,r,i+1,rfl,h.next,rfl⟩
end
end Go.Proofs.YthphehfgekjooaaGreatDoor
