/- A part of the proof: SymE, SymF, SymG, SymGM. -/
import Derived.Test.YtjejefeomeddhaaGreatSymD
set_option linter.unusedVariables false
set_option linter.unusedSimpArgs false
variable [Go.Eng.Rho]
set_option linter.unusedSectionVars false
namespace Go.Sym
open Go Go.Eng
section
variable {α : Type} {ρ : VMap} {B B':Nat} {s2:S2} {s:St} {op:AOp} {row dst p nx:Nat} {K:Res2→Option α} {r : α} {E:SEnv} {wk:Wk} {ctx:Nat}
theorem ba_append (x y:List UInt8):(⟨x.toArray⟩:ByteArray)++⟨y.toArray⟩=⟨(x++y).toArray⟩:=by
 apply ByteArray.ext
 simp
theorem ba_size (x:List UInt8):(⟨x.toArray⟩:ByteArray).size=x.length:=by simp[ByteArray.size]
theorem ba_extract (x:List UInt8) (a b:Nat):(⟨x.toArray⟩:ByteArray).extract a b=⟨((x.drop a).take (b-a)).toArray⟩:=by
 apply ByteArray.ext
 simp_all
theorem binT_ok {x y:List UInt8} {bop:BinOp} {K:Cell→Option α} (h:binT bop x y K=some r):∃ v c,binS bop ⟨x.toArray⟩ ⟨y.toArray⟩=some v∧K c=some r∧∀ (m:List (Tr E2)),RC ρ B m c (.d (.sc v)):=by
 unfold binT at h
 split at h
 ·obtain ⟨h1, h⟩ := chk_some h
  refine⟨_,_,?_,h,fun _=>rfl⟩
  have:¬((x.length+y.length:Nat):Int)>IntKind.i64.max:=by simpa using h1
  simp only[binS,ba_size,ba_append]
  rw[if_neg this]
 all_goals first
  |(refine⟨_,_,?_,h,fun _=>rfl⟩;simp[binS,ByteArray.toList_eq];done)
  |cases h
theorem binK_ok {x y:Cell} {a b:AV} {bop:BinOp} {m:List (Tr E2)} {K:Cell→Option α} (h:binK bop x y K=some r) (hx:RC ρ B m x a) (hy:RC ρ B m y b):∃ v c,binA bop a b=some v∧K c=some r∧RC ρ B m c (.d (.sc v)):=by
 unfold binK at h
 split at h
 ·cases hx; cases hy
  obtain⟨v,c,h1,h2,h3⟩:=binN_ok (ρ:=ρ) (B:=B) h
  exact⟨v,c,h1,h2,h3 m⟩
 ·cases hx; cases hy
  obtain⟨v,c,h1,h2,h3⟩:=binT_ok (ρ:=ρ) (B:=B) h
  exact⟨v,c,h1,h2,h3 m⟩
 grind
theorem scEq2_ok {kd:Nat} {x y:Cell} {a b:AV} {m:List (Tr E2)} {t:Bool} (h:scEq2 kd x y=some t) (hx:RC ρ B m x a) (hy:RC ρ B m y b):scEq kd a b=some t:=by
 unfold scEq2 at h
 split at h
 ·split at h<;>simp_all[RC,VMap,scEq]
 ·split at h
  ·split at h<;>simp_all[RC,VMap,scEq]
  grind
 ·split at h
  ·cases h
  ·cases h
  ·rename_i x y n _ _
   cases hx;cases hy
   have:((⟨x.toArray⟩:ByteArray)==⟨y.toArray⟩)=(x==y):=by
    rw[Bool.eq_iff_iff]
    show (x.toArray==y.toArray)=true↔_
    simp
   unfold scEq<;>grind
 grind
theorem eqAll2_ok {xs ys:List Cell} {aSz bs:List AV} {m:List (Tr E2)} (hx:All2 (RC ρ B m) xs aSz) (hy:All2 (RC ρ B m) ys bs):∀ {l:List (Nat×Nat)} {t:Bool},eqAll2 xs ys l=some t→eqAll aSz bs l=some t
 |[],t,h=>h
 | o :: l, t, h => by
  simp[eqAll2] at h
  split at h
  ·rename_i x y b' h1 h2 h3
   obtain⟨b,h4,rfl⟩:=opt_map h
   obtain⟨a,g1,g2⟩:=hx.get _ _ h1
   obtain⟨a',g3,g4⟩:=hy.get _ _ h2
   simp[eqAll,g1,g3,scEq2_ok h4 g2 g4]
   cases b with
   |true=>simpa using eqAll2_ok hx hy h3
   |false=>rfl
  grind
theorem unK_ok {x:Cell} {a:AV} {m:List (Tr E2)} {uop:UnOp} {K:Cell→Option α} (h:unK uop x K=some r) (hx:RC ρ B m x a):∃ v c,unA uop a=some v∧K c=some r∧RC ρ B m c (.d (.sc v)):=by
 unfold unK at h
 split at h
 ·split at h
  ·cases hx;exact⟨_,_,rfl,h,rfl⟩
  grind
 ·split at h
  ·cases hx;exact⟨_,_,rfl,h,rfl⟩
  ·cases hx;exact⟨_,_,by simp[unA,bitsI],h,rfl⟩
  grind
 grind
section
variable (hm:MR ρ B s2.mem s.mem) (ht:TR ρ B s2.tips s.tips) (hB:B≤B')
include hm ht hB
theorem Does.int {k:IntKind} {n:Int} (hrun:∀ call sh,op.run call sh s row dst p=Eff.pure (.d (.sc (.int k n)))) (hK:K (pureC (.int k n))=some r):Does ρ B B' s2 s op row dst p K r:=
 .pure hm ht hB hrun (v:=.c (.int k n)) rfl hK
theorem Does.str {x:List UInt8} (hrun:∀ call sh,op.run call sh s row dst p=Eff.pure (.d (.sc (.string ⟨x.toArray⟩)))) (hK:K (pureC (.str x))=some r):Does ρ B B' s2 s op row dst p K r:=
 .pure hm ht hB hrun (v:=.c (.str x)) rfl hK
theorem Does.dptr {t:Ty} {x:t.den} {off:Nat} (hrun:∀ call sh,op.run call sh s row dst p=Eff.pure (.dptr (encs t x) off)) (hK:K (pureC (.dptr t x off))=some r):Does ρ B B' s2 s op row dst p K r:=
 .pure hm ht hB hrun (v:=.c (.dptr t x off)) rfl hK
theorem Does.ptr {lv sl ver u i off:Nat} (hv:ver<B) (hu : ρ ver=some u) (hrun:∀ call sh,op.run call sh s row dst p=Eff.pure (.ptr lv sl u i off)) (hK:K (pureC (.ptr lv sl ver i off))=some r):Does ρ B B' s2 s op row dst p K r:=
 .pure hm ht hB hrun (v:=.c (.ptr lv sl ver i off)) ⟨hv,u,hu,rfl⟩ hK
end
variable (hm:MR ρ B s2.mem s.mem) (ht:TR ρ B s2.tips s.tips) (hsl:SlR ρ B s2.mem s2.slots s.slots) (hB:B≤B')
include hm ht hB hsl
theorem does_bin {bop:BinOp} {x y:Opd} (h:run2 E wk ctx s2 row dst nx (.bin bop x y) K=some r):Does ρ B B' s2 s (.bin bop x y) row dst p K r:=by
 obtain⟨a,ha,h⟩:=cellK_some h
 obtain⟨b,hb,h⟩:=cellK_some h
 obtain⟨v,c,h1,h2,h3⟩:=binK_ok h (ev2_ok hsl ha) (ev2_ok hsl hb)
 exact .pure hm ht hB (fun _ _=>by simp only[AOp.run,binV,h1,Option.bind_some,scA]) (v:=.c c) h3 h2
theorem does_eqb {neg:Bool} {x y:Opd} (h:run2 E wk ctx s2 row dst nx (.eqb neg x y) K=some r):Does ρ B B' s2 s (.eqb neg x y) row dst p K r:=by
 obtain⟨a,ha,h⟩:=boolK_some h
 obtain⟨b,hb,h⟩:=boolK_some h
 have h1:=boolOf_ok' (ev2_ok hsl ha)
 have h2:=boolOf_ok' (ev2_ok hsl hb)
 refine .pure hm ht hB (a:=.d (.sc (.bool (if neg then !(a==b) else a==b)))) (fun _ _=>by simp only[AOp.run,h1,h2,scA]) (v:=.c _) ?_ h
 cases neg<;>rfl
theorem does_isErr {neg:Bool} {x:Opd} (h:run2 E wk ctx s2 row dst nx (.isErr neg x) K=some r):Does ρ B B' s2 s (.isErr neg x) row dst p K r:=by
 simp[run2] at h
 split at h
 ·rename_i b hx
  have h1:x.ev s.slots=_:=ev2_ok hsl hx
  cases neg with
  |true=>
   refine .pure hm ht hB (a:=.d (.sc (.bool b))) (fun _ _=>by cases b<;>(simp only[AOp.run,h1,scA]<;>try rfl)) (v:=.c _) ?_ h
   rfl
  |false=>
   refine .pure hm ht hB (a:=.d (.sc (.bool !b))) (fun _ _=>by cases b<;>(simp only[AOp.run,h1,scA]<;>try rfl)) (v:=.c _) ?_ h
   rfl
 grind
theorem does_sliceL {lo n sz:Nat} {x:Opd} (h:run2 E wk ctx s2 row dst nx (.sliceL lo n sz x) K=some r):Does ρ B B' s2 s (.sliceL lo n sz x) row dst p K r:=by
 simp[run2] at h
 split at h
 ·rename_i lv sl ver i off hx
  split at h
  ·rename_i hc
   obtain⟨hv,u,hu,h1⟩:=ev2_ok hsl hx
   exact .pure hm ht hB (a:=.bref lv sl u (off+lo*sz) (n-lo) sz) (fun _ _=>by simp only[AOp.run,h1,hc]) (v:=.c (.bref lv sl ver (off+lo*sz) (n-lo) sz)) ⟨hv,u,hu,rfl⟩ h
  grind
 grind
theorem does_eqA {neg:Bool} {sz:Nat} {l:List (Nat×Nat)} {x y:Opd} (h:run2 E wk ctx s2 row dst nx (.eqA neg sz l x y) K=some r):Does ρ B B' s2 s (.eqA neg sz l x y) row dst p K r:=by
 simp[run2] at h
 split at h
 ·rename_i xs ys hx hy
  split at h
  ·rename_i b h1 h2
   obtain⟨aSz,e1,r1⟩:=ev2_ok hsl hx
   obtain⟨bs,e2,r2⟩:=ev2_ok hsl hy
   have l1:aSz.length=sz:=by rw[←r1.length]<;>simp_all
   have l2:bs.length=sz:=by rw[←r2.length]<;>simp_all
   refine .pure hm ht hB (a:=.d (.sc (.bool (if neg then !b else b)))) (fun _ _=>by
    simp only[AOp.run,e1,e2]
    rw[if_neg (by simp[l1,l2]),eqAll2_ok r1 r2 h2]
    rfl) (v:=.c _) ?_ h
   cases neg<;>rfl
  grind
 grind
theorem does_un {uop:UnOp} {x:Opd} (h:run2 E wk ctx s2 row dst nx (.un uop x) K=some r):Does ρ B B' s2 s (.un uop x) row dst p K r:=by
 obtain⟨a,ha,h⟩:=cellK_some h
 obtain⟨v,c,h1,h2,h3⟩:=unK_ok h (ev2_ok hsl ha)
 exact .pure hm ht hB (fun _ _=>by simp only[AOp.run,h1,Option.bind_some,scA]) (v:=.c c) h3 h2
theorem does_conv {k:IntKind} {x:Opd} (h:run2 E wk ctx s2 row dst nx (.conv k x) K=some r):Does ρ B B' s2 s (.conv k x) row dst p K r:=by
 obtain⟨kd,n,ha,h⟩:=intK_some h
 have e:=intOf_ok (ev2_ok hsl ha)
 exact .int hm ht hB (fun _ _=>by simp only[AOp.run,e,convV,intOfA,Option.bind_some,scA]) h
theorem does_field {off sz:Nat} {agg:Bool} {x:Opd} (h:run2 E wk ctx s2 row dst nx (.field off sz agg x) K=some r):Does ρ B B' s2 s (.field off sz agg x) row dst p K r:=by
 simp[run2] at h
 split at h
 ·rename_i cs hx
  split at h
  ·rename_i v h1 h2
   have h1:=Nat.le_of_ble_eq_true h1
   obtain⟨aSz,e1,r1⟩:=ev2_ok hsl hx
   obtain⟨a,g1,g2⟩:=wrap2_ok h2 ((r1.drop off).take sz)
   refine .pure hm ht hB (fun _ _=>?_) g2 h
   simp[AOp.run,e1]
   rw[if_pos (by rw[←r1.length];exact h1),g1]
   rfl
  grind
 grind
theorem does_fieldAddr {off:Nat} {x:Opd} (h:run2 E wk ctx s2 row dst nx (.fieldAddr off x) K=some r):Does ρ B B' s2 s (.fieldAddr off x) row dst p K r:=by
 simp[run2] at h
 split at h
 ·rename_i hx
  obtain⟨hv,u,hu,e⟩:=ev2_ok hsl hx
  exact .ptr hm ht hB hv hu (fun _ _=>by simp only[AOp.run,e]) h
 ·rename_i hx
  have e:x.ev s.slots=_:=ev2_ok hsl hx
  exact .dptr hm ht hB (fun _ _=>by simp only[AOp.run,e]) h
 grind
omit hm ht hB hsl in
theorem selK_some:∀ {n k:Nat} {F:Nat→Option α},selK n k F=some r→k<n∧F k=some r
 |0,_,_,h=>by cases h
 | n + 1, k, F, h => by
  unfold selK at h
  cases hb:Nat.beq k n with
  |true=>
   simp_all
  |false=>
   rw[hb] at h
   obtain⟨h1,h2⟩:=selK_some h<;>grind
theorem does_indexArr {n sz:Nat} {x i:Opd} (h:run2 E wk ctx s2 row dst nx (.indexArr n sz x i) K=some r):Does ρ B B' s2 s (.indexArr n sz x i) row dst p K r:=by
 simp[run2] at h
 obtain⟨kd,k,hi,h0,h⟩:=natK_some h
 have hk:=natOf_ok (ev2_ok hsl hi) h0
 split at h
 ·rename_i hx
  obtain⟨hlt,h⟩:=selK_some h
  obtain⟨hv,u,hu,e⟩:=ev2_ok hsl hx
  exact .ptr hm ht hB hv hu (fun _ _=>by simp only[AOp.run,hk,Option.bind_some,e,if_pos hlt]) h
 ·rename_i hx
  obtain⟨hlt,h⟩:=selK_some h
  have e:x.ev s.slots=_:=ev2_ok hsl hx
  exact .dptr hm ht hB (fun _ _=>by simp only[AOp.run,hk,Option.bind_some,e,if_pos hlt]) h
 grind
theorem does_indexA {n sz:Nat} {agg:Bool} {x i:Opd} (h:run2 E wk ctx s2 row dst nx (.indexA n sz agg x i) K=some r):Does ρ B B' s2 s (.indexA n sz agg x i) row dst p K r:=by
 simp[run2] at h
 obtain⟨kd,k,hi,h0,h⟩:=natK_some h
 have hk:=natOf_ok (ev2_ok hsl hi) h0
 split at h
 ·rename_i cs hx
  obtain⟨hlt,h⟩:=selK_some h
  split at h
  ·rename_i v h1 h2
   have h1:=Nat.le_of_ble_eq_true h1
   obtain⟨aSz,e1,r1⟩:=ev2_ok hsl hx
   obtain⟨a,g1,g2⟩:=wrap2_ok h2 ((r1.drop (k.toNat*sz)).take sz)
   refine .pure hm ht hB (fun _ _=>?_) g2 h
   simp[AOp.run,hk,Option.bind_some,e1]
   rw[if_pos ⟨hlt,by rw[←r1.length];exact h1⟩,g1]<;>grind
  grind
 grind
omit hm ht hB hsl in
theorem idx_some {β : Type} {l:List β} {i:Int} {x : β} (h:idx l i=some x):0≤i∧l[i.toNat]?=some x:=by
 grind[idx]
omit hm ht hB hsl in
theorem inR_true {i:Int} {n:Nat} (h:inR i n=true):0≤i∧i.toNat<n:=by
 simpa[inR] using h
theorem does_indexAddr {sz:Nat} {x i:Opd} (h:run2 E wk ctx s2 row dst nx (.indexAddr sz x i) K=some r):Does ρ B B' s2 s (.indexAddr sz x i) row dst p K r:=by
 obtain⟨kd,n,hi,h⟩:=intK_some h
 have hi:=ev2_ok hsl hi
 split at h
 ·rename_i t l o hx
  split at h
  ·rename_i hz
   have hz:=Nat.eq_of_beq_eq_true hz
   obtain⟨e,he,h⟩:=bind_some h
   obtain⟨h0,he⟩:=idx_some he
   have hn:=natOf_ok hi h0
   have hg:(encL t l)[n.toNat]?=some (encs t e):=by rw[encL_get,he];rfl
   have hx:=(els_sl (m:=s.mem) (ev2_ok hsl hx)).2.1
   refine .dptr hm ht hB (t:=t) (x:=e) (off:=0) (fun _ _=>?_) h
   rcases hx with e1|⟨o',e1⟩
   ·simp[AOp.run,hn,Option.bind_some,e1,hg,encs_length,hz,if_true]
   ·simp[AOp.run,hn,Option.bind_some,e1,hg,encs_length,hz,if_true]
  grind
 ·rename_i lv sl ver t hx
  split at h
  ·rename_i hz
   have hz:=Nat.eq_of_beq_eq_true hz
   obtain⟨r',hr,h⟩:=optK_some h
   obtain⟨h1,h⟩:=chk_some h
   obtain⟨h0,h1⟩:=inR_true h1
   have hn:=natOf_ok hi h0
   obtain⟨hv,u,k,hu,e1,hk⟩:=ev2_ok hsl hx
   refine .ptr hm ht hB hv hu (fun _ _=>?_) h
   simp only[AOp.run,hn,Option.bind_some,e1]<;>grind
  grind
 ·rename_i lv sl ver t off len hx
  split at h
  ·rename_i hz
   have hz:=Nat.eq_of_beq_eq_true hz
   obtain⟨h1,h⟩:=chk_some h
   obtain⟨h0,h1⟩:=inR_true h1
   have hn:=natOf_ok hi h0
   obtain⟨hv,u,hu,e1⟩:=ev2_ok hsl hx
   refine .ptr hm ht hB hv hu (fun _ _=>?_) h
   simp only[AOp.run,hn,Option.bind_some,e1]<;>grind
  grind
 grind
theorem does_indexS {x i:Opd} (h:run2 E wk ctx s2 row dst nx (.indexS x i) K=some r):Does ρ B B' s2 s (.indexS x i) row dst p K r:=by
 obtain⟨kd,n,hi,h⟩:=intK_some h
 have hi:=ev2_ok hsl hi
 split at h
 ·rename_i b hx
  obtain⟨c,hc,h⟩:=bind_some h
  obtain⟨h0,hc⟩:=idx_some hc
  have hn:=natOf_ok hi h0
  have e:x.ev s.slots=_:=ev2_ok hsl hx
  refine .int hm ht hB (fun _ _=>?_) h
  simp[AOp.run,hn,Option.bind_some,e,hc,scA]
 grind
omit hm ht hB in
theorem boundK_ok {β : Type} {x:Option Opd} {K:Option Nat→Option β} {r : β} (h:boundK x s2 K=some r):∃ n,(∀ d,boundA x s.slots d=some (n.getD d))∧(n.isSome=x.isSome)∧K n=some r:=by
 unfold boundK at h
 cases x with
 |none=>exact⟨none,fun _=>rfl,rfl,h⟩
 |some o=>
  obtain⟨kd,n,hv,h0,h⟩:=natK_some h
  exact⟨some n.toNat,fun _=>by simp[boundA,natOf_ok (ev2_ok hsl hv) h0],rfl,h⟩
omit hm ht hB hsl in
theorem partOK_true {n:Nat} {lo hi:Option Nat} (h:partOK n lo hi=true):lo.getD 0≤hi.getD n∧hi.getD n≤n:=by
 unfold partOK at h<;>grind
omit hm ht hB hsl in
theorem partL_eq {β : Type} {l:List β} {lo hi:Option Nat} (h:partOK l.length lo hi=true):partL l lo hi=(l.drop (lo.getD 0)).take (hi.getD l.length-lo.getD 0):=by
 unfold partL
 cases lo<;>cases hi<;>simp_all
 ·rw[List.take_of_length_le (by simp)]
omit hm ht hB hsl in
theorem encL_part {t:Ty} {l:List t.den} {lo hi:Option Nat} (h:partOK l.length lo hi=true):encL t (partL l lo hi)=((encL t l).drop (lo.getD 0)).take (hi.getD (encL t l).length-lo.getD 0):=by
 rw[partL_eq h]<;>simp_all[partOK,Ty.den,partL,encL]
omit hm ht hB hsl in
theorem sliceK_ok {sz:Nat} {x:Cell} {a:AV} {lo hi mx:Option Nat} {K:Cell→Option α} (h:sliceK s2.mem sz x lo hi mx K=some r) (hx:RC ρ B s2.mem x a) (l h' k:Nat) (hl:l=lo.getD 0) (hh:∀ n,hi=some n→h'=n) (hk:∀ n,mx=some n→k=n) :
  ∃ a' c,sliceA sz a l (hi.map fun _=>h') (mx.map fun _=>k)=some a'∧RC ρ B s2.mem c a'∧K c=some r:=by
 have ehi:hi.map (fun _=>h')=hi:=by cases hi with|none=>rfl|some n=>grind
 have emx:mx.map (fun _=>k)=mx:=by cases mx with|none=>rfl|some n=>grind
 rw[ehi,emx]
 subst hl
 unfold sliceK at h
 split at h
 ·rename_i t l o
  split at h
  ·rename_i hz
   have hz:=Nat.eq_of_beq_eq_true hz
   have hall:(encL t l).all (fun e=>e.length==sz)=true:=by rw[←hz];exact encL_all t l
   split at h
   ·obtain ⟨hp, h⟩ := chk_some h
    have hp':=partOK_true hp
    have he:=encL_part (t:=t) hp
    rw[encL_length] at he
    have c1:lo.getD 0≤hi.getD (encL t l).length∧hi.getD (encL t l).length≤(encL t l).length∧(encL t l).all (fun e=>e.length==sz)=true:=by
     rw[encL_length]<;>grind
    have dcase:∀ {o:Ow},(o=.bor∨o=.d)→RC ρ B s2.mem (.sl t (partL l lo hi) o) (.d (.sl ((encL t l).drop (lo.getD 0) |>.take (hi.getD (encL t l).length-lo.getD 0)))):=by
     intro o ho
     rw[encL_length,←he]
     rcases ho with rfl|rfl<;>exact .inl rfl
    have dat:sliceA sz (.d (.sl (encL t l))) (lo.getD 0) hi none=some (.d (.sl ((encL t l).drop (lo.getD 0) |>.take (hi.getD (encL t l).length-lo.getD 0)))):=by
     simp only[sliceA]<;>grind
    have own:∀ o',o'≠.bor→∃ a',sliceA sz (.own (encL t l) o') (lo.getD 0) hi none=some a'∧RC ρ B s2.mem (.sl t (partL l lo hi) .d) a':=by
     intro o' ho'
     cases o' with
     |bor=>grind
     | full =>
      simp only[sliceA]
      rw[if_pos c1]
      split
      ·rename_i e
       refine⟨_,rfl,.inr ⟨.full,by simp,?_⟩⟩
       rw[he,show hi.getD l.length=l.length from by rw[encL_length] at e;exact e]
       rw[List.take_of_length_le (by simp[encL_length])]
      grind
     |tip v z=>
      simp only[sliceA]<;>grind
    split at h
    ·rcases hx with rfl | ⟨o', rfl⟩
     ·grind
     ·by_cases ho' : o' = .bor
      ·subst ho'
       refine⟨_,_,by simp only[sliceA];rw[if_pos c1],?_,h⟩
       refine .inr ⟨.bor,?_⟩
       rw[he,encL_length]
      ·obtain ⟨a', g1, g2⟩ := own o' ho'
       refine⟨a',_,g1,?_,h⟩
       rcases g2 with rfl|⟨o2,_,rfl⟩
       ·exact .inl rfl
       ·exact .inr ⟨_,rfl⟩
    ·split at h
     ·cases hx
      refine⟨.own ((encL t l).drop (lo.getD 0)) .full,_,?_,?_,h⟩
      ·simp only[sliceA]<;>grind
      ·show _ = _
       rw[he]
       rw[List.take_of_length_le (by simp[encL_length])]
     ·cases hx
      obtain⟨a',g1,g2⟩:=own .full (by simp)<;>grind
    ·rename_i hne1 hne2
     rcases (els_sl (m:=[]) hx).2.2 (fun e=>hne1 e) with rfl|⟨o',ho',rfl⟩
     ·grind
     ·obtain⟨a',g1,g2⟩:=own o' ho'<;>grind
   ·rename_i mm
    split at h
    ·cases h
    ·cases h
    ·rename_i hi' hne
     obtain⟨hp,h⟩:=chk_some h
     rw[Bool.and_eq_true] at hp
     obtain⟨hp,hmm⟩:=hp
     have hmm:=Nat.eq_of_beq_eq_true hmm
     have hp':=partOK_true hp
     have he:=encL_part (t:=t) hp
     simp[Option.getD_some] at hp' he
     have c1:lo.getD 0≤hi'∧hi'=mm∧hi'≤(encL t l).length∧(encL t l).all (fun e=>e.length==sz)=true:=by
      rw[encL_length];exact⟨hp'.1,hmm,hp'.2,hall⟩
     refine⟨.own ((encL t l).drop (lo.getD 0) |>.take (hi'-lo.getD 0)) .full,_,?_,?_,h⟩
     ·rcases (els_sl (m := []) hx).2.2 (fun e => hne e) with rfl | ⟨o', ho', rfl⟩
      ·simp only [sliceA, Option.getD_some]
       rw[if_pos c1]
      ·cases o' with
       |bor=>exact (ho' rfl).elim
       |_=>simp only[sliceA,Option.getD_some];rw[if_pos c1]
     ·show _ = _
      rw[he]
  grind
 ·rename_i f
  split at h
  ·obtain ⟨hp, h⟩ := chk_some h
   have hp':=partOK_true hp
   have h0:hi.getD 0=0:=by omega
   have l0:lo.getD 0=0:=by omega
   cases f with
   |true=>
    cases hx
    refine⟨.own [] .full,.nil true,?_,rfl,h⟩
    simp[sliceA,h0,l0]
   | false =>
    rcases hx with rfl|⟨o,ho,rfl⟩
    ·exact⟨.d (.sl []),.nil false,by simp[sliceA,h0,l0],.inl rfl,h⟩
    ·cases o with
     |bor=>grind
     |full=>exact⟨.own [] .full,.nil false,by simp[sliceA,h0,l0],.inr ⟨.full,by simp,rfl⟩,h⟩
     |tip v z=>exact⟨.d (.sl []),.nil false,by simp[sliceA,h0,l0],.inl rfl,h⟩
  grind
 ·rename_i lv sl ver t
  cases hz:Nat.beq t.size sz with
  |false=>grind
  |true=>
  split at h
  ·have hz := Nat.eq_of_beq_eq_true hz
   obtain⟨r',hr,h⟩:=optK_some h
   obtain⟨hp,h⟩:=chk_some h
   have hp':=partOK_true hp
   obtain⟨hv,u,n,hu,rfl,hn⟩:=hx
   have hn:=hn r' hr
   refine⟨_,.refp lv sl ver t (loOf lo) (hi.getD r'.l.length-loOf lo),?_,⟨hv,u,hu,rfl,fun r2 hr2=>by rw[hr] at hr2;injection hr2 with hr2;subst hr2;have h1:=hp'.1;have h2:=hp'.2;simp only[loOf] at h1 h2 ⊢;omega⟩,h⟩
   simp only[sliceA,loOf]<;>grind
  grind
 ·rename_i lv sl ver t off len
  cases hz:Nat.beq t.size sz with
  |false=>grind
  |true=>
  split at h
  ·have hz := Nat.eq_of_beq_eq_true hz
   obtain⟨hp,h⟩:=chk_some h
   have hp':=partOK_true hp
   obtain⟨hv,u,hu,rfl,hlen⟩:=hx
   refine⟨_,.refp lv sl ver t (off+loOf lo) (hi.getD len-loOf lo),?_,⟨hv,u,hu,rfl,fun r2 hr2=>by have h0:=hlen r2 hr2;have h1:=hp'.1;have h2:=hp'.2;simp only[loOf] at h1 h2 ⊢;omega⟩,h⟩
   simp only[sliceA,loOf]<;>grind
  grind
 grind
theorem does_sliceS {x:Opd} {lo hi:Option Opd} (h:run2 E wk ctx s2 row dst nx (.sliceS x lo hi) K=some r):Does ρ B B' s2 s (.sliceS x lo hi) row dst p K r:=by
 simp[run2] at h
 split at h
 ·rename_i b hx
  obtain⟨l,el,il,h⟩:=boundK_ok hsl h
  obtain⟨h',eh,ih,h⟩:=boundK_ok hsl h
  obtain⟨hp,h⟩:=chk_some h
  have hp':=partOK_true hp
  have e:x.ev s.slots=_:=ev2_ok hsl hx
  refine .str hm ht hB (fun _ _=>?_) h
  simp[AOp.run,e,el,eh,ba_size]
  rw[if_pos hp',ba_extract,partL_eq hp]
  rfl
 grind
theorem does_extract {x:Opd} {i:Nat} (h:run2 E wk ctx s2 row dst nx (.extract x i) K=some r):Does ρ B B' s2 s (.extract x i) row dst p K r:=by
 simp[run2] at h
 split at h
 ·rename_i vs hx
  split at h
  ·rename_i a cs hi
   obtain⟨v,hv,h⟩:=optK_some h
   obtain⟨aSz,e1,r1⟩:=ev2_ok hsl hx
   obtain⟨y,g1,g2⟩:=r1.get _ _ hi
   have:RV ρ B s2.mem v y:=by
    cases a with
    |true=>
     obtain⟨as',rfl,g3⟩:=g2
     cases hv
     exact⟨as',rfl,g3⟩
    |false=>
     obtain⟨c,rfl,g3⟩:=g2
     cases hv
     exact g3
   exact .pure hm ht hB (fun _ _=>by simp only[AOp.run,e1,g1,Option.bind_some]) this h
  grind
 grind
theorem does_len {x:Opd} (h:run2 E wk ctx s2 row dst nx (.len x) K=some r):Does ρ B B' s2 s (.len x) row dst p K r:=by
 obtain⟨c,hx,h⟩:=cellK_some h
 have hx:=ev2_ok hsl hx
 split at h
 ·refine .int hm ht hB (fun _ _ => ?_) h
  rcases (els_sl (m:=s.mem) hx).2.1 with e|⟨o',e⟩<;>(simp only[AOp.run,e,encL_length];rfl)
 ·refine .int hm ht hB (fun _ _ => ?_) h
  rcases (els_nil (m:=s.mem) hx).2 with e|⟨o',_,e⟩<;>(simp only[AOp.run,e,List.length_nil];rfl)
 ·obtain ⟨r', hr, h⟩ := optK_some h
  obtain⟨hv,u,n,hu,e,hn⟩:=hx
  have hn:=hn r' hr
  subst hn
  exact .int hm ht hB (fun _ _=>by simp only[AOp.run,e];rfl) h
 ·obtain ⟨hv, u, hu, e⟩ := hx
  exact .int hm ht hB (fun _ _=>by simp only[AOp.run,e];rfl) h
 grind
theorem does_capF {x:Opd} (h:run2 E wk ctx s2 row dst nx (.capF x) K=some r):Does ρ B B' s2 s (.capF x) row dst p K r:=by
 obtain⟨c,hx,h⟩:=cellK_some h
 have hx:=ev2_ok hsl hx
 split at h
 ·have e : x.ev s.slots = .own [] .full := hx
  exact .int hm ht hB (fun _ _=>by simp only[AOp.run,e,List.length_nil];rfl) h
 ·have e : x.ev s.slots = .own (encL _ _) .full := hx
  exact .int hm ht hB (fun _ _=>by simp only[AOp.run,e,encL_length];rfl) h
 grind
theorem does_lenS {x:Opd} (h:run2 E wk ctx s2 row dst nx (.lenS x) K=some r):Does ρ B B' s2 s (.lenS x) row dst p K r:=by
 simp[run2] at h
 split at h
 ·rename_i b hx
  have e:x.ev s.slots=_:=ev2_ok hsl hx
  exact .int hm ht hB (fun _ _=>by simp only[AOp.run,e,ba_size];rfl) h
 grind
omit hsl in
theorem does_lenC {n:Nat} (h:run2 E wk ctx s2 row dst nx (.lenC n) K=some r):Does ρ B B' s2 s (.lenC n) row dst p K r:=by
 exact .int hm ht hB (fun _ _=>rfl) h
theorem does_sliceB {n sz:Nat} {x:Opd} (h:run2 E wk ctx s2 row dst nx (.sliceB n sz x) K=some r):Does ρ B B' s2 s (.sliceB n sz x) row dst p K r:=by
 obtain⟨c,hc,h⟩:=cellK_some h
 have hc:=ev2_ok hsl hc
 split at h
 ·rename_i lv sl ver i off _
  split at h
  ·rename_i hi
   obtain⟨hv,u,hu,e⟩:=hc
   refine .pure (a:=.bref lv sl u off n sz) hm ht hB (fun _ _=>?_) (show RV ρ B s2.mem (.c (.bref lv sl ver off n sz)) (.bref lv sl u off n sz) from⟨hv,u,hu,rfl⟩) h
   simp[AOp.run,e,hi]
  grind
 grind
theorem does_mini {x y:Opd} (h:run2 E wk ctx s2 row dst nx (.mini x y) K=some r):Does ρ B B' s2 s (.mini x y) row dst p K r:=by
 simp[run2] at h
 split at h
 ·rename_i k a k' b hx hy
  split at h
  ·subst_vars
   have e1:=intOf_ok (ev2_ok hsl hx)
   have e2:=intOf_ok (ev2_ok hsl hy)
   exact .int hm ht hB (fun _ _=>by simp only[AOp.run,e1,e2,if_true,scA]) h
  grind
 grind
theorem does_maxi {x y:Opd} (h:run2 E wk ctx s2 row dst nx (.maxi x y) K=some r):Does ρ B B' s2 s (.maxi x y) row dst p K r:=by
 simp[run2] at h
 split at h
 ·rename_i k a k' b hx hy
  split at h
  ·subst_vars
   have e1:=intOf_ok (ev2_ok hsl hx)
   have e2:=intOf_ok (ev2_ok hsl hy)
   exact .int hm ht hB (fun _ _=>by simp only[AOp.run,e1,e2,if_true,scA]) h
  grind
 grind
omit hm ht hB hsl in
theorem cellList_ok {m:List (Tr E2)} : ∀ {vs:List V2} {aSz:List AV} {cs:List Cell},cellList vs=some cs→All2 (RV ρ B m) vs aSz→All2 (RC ρ B m) cs aSz∧aSz.all isCell0=true
 |[],[],cs,h,_=>by cases h;exact⟨trivial,rfl⟩
 | v :: vs, a :: aSz, cs, h, hv => by
  cases v with
  |c x=>
   obtain⟨cs',h1,rfl⟩:=opt_map h
   obtain⟨g1,g2⟩:=cellList_ok h1 hv.2
   exact⟨⟨hv.1,g1⟩,by simp[(RC.cell hv.1).2.1,g2]⟩
  |_=>cases h
 |[],_ :: _,_,_,h=>h.elim
 |_ :: _,[],_,_,h=>h.elim
theorem does_makeFunc {f:Nat} {cap:List Opd} (h:run2 E wk ctx s2 row dst nx (.makeFunc f cap) K=some r):Does ρ B B' s2 s (.makeFunc f cap) row dst p K r:=by
 obtain⟨cs,hc,h⟩:=optK_some h
 obtain⟨vs,h1,h2⟩:=opt_bind hc
 obtain⟨g1,g2⟩:=cellList_ok h2 (evs2_ok hsl h1)
 exact .pure hm ht hB (fun _ _=>by simp only[AOp.run,g2,if_true]) (v:=.clo f cs) ⟨_,rfl,g1⟩ h
end
end Go.Sym
set_option linter.unusedSectionVars false
namespace Go.Sym
open Go Go.Eng
section
variable {α : Type} {ρ : VMap} {B B':Nat} {s2:S2} {s:St} {op:AOp} {row dst p nx:Nat} {K:Res2→Option α} {r : α} {E:SEnv} {wk:Wk} {ctx:Nat}
theorem updM_append:∀ (a b:List (Nat×Nat×Option E2)) (m:List (Tr E2)),updM m (a++b)=updM (updM m a) b
 |[],_,_=>rfl
 |(lv,sl,e) :: r,b,m=>by simp[List.cons_append,updM,updM_append r b]
theorem rowOf_mset_none {m:List (Tr E2)} {lv sl lv' sl' ver:Nat} {r:SL} (h:rowOf (mset m lv sl none) lv' sl' ver=some r):rowOf m lv' sl' ver=some r:=by
 have:=rowOf_some h
 rw[mget_mset] at this<;>simp_all[mget,mset,rowOf]
theorem rowOf_frees:∀ {ks:List (Nat×Nat)} {m:List (Tr E2)} {lv sl ver:Nat} {r:SL},rowOf (updM m (frees2 ks)) lv sl ver=some r→rowOf m lv sl ver=some r
 |[],_,_,_,_,_,h=>h
 |(a,b) :: ks,m,_,_,_,_,h=>rowOf_mset_none (rowOf_frees (ks:=ks) (m:=mset m a b none) h)
theorem stab_frees {m:List (Tr E2)} {ks:List (Nat×Nat)} : Stab B m (updM m (frees2 ks)):=fun _ _ _ r _ h=>⟨r,rowOf_frees h,rfl⟩
def EntFit (B:Nat) (m:List (Tr E2)) (lv sl:Nat):E2→Prop
 |.box _ _=>True
 |.row ver _ l=>B≤ver∨∃ r,rowOf m lv sl ver=some r∧r.l.length=l.length
 |.set _ _=>True
theorem stab_new {m:List (Tr E2)} {ks:List (Nat×Nat)} {lv sl:Nat} {e:E2} (h:EntFit B m lv sl e):Stab B m (updM m (frees2 ks++[(lv,sl,some e)])):=by
 intro lv' sl' ver r' hv hr
 rw[updM_append] at hr
 simp[updM] at hr
 have:=rowOf_some hr
 rw[mget_mset] at this
 split at this
 ·simp_all
  rcases h with h|⟨r,h1,h2⟩<;>grind
 ·exact⟨r',rowOf_frees (rowOf_iff.2 this),rfl⟩
theorem updR_frees {mf:List (Tr E2)} : ∀ {m:List (Tr Ent)} {ks:List (Nat×Nat)},All2 (UpdR ρ B mf) (frees2 ks) (frees m ks)
 |_,[]=>trivial
 |m,k :: ks=>⟨⟨rfl,rfl,fun _ h=>by cases h⟩,updR_frees (m:=m) (ks:=ks)⟩
theorem updR_one {mf:List (Tr E2)} {lv sl:Nat} {e2:E2} {e:Ent} (h:RE ρ B mf e2 e):All2 (UpdR ρ B mf) [(lv,sl,some e2)] [(lv,sl,some e)]:=
 ⟨⟨rfl,rfl,fun x hx=>by simp_all⟩,trivial⟩
theorem updR_keys {mf:List (Tr E2)} : ∀ {us2:List (Nat×Nat×Option E2)} {us:List (Nat×Nat×Option Ent)},All2 (UpdR ρ B mf) us2 us→KeysR ρ (us2.map fun u=>keyE u.1 u.2.1) (us.map fun u=>keyE u.1 u.2.1)
 |[],[],_=>KeysR.nil
 |(a,b,c) :: r2,(a',b',c') :: r,h=>by
  obtain⟨⟨h1,h2,_⟩,h4⟩:=h
  subst h1 h2
  exact KeysR.consE _ _ (updR_keys h4)
 |[],_ :: _,h=>h.elim
 |_ :: _,[],h=>h.elim
theorem KeysR.consT {a b:List (Nat×Nat×Nat)} {v u:Nat} (hu : ρ v=some u) (h:KeysR ρ a b):KeysR ρ (keyT v :: a) (keyT u :: b):=by
 intro x hx
 rcases List.mem_cons.1 hx with rfl|hx
 ·simp_all[KeysR,VMap,KR,keyT]
 ·obtain⟨y,h1,h2⟩:=h x hx<;>grind
theorem KeysR.skip {a b:List (Nat×Nat×Nat)} {k:Nat×Nat×Nat} (h:KeysR ρ a b):KeysR ρ (k :: a) b:=fun x hx=>by
 obtain⟨y,h1,h2⟩:=h x hx<;>grind
theorem EffOK.of_mem (hm:MR ρ B s2.mem s.mem) (ht:TR ρ B s2.tips s.tips) (hB:B≤B') {us2:List (Nat×Nat×Option E2)} {us:List (Nat×Nat×Option Ent)} {v:V2} {a:AV} {rd2 rd:List (Nat×Nat×Nat)}
  (hst:Stab B s2.mem (updM s2.mem us2)) (hu:All2 (UpdR ρ B' (updM s2.mem us2)) us2 us) (hv:RV ρ B' (updM s2.mem us2) v a) (hr:KeysR ρ rd2 rd) :
  EffOK ρ B B' s2 s { val:=v,upd:=us2,tip:=[],rd:=rd2 } { val:=a,upd:=us,tip:=[],rd:=rd }:=
 ⟨hv, hm.upd hB hst hu, ht.up hB, hst, hr, by
  exact (updR_keys hu).append KeysR.nil⟩
theorem undef_rv {m:List (Tr E2)} : RV ρ B m (.tup []) undefA:=⟨[],rfl,trivial⟩
variable (hm:MR ρ B s2.mem s.mem) (ht:TR ρ B s2.tips s.tips) (hsl:SlR ρ B s2.mem s2.slots s.slots) (hB:B≤nx) (hnx : ρ nx=some p)
include hm ht hB hnx
theorem does_box1 {lq d:Nat} {cs:List Cell} {aSz:List AV} (hc:All2 (RC ρ B s2.mem) cs aSz)
  (hrun:∀ call sh,op.run call sh s row dst p=some (.eff { val:=.ptr lq d p 0 0,upd:=[(lq,d,some (.box p aSz))],tip:=[],rd:=[] }))
  (h:K (.eff { val:=.c (.ptr lq d nx 0 0),upd:=[(lq,d,some (.box nx cs))],tip:=[],rd:=[] })=some r):Does ρ B (nx+1) s2 s op row dst p K r:=by
 have hst:Stab B s2.mem (updM s2.mem [(lq,d,some (.box nx cs))]):=stab_new (ks:=[]) (e:=.box nx cs) trivial
 refine⟨_,_,hrun,.of_mem hm ht (by omega) hst (updR_one ⟨by omega,p,aSz,hnx,rfl,hc.mono fun _ _=>RC.move hst (by omega) fun _ _=>rfl⟩) (v:=.c (.ptr lq d nx 0 0)) ⟨by omega,p,hnx,rfl⟩ KeysR.nil,h⟩
theorem does_alloc {z:List AV} (h:run2 E wk ctx s2 row dst nx (.alloc z) K=some r):Does ρ B (nx+1) s2 s (.alloc z) row dst p K r:=by
 obtain⟨cs,hc,h⟩:=optK_some h
 rw[hm.len] at h
 exact does_box1 hm ht hB hnx (cstCs_ok hc) (fun _ _=>rfl) h
include hsl in
theorem does_box {x:Opd} (h:run2 E wk ctx s2 row dst nx (.box x) K=some r):Does ρ B (nx+1) s2 s (.box x) row dst p K r:=by
 obtain⟨cs,hc,h⟩:=optK_some h
 obtain⟨v,hv,h1⟩:=opt_bind hc
 obtain⟨aSz,g1,g2⟩:=cells_ok h1 (ev2_ok hsl hv)
 rw[hm.len] at h
 split at h
 ·rename_i hb
  exact does_box1 hm ht hB hnx g2 (fun _ _=>by simp only[AOp.run,hb,g1,Option.map_some]) h
 ·rename_i hb
  split at h
  ·cases h
  rename_i hb'
  exact does_box1 hm ht hB hnx g2 (fun _ _=>by simp only[AOp.run,hb,hb',g1,Option.map_some]) h
omit hnx hB ht in
theorem loadK_ok {sz:Nat} {pc:Cell} {a:AV} {K:List Cell→Option α} (h:loadK s2.mem sz pc K=some r) (hp:RC ρ B s2.mem pc a):∃ cs aSz,loadA s.mem sz a=some aSz∧All2 (RC ρ B s2.mem) cs aSz∧K cs=some r:=by
 unfold loadK at h
 split at h
 ·rename_i lv sl ver i off
  obtain⟨hv,u,hu,rfl⟩:=hp
  split at h
  ·rename_i v cs he
   split at h
   ·rename_i hb
    simp only[Bool.and_eq_true] at hb
    obtain⟨⟨hv1,hi⟩,hl⟩:=hb
    have hv1:=Nat.eq_of_beq_eq_true hv1
    have hi:=Nat.eq_of_beq_eq_true hi
    obtain⟨e,g1,_,u',aSz,g2,rfl,g3⟩:=hm.ents _ _ _ he
    simp_all
    refine⟨_,(aSz.drop off).take sz,?_,(g3.drop off).take sz,h⟩
    simp only[loadA,g1,beq_self]
    rw[if_pos (by rw[←g3.length];exact hl)]
   grind
  ·rename_i v t l he
   split at h
   ·rename_i hb
    simp only[Bool.and_eq_true] at hb
    obtain⟨hv1,hl⟩:=hb
    have hv1:=Nat.eq_of_beq_eq_true hv1
    obtain⟨x,hx,h⟩:=bind_some h
    obtain⟨e,g1,_,u',g2,rfl⟩:=hm.ents _ _ _ he
    simp_all
    refine⟨_,(((encs t x).map .d).drop off).take sz,?_,((cellsT_ok t x).drop off).take sz,h⟩
    have:(encL t l)[i]?=some (encs t x):=by rw[encL_get,hx];rfl
    simp only[loadA,g1,beq_self,this]
    rw[if_pos (by rw[encs_length];exact hl)]<;>simp_all
   grind
  ·cases h
  grind
 ·rename_i t x off
  split at h
  ·rename_i hl
   have hl:=Nat.le_of_ble_eq_true hl
   have e:a=_:=hp
   refine⟨_,(((encs t x).map .d).drop off).take sz,?_,((cellsT_ok t x).drop off).take sz,h⟩
   rw[e]
   simp only[loadA]
   rw[if_pos (by rw[encs_length];exact hl)]<;>simp_all
  grind
 grind
omit hnx in
include hsl in
theorem does_load {sz:Nat} {agg:Bool} {x:Opd} (h:run2 E wk ctx s2 row dst nx (.load sz agg x) K=some r):Does ρ B (nx+1) s2 s (.load sz agg x) row dst p K r:=by
 obtain⟨pc,hx,h⟩:=cellK_some h
 have hx:=ev2_ok hsl hx
 obtain⟨cs,aSz,g1,g2,h⟩:=loadK_ok hm h hx
 obtain⟨v,hv,h⟩:=optK_some h
 obtain⟨a,g3,g4⟩:=wrap2_ok hv g2
 exact⟨_,_,fun _ _=>by simp only[AOp.run,g1,g3,Option.bind_some,Option.map_some],.of_val hm ht (by omega) g4 (keyC_ok hx),h⟩
omit hm ht hB hnx in
theorem hasKey_false {ks:List (Nat×Nat)} {lv sl:Nat} (h:hasKey ks lv sl=false):¬(lv,sl)∈ks:=by
 intro hk
 have:hasKey ks lv sl=true:=by
  simp_all[hasKey]
 grind
omit hm ht hB hnx in
theorem cellDs_cellsT:∀ (t:Ty) (x:t.den),cellDs (cellsT t x)=some (encs t x)
 |.val,v=>by
  cases v
  simp[cellsT,cellDs,cellD,encs,encV,Val.kind,Val.int,Val.text,Val.list,Val.cut,encL,encVs_map]
 |.int _,_=>rfl
 |.bool,_=>rfl
 |.str,_=>rfl
 |.sl _,_=>rfl
 |.unit,_=>rfl
 |.prod a b,x=>cellDs_append (cellDs_cellsT a x.1) (cellDs_cellsT b x.2)
 |.sum _ _,_=>rfl
omit hm ht hB hnx in
theorem cellDs_length:∀ {cs:List Cell} {ds:List D},cellDs cs=some ds→ds.length=cs.length
 |[],ds,h=>by cases h;rfl
 |c :: r,ds,h=>by
  obtain⟨x,xs,h1,h2,rfl⟩:=cellDs_cons h
  simp[cellDs_length h2]
omit hm ht hB hnx in
theorem cellDs_take:∀ {cs:List Cell} {ds:List D} (n:Nat),cellDs cs=some ds→cellDs (cs.take n)=some (ds.take n)
 |_,_,0,_=>by simp[cellDs]
 |[],ds,n+1,h=>by cases h;rfl
 |c :: r,ds,n+1,h=>by
  obtain⟨x,xs,h1,h2,rfl⟩:=cellDs_cons h
  simp[List.take_succ_cons,cellDs,h1,cellDs_take n h2]
omit hm ht hB hnx in
theorem cellDs_drop:∀ {cs:List Cell} {ds:List D} (n:Nat),cellDs cs=some ds→cellDs (cs.drop n)=some (ds.drop n)
 |_,_,0,h=>by grind
 |[],ds,n+1,h=>by cases h;rfl
 |c :: r,ds,n+1,h=>by
  obtain⟨x,xs,h1,h2,rfl⟩:=cellDs_cons h
  simpa using cellDs_drop n h2
omit hm ht hB hnx in
theorem cellDs_splice {cs new:List Cell} {ds ds':List D} (h:cellDs cs=some ds) (h':cellDs new=some ds') (off:Nat):cellDs (Eng.splice cs off new)=some (Eng.splice ds off ds'):=by
 unfold Eng.splice
 rw[cellDs_length h']
 exact cellDs_append (cellDs_append (cellDs_take off h) h') (cellDs_drop _ h)
omit hnx in
theorem storeK_ok {sz:Nat} {pc:Cell} {new:List Cell} {a v:AV} {aSz:List AV} (h:storeK s2.mem sz pc new K=some r) (hp:RC ρ B s2.mem pc a) (hv:cellsOf v=some aSz) (hn:All2 (RC ρ B s2.mem) new aSz) :
  ∃ E e,storeA s.mem sz a v=some e∧EffOK ρ B (nx+1) s2 s E e∧K (.eff E)=some r:=by
 unfold storeK at h
 split at h
 ·rename_i lv sl ver i off hz
  have hz:=Nat.eq_of_beq_eq_true hz
  rw[hn.length] at hz
  obtain⟨hver,u,hu,rfl⟩:=hp
  split at h
  ·rename_i vv cs he
   split at h
   ·rename_i hb
    simp only[Bool.and_eq_true] at hb
    obtain⟨⟨hv1,hi⟩,hl⟩:=hb
    have hv1:=Nat.eq_of_beq_eq_true hv1
    have hi:=Nat.eq_of_beq_eq_true hi
    have hl:=Nat.le_of_ble_eq_true hl
    subst hv1 hi
    obtain⟨e,g1,_,u',bs,g2,rfl,g3⟩:=hm.ents _ _ _ he
    rw[hu] at g2;cases g2
    have hst:Stab B s2.mem (updM s2.mem [(lv,sl,some (.box vv (Eng.splice cs off new)))]):=stab_new (ks:=[]) (e:=.box _ _) trivial
    refine⟨_,_,?_,.of_mem hm ht (B':=nx+1) (by omega) hst (updR_one (e:=.box u (Eng.splice bs off aSz)) ⟨by omega,u,_,hu,rfl,(splice_ok g3 hn off).mono fun _ _=>RC.move hst (by omega) fun _ _=>rfl⟩) undef_rv (KeysR.consE lv sl KeysR.nil),h⟩
    simp only[storeA,hv,g1,beq_self]
    rw[if_pos hz,if_pos (by rw[←g3.length];exact hl)]
   grind
  ·rename_i vv t l he
   split at h
   ·rename_i new' ks hb hf
    simp only[Bool.and_eq_true] at hb
    obtain⟨hv1,hl⟩:=hb
    have hv1:=Nat.eq_of_beq_eq_true hv1
    have hl:=Nat.le_of_ble_eq_true hl
    subst hv1
    split at h
    ·cases h
    ·rename_i hk
     obtain⟨x,hx,h⟩:=bind_some h
     obtain⟨y,hy,h⟩:=optK_some h
     obtain⟨e,g1,_,u',g2,rfl⟩:=hm.ents _ _ _ he
     rw[hu] at g2;cases g2
     obtain⟨ds,g3,g4⟩:=frz_ok hm hf hn
     have hy:=packE_ok hy (cellDs_splice (cellDs_cellsT t x) g4 off)
     have hrow:rowOf s2.mem lv sl vv=some ⟨t,l⟩:=rowOf_iff.2 he
     have hst:Stab B s2.mem (updM s2.mem (frees2 ks++[(lv,sl,some (.row vv t (l.set i y)))])):=stab_new (.inr ⟨_,hrow,by simp⟩)
     refine⟨_,_,?_,.of_mem hm ht (B':=nx+1) (by omega) hst ((updR_frees (m:=s.mem)).append (updR_one (e:=.row u (encL t (l.set i y))) ⟨by omega,u,hu,rfl⟩)) undef_rv (KeysR.consE lv sl (KeysR.keysE ks)),h⟩
     have hg:(encL t l)[i]?=some (encs t x):=by rw[encL_get,hx];rfl
     simp only[storeA,hv,g1,beq_self,hg,g3]
     rw[if_pos hz,if_pos ⟨by rw[encs_length];exact hl,hasKey_false hk⟩,hy]
     simp[encL,List.map_set]
   grind
  ·cases h
  grind
 grind
omit hnx in
include hsl in
theorem does_store {sz:Nat} {x v:Opd} (h:run2 E wk ctx s2 row dst nx (.store sz x v) K=some r):Does ρ B (nx+1) s2 s (.store sz x v) row dst p K r:=by
 obtain⟨pc,hx,h⟩:=cellK_some h
 obtain⟨new,hn,h⟩:=optK_some h
 obtain⟨w,hw,h1⟩:=opt_bind hn
 obtain⟨aSz,g1,g2⟩:=cells_ok h1 (ev2_ok hsl hw)
 obtain⟨E',e,h2,h3,h4⟩:=storeK_ok hm ht hB h (ev2_ok hsl hx) g1 g2
 exact⟨E',e,fun _ _=>by simp only[AOp.run,h2,Option.map_some],h3,h4⟩
end
end Go.Sym
set_option linter.unusedSectionVars false
namespace Go.Sym
open Go Go.Eng
section
variable {α : Type} {ρ : VMap} {B B':Nat} {s2:S2} {s:St} {op:AOp} {row dst p nx:Nat} {K:Res2→Option α} {r : α} {E:SEnv} {wk:Wk} {ctx:Nat}
theorem TR.fresh {t2 t:Tr Unit} (h:TR ρ B t2 t) (hB:B≤nx) (hnx : ρ nx=some p):TR ρ (nx+1) (applyTip t2 [(nx,true)]) (applyTip t [(p,true)]):=by
 intro v hv
 simp[applyTip,if_true] at hv ⊢
 rw[Tr.get_set] at hv
 split at hv
 ·simp_all
  rw[Tr.get_set,if_pos rfl]
 ·obtain ⟨h1, h2⟩ := h v hv
  refine⟨by omega,fun u hu=>?_⟩
  rw[Tr.get_set]<;>grind
theorem TR.drop2 {t2 t:Tr Unit} (h:TR ρ B t2 t) (v:Nat):TR ρ B (t2.set v none) t:=by
 intro v' hv
 rw[Tr.get_set] at hv
 split at hv
 ·cases hv
 ·exact h v' hv
theorem TR.drop {t2 t:Tr Unit} (h:TR ρ B t2 t) (hinj:∀ v v' u,ρ v=some u→ρ v'=some u→v=v') {v u:Nat} (hu : ρ v=some u):TR ρ B (t2.set v none) (t.set u none):=by
 intro v' hv
 rw[Tr.get_set] at hv
 split at hv
 ·cases hv
 ·refine ⟨(h v' hv).1, fun u' hu' => ?_⟩
  rw[Tr.get_set]
  split
  ·grind
  ·exact (h v' hv).2 u' hu'
theorem cast_enc {a t:Ty} {l:List a.den} {l':List t.den} (h:castL a t l=some l'):encL a l=encL t l'∧l.length=l'.length:=by
 obtain⟨e,he⟩:=castL_eq h<;>grind
theorem room_true {n b:Nat} (h:room n b=true):n≤maxLenA∧n*b≤roomA:=by simpa[room] using h
theorem newsK_els {m:List (Tr E2)} {mm:List (Tr Ent)} (hm:MR ρ B m mm) {x:Cell} {a:AV} {e:Option Ty} {K:SL→Option α} (h:newsK m x e K=some r) (hx:RC ρ B m x a) (hne:∀ b,x≠.str b):∃ els,elsOf mm a=some els:=by
 unfold newsK at h
 split at h
 ·exact⟨_,(els_sl hx).1⟩
 ·exact⟨_,(els_nil hx).1⟩
 ·obtain ⟨r', hr, h⟩ := optK_some h
  exact⟨_,els_ref hm hx hr⟩
 ·obtain ⟨r', hr, h⟩ := optK_some h
  have q:=chk_some h
  obtain⟨hl,h⟩:=q
  exact⟨_,els_refp hm hx hr (of_decide_eq_true hl)⟩
 ·grind
 grind
variable (hm:MR ρ B s2.mem s.mem) (ht:TR ρ B s2.tips s.tips) (hsl:SlR ρ B s2.mem s2.slots s.slots) (hB:B≤nx) (hnx : ρ nx=some p) (hinj:∀ v v' u,ρ v=some u→ρ v'=some u→v=v')
include hm ht hB hnx
omit ht in
theorem EffOK.of_tip {t:Ty} {l:List t.den} {els:List (List D)} {rd2 rd:List (Nat×Nat×Nat)} {tp2 tp:List (Nat×Bool)} (he:els=encL t l) (hr:KeysR ρ rd2 rd) (htp:TR ρ (nx+1) (applyTip s2.tips tp2) (applyTip s.tips tp)) (hw:KeysR ρ (tp2.map fun u=>keyT u.1) (tp.map fun u=>keyT u.1)) :
  EffOK ρ B (nx+1) s2 s { val:=.c (.sl t l (.app nx)),upd:=[],tip:=tp2,rd:=rd2 } { val:=.own els (.tip p t.size),upd:=[],tip:=tp,rd:=rd }:=by
 subst he
 exact⟨⟨by omega,.inr ⟨p,hnx,rfl⟩⟩,hm.mono (by omega),htp,Stab.refl _ _,hr,by simpa[Eff2.wr,Eff.wr] using hw⟩
theorem EffOK.of_row {t:Ty} {l:List t.den} {els:List (List D)} {n lv sl:Nat} {ks:List (Nat×Nat)} {rd2 rd:List (Nat×Nat×Nat)} (he:els=encL t l) (hn:n=l.length) (hr:KeysR ρ rd2 rd) :
  EffOK ρ B (nx+1) s2 s { val:=.c (.ref lv sl nx t),upd:=frees2 ks++[(lv,sl,some (.row nx t l))],tip:=[],rd:=rd2 } { val:=.ref lv sl p 0 n t.size,upd:=frees s.mem ks++[(lv,sl,some (.row p els))],tip:=[],rd:=rd }:=by
 subst he hn
 refine .of_mem hm ht (by omega) (stab_new (.inl hB)) (updR_frees.append (updR_one ⟨by omega,p,hnx,rfl⟩)) ⟨by omega,p,l.length,hnx,rfl,fun r' hr'=>?_⟩ hr
 rw[updM_append] at hr'
 simp[updM] at hr'
 have:=rowOf_some hr'
 rw[mget_mset] at this
 split at this
 ·grind
 ·have h1 := rowOf_frees (rowOf_iff.2 this)
  obtain⟨e,_,hlt,_⟩:=hm.ents _ _ _ (rowOf_some h1)<;>omega
include hinj in
theorem appK_ok {rowb:Bool} {lv sl sz bytes:Nat} {x y:Cell} {a b:AV} {e:Option Ty} (h:appK s2 rowb lv sl nx sz bytes x y e K=some r) (hx:RC ρ B s2.mem x a) (hy:RC ρ B s2.mem y b) :
  ∃ E e,appendA s rowb lv sl p sz bytes a b=some e∧EffOK ρ B (nx+1) s2 s E e∧K (.eff E)=some r:=by
 unfold appK at h
 have hky:=keyC_ok hy
 split at h
 ·obtain ⟨n, hn, h⟩ := newsK_ok hm h hy
  split at h
  ·rename_i hz
   have hz:=Nat.eq_of_beq_eq_true hz
   have q:=chk_some h
   obtain⟨hr,h⟩:=q
   have hr:=room_true hr
   cases hx
   split at h
   ·refine ⟨_, _, ?_, .of_tip hm hB hnx (l := n.l) (els := [] ++ encL n.t n.l) rfl hky (ht.fresh hB hnx) (KeysR.consT hnx KeysR.nil), h⟩
    simp only[appendA,←hz,hn,encL_all,if_true,List.all_nil,List.length_nil,Nat.zero_add,encL_length]
    rw[if_pos ⟨trivial,hr.1,hr.2⟩]
   ·refine ⟨_, _, ?_, .of_row hm ht hB hnx (ks := []) (els := [] ++ encL n.t n.l) rfl rfl hky, h⟩
    simp only[appendA,←hz,hn,encL_all,if_true,List.all_nil,List.length_nil,Nat.zero_add,encL_length]
    rw[if_pos ⟨trivial,hr.1,hr.2⟩]
    simp[frees]
  ·cases h
 ·rename_i t l
  have q:=newsK_ok hm h hy
  obtain⟨n,hn,h⟩:=q
  split at h
  ·rename_i news hz hc
   have hz:=Nat.eq_of_beq_eq_true hz
   obtain⟨hc,_⟩:=cast_enc hc
   rw[hc] at hn
   have q:=chk_some h
   obtain⟨hr,h⟩:=q
   have hr:=room_true hr
   cases hx
   split at h
   ·refine ⟨_, _, ?_, .of_tip hm hB hnx (l := l ++ news) (els := encL t l ++ encL t news) (encL_append ..).symm hky (ht.fresh hB hnx) (KeysR.consT hnx KeysR.nil), h⟩
    simp only[appendA,←hz,hn,encL_all,if_true,encL_length]
    rw[if_pos ⟨trivial,hr.1,hr.2⟩]
   ·obtain ⟨hne, h⟩ := chk_some h
    refine⟨_,_,?_,.of_row hm ht hB hnx (ks:=[]) (l:=l++news) (n:=l.length+news.length) (els:=encL t l++encL t news) (encL_append ..).symm (by simp) hky,h⟩
    simp only[appendA,←hz,hn,encL_all,if_true,encL_length]
    rw[if_pos ⟨trivial,hr.1,hr.2⟩,if_neg (by
     intro hc
     have h1:l.isEmpty=false:=by simpa[encL] using hc.1
     have h2:news.isEmpty=true:=by simpa[encL] using hc.2
     rw[h1,h2] at hne
     cases hne)]
    simp[frees]
  ·cases h
 ·rename_i t l v
  have q:=newsK_ok hm h hy
  obtain⟨n,hn,h⟩:=q
  cases hz:Nat.beq t.size sz with
  |false=>simp[hz] at h
  |true=>
  cases hc:castL n.t t n.l with
  |none=>simp[hz,hc] at h
  |some news=>
  cases rowb with
  |true=>simp[hz,hc] at h
  |false=>
  cases htip:s2.tips.get? v with
  |none=>simp[hz,hc,htip] at h
  |some un=>
  simp[hz,hc,htip] at h
  ·have hz := Nat.eq_of_beq_eq_true hz
   obtain⟨hc,_⟩:=cast_enc hc
   rw[hc] at hn
   have q:=chk_some h
   obtain⟨hr,h⟩:=q
   have hr:=room_true hr
   rcases hx with⟨hv,⟨hu,rfl⟩|⟨u,hu,rfl⟩⟩
   ·refine ⟨_, _, ?_, .of_tip hm hB hnx (l := l ++ news) (els := encL t l ++ encL t news) (tp2 := [(v, false), (nx, true)]) (tp := [(p, true)]) (encL_append ..).symm hky.skip (TR.fresh (ht.drop2 v) hB hnx) (KeysR.skip (KeysR.consT hnx KeysR.nil)), h⟩
    simp only[appendA,←hz,hn,encL_all,if_true,encL_length]
    rw[if_pos ⟨trivial,hr.1,hr.2⟩]
   ·refine ⟨_, _, ?_, .of_tip hm hB hnx (l := l ++ news) (els := encL t l ++ encL t news) (tp2 := [(v, false), (nx, true)]) (tp := [(u, false), (p, true)]) (encL_append ..).symm (KeysR.consT hu hky) (TR.fresh (ht.drop hinj hu) hB hnx) (KeysR.consT hu (KeysR.consT hnx KeysR.nil)), h⟩
    have:=(ht v htip).2 u hu
    simp only[appendA,←hz,hn,encL_all,if_true,encL_length]
    rw[if_pos ⟨trivial,hr.1,hr.2,by rw[this];rfl⟩]
 ·rename_i lv' sl' ver t
  have q:=optK_some h
  obtain⟨r',hr',h⟩:=q
  have q:=newsK_ok hm h hy
  obtain⟨n,hn,h⟩:=q
  split at h
  ·rename_i l news hz hc1 hc
   have hz:=Nat.eq_of_beq_eq_true hz
   obtain⟨hc,_⟩:=cast_enc hc
   obtain⟨hc1,hc2⟩:=cast_enc hc1
   rw[hc] at hn
   have q:=chk_some h
   obtain⟨hr,h⟩:=q
   have hr:=room_true hr
   obtain⟨hv,u,n',hu,rfl,hn'⟩:=hx
   have hn':=hn' _ hr'
   rw[hc2] at hn'
   subst hn'
   have hrow:=(rowOf_ok hm hr' hu).2
   rw[hc1] at hrow
   refine⟨_,_,?_,.of_row hm ht hB hnx (ks:=[]) (l:=l++news) (n:=l.length+news.length) (els:=encL t l++encL t news) (encL_append ..).symm (by simp) (KeysR.consE lv' sl' hky),h⟩
   simp only[appendA,←hz,hn,encL_all,if_true,hrow,encL_length]
   rw[if_pos ⟨trivial,by omega,hr.1,hr.2⟩]
   simp[frees,List.take_of_length_le,encL_length]
  ·cases h
 ·rename_i lv' sl' ver t off len
  have q:=optK_some h
  obtain⟨r',hr',h⟩:=q
  have q:=newsK_ok hm h hy
  obtain⟨n,hn,h⟩:=q
  split at h
  ·rename_i l news hz hc1 hc
   have hz:=Nat.eq_of_beq_eq_true hz
   obtain⟨hc,_⟩:=cast_enc hc
   obtain⟨hc1,hc2⟩:=cast_enc hc1
   rw[hc] at hn
   have q:=chk_some h
   obtain⟨hr,h⟩:=q
   rw[Bool.and_eq_true] at hr
   have hl:=of_decide_eq_true hr.1
   have hr:=room_true hr.2
   obtain⟨hv,u,hu,rfl,_⟩:=hx
   have hrow:=(rowOf_ok hm hr' hu).2
   rw[hc1] at hrow
   refine⟨_,_,?_,.of_row hm ht hB hnx (ks:=[]) (l:=(l.drop off).take len++news) (n:=len+news.length) (els:=((encL t l).drop off).take len++encL t news) (by simp[encL,List.map_take,List.map_drop]) (by simp;omega) (KeysR.consE lv' sl' hky),h⟩
   simp only[appendA,←hz,hn,encL_all,if_true,hrow,encL_length]
   rw[if_pos ⟨trivial,hl,hr.1,hr.2⟩]
   simp[frees]
  ·cases h
 ·cases h
theorem cutK_ok {sz:Nat} {x:Cell} {a:AV} {lo hi:Option Nat} (h:cutK s2.mem sz nx x lo hi K=some r) (hx:RC ρ B s2.mem x a) (l h':Nat) (hl:l=lo.getD 0) (hh:∀ n,hi=some n→h'=n) :
  ∃ E e,cutA s p sz a l (hi.map fun _=>h')=some e∧EffOK ρ B (nx+1) s2 s E e∧K (.eff E)=some r:=by
 have ehi:hi.map (fun _=>h')=hi:=by cases hi with|none=>rfl|some n=>grind
 rw[ehi]
 subst hl
 unfold cutK at h
 split at h
 ·rename_i lv sl ver t
  have q:=optK_some h
  obtain⟨r',hr',h⟩:=q
  split at h
  ·rename_i l' hz hc1
   have hz:=Nat.eq_of_beq_eq_true hz
   obtain⟨hc1,hc2⟩:=cast_enc hc1
   have q:=chk_some h
   obtain⟨hp,h⟩:=q
   have hp':=partOK_true hp
   obtain⟨hv,u,n',hu,rfl,hn'⟩:=hx
   have hn':=hn' _ hr'
   rw[hc2] at hn'
   subst hn'
   have hrow:=(rowOf_ok hm hr' hu).2
   rw[hc1] at hrow
   have he:=encL_part (t:=t) hp
   rw[encL_length] at he
   refine⟨_,_,?_,.of_row hm ht hB hnx (ks:=[]) (l:=partL l' lo hi) (n:=hi.getD l'.length-lo.getD 0) (els:=((encL t l').drop (lo.getD 0)).take (hi.getD l'.length-lo.getD 0)) he.symm ?_ (KeysR.consE lv sl KeysR.nil),h⟩
   ·simp only [cutA, hrow, ← hz]
    rw[if_pos ⟨trivial,hp'.1,hp'.2,by rw[encL_length];omega⟩]
    simp[frees]
   ·rw [partL_eq hp, List.length_take, List.length_drop]
    omega
  grind
 grind
omit hm ht hB hnx in
theorem RC.isRow {m:List (Tr E2)} {c:Cell} {a:AV} (h:RC ρ B m c a):Eng.isRow a=c.isRow:=by
 cases c with
 |nil f=>
  cases f with
  |false=>rcases h with rfl|⟨_,_,rfl⟩<;>rfl
  |true=>cases h;rfl
 |sl t l o=>
  cases o with
  |d=>rcases h with rfl|⟨_,_,rfl⟩<;>rfl
  |bor=>rcases h with rfl|⟨_,rfl⟩<;>rfl
  |full=>cases h;rfl
  |app v=>rcases h.2 with⟨_,rfl⟩|⟨_,_,rfl⟩<;>rfl
 |ref=>obtain⟨_,_,_,_,rfl,_⟩:=h;rfl
 |refp=>obtain⟨_,_,_,rfl,_⟩:=h;rfl
 |ptr=>obtain⟨_,_,_,rfl⟩:=h;rfl
 |bref=>obtain⟨_,_,_,rfl⟩:=h;rfl
 |mp=>obtain⟨_,_,_,rfl⟩:=h;rfl
 |int=>cases h;rfl
 |bool=>cases h;rfl
 |er=>cases h;rfl
 |str=>cases h;rfl
 |raw=>cases h;rfl
 |dptr=>cases h;rfl
include hsl in
theorem does_slice {sz:Nat} {x:Opd} {lo hi mx:Option Opd} (h:run2 E wk ctx s2 row dst nx (.slice sz x lo hi mx) K=some r):Does ρ B (nx+1) s2 s (.slice sz x lo hi mx) row dst p K r:=by
 have q:=cellK_some h
 obtain⟨c,hx,h⟩:=q
 have q:=boundK_ok hsl h
 obtain⟨l,el,il,h⟩:=q
 have q:=boundK_ok hsl h
 obtain⟨h',eh,ih,h⟩:=q
 have q:=boundK_ok hsl h
 obtain⟨k,ek,ik,h⟩:=q
 have e1:hi.map (fun _=>h'.getD 0)=h'.map fun _=>h'.getD 0:=by cases hi<;>cases h'<;>simp_all
 have e2:mx.map (fun _=>k.getD 0)=k.map fun _=>k.getD 0:=by cases mx<;>cases k<;>simp_all
 have hir:=RC.isRow (ev2_ok hsl hx)
 split at h
 ·rename_i hq
  rw[←hir] at hq
  obtain⟨E',e,g1,g2,g3⟩:=cutK_ok hm ht hB hnx h (ev2_ok hsl hx) (l.getD 0) (h'.getD 0) rfl (fun n e=>by rw[e];rfl)
  exact⟨E',e,fun _ _=>by simp only[AOp.run,el,eh,ek,hq,e1,g1,Option.map_some],g2,g3⟩
 ·rename_i hq
  rw[←hir] at hq
  obtain⟨a',c',g1,g2,g3⟩:=sliceK_ok h (ev2_ok hsl hx) (l.getD 0) (h'.getD 0) (k.getD 0) rfl (fun n e=>by rw[e];rfl) (fun n e=>by rw[e];rfl)
  refine .pure hm ht (by omega) (a:=a') (fun _ _=>?_) (v:=.c c') g2 g3
  simp[AOp.run,el,eh,ek,hq,e1,e2,g1,Option.bind_some]
include hinj hsl in
theorem does_append {sz bytes:Nat} {x y:Opd} (h:run2 E wk ctx s2 row dst nx (.append sz bytes x y) K=some r):Does ρ B (nx+1) s2 s (.append sz bytes x y) row dst p K r:=by
 simp only[run2] at h
 split at h
 ·cases h
 rename_i h11
 have q:=cellK_some h
 obtain⟨a,ha,h⟩:=q
 have q:=cellK_some h
 obtain⟨b,hb,h⟩:=q
 rw[hm.len] at h
 obtain⟨E',e,h1,h2,h3⟩:=appK_ok hm ht hB hnx hinj h (ev2_ok hsl ha) (ev2_ok hsl hb)
 exact⟨E',e,fun _ _=>by simp only[AOp.run,h11,h1,Option.map_some],h2,h3⟩
include hinj hsl in
theorem does_appendZ {sz bytes:Nat} {z:List D} {x n:Opd} (h:run2 E wk ctx s2 row dst nx (.appendZ sz bytes z x n) K=some r):Does ρ B (nx+1) s2 s (.appendZ sz bytes z x n) row dst p K r:=by
 have q:=cellK_some h
 obtain⟨a,ha,h⟩:=q
 have q:=natK_some h
 obtain⟨kl,l',hl,hl0,h⟩:=q
 have q:=optK_some h
 obtain⟨t,_,h⟩:=q
 have q:=optK_some h
 obtain⟨z',hz',h⟩:=q
 obtain⟨zc,hz1,hz2⟩:=opt_bind hz'
 have hze:=packE_ok hz2 (cstDs_ok hz1)
 split at h
 ·rename_i hb
  simp only[Bool.and_eq_true] at hb
  have h2:=Nat.eq_of_beq_eq_true hb.2
  have q:=chk_some h
  obtain⟨hr,h⟩:=q
  have hr:=room_true hr
  rw[hm.len] at h
  have hb:RC ρ B s2.mem (.sl t (List.replicate l'.toNat z') .d) (.d (.sl (List.replicate l'.toNat z))):=.inl (by simp[encL,hze])
  obtain⟨E',e,h3,h4,h5⟩:=appK_ok hm ht hB hnx hinj h (ev2_ok hsl ha) hb
  exact⟨E',e,fun _ _=>by
   simp only[AOp.run,natOf_ok (ev2_ok hsl hl) hl0,Option.bind_some]
   rw[if_pos ⟨h2,hr.1,hr.2⟩,h3,Option.map_some],h4,h5⟩
 grind
include hinj hsl in
theorem does_clone {sz bytes:Nat} {x:Opd} (h:run2 E wk ctx s2 row dst nx (.clone sz bytes x) K=some r):Does ρ B (nx+1) s2 s (.clone sz bytes x) row dst p K r:=by
 simp only[run2] at h
 split at h
 ·cases h
 rename_i h11
 have q:=cellK_some h
 obtain⟨b,hb,h⟩:=q
 have hb:=ev2_ok hsl hb
 split at h
 ·cases h
 ·rename_i hne
  rw[hm.len] at h
  have he:∃ els,elsOf s.mem (x.ev s.slots)=some els:=by
   unfold appK at h
   exact newsK_els hm h hb (fun b' e=>hne b' e)
  obtain⟨els,he⟩:=he
  obtain⟨E',e,h1,h2,h3⟩:=appK_ok hm ht hB hnx hinj h (show RC ρ B s2.mem (.nil true) (.own [] .full) from rfl) hb
  exact⟨E',e,fun _ _=>by simp only[AOp.run,h11,he,h1,Option.map_some],h2,h3⟩
omit hnx hm ht hB in
theorem all2_flat {t:Ty} : ∀ l:List t.den,All2 (RC ρ B s2.mem) (l.flatMap (cellsT t)) (((l.map (encs t)).flatten).map .d)
 |[]=>trivial
 |x :: l=>by
  simp only[List.flatMap_cons,List.map_cons,List.flatten_cons,List.map_append]
  exact (cellsT_ok t x).append (all2_flat l)
omit hnx in
include hsl in
theorem does_copy {sz:Nat} {x y:Opd} (h:run2 E wk ctx s2 row dst nx (.copy sz x y) K=some r):Does ρ B (nx+1) s2 s (.copy sz x y) row dst p K r:=by
 have q:=cellK_some h
 clear h
 obtain⟨a,ha,h⟩:=q
 have q:=cellK_some h
 clear h
 obtain⟨b,hb,h⟩:=q
 have ha:=ev2_ok hsl ha
 have hb:=ev2_ok hsl hb
 have hky:=keyC_ok hb
 split at h
 ·rename_i lv sl ver t _
  have q:=optK_some h
  obtain⟨r',hr',h⟩:=q
  have q:=newsK_ok hm h hb
  obtain⟨n,hn,h⟩:=q
  split at h
  ·rename_i l news hz hc1 hc
   have hz:=Nat.eq_of_beq_eq_true hz
   obtain⟨hc,_⟩:=cast_enc hc
   obtain⟨hc1,hc2⟩:=cast_enc hc1
   rw[hc] at hn
   obtain⟨hv,u,n',hu,ea,hn'⟩:=ha
   have hn':=hn' _ hr'
   rw[hc2] at hn'
   subst hn'
   have hrow:=(rowOf_ok hm hr' hu).2
   rw[hc1] at hrow
   have hst:Stab B s2.mem (updM s2.mem [(lv,sl,some (.row ver t (copyL news l)))]):=stab_new (ks:=[]) (.inr ⟨_,hr',by simp[copyL,hc2];omega⟩)
   refine⟨_,_,fun _ _=>?_,.of_mem hm ht (by omega) hst (updR_one (e:=.row u (encL t (copyL news l))) ⟨by omega,u,hu,rfl⟩) (v:=.c (.int .i64 ((min news.length l.length:Nat):Int))) (a:=intA (min news.length l.length)) (show _=_ from rfl) (KeysR.consE lv sl hky),h⟩
   simp[AOp.run,←hz,ea,hn,hrow,encL_all,encL_length]
   simp[copyL,Eng.splice,encL,List.map_take,List.map_drop]
  grind
 ·rename_i lv sl ver t off len _
  have q:=optK_some h
  obtain⟨r',hr',h⟩:=q
  have q:=newsK_ok hm h hb
  obtain⟨n,hn,h⟩:=q
  split at h
  ·rename_i l news hz hc1 hc
   have hz:=Nat.eq_of_beq_eq_true hz
   obtain⟨hc,_⟩:=cast_enc hc
   obtain⟨hc1,hc2⟩:=cast_enc hc1
   rw[hc] at hn
   have q:=chk_some h
   obtain⟨hl,h⟩:=q
   have hl:=of_decide_eq_true hl
   obtain⟨hv,u,hu,ea⟩:=ha
   have hrow:=(rowOf_ok hm hr' hu).2
   rw[hc1] at hrow
   have hst:Stab B s2.mem (updM s2.mem [(lv,sl,some (.row ver t (l.take off++(news.take (min news.length len)++l.drop (off+(news.take (min news.length len)).length)))))]):=stab_new (ks:=[]) (.inr ⟨_,hr',by simp[hc2];omega⟩)
   refine⟨_,_,fun _ _=>?_,.of_mem hm ht (by omega) hst (updR_one (e:=.row u (encL t (l.take off++(news.take (min news.length len)++l.drop (off+(news.take (min news.length len)).length))))) ⟨by omega,u,hu,rfl⟩) (v:=.c (.int .i64 ((min news.length len:Nat):Int))) (a:=intA (min news.length len)) (show _=_ from rfl) (KeysR.consE lv sl hky),h⟩
   simp only[AOp.run,←hz,ea,hn,hrow,encL_all,encL_length]
   rw[if_pos ⟨trivial,hl,trivial⟩]
   simp[Eng.splice,encL,List.map_take,List.map_drop]
  grind
 ·rename_i lv sl ver off n sz' _
  obtain⟨hver,u,hu,ea⟩:=ha
  split at h
  ·rename_i v cs he
   have q:=newsK_ok hm h hb
   clear h
   obtain⟨nw,hn,h⟩:=q
   split at h
   ·rename_i hq
    simp only[Bool.and_eq_true] at hq
    obtain⟨⟨⟨hv1,hz1⟩,hl⟩,hz⟩:=hq
    have hv1:=Nat.eq_of_beq_eq_true hv1
    have hz1:=Nat.eq_of_beq_eq_true hz1
    have hl:=Nat.le_of_ble_eq_true hl
    have hz:=Nat.eq_of_beq_eq_true hz
    subst hv1 hz1
    obtain⟨e,g1,_,u',bs,g2,rfl,g3⟩:=hm.ents _ _ _ he
    rw[hu] at g2;cases g2
    have hst:Stab B s2.mem (updM s2.mem [(lv,sl,some (.box v (Eng.splice cs off ((nw.l.take (min nw.l.length n)).flatMap (cellsT nw.t)))))]):=stab_new (ks:=[]) (e:=.box _ _) trivial
    have hcells:All2 (RC ρ B s2.mem) ((nw.l.take (min nw.l.length n)).flatMap (cellsT nw.t)) ((((encL nw.t nw.l).take (min (encL nw.t nw.l).length n)).flatten).map .d):=by
     rw[encL_length]
     unfold encL
     rw[←List.map_take]
     exact all2_flat _
    refine⟨_,_,fun _ _=>?_,.of_mem hm ht (B':=nx+1) (by omega) hst (updR_one (e:=.box u (Eng.splice bs off ((((encL nw.t nw.l).take (min (encL nw.t nw.l).length n)).flatten).map .d))) ⟨by omega,u,_,hu,rfl,(splice_ok g3 hcells off).mono fun _ _=>RC.move hst (by omega) fun _ _=>rfl⟩) (v:=.c (.int .i64 ((min nw.l.length n:Nat):Int))) (a:=intA (min nw.l.length n)) (show _=_ from rfl) (KeysR.consE lv sl hky),h⟩
    have hbox:Eng.boxAt s.mem lv sl u=some bs:=by simp[Eng.boxAt,g1,beq_self]
    simp only[AOp.run,ea,hn,hbox]
    rw[if_pos ⟨trivial,by rw[←g3.length];exact hl,by rw[←hz];exact encL_all _ _⟩,encL_length]
   grind
  grind
 grind
include hsl in
theorem does_makeSlice {sz bytes:Nat} {z:List D} {l c:Opd} (h:run2 E wk ctx s2 row dst nx (.makeSlice sz bytes z l c) K=some r):Does ρ B (nx+1) s2 s (.makeSlice sz bytes z l c) row dst p K r:=by
 simp[run2] at h
 have q:=natK_some h
 clear h
 obtain⟨kl,l',hl,hl0,h⟩:=q
 have q:=natK_some h
 clear h
 obtain⟨kc,c',hc,hc0,h⟩:=q
 have q:=optK_some h
 clear h
 obtain⟨t,_,h⟩:=q
 have q:=optK_some h
 clear h
 obtain⟨z',hz',h⟩:=q
 obtain⟨zc,hz1,hz2⟩:=opt_bind hz'
 have hze:=packE_ok hz2 (cstDs_ok hz1)
 split at h
 ·rename_i hb
  simp only[Bool.and_eq_true] at hb
  have h1:=Nat.eq_of_beq_eq_true hb.1
  have h2:=Nat.eq_of_beq_eq_true hb.2
  subst h1
  have q:=chk_some h
  obtain⟨hr,h⟩:=q
  rw[Bool.and_eq_true] at hr
  have hle:=of_decide_eq_true hr.1
  have hr:=room_true hr.2
  rw[hm.len] at h
  refine⟨_,_,fun _ _=>?_,.of_row hm ht hB hnx (ks:=[]) (l:=List.replicate l'.toNat z') (n:=l'.toNat) (els:=List.replicate l'.toNat z) (by simp[encL,hze]) (by simp) KeysR.nil,h⟩
  simp only[AOp.run,natOf_ok (ev2_ok hsl hl) hl0,natOf_ok (ev2_ok hsl hc) hc0]
  rw[if_pos ⟨hle,by rw[Nat.mul_comm];exact hr.2,hr.1,h2⟩]
  simp[frees]
 grind
omit hnx in
include hsl in
theorem does_clear {sz:Nat} {z:List D} {x:Opd} (h:run2 E wk ctx s2 row dst nx (.clear sz z x) K=some r):Does ρ B (nx+1) s2 s (.clear sz z x) row dst p K r:=by
 have q:=cellK_some h
 obtain⟨a,ha,h⟩:=q
 have ha:=ev2_ok hsl ha
 split at h
 ·rename_i lv sl ver t _
  have q:=optK_some h
  obtain⟨r',hr',h⟩:=q
  have q:=optK_some h
  obtain⟨z',hz',h⟩:=q
  obtain⟨zc,hz1,hz2⟩:=opt_bind hz'
  have hze:=packE_ok hz2 (cstDs_ok hz1)
  split at h
  ·rename_i l hb hc1
   simp only[Bool.and_eq_true] at hb
   have h1:=Nat.eq_of_beq_eq_true hb.1
   have h2:=Nat.eq_of_beq_eq_true hb.2
   obtain⟨hc1,hc2⟩:=cast_enc hc1
   obtain⟨hv,u,n',hu,ea,hn'⟩:=ha
   have hn':=hn' _ hr'
   rw[hc2] at hn'
   subst hn'
   have hrow:=(rowOf_ok hm hr' hu).2
   rw[hc1] at hrow
   have hst:Stab B s2.mem (updM s2.mem [(lv,sl,some (.row ver t (List.replicate l.length z')))]):=stab_new (ks:=[]) (.inr ⟨_,hr',by simp[hc2]⟩)
   refine⟨_,_,fun _ _=>?_,.of_mem hm ht (by omega) hst (updR_one (e:=.row u (encL t (List.replicate l.length z'))) ⟨by omega,u,hu,rfl⟩) undef_rv (KeysR.consE lv sl KeysR.nil),h⟩
   simp only[AOp.run,←h1,ea,hrow,encL_length]
   rw[if_pos ⟨trivial,by omega,by rw[h2,h1]⟩]
   simp[Eng.splice,encL,hze]
  grind
 ·rename_i lv sl ver t off len _
  have q:=optK_some h
  obtain⟨r',hr',h⟩:=q
  have q:=optK_some h
  obtain⟨z',hz',h⟩:=q
  obtain⟨zc,hz1,hz2⟩:=opt_bind hz'
  have hze:=packE_ok hz2 (cstDs_ok hz1)
  split at h
  ·rename_i l hb hc1
   simp only[Bool.and_eq_true] at hb
   have h1:=Nat.eq_of_beq_eq_true hb.1
   have h2:=Nat.eq_of_beq_eq_true hb.2
   obtain⟨hc1,hc2⟩:=cast_enc hc1
   have q:=chk_some h
   obtain⟨hd,h⟩:=q
   have hd:=of_decide_eq_true hd
   obtain⟨hv,u,hu,ea,_⟩:=ha
   have hrow:=(rowOf_ok hm hr' hu).2
   rw[hc1] at hrow
   have hst:Stab B s2.mem (updM s2.mem [(lv,sl,some (.row ver t (l.take off++List.replicate len z'++l.drop (off+len))))]):=stab_new (ks:=[]) (.inr ⟨_,hr',by simp[hc2];omega⟩)
   refine⟨_,_,fun _ _=>?_,.of_mem hm ht (by omega) hst (updR_one (e:=.row u (encL t (l.take off++List.replicate len z'++l.drop (off+len)))) ⟨by omega,u,hu,rfl⟩) undef_rv (KeysR.consE lv sl KeysR.nil),h⟩
   simp only[AOp.run,←h1,ea,hrow,encL_length]
   rw[if_pos ⟨trivial,hd,by rw[h2,h1]⟩]
   simp[Eng.splice,encL,hze,List.map_take,List.map_drop]
  grind
 grind
omit hm ht hB hnx in
theorem intsOf_intsL:∀ l:List Int,intsOf (intsL l)=some l
 |[]=>rfl
 |z :: l=>by
  show (intsOf (intsL l)).map (z :: ·)=_
  rw[intsOf_intsL l]
  rfl
omit hm ht hB hnx in
theorem RV.isRow {m:List (Tr E2)} {v:V2} {a:AV} (h:RV ρ B m v a):Eng.isRow a=v.isRow:=by
 cases v with
 |c c=>exact RC.isRow h
 |agg=>obtain⟨_,rfl,_⟩:=h;rfl
 |clo=>obtain⟨_,rfl,_⟩:=h;rfl
 |tup=>obtain⟨_,rfl,_⟩:=h;rfl
omit hm ht hB hnx in
theorem movA_pure {m:List (Tr E2)} {row lv d nvi:Nat} {v:V2} {a:AV} (h:RV ρ B m v a) (h1:∀ f,v≠.c (.nil f)) (h2:∀ t l o,v≠.c (.sl t l o)):movA row lv d nvi a = { val:=a,upd:=[],tip:=[],rd:=[] }:=by
 unfold movA
 split
 ·cases v with
  |c x=>
   cases x with
   |nil f=>grind
   |sl t l o=>grind
   |ref=>obtain⟨_,_,_,_,e,_⟩:=h<;>grind
   |refp=>obtain⟨_,_,_,e,_⟩:=h<;>grind
   |ptr=>obtain⟨_,_,_,e⟩:=h<;>grind
   |bref=>obtain⟨_,_,_,e⟩:=h<;>grind
   |mp=>obtain⟨_,_,_,e⟩:=h<;>grind
   |int=>cases h
   |bool=>cases h
   |er=>cases h
   |str=>cases h
   |raw=>cases h
   |dptr=>cases h
  |agg=>obtain⟨_,e,_⟩:=h<;>grind
  |clo=>obtain⟨_,e,_⟩:=h<;>grind
  |tup=>obtain⟨_,e,_⟩:=h<;>grind
 ·rfl
include hsl in
theorem does_mov {x:Opd} (h:run2 E wk ctx s2 row dst nx (.mov x) K=some r):Does ρ B (nx+1) s2 s (.mov x) row dst p K r:=by
 have q:=optK_some h
 obtain⟨v,hv,h⟩:=q
 have hv:=ev2_ok hsl hv
 have hir:=RV.isRow hv
 split at h
 ·rename_i hq
  rw[←hir] at hq
  split at h
  ·rename_i lv sl ver t _
   have q:=optK_some h
   obtain⟨r',hr',h⟩:=q
   have q:=optK_some h
   obtain⟨l,hl,h⟩:=q
   obtain⟨hc1,hc2⟩:=cast_enc hl
   obtain⟨hver,u,n',hu,ea,hn'⟩:=hv
   have hn':=hn' _ hr'
   rw[hc2] at hn'
   subst hn'
   have hrow:=(rowOf_ok hm hr' hu).2
   rw[hc1] at hrow
   rw[hm.len] at h
   have hst:Stab B s2.mem (updM s2.mem [(lv,sl,none),(lvQ s.mem.length dst,dst,some (.row nx t l))]):=stab_new (ks:=[(lv,sl)]) (e:=.row nx t l) (.inl hB)
   refine⟨_,_,fun _ _=>?_,.of_mem hm ht (B':=nx+1) (us2:=[(lv,sl,none),(lvQ s.mem.length dst,dst,some (.row nx t l))]) (us:=[(lv,sl,none),(lvQ s.mem.length dst,dst,some (.row p (encL t l)))]) (by omega) hst ⟨⟨rfl,rfl,fun _ h=>by cases h⟩,updR_one ⟨Nat.lt_succ_self _,p,hnx,rfl⟩⟩ (v:=.c (.ref (lvQ s.mem.length dst) dst nx t)) (a:=.ref (lvQ s.mem.length dst) dst p 0 l.length t.size) (show RC _ _ _ (.ref (lvQ s.mem.length dst) dst nx t) _ from⟨Nat.lt_succ_self _,p,l.length,hnx,rfl,fun r hr=>?_⟩) (KeysR.consE lv sl KeysR.nil),h⟩
   ·rw [ea] at hq
    simp only[AOp.run,hq,ea,moveA,hrow,Nat.zero_add,encL_length,List.drop_zero]
    rw[show Nat.ble l.length l.length=true from Nat.ble_eq_true_of_le (Nat.le_refl _),←encL_length (t:=t) (l:=l),List.take_length]
    simp[encL_length]
   ·have this := rowOf_some hr
    simp[updM] at this
    rw[mget_mset] at this
    split at this
    ·injection this with this
     injection this with _ h1 h2
     obtain⟨t',l'⟩:=r
     simp only at h1 h2
     subst h1
     cases h2
     rfl
    ·have h1 := rowOf_mset_none (rowOf_iff.2 this)
     obtain⟨e,_,hlt,_⟩:=hm.ents _ _ _ (rowOf_some h1)
     omega
  grind
 rename_i hq
 rw[←hir] at hq
 split at h
 ·rename_i hq4
  refine .pure hm ht (by omega) (fun _ _=>?_) hv h
  simp[AOp.run,hq,movA,hq4]
  rfl
 ·rename_i hq4
  split at h
  ·have e : x.ev s.slots = .own [] .full := hv
   have q:=optK_some h
   obtain⟨t,_,h⟩:=q
   split at h
   ·rename_i hsz
    have hsz:=Nat.eq_of_beq_eq_true hsz
    rw[hm.len] at h
    refine⟨_,_,fun _ _=>?_,.of_row hm ht hB hnx (ks:=[]) (l:=([]:List t.den)) (n:=0) (els:=[]) rfl rfl KeysR.nil,h⟩
    rw[e] at hq
    simp[AOp.run,movA,hq,hq4,e,hsz]
    rfl
   grind
  ·cases h
  ·cases h
  ·rename_i h1 h2 h3
   refine .pure hm ht (by omega) (fun _ _=>?_) hv h
   simp[AOp.run,hq]
   rw[movA_pure hv (fun f hf=>h2 f hf) (fun t l o hf=>h3 t l o hf)]
   rfl
include hsl in
theorem does_compact {x:Opd} (h:run2 E wk ctx s2 row dst nx (.compact x) K=some r):Does ρ B (nx+1) s2 s (.compact x) row dst p K r:=by
 have q:=cellK_some h
 obtain⟨a,ha,h⟩:=q
 have ha:=ev2_ok hsl ha
 split at h
 ·have e : x.ev s.slots = .own [] .full := ha
  refine .pure hm ht (by omega) (a:=.own [] .full) (fun _ _=>?_) (v:=.c (.nil true)) rfl h
  simp[AOp.run,compactA,e,Option.map_some]
  rfl
 ·rename_i lv sl ver t _
  have q:=optK_some h
  obtain⟨r',hr',h⟩:=q
  split at h
  ·rename_i l hb hc1
   have h1:=Nat.eq_of_beq_eq_true hb
   obtain⟨hc1,hc2⟩:=cast_enc hc1
   have q:=chk_some h
   obtain⟨hd,h⟩:=q
   obtain⟨hv,u,n',hu,ea,hn'⟩:=ha
   have hn':=hn' _ hr'
   rw[hc2] at hn'
   subst hn'
   have hrow:=(rowOf_ok hm hr' hu).2
   rw[hc1] at hrow
   refine⟨_,_,fun _ _=>?_,.of_row hm ht hB hnx (ks:=[]) (t:=.int .i64) (l:=compI l) (n:=(compI l).length) (els:=encL (.int .i64) (compI l)) rfl rfl (KeysR.consE lv sl KeysR.nil),h⟩
   have he:encL (.int .i64) l=intsL l:=rfl
   simp only[AOp.run,compactA,ea,hrow,he,intsOf_intsL,Option.bind_some,h1]
   rw[if_pos ⟨trivial,by simp[intsL],trivial,by simpa[intsL] using hd⟩]
   rfl
  grind
 grind
omit hnx in
include hsl in
theorem does_sort {x:Opd} (h:run2 E wk ctx s2 row dst nx (.sort x) K=some r):Does ρ B (nx+1) s2 s (.sort x) row dst p K r:=by
 have q:=cellK_some h
 obtain⟨a,ha,h⟩:=q
 have ha:=ev2_ok hsl ha
 split at h
 ·have e : x.ev s.slots = .own [] .full := ha
  exact⟨_,_,fun _ _=>by simp only[AOp.run,sortA,e,Option.map_some],.of_mem (us2:=[]) (us:=[]) hm ht (by omega) (Stab.refl _ _) trivial undef_rv KeysR.nil,h⟩
 ·rename_i lv sl ver t _
  have q:=optK_some h
  obtain⟨r',hr',h⟩:=q
  split at h
  ·rename_i l hb hc1
   have h1:=Nat.eq_of_beq_eq_true hb
   obtain⟨hc1,hc2⟩:=cast_enc hc1
   have q:=chk_some h
   obtain⟨hd,h⟩:=q
   obtain⟨hv,u,n',hu,ea,hn'⟩:=ha
   have hn':=hn' _ hr'
   rw[hc2] at hn'
   subst hn'
   have hrow:=(rowOf_ok hm hr' hu).2
   rw[hc1] at hrow
   have hst:Stab B s2.mem (updM s2.mem [(lv,sl,some (.row ver (.int .i64) (sortI l)))]):=stab_new (ks:=[]) (.inr ⟨_,hr',by rw[hc2];exact (sortI_length l).symm⟩)
   refine⟨_,_,fun _ _=>?_,.of_mem hm ht (by omega) hst (updR_one (e:=.row u (encL (.int .i64) (sortI l))) ⟨by omega,u,hu,rfl⟩) undef_rv (KeysR.consE lv sl KeysR.nil),h⟩
   have he:encL (.int .i64) l=intsL l:=rfl
   simp only[AOp.run,sortA,ea,hrow,he,intsOf_intsL,Option.bind_some,h1]
   rw[if_pos ⟨trivial,by simp[intsL],trivial,by simpa[intsL] using hd⟩]
   rfl
  grind
 grind
include hsl in
theorem does_grow {sz:Nat} {x n:Opd} (h:run2 E wk ctx s2 row dst nx (.grow sz x n) K=some r):Does ρ B (nx+1) s2 s (.grow sz x n) row dst p K r:=by
 have q:=cellK_some h
 obtain⟨a,ha,h⟩:=q
 have q:=natK_some h
 clear h
 obtain⟨kn,n',hn,hn0,h⟩:=q
 have ha:=ev2_ok hsl ha
 split at h
 ·rename_i t hty _
  split at h
  ·rename_i hz
   have hz:=Nat.eq_of_beq_eq_true hz
   have ea:x.ev s.slots=_:=ha
   refine⟨_,_,fun _ _=>?_,.of_tip hm hB hnx (l:=([]:List t.den)) (els:=[]) rfl KeysR.nil (ht.fresh hB hnx) (KeysR.consT hnx KeysR.nil),h⟩
   simp[AOp.run,ea,natOf_ok (ev2_ok hsl hn) hn0,hz]
  grind
 grind
omit ht hB hnx in
include hsl in
theorem fillE_ok {sz:Nat} : ∀ {ps:List (Nat×Opd)} {els2 els2':List (List Cell)} {els:List (List D)} {ks:List (Nat×Nat)},fillE s2 sz els2 ps=some (els2',ks)→All2 (fun c d=>cellDs c=some d) els2 els→
  ∃ els',fillD s.mem s.slots sz els ps=some (els',ks)∧All2 (fun c d=>cellDs c=some d) els2' els'
 |[],els2,els2',els,ks,h,ha=>by
  cases h
  exact⟨els,rfl,ha⟩
 | (i, x) :: ps, els2, els2', els, ks, h, ha => by
  simp[fillE] at h
  split at h
  ·rename_i e k hn
   obtain⟨cs,h1,h2⟩:=opt_bind hn
   obtain⟨v,hv,h3⟩:=opt_bind h1
   obtain⟨aSz,g1,g2⟩:=cells_ok h3 (ev2_ok hsl hv)
   obtain⟨ds,g3,g4⟩:=frz_ok hm h2 g2
   split at h
   ·rename_i hb
    rw[Bool.and_eq_true] at hb
    have hz:=Nat.eq_of_beq_eq_true hb.1
    have hi:i<els2.length:=by simp_all
    split at h
    ·rename_i els' ks' h4
     cases h
     have ha':All2 (fun c d=>cellDs c=some d) (els2.set i e) (els.set i ds):=by
      refine .of_get (by simp[ha.length]) fun j c d hc hd=>?_
      rw[List.getElem?_set] at hc hd
      by_cases hij:i=j
      ·grind
      ·rw [if_neg hij] at hc hd
       obtain⟨d',g5,g6⟩:=ha.get j c hc<;>grind
     obtain⟨els1,g5,g6⟩:=fillE_ok h4 ha'
     refine⟨els1,?_,g6⟩
     simp only[fillD,elemD,g1,Option.bind_some,g3]
     rw[if_pos ⟨by rw[cellDs_length g4];exact hz,by rw[←ha.length];exact hi⟩,g5]
    grind
   grind
  grind
omit hm ht hB hnx in
theorem packEs_ok {t:Ty} : ∀ {els2:List (List Cell)} {els:List (List D)} {l:List t.den},packEs t els2=some l→All2 (fun c d=>cellDs c=some d) els2 els→els=encL t l
 |[],[],l,h,_=>by cases h;rfl
 | c :: r, d :: ds, l, h, ha => by
  simp[packEs] at h
  split at h
  ·rename_i x xs h1 h2
   cases h
   rw[packE_ok h1 ha.1,packEs_ok h2 ha.2]
   rfl
  grind
 |[],_ :: _,_,_,h=>h.elim
 |_ :: _,[],_,_,h=>h.elim
omit hm ht hB hnx in
theorem all2_replicate {β γ : Type} {R : β→γ→Prop} {x : β} {y : γ} (h:R x y):∀ n,All2 R (List.replicate n x) (List.replicate n y)
 |0=>trivial
 |n+1=>⟨h,all2_replicate h n⟩
include hsl in
theorem does_buildSlice {sz n:Nat} {z:List D} {ps:List (Nat×Opd)} (h:run2 E wk ctx s2 row dst nx (.buildSlice sz n z ps) K=some r):Does ρ B (nx+1) s2 s (.buildSlice sz n z ps) row dst p K r:=by
 simp[run2] at h
 cases hr2:Nat.beq row 2 with
 | true =>
  rw[hr2] at h
  simp at h
  split at h
  ·cases h
  rename_i hn
  obtain⟨cs,hcs,h⟩:=optK_some h
  obtain⟨zc,hzc,hcs⟩:=opt_bind hcs
  have hrep:∀ k:Nat,All2 (RC ρ B s2.mem) (List.replicate k zc).flatten ((List.replicate k z).flatten.map .d):=by
   intro k
   induction k with
   |zero=>trivial
   |succ k ih=>
    simp only[List.replicate_succ,List.flatten_cons,List.map_append]
    exact (cstDs_rc hzc).append ih
  obtain⟨aSz,g1,g2⟩:=fill2_ok hsl hcs (hrep n)
  have hst:Stab B s2.mem (updM s2.mem [(lvQ s2.mem.length dst,dst,some (.box nx cs))]):=stab_new (ks:=[]) (e:=.box nx cs) trivial
  refine⟨_,_,fun _ _=>?_,.of_mem hm ht (B':=nx+1) (by omega) hst (updR_one (e:=.box p aSz) ⟨by omega,p,aSz,hnx,rfl,g2.mono fun _ _=>RC.move hst (by omega) fun _ _=>rfl⟩) (v:=.c (.bref (lvQ s2.mem.length dst) dst nx 0 n sz)) (a:=.bref (lvQ s2.mem.length dst) dst p 0 n sz) ⟨by omega,p,hnx,rfl⟩ KeysR.nil,h⟩
  simp only[AOp.run,hr2,hn,g1,hm.len,Option.map_some]
 |false=>
 rw[hr2] at h
 have q:=optK_some h
 obtain⟨t,_,h⟩:=q
 have q:=optK_some h
 obtain⟨zc,hzc,h⟩:=q
 have q:=optK_some h
 obtain⟨⟨els2,ks⟩,hf,h⟩:=q
 obtain⟨els,g1,g2⟩:=fillE_ok hm hsl hf (all2_replicate (R:=fun c d=>cellDs c=some d) (cstDs_ok hzc) n)
 split at h
 ·rename_i l hz hp
  have hz:=Nat.eq_of_beq_eq_true hz
  have he:=packEs_ok hp g2
  have hlen:n=l.length:=by
   have h1:=g2.length
   have h2:∀ {ps:List (Nat×Opd)} {a b:List (List Cell)} {ks:List (Nat×Nat)},fillE s2 sz a ps=some (b,ks)→b.length=a.length:=by
    intro ps
    induction ps with
    |nil=>intro a b ks h;simp[fillE,Option.some.injEq,Prod.mk.injEq] at h;rw[h.1]
    |cons q ps ih=>
     intro a b ks h
     simp[fillE] at h<;>grind
   have:=h2 hf
   simp at this
   rw[←this,h1,he,encL_length]
  split at h
  ·rename_i hrow
   refine⟨_,_,fun _ _=>?_,.of_mem hm ht (by omega) (stab_frees (ks:=ks)) (updR_frees (m:=s.mem)) (v:=.c (.sl t l .full)) (a:=.own els .full) (show _=_ by rw[he]) (KeysR.keysE ks),h⟩
   simp[AOp.run,hr2,g1,hrow]
  ·rename_i hrow
   split at h
   ·cases h
   ·rename_i hk
    rw[hm.len] at h hk
    refine⟨_,_,fun _ _=>?_,.of_row hm ht hB hnx (ks:=ks) (l:=l) (n:=n) (els:=els) he hlen (KeysR.keysE ks),h⟩
    simp only[AOp.run,hr2,g1,hrow]
    rw[if_neg (hasKey_false hk),hz]
 grind
end
end Go.Sym
set_option linter.unusedSectionVars false
namespace Go.Sym
open Go Go.Eng
section
variable {α : Type} {ρ : VMap} {B B':Nat} {s2:S2} {s:St} {row dst p nx:Nat} {K:Res2→Option α} {r : α} {E:SEnv} {wk:Wk} {ctx:Nat}
theorem bytesOf_enc:∀ l:List Int,bytesOf (encL (.int .u8) l)=some (l.map fun n=>UInt8.ofNat n.toNat)
 |[]=>rfl
 |n :: l=>by
  have ih:=bytesOf_enc l
  show (bytesOf (encL (.int .u8) l)).map _=_
  grind
theorem news_els {m:List (Tr Ent)} {a:AV} {x els:List (List D)} (h:newsOf m a=some x) (he:elsOf m a=some els):x=els:=by
 unfold newsOf at h<;>grind[elsOf,newsOf]
theorem setOf_ok {m2:List (Tr E2)} {m:List (Tr Ent)} (hm:MR ρ B m2 m) {lv sl ver u:Nat} {l:List (List UInt8)} (h:setOf m2 lv sl ver=some l) (hu : ρ ver=some u):mget m2 lv sl=some (.set ver l)∧setAt m lv sl u=some l:=by
 unfold setOf at h
 split at h
 ·rename_i v l' hg
  split at h
  ·subst_vars
   obtain⟨e,g1,_,u',g2,rfl⟩:=hm.ents _ _ _ hg<;>simp_all[VMap,setAt,mget]
  grind
 grind
variable (hm:MR ρ B s2.mem s.mem) (ht:TR ρ B s2.tips s.tips) (hsl:SlR ρ B s2.mem s2.slots s.slots) (hB:B≤nx) (hnx : ρ nx=some p)
include hm ht hB hsl
theorem does_b2s {x:Opd} (h:run2 E wk ctx s2 row dst nx (.b2s x) K=some r):Does ρ B (nx+1) s2 s (.b2s x) row dst p K r:=by
 have q:=cellK_some h
 obtain⟨c,hc,h⟩:=q
 have hc:=ev2_ok hsl hc
 split at h
 ·cases h
 ·rename_i hne
  obtain⟨els,he⟩:=newsK_els hm h hc (fun b' e=>hne b' e)
  obtain⟨n,h1,h⟩:=newsK_ok hm h hc
  obtain⟨l,hl,h⟩:=optK_some h
  have hx:=news_els h1 he
  subst hx
  obtain⟨t,l0⟩:=n
  obtain⟨e1,e2⟩:=castL_eq hl
  cases e1
  subst e2
  refine⟨_,_,fun _ _=>?_,.of_val hm ht (by omega) (v:=.c (.str (l.map fun (n:Int)=>UInt8.ofNat n.toNat))) (a:=scA (.string (strOfB (l.map fun (n:Int)=>UInt8.ofNat n.toNat)))) rfl (keyC_ok hc),h⟩
  simp[AOp.run,he,Option.bind_some,bytesOf_enc,Option.map_some]
theorem does_s2b {x:Opd} (h:run2 E wk ctx s2 row dst nx (.s2b x) K=some r):Does ρ B (nx+1) s2 s (.s2b x) row dst p K r:=by
 simp[run2] at h
 split at h
 ·rename_i b hx
  have e:x.ev s.slots=_:=ev2_ok hsl hx
  refine .pure (a:=.d (.sl (b.map fun (c:UInt8)=>[.sc (.int .u8 (c.toNat:Int))]))) hm ht (by omega) (fun _ _=>?_) (v:=.c (.sl (.int .u8) (bytesL b) .d)) (show RC ρ B s2.mem (.sl (.int .u8) (bytesL b) .d) (.d (.sl (b.map fun (c:UInt8)=>[.sc (.int .u8 (c.toNat:Int))]))) from .inl ?_) h
  ·simp[AOp.run,e]
  ·simp[encL,bytesL,encs,List.map_map,Function.comp_def]
 grind
include hnx in
omit hsl in
theorem does_mkSet (h:run2 E wk ctx s2 row dst nx .mkSet K=some r):Does ρ B (nx+1) s2 s .mkSet row dst p K r:=by
 simp[run2] at h
 rw[hm.len] at h
 have hst:Stab B s2.mem (updM s2.mem [(lvQ s.mem.length dst,dst,some (.set nx []))]):=stab_new (ks:=[]) (e:=.set nx []) trivial
 exact⟨_,_,fun _ _=>rfl,.of_mem hm ht (B':=nx+1) (by omega) hst (updR_one (e:=.mp p []) ⟨by omega,p,hnx,rfl⟩) (v:=.c (.mp (lvQ s.mem.length dst) dst nx)) (a:=.mp (lvQ s.mem.length dst) dst p) (show RC ρ (nx+1) (updM s2.mem [(lvQ s.mem.length dst,dst,some (.set nx []))]) (.mp (lvQ s.mem.length dst) dst nx) _ from⟨Nat.lt_succ_self _,p,hnx,rfl⟩) KeysR.nil,h⟩
theorem does_hasK {x y:Opd} (h:run2 E wk ctx s2 row dst nx (.hasK x y) K=some r):Does ρ B (nx+1) s2 s (.hasK x y) row dst p K r:=by
 simp[run2] at h
 split at h
 ·rename_i lv sl ver b hx hy
  obtain⟨l,hl,h⟩:=optK_some h
  obtain⟨hv,u,hu,ex⟩:=ev2_ok hsl hx
  have ey:y.ev s.slots=_:=ev2_ok hsl hy
  obtain⟨_,g⟩:=setOf_ok hm hl hu
  refine⟨_,_,fun _ _=>?_,.of_val hm ht (by omega) (v:=.c (.bool (hasB l b))) (a:=scA (.bool (hasB l b))) rfl (KeysR.consE lv sl KeysR.nil),h⟩
  simp[AOp.run,ex,ey,g,Option.map_some]
 grind
theorem does_addK {x y:Opd} (h:run2 E wk ctx s2 row dst nx (.addK x y) K=some r):Does ρ B (nx+1) s2 s (.addK x y) row dst p K r:=by
 simp[run2] at h
 split at h
 ·rename_i lv sl ver b hx hy
  obtain⟨l,hl,h⟩:=optK_some h
  obtain⟨hv,u,hu,ex⟩:=ev2_ok hsl hx
  have ey:y.ev s.slots=_:=ev2_ok hsl hy
  obtain⟨_,g⟩:=setOf_ok hm hl hu
  have hst:Stab B s2.mem (updM s2.mem [(lv,sl,some (.set ver (addB l b)))]):=stab_new (ks:=[]) (e:=.set ver (addB l b)) trivial
  refine⟨_,_,fun _ _=>?_,.of_mem hm ht (B':=nx+1) (by omega) hst (updR_one (e:=.mp u (addB l b)) ⟨by omega,u,hu,rfl⟩) undef_rv (KeysR.consE lv sl KeysR.nil),h⟩
  simp[AOp.run,ex,ey,g,Option.map_some]
 grind
end
end Go.Sym
