/- The machine over typed data: operations without an effect on the memory, continued. -/
import Derived.Test.YtlfhlggkbcncoaaSymD
namespace Go.Sym
open Go Go.Eng
section
variable {α : Type} {ρ : VMap} {B B':Nat} {s2:S2} {s:St} {op:AOp} {row dst p nx:Nat} {K:Res2→Option α} {r : α} {E:SEnv} {wk:Wk} {ctx:Nat}
theorem ba_append (x y:List UInt8):(⟨x.toArray⟩:ByteArray)++⟨y.toArray⟩=⟨(x++y).toArray⟩:=by
 apply ByteArray.ext
 rw[ByteArray.data_append]
 simp
theorem ba_size (x:List UInt8):(⟨x.toArray⟩:ByteArray).size=x.length:=by simp[ByteArray.size]
theorem ba_extract (x:List UInt8) (a b:Nat):(⟨x.toArray⟩:ByteArray).extract a b=⟨((x.drop a).take (b-a)).toArray⟩:=by
 apply ByteArray.ext
 rw[ByteArray.data_extract]
 simp[List.extract_eq_take_drop]
theorem binT_ok {x y:List UInt8} {bop:BinOp} {K:Cell→Option α} (h:binT bop x y K=some r):∃ v c,binS bop ⟨x.toArray⟩ ⟨y.toArray⟩=some v∧K c=some r∧∀ (m:List (Tr E2)),RC ρ B m c (.d (.sc v)):=by
 unfold binT at h
 split at h
 ·obtain ⟨h1, h⟩ := chk_some h
  refine⟨_,_,?_,h,fun _=>rfl⟩
  have:¬((x.length+y.length:Nat):Int)>IntKind.i64.max:=by simpa using h1
  simp only[binS,ba_size,ba_append]
  rw[if_neg this]
 all_goals first
  |(refine⟨_,_,?_,h,fun _=>rfl⟩;simp[binS,ByteArray.toList_eq];done)
  |cases h
theorem binK_ok {x y:Cell} {a b:AV} {bop:BinOp} {m:List (Tr E2)} {K:Cell→Option α} (h:binK bop x y K=some r) (hx:RC ρ B m x a) (hy:RC ρ B m y b):∃ v c,binA bop a b=some v∧K c=some r∧RC ρ B m c (.d (.sc v)):=by
 unfold binK at h
 split at h
 ·cases hx; cases hy
  obtain⟨v,c,h1,h2,h3⟩:=binN_ok (ρ:=ρ) (B:=B) h
  exact⟨v,c,h1,h2,h3 m⟩
 ·cases hx; cases hy
  obtain⟨v,c,h1,h2,h3⟩:=binT_ok (ρ:=ρ) (B:=B) h
  exact⟨v,c,h1,h2,h3 m⟩
 ·cases h
theorem scEq2_ok {kd:Nat} {x y:Cell} {a b:AV} {m:List (Tr E2)} {t:Bool} (h:scEq2 kd x y=some t) (hx:RC ρ B m x a) (hy:RC ρ B m y b):scEq kd a b=some t:=by
 unfold scEq2 at h
 split at h
 ·split at h
  ·cases hx;cases hy;simpa[scEq] using h
  ·cases h
 ·split at h
  ·split at h
   ·rename_i e _
    cases hx;cases hy;simpa[scEq,e] using h
   ·cases h
  ·cases h
 ·split at h
  ·cases h
  ·cases h
  ·rename_i x y n _ _
   cases hx;cases hy
   injection h with h
   subst h
   have:((⟨x.toArray⟩:ByteArray)==⟨y.toArray⟩)=(x==y):=by
    rw[Bool.eq_iff_iff]
    show (x.toArray==y.toArray)=true↔_
    simp
   unfold scEq
   split<;>simp_all
 ·cases h
theorem eqAll2_ok {xs ys:List Cell} {as bs:List AV} {m:List (Tr E2)} (hx:All2 (RC ρ B m) xs as) (hy:All2 (RC ρ B m) ys bs):∀ {l:List (Nat×Nat)} {t:Bool},eqAll2 xs ys l=some t→eqAll as bs l=some t
 |[],t,h=>h
 | o :: l, t, h => by
  simp only[eqAll2] at h
  split at h
  ·rename_i x y b' h1 h2 h3
   obtain⟨b,h4,rfl⟩:=opt_map h
   obtain⟨a,g1,g2⟩:=hx.get _ _ h1
   obtain⟨a',g3,g4⟩:=hy.get _ _ h2
   simp only[eqAll,g1,g3,scEq2_ok h4 g2 g4]
   cases b with
   |true=>simpa using eqAll2_ok hx hy h3
   |false=>rfl
  ·cases h
theorem unK_ok {x:Cell} {a:AV} {m:List (Tr E2)} {uop:UnOp} {K:Cell→Option α} (h:unK uop x K=some r) (hx:RC ρ B m x a):∃ v c,unA uop a=some v∧K c=some r∧RC ρ B m c (.d (.sc v)):=by
 unfold unK at h
 split at h
 ·split at h
  ·cases hx;exact⟨_,_,rfl,h,rfl⟩
  ·cases h
 ·split at h
  ·cases hx;exact⟨_,_,rfl,h,rfl⟩
  ·cases hx;exact⟨_,_,by simp[unA,bitsI],h,rfl⟩
  ·cases h
 ·cases h
section
variable (hm:MR ρ B s2.mem s.mem) (ht:TR ρ B s2.tips s.tips) (hB:B≤B')
include hm ht hB
theorem Does.int {k:IntKind} {n:Int} (hrun:∀ call sh,op.run call sh s row dst p=Eff.pure (.d (.sc (.int k n)))) (hK:K (pureC (.int k n))=some r):Does ρ B B' s2 s op row dst p K r:=
 .pure hm ht hB hrun (v:=.c (.int k n)) rfl hK
theorem Does.str {x:List UInt8} (hrun:∀ call sh,op.run call sh s row dst p=Eff.pure (.d (.sc (.string ⟨x.toArray⟩)))) (hK:K (pureC (.str x))=some r):Does ρ B B' s2 s op row dst p K r:=
 .pure hm ht hB hrun (v:=.c (.str x)) rfl hK
theorem Does.dptr {t:Ty} {x:t.den} {off:Nat} (hrun:∀ call sh,op.run call sh s row dst p=Eff.pure (.dptr (encs t x) off)) (hK:K (pureC (.dptr t x off))=some r):Does ρ B B' s2 s op row dst p K r:=
 .pure hm ht hB hrun (v:=.c (.dptr t x off)) rfl hK
theorem Does.ptr {lv sl ver u i off:Nat} (hv:ver<B) (hu : ρ ver=some u) (hrun:∀ call sh,op.run call sh s row dst p=Eff.pure (.ptr lv sl u i off)) (hK:K (pureC (.ptr lv sl ver i off))=some r):Does ρ B B' s2 s op row dst p K r:=
 .pure hm ht hB hrun (v:=.c (.ptr lv sl ver i off)) ⟨hv,u,hu,rfl⟩ hK
end
variable (hm:MR ρ B s2.mem s.mem) (ht:TR ρ B s2.tips s.tips) (hsl:SlR ρ B s2.mem s2.slots s.slots) (hB:B≤B')
include hm ht hB hsl
theorem does_bin {bop:BinOp} {x y:Opd} (h:run2 E wk ctx s2 row dst nx (.bin bop x y) K=some r):Does ρ B B' s2 s (.bin bop x y) row dst p K r:=by
 simp only[run2] at h
 obtain⟨a,ha,h⟩:=cellK_some h
 obtain⟨b,hb,h⟩:=cellK_some h
 obtain⟨v,c,h1,h2,h3⟩:=binK_ok h (ev2_ok hsl ha) (ev2_ok hsl hb)
 exact .pure hm ht hB (fun _ _=>by simp only[AOp.run,h1,Option.bind_some,scA]) (v:=.c c) h3 h2
theorem does_eqb {neg:Bool} {x y:Opd} (h:run2 E wk ctx s2 row dst nx (.eqb neg x y) K=some r):Does ρ B B' s2 s (.eqb neg x y) row dst p K r:=by
 simp only[run2] at h
 obtain⟨a,ha,h⟩:=boolK_some h
 obtain⟨b,hb,h⟩:=boolK_some h
 have h1:=boolOf_ok' (ev2_ok hsl ha)
 have h2:=boolOf_ok' (ev2_ok hsl hb)
 refine .pure hm ht hB (a:=.d (.sc (.bool (if neg then !(a==b) else a==b)))) (fun _ _=>by simp only[AOp.run,h1,h2,scA]) (v:=.c _) ?_ h
 cases neg<;>rfl
theorem does_eqA {neg:Bool} {sz:Nat} {l:List (Nat×Nat)} {x y:Opd} (h:run2 E wk ctx s2 row dst nx (.eqA neg sz l x y) K=some r):Does ρ B B' s2 s (.eqA neg sz l x y) row dst p K r:=by
 simp only[run2] at h
 split at h
 ·rename_i xs ys hx hy
  split at h
  ·rename_i b h1 h2
   rw[Bool.and_eq_true] at h1
   obtain⟨as,e1,r1⟩:=ev2_ok hsl hx
   obtain⟨bs,e2,r2⟩:=ev2_ok hsl hy
   have l1:as.length=sz:=by rw[←r1.length];exact Nat.eq_of_beq_eq_true h1.1
   have l2:bs.length=sz:=by rw[←r2.length];exact Nat.eq_of_beq_eq_true h1.2
   refine .pure hm ht hB (a:=.d (.sc (.bool (if neg then !b else b)))) (fun _ _=>by
    simp only[AOp.run,e1,e2]
    rw[if_neg (by simp[l1,l2]),eqAll2_ok r1 r2 h2]
    rfl) (v:=.c _) ?_ h
   cases neg<;>rfl
  ·cases h
 ·cases h
theorem does_un {uop:UnOp} {x:Opd} (h:run2 E wk ctx s2 row dst nx (.un uop x) K=some r):Does ρ B B' s2 s (.un uop x) row dst p K r:=by
 simp only[run2] at h
 obtain⟨a,ha,h⟩:=cellK_some h
 obtain⟨v,c,h1,h2,h3⟩:=unK_ok h (ev2_ok hsl ha)
 exact .pure hm ht hB (fun _ _=>by simp only[AOp.run,h1,Option.bind_some,scA]) (v:=.c c) h3 h2
theorem does_conv {k:IntKind} {x:Opd} (h:run2 E wk ctx s2 row dst nx (.conv k x) K=some r):Does ρ B B' s2 s (.conv k x) row dst p K r:=by
 simp only[run2] at h
 obtain⟨kd,n,ha,h⟩:=intK_some h
 have e:=intOf_ok (ev2_ok hsl ha)
 exact .int hm ht hB (fun _ _=>by simp only[AOp.run,e,intOfA,Option.bind_some,scA]) h
theorem does_field {off sz:Nat} {agg:Bool} {x:Opd} (h:run2 E wk ctx s2 row dst nx (.field off sz agg x) K=some r):Does ρ B B' s2 s (.field off sz agg x) row dst p K r:=by
 simp only[run2] at h
 split at h
 ·rename_i cs hx
  split at h
  ·rename_i v h1 h2
   have h1:=Nat.le_of_ble_eq_true h1
   obtain⟨as,e1,r1⟩:=ev2_ok hsl hx
   obtain⟨a,g1,g2⟩:=wrap2_ok h2 ((r1.drop off).take sz)
   refine .pure hm ht hB (fun _ _=>?_) g2 h
   simp only[AOp.run,e1]
   rw[if_pos (by rw[←r1.length];exact h1),g1]
   rfl
  ·cases h
 ·cases h
theorem does_fieldAddr {off:Nat} {x:Opd} (h:run2 E wk ctx s2 row dst nx (.fieldAddr off x) K=some r):Does ρ B B' s2 s (.fieldAddr off x) row dst p K r:=by
 simp only[run2] at h
 split at h
 ·rename_i hx
  obtain⟨hv,u,hu,e⟩:=ev2_ok hsl hx
  exact .ptr hm ht hB hv hu (fun _ _=>by simp only[AOp.run,e]) h
 ·rename_i hx
  have e:x.ev s.slots=_:=ev2_ok hsl hx
  exact .dptr hm ht hB (fun _ _=>by simp only[AOp.run,e]) h
 ·cases h
omit hm ht hB hsl in
theorem selK_some:∀ {n k:Nat} {F:Nat→Option α},selK n k F=some r→k<n∧F k=some r
 |0,_,_,h=>by cases h
 | n + 1, k, F, h => by
  unfold selK at h
  cases hb:Nat.beq k n with
  |true=>
   have hb:=Nat.eq_of_beq_eq_true hb
   subst hb
   rw[show Nat.beq k k=true from Nat.beq_refl k] at h
   exact⟨Nat.lt_succ_self _,h⟩
  |false=>
   rw[hb] at h
   obtain⟨h1,h2⟩:=selK_some h
   exact⟨Nat.lt_succ_of_lt h1,h2⟩
theorem does_indexArr {n sz:Nat} {x i:Opd} (h:run2 E wk ctx s2 row dst nx (.indexArr n sz x i) K=some r):Does ρ B B' s2 s (.indexArr n sz x i) row dst p K r:=by
 simp only[run2] at h
 obtain⟨kd,k,hi,h0,h⟩:=natK_some h
 have hk:=natOf_ok (ev2_ok hsl hi) h0
 split at h
 ·rename_i hx
  obtain⟨hlt,h⟩:=selK_some h
  obtain⟨hv,u,hu,e⟩:=ev2_ok hsl hx
  exact .ptr hm ht hB hv hu (fun _ _=>by simp only[AOp.run,hk,Option.bind_some,e,if_pos hlt]) h
 ·rename_i hx
  obtain⟨hlt,h⟩:=selK_some h
  have e:x.ev s.slots=_:=ev2_ok hsl hx
  exact .dptr hm ht hB (fun _ _=>by simp only[AOp.run,hk,Option.bind_some,e,if_pos hlt]) h
 ·cases h
theorem does_indexA {n sz:Nat} {agg:Bool} {x i:Opd} (h:run2 E wk ctx s2 row dst nx (.indexA n sz agg x i) K=some r):Does ρ B B' s2 s (.indexA n sz agg x i) row dst p K r:=by
 simp only[run2] at h
 obtain⟨kd,k,hi,h0,h⟩:=natK_some h
 have hk:=natOf_ok (ev2_ok hsl hi) h0
 split at h
 ·rename_i cs hx
  obtain⟨hlt,h⟩:=selK_some h
  split at h
  ·rename_i v h1 h2
   have h1:=Nat.le_of_ble_eq_true h1
   obtain⟨as,e1,r1⟩:=ev2_ok hsl hx
   obtain⟨a,g1,g2⟩:=wrap2_ok h2 ((r1.drop (k.toNat*sz)).take sz)
   refine .pure hm ht hB (fun _ _=>?_) g2 h
   simp only[AOp.run,hk,Option.bind_some,e1]
   rw[if_pos ⟨hlt,by rw[←r1.length];exact h1⟩,g1]
   rfl
  ·cases h
 ·cases h
omit hm ht hB hsl in
theorem idx_some {β : Type} {l:List β} {i:Int} {x : β} (h:idx l i=some x):0≤i∧l[i.toNat]?=some x:=by
 unfold idx at h
 by_cases hi:0≤i
 ·simp[hi] at h;exact⟨hi,h⟩
 ·simp[hi] at h
omit hm ht hB hsl in
theorem inR_true {i:Int} {n:Nat} (h:inR i n=true):0≤i∧i.toNat<n:=by
 simpa[inR] using h
theorem does_indexAddr {sz:Nat} {x i:Opd} (h:run2 E wk ctx s2 row dst nx (.indexAddr sz x i) K=some r):Does ρ B B' s2 s (.indexAddr sz x i) row dst p K r:=by
 simp only[run2] at h
 obtain⟨kd,n,hi,h⟩:=intK_some h
 have hi:=ev2_ok hsl hi
 split at h
 ·rename_i t l o hx
  split at h
  ·rename_i hz
   have hz:=Nat.eq_of_beq_eq_true hz
   obtain⟨e,he,h⟩:=bind_some h
   obtain⟨h0,he⟩:=idx_some he
   have hn:=natOf_ok hi h0
   have hg:(encL t l)[n.toNat]?=some (encs t e):=by rw[encL_get,he];rfl
   have hx:=(els_sl (m:=s.mem) (ev2_ok hsl hx)).2.1
   refine .dptr hm ht hB (t:=t) (x:=e) (off:=0) (fun _ _=>?_) h
   rcases hx with e1|⟨o',e1⟩
   ·simp only[AOp.run,hn,Option.bind_some,e1,hg,encs_length,hz,if_true]
   ·simp only[AOp.run,hn,Option.bind_some,e1,hg,encs_length,hz,if_true]
  ·cases h
 ·rename_i lv sl ver t hx
  split at h
  ·rename_i hz
   have hz:=Nat.eq_of_beq_eq_true hz
   obtain⟨r',hr,h⟩:=optK_some h
   obtain⟨h1,h⟩:=chk_some h
   obtain⟨h0,h1⟩:=inR_true h1
   have hn:=natOf_ok hi h0
   obtain⟨hv,u,k,hu,e1,hk⟩:=ev2_ok hsl hx
   have hk:=hk r' hr
   refine .ptr hm ht hB hv hu (fun _ _=>?_) h
   simp only[AOp.run,hn,Option.bind_some,e1]
   rw[if_pos ⟨by omega,hz⟩,Nat.zero_add]
  ·cases h
 ·rename_i lv sl ver t off len hx
  split at h
  ·rename_i hz
   have hz:=Nat.eq_of_beq_eq_true hz
   obtain⟨h1,h⟩:=chk_some h
   obtain⟨h0,h1⟩:=inR_true h1
   have hn:=natOf_ok hi h0
   obtain⟨hv,u,hu,e1⟩:=ev2_ok hsl hx
   refine .ptr hm ht hB hv hu (fun _ _=>?_) h
   simp only[AOp.run,hn,Option.bind_some,e1]
   rw[if_pos ⟨by omega,hz⟩]
  ·cases h
 ·cases h
theorem does_indexS {x i:Opd} (h:run2 E wk ctx s2 row dst nx (.indexS x i) K=some r):Does ρ B B' s2 s (.indexS x i) row dst p K r:=by
 simp only[run2] at h
 obtain⟨kd,n,hi,h⟩:=intK_some h
 have hi:=ev2_ok hsl hi
 split at h
 ·rename_i b hx
  obtain⟨c,hc,h⟩:=bind_some h
  obtain⟨h0,hc⟩:=idx_some hc
  have hn:=natOf_ok hi h0
  have e:x.ev s.slots=_:=ev2_ok hsl hx
  refine .int hm ht hB (fun _ _=>?_) h
  simp only[AOp.run,hn,Option.bind_some,e,hc,scA]
 ·cases h
omit hm ht hB in
theorem boundK_ok {β : Type} {x:Option Opd} {K:Option Nat→Option β} {r : β} (h:boundK x s2 K=some r):∃ n,(∀ d,boundA x s.slots d=some (n.getD d))∧(n.isSome=x.isSome)∧K n=some r:=by
 unfold boundK at h
 cases x with
 |none=>exact⟨none,fun _=>rfl,rfl,h⟩
 |some o=>
  obtain⟨kd,n,hv,h0,h⟩:=natK_some h
  exact⟨some n.toNat,fun _=>by simp[boundA,natOf_ok (ev2_ok hsl hv) h0],rfl,h⟩
omit hm ht hB hsl in
theorem partOK_true {n:Nat} {lo hi:Option Nat} (h:partOK n lo hi=true):lo.getD 0≤hi.getD n∧hi.getD n≤n:=by
 unfold partOK at h
 cases lo<;>cases hi<;>simp_all
omit hm ht hB hsl in
theorem partL_eq {β : Type} {l:List β} {lo hi:Option Nat} (h:partOK l.length lo hi=true):partL l lo hi=(l.drop (lo.getD 0)).take (hi.getD l.length-lo.getD 0):=by
 have:=partOK_true h
 unfold partL
 cases lo<;>cases hi<;>simp_all
 ·rw[List.take_of_length_le (by simp)]
omit hm ht hB hsl in
theorem encL_part {t:Ty} {l:List t.den} {lo hi:Option Nat} (h:partOK l.length lo hi=true):encL t (partL l lo hi)=((encL t l).drop (lo.getD 0)).take (hi.getD (encL t l).length-lo.getD 0):=by
 rw[partL_eq h,encL_length]
 simp[encL,List.map_take,List.map_drop]
omit hm ht hB hsl in
theorem sliceK_ok {sz:Nat} {x:Cell} {a:AV} {lo hi mx:Option Nat} {K:Cell→Option α} (h:sliceK s2.mem sz x lo hi mx K=some r) (hx:RC ρ B s2.mem x a) (l h' k:Nat) (hl:l=lo.getD 0) (hh:∀ n,hi=some n→h'=n) (hk:∀ n,mx=some n→k=n) :
  ∃ a' c,sliceA sz a l (hi.map fun _=>h') (mx.map fun _=>k)=some a'∧RC ρ B s2.mem c a'∧K c=some r:=by
 have ehi:hi.map (fun _=>h')=hi:=by cases hi with|none=>rfl|some n=>simp[hh n rfl]
 have emx:mx.map (fun _=>k)=mx:=by cases mx with|none=>rfl|some n=>simp[hk n rfl]
 rw[ehi,emx]
 subst hl
 unfold sliceK at h
 split at h
 ·rename_i t l o
  split at h
  ·rename_i hz
   have hz:=Nat.eq_of_beq_eq_true hz
   have hall:(encL t l).all (fun e=>e.length==sz)=true:=by rw[←hz];exact encL_all t l
   split at h
   ·obtain ⟨hp, h⟩ := chk_some h
    have hp':=partOK_true hp
    have he:=encL_part (t:=t) hp
    rw[encL_length] at he
    have c1:lo.getD 0≤hi.getD (encL t l).length∧hi.getD (encL t l).length≤(encL t l).length∧(encL t l).all (fun e=>e.length==sz)=true:=by
     rw[encL_length];exact⟨hp'.1,hp'.2,hall⟩
    have dcase:∀ {o:Ow},(o=.bor∨o=.d)→RC ρ B s2.mem (.sl t (partL l lo hi) o) (.d (.sl ((encL t l).drop (lo.getD 0) |>.take (hi.getD (encL t l).length-lo.getD 0)))):=by
     intro o ho
     rw[encL_length,←he]
     rcases ho with rfl|rfl<;>exact .inl rfl
    have dat:sliceA sz (.d (.sl (encL t l))) (lo.getD 0) hi none=some (.d (.sl ((encL t l).drop (lo.getD 0) |>.take (hi.getD (encL t l).length-lo.getD 0)))):=by
     simp only[sliceA]
     rw[if_pos c1]
    have own:∀ o',o'≠.bor→∃ a',sliceA sz (.own (encL t l) o') (lo.getD 0) hi none=some a'∧RC ρ B s2.mem (.sl t (partL l lo hi) .d) a':=by
     intro o' ho'
     cases o' with
     |bor=>exact (ho' rfl).elim
     | full =>
      simp only[sliceA]
      rw[if_pos c1]
      split
      ·rename_i e
       refine⟨_,rfl,.inr ⟨.full,by simp,?_⟩⟩
       rw[he,show hi.getD l.length=l.length from by rw[encL_length] at e;exact e]
       rw[List.take_of_length_le (by simp[encL_length])]
      ·exact⟨_,rfl,dcase (.inr rfl)⟩
     |tip v z=>
      simp only[sliceA]
      rw[if_pos c1]
      exact⟨_,rfl,dcase (.inr rfl)⟩
    split at h
    ·rcases hx with rfl | ⟨o', rfl⟩
     ·exact⟨_,_,dat,dcase (.inl rfl),h⟩
     ·by_cases ho' : o' = .bor
      ·subst ho'
       refine⟨_,_,by simp only[sliceA];rw[if_pos c1],?_,h⟩
       refine .inr ⟨.bor,?_⟩
       rw[he,encL_length]
      ·obtain ⟨a', g1, g2⟩ := own o' ho'
       refine⟨a',_,g1,?_,h⟩
       rcases g2 with rfl|⟨o2,_,rfl⟩
       ·exact .inl rfl
       ·exact .inr ⟨_,rfl⟩
    ·split at h
     ·cases hx
      refine⟨.own ((encL t l).drop (lo.getD 0)) .full,_,?_,?_,h⟩
      ·simp only [sliceA]
       rw[if_pos c1]
       simp
      ·show _ = _
       rw[he]
       simp only[Option.getD_none]
       rw[List.take_of_length_le (by simp[encL_length])]
     ·cases hx
      obtain⟨a',g1,g2⟩:=own .full (by simp)
      exact⟨a',_,g1,g2,h⟩
    ·rename_i hne1 hne2
     rcases (els_sl (m:=[]) hx).2.2 (fun e=>hne1 e) with rfl|⟨o',ho',rfl⟩
     ·exact⟨_,_,dat,dcase (.inr rfl),h⟩
     ·obtain ⟨a', g1, g2⟩ := own o' ho'
      exact⟨a',_,g1,g2,h⟩
   ·rename_i mm
    split at h
    ·cases h
    ·cases h
    ·rename_i hi' hne
     obtain⟨hp,h⟩:=chk_some h
     rw[Bool.and_eq_true] at hp
     obtain⟨hp,hmm⟩:=hp
     have hmm:=Nat.eq_of_beq_eq_true hmm
     have hp':=partOK_true hp
     have he:=encL_part (t:=t) hp
     simp only[Option.getD_some] at hp' he
     have c1:lo.getD 0≤hi'∧hi'=mm∧hi'≤(encL t l).length∧(encL t l).all (fun e=>e.length==sz)=true:=by
      rw[encL_length];exact⟨hp'.1,hmm,hp'.2,hall⟩
     refine⟨.own ((encL t l).drop (lo.getD 0) |>.take (hi'-lo.getD 0)) .full,_,?_,?_,h⟩
     ·rcases (els_sl (m := []) hx).2.2 (fun e => hne e) with rfl | ⟨o', ho', rfl⟩
      ·simp only [sliceA, Option.getD_some]
       rw[if_pos c1]
      ·cases o' with
       |bor=>exact (ho' rfl).elim
       |_=>simp only[sliceA,Option.getD_some];rw[if_pos c1]
     ·show _ = _
      rw[he]
  ·cases h
 ·rename_i f
  split at h
  ·obtain ⟨hp, h⟩ := chk_some h
   have hp':=partOK_true hp
   have h0:hi.getD 0=0:=by omega
   have l0:lo.getD 0=0:=by omega
   cases f with
   |true=>
    cases hx
    refine⟨.own [] .full,.nil true,?_,rfl,h⟩
    simp[sliceA,h0,l0]
   | false =>
    rcases hx with rfl|⟨o,ho,rfl⟩
    ·exact⟨.d (.sl []),.nil false,by simp[sliceA,h0,l0],.inl rfl,h⟩
    ·cases o with
     |bor=>exact (ho rfl).elim
     |full=>exact⟨.own [] .full,.nil false,by simp[sliceA,h0,l0],.inr ⟨.full,by simp,rfl⟩,h⟩
     |tip v z=>exact⟨.d (.sl []),.nil false,by simp[sliceA,h0,l0],.inl rfl,h⟩
  ·cases h
 ·rename_i lv sl ver t
  cases hz:Nat.beq t.size sz with
  |false=>simp[hz] at h
  |true=>
  simp only[hz] at h
  split at h
  ·have hz := Nat.eq_of_beq_eq_true hz
   obtain⟨r',hr,h⟩:=optK_some h
   obtain⟨hp,h⟩:=chk_some h
   have hp':=partOK_true hp
   obtain⟨hv,u,n,hu,rfl,hn⟩:=hx
   have hn:=hn r' hr
   subst hn
   refine⟨_,.refp lv sl ver t (loOf lo) (hi.getD r'.l.length-loOf lo),?_,⟨hv,u,hu,rfl,fun r2 hr2=>by rw[hr] at hr2;injection hr2 with hr2;subst hr2;have h1:=hp'.1;have h2:=hp'.2;simp only[loOf] at h1 h2 ⊢;omega⟩,h⟩
   simp only[sliceA,loOf]
   rw[if_pos ⟨hp'.1,hp'.2,hz⟩,Nat.zero_add,hz]
  ·cases h
 ·rename_i lv sl ver t off len
  cases hz:Nat.beq t.size sz with
  |false=>simp[hz] at h
  |true=>
  simp only[hz] at h
  split at h
  ·have hz := Nat.eq_of_beq_eq_true hz
   obtain⟨hp,h⟩:=chk_some h
   have hp':=partOK_true hp
   obtain⟨hv,u,hu,rfl,hlen⟩:=hx
   refine⟨_,.refp lv sl ver t (off+loOf lo) (hi.getD len-loOf lo),?_,⟨hv,u,hu,rfl,fun r2 hr2=>by have h0:=hlen r2 hr2;have h1:=hp'.1;have h2:=hp'.2;simp only[loOf] at h1 h2 ⊢;omega⟩,h⟩
   simp only[sliceA,loOf]
   rw[if_pos ⟨hp'.1,hp'.2,hz⟩,hz]
  ·cases h
 ·cases h
theorem does_sliceS {x:Opd} {lo hi:Option Opd} (h:run2 E wk ctx s2 row dst nx (.sliceS x lo hi) K=some r):Does ρ B B' s2 s (.sliceS x lo hi) row dst p K r:=by
 simp only[run2] at h
 split at h
 ·rename_i b hx
  obtain⟨l,el,il,h⟩:=boundK_ok hsl h
  obtain⟨h',eh,ih,h⟩:=boundK_ok hsl h
  obtain⟨hp,h⟩:=chk_some h
  have hp':=partOK_true hp
  have e:x.ev s.slots=_:=ev2_ok hsl hx
  refine .str hm ht hB (fun _ _=>?_) h
  simp only[AOp.run,e,el,eh,ba_size]
  rw[if_pos hp',ba_extract,partL_eq hp]
  rfl
 ·cases h
theorem does_extract {x:Opd} {i:Nat} (h:run2 E wk ctx s2 row dst nx (.extract x i) K=some r):Does ρ B B' s2 s (.extract x i) row dst p K r:=by
 simp only[run2] at h
 split at h
 ·rename_i vs hx
  split at h
  ·rename_i a cs hi
   obtain⟨v,hv,h⟩:=optK_some h
   obtain⟨as,e1,r1⟩:=ev2_ok hsl hx
   obtain⟨y,g1,g2⟩:=r1.get _ _ hi
   have:RV ρ B s2.mem v y:=by
    cases a with
    |true=>
     obtain⟨as',rfl,g3⟩:=g2
     simp only[wrap2,Option.some.injEq] at hv
     subst hv
     exact⟨as',rfl,g3⟩
    |false=>
     obtain⟨c,rfl,g3⟩:=g2
     simp only[wrap2,Option.some.injEq] at hv
     subst hv
     exact g3
   exact .pure hm ht hB (fun _ _=>by simp only[AOp.run,e1,g1,Option.bind_some]) this h
  ·cases h
 ·cases h
theorem does_len {x:Opd} (h:run2 E wk ctx s2 row dst nx (.len x) K=some r):Does ρ B B' s2 s (.len x) row dst p K r:=by
 simp only[run2] at h
 obtain⟨c,hx,h⟩:=cellK_some h
 have hx:=ev2_ok hsl hx
 split at h
 ·rename_i t l o
  refine .int hm ht hB (fun _ _=>?_) h
  rcases (els_sl (m:=s.mem) hx).2.1 with e|⟨o',e⟩<;>(simp only[AOp.run,e,encL_length];rfl)
 ·rename_i f
  refine .int hm ht hB (fun _ _=>?_) h
  rcases (els_nil (m:=s.mem) hx).2 with e|⟨o',_,e⟩<;>(simp only[AOp.run,e,List.length_nil];rfl)
 ·rename_i lv sl ver t
  obtain⟨r',hr,h⟩:=optK_some h
  obtain⟨hv,u,n,hu,e,hn⟩:=hx
  have hn:=hn r' hr
  subst hn
  exact .int hm ht hB (fun _ _=>by simp only[AOp.run,e];rfl) h
 ·rename_i lv sl ver t off len
  obtain⟨hv,u,hu,e⟩:=hx
  exact .int hm ht hB (fun _ _=>by simp only[AOp.run,e];rfl) h
 ·cases h
theorem does_capF {x:Opd} (h:run2 E wk ctx s2 row dst nx (.capF x) K=some r):Does ρ B B' s2 s (.capF x) row dst p K r:=by
 simp only[run2] at h
 obtain⟨c,hx,h⟩:=cellK_some h
 have hx:=ev2_ok hsl hx
 split at h
 ·have e : x.ev s.slots = .own [] .full := hx
  exact .int hm ht hB (fun _ _=>by simp only[AOp.run,e,List.length_nil];rfl) h
 ·have e : x.ev s.slots = .own (encL _ _) .full := hx
  exact .int hm ht hB (fun _ _=>by simp only[AOp.run,e,encL_length];rfl) h
 ·cases h
theorem does_lenS {x:Opd} (h:run2 E wk ctx s2 row dst nx (.lenS x) K=some r):Does ρ B B' s2 s (.lenS x) row dst p K r:=by
 simp only[run2] at h
 split at h
 ·rename_i b hx
  have e:x.ev s.slots=_:=ev2_ok hsl hx
  exact .int hm ht hB (fun _ _=>by simp only[AOp.run,e,ba_size];rfl) h
 ·cases h
omit hsl in
theorem does_lenC {n:Nat} (h:run2 E wk ctx s2 row dst nx (.lenC n) K=some r):Does ρ B B' s2 s (.lenC n) row dst p K r:=by
 simp only[run2] at h
 exact .int hm ht hB (fun _ _=>rfl) h
theorem does_sliceB {n sz:Nat} {x:Opd} (h:run2 E wk ctx s2 row dst nx (.sliceB n sz x) K=some r):Does ρ B B' s2 s (.sliceB n sz x) row dst p K r:=by
 simp only[run2] at h
 obtain⟨c,hc,h⟩:=cellK_some h
 have hc:=ev2_ok hsl hc
 split at h
 ·rename_i lv sl ver i off _
  split at h
  ·rename_i hi
   obtain⟨hv,u,hu,e⟩:=hc
   refine .pure (a:=.bref lv sl u off n sz) hm ht hB (fun _ _=>?_) (show RV ρ B s2.mem (.c (.bref lv sl ver off n sz)) (.bref lv sl u off n sz) from⟨hv,u,hu,rfl⟩) h
   simp only[AOp.run,e,hi]
  ·cases h
 ·cases h
theorem does_mini {x y:Opd} (h:run2 E wk ctx s2 row dst nx (.mini x y) K=some r):Does ρ B B' s2 s (.mini x y) row dst p K r:=by
 simp only[run2] at h
 split at h
 ·rename_i k a k' b hx hy
  split at h
  ·rename_i e _
   subst e
   have e1:=intOf_ok (ev2_ok hsl hx)
   have e2:=intOf_ok (ev2_ok hsl hy)
   exact .int hm ht hB (fun _ _=>by simp only[AOp.run,e1,e2,if_true,scA]) h
  ·cases h
 ·cases h
theorem does_maxi {x y:Opd} (h:run2 E wk ctx s2 row dst nx (.maxi x y) K=some r):Does ρ B B' s2 s (.maxi x y) row dst p K r:=by
 simp only[run2] at h
 split at h
 ·rename_i k a k' b hx hy
  split at h
  ·rename_i e _
   subst e
   have e1:=intOf_ok (ev2_ok hsl hx)
   have e2:=intOf_ok (ev2_ok hsl hy)
   exact .int hm ht hB (fun _ _=>by simp only[AOp.run,e1,e2,if_true,scA]) h
  ·cases h
 ·cases h
omit hm ht hB hsl in
theorem cellList_ok {m:List (Tr E2)} : ∀ {vs:List V2} {as:List AV} {cs:List Cell},cellList vs=some cs→All2 (RV ρ B m) vs as→All2 (RC ρ B m) cs as∧as.all isCell0=true
 |[],[],cs,h,_=>by simp only[cellList,Option.some.injEq] at h;subst h;exact⟨trivial,rfl⟩
 | v :: vs, a :: as, cs, h, hv => by
  cases v with
  |c x=>
   simp only[cellList] at h
   obtain⟨cs',h1,rfl⟩:=opt_map h
   obtain⟨g1,g2⟩:=cellList_ok h1 hv.2
   exact⟨⟨hv.1,g1⟩,by simp[(RC.cell hv.1).2.1,g2]⟩
  |_=>cases h
 |[],_ :: _,_,_,h=>h.elim
 |_ :: _,[],_,_,h=>h.elim
theorem does_makeFunc {f:Nat} {cap:List Opd} (h:run2 E wk ctx s2 row dst nx (.makeFunc f cap) K=some r):Does ρ B B' s2 s (.makeFunc f cap) row dst p K r:=by
 simp only[run2] at h
 obtain⟨cs,hc,h⟩:=optK_some h
 obtain⟨vs,h1,h2⟩:=opt_bind hc
 obtain⟨g1,g2⟩:=cellList_ok h2 (evs2_ok hsl h1)
 exact .pure hm ht hB (fun _ _=>by simp only[AOp.run,g2,if_true]) (v:=.clo f cs) ⟨_,rfl,g1⟩ h
end
end Go.Sym
