/- The machine over typed data: operations without an effect on the memory, continued. -/
import Derived.Test.YtokjmkblnafppaaGreatDoorSymD
set_option linter.unusedVariables false
set_option linter.unusedSimpArgs false
namespace Go.Sym
open Go Go.bI
section
variable {α : Type} {ρ : bG} {B B':Nat} {s2:S2} {s:St} {op:bM} {row dst p nx:Nat} {K:gi→Option α} {r : α} {E:aA} {wk:Wk} {ctx:Nat}
theorem LH (x y:List UInt8):(⟨x.toArray⟩:ByteArray)++⟨y.toArray⟩=⟨(x++y).toArray⟩:=by
 apply ByteArray.ext
 rw[ByteArray.data_append]
 simp
theorem DU (x:List UInt8):(⟨x.toArray⟩:ByteArray).size=x.length:=by simp[ByteArray.size]
theorem Iw (x:List UInt8) (a b:Nat):(⟨x.toArray⟩:ByteArray).extract a b=⟨((x.drop a).take (b-a)).toArray⟩:=by
 apply ByteArray.ext
 rw[ByteArray.data_extract]
 simp[List.extract_eq_take_drop]
theorem RL {x y:List UInt8} {NS:BinOp} {K:Cell→Option α} (h:Vn NS x y K=some r):∃ v c,HF NS ⟨x.toArray⟩ ⟨y.toArray⟩=some v∧K c=some r∧∀ (m:List (Tr E2)),RC ρ B m c (.d (.sc v)):=by
 unfold Vn at h
 split at h
 ·obtain ⟨h1, h⟩ := bU h
  refine⟨_,_,?_,h,fun _=>rfl⟩
  have:¬((x.length+y.length:Nat):Int)>IntKind.i64.max:=by simpa using h1
  simp only[HF,DU,LH]
  rw[if_neg this]
 all_goals first
  |(refine⟨_,_,?_,h,fun _=>rfl⟩;simp[HF,ByteArray.toList_eq];done)
  |cases h
theorem RM {x y:Cell} {a b:AV} {NS:BinOp} {m:List (Tr E2)} {K:Cell→Option α} (h:Vo NS x y K=some r) (hx:RC ρ B m x a) (hy:RC ρ B m y b):∃ v c,M1 NS a b=some v∧K c=some r∧RC ρ B m c (.d (.sc v)):=by
 unfold Vo at h
 split at h
 ·cases hx; cases hy
  obtain⟨v,c,h1,h2,h3⟩:=RJ (ρ:=ρ) (B:=B) h
  exact⟨v,c,h1,h2,h3 m⟩
 ·cases hx; cases hy
  obtain⟨v,c,h1,h2,h3⟩:=RL (ρ:=ρ) (B:=B) h
  exact⟨v,c,h1,h2,h3 m⟩
 ·cases h
theorem NT {kd:Nat} {x y:Cell} {a b:AV} {m:List (Tr E2)} {t:Bool} (h:NI kd x y=some t) (hx:RC ρ B m x a) (hy:RC ρ B m y b):EH kd a b=some t:=by
 unfold NI at h
 split at h
 ·split at h
  ·cases hx;cases hy;simpa[EH] using h
  ·cases h
 ·split at h
  ·split at h
   ·rename_i e _
    cases hx;cases hy;simpa[EH,e] using h
   ·cases h
  ·cases h
 ·split at h
  ·cases h
  ·cases h
  ·rename_i x y n _ _
   cases hx;cases hy
   injection h with h
   subst h
   have:((⟨x.toArray⟩:ByteArray)==⟨y.toArray⟩)=(x==y):=by
    rw[Bool.eq_iff_iff]
    show (x.toArray==y.toArray)=true↔_
    simp
   unfold EH
   split<;>simp_all
 ·cases h
theorem Cu {xs ys:List Cell} {aK bs:List AV} {m:List (Tr E2)} (hx:az (RC ρ B m) xs aK) (hy:az (RC ρ B m) ys bs):∀ {l:List (Nat×Nat)} {t:Bool},DN xs ys l=some t→kK aK bs l=some t
 |[],t,h=>h
 | o :: l, t, h => by
  simp only[DN] at h
  split at h
  ·rename_i x y b' h1 h2 h3
   obtain⟨b,h4,rfl⟩:=aM h
   obtain⟨a,g1,g2⟩:=hx.get _ _ h1
   obtain⟨a',g3,g4⟩:=hy.get _ _ h2
   simp only[kK,g1,g3,NT h4 g2 g4]
   cases b with
   |true=>simpa using Cu hx hy h3
   |false=>rfl
  ·cases h
theorem Vv {x:Cell} {a:AV} {m:List (Tr E2)} {Z5:UnOp} {K:Cell→Option α} (h:unK Z5 x K=some r) (hx:RC ρ B m x a):∃ v c,Zv Z5 a=some v∧K c=some r∧RC ρ B m c (.d (.sc v)):=by
 unfold unK at h
 split at h
 ·split at h
  ·cases hx;exact⟨_,_,rfl,h,rfl⟩
  ·cases h
 ·split at h
  ·cases hx;exact⟨_,_,rfl,h,rfl⟩
  ·cases hx;exact⟨_,_,by simp[Zv,BR],h,rfl⟩
  ·cases h
 ·cases h
section
variable (hm:MR ρ B s2.mem s.mem) (ht:TR ρ B s2.aE s.aE) (hB:B≤B')
include hm ht hB
theorem dx.int {k:IntKind} {n:Int} (hrun:∀ call sh,op.run call sh s row dst p=eX.pure (.d (.sc (.int k n)))) (hK:K (dz (.int k n))=some r):dx ρ B B' s2 s op row dst p K r:=
 .pure hm ht hB hrun (v:=.c (.int k n)) rfl hK
theorem dx.str {x:List UInt8} (hrun:∀ call sh,op.run call sh s row dst p=eX.pure (.d (.sc (.string ⟨x.toArray⟩)))) (hK:K (dz (.str x))=some r):dx ρ B B' s2 s op row dst p K r:=
 .pure hm ht hB hrun (v:=.c (.str x)) rfl hK
theorem dx.fo {t:Ty} {x:t.den} {off:Nat} (hrun:∀ call sh,op.run call sh s row dst p=eX.pure (.fo (ef t x) off)) (hK:K (dz (.fo t x off))=some r):dx ρ B B' s2 s op row dst p K r:=
 .pure hm ht hB hrun (v:=.c (.fo t x off)) rfl hK
theorem dx.ptr {lv sl af u i off:Nat} (hv:af<B) (hu : ρ af=some u) (hrun:∀ call sh,op.run call sh s row dst p=eX.pure (.ptr lv sl u i off)) (hK:K (dz (.ptr lv sl af i off))=some r):dx ρ B B' s2 s op row dst p K r:=
 .pure hm ht hB hrun (v:=.c (.ptr lv sl af i off)) ⟨hv,u,hu,rfl⟩ hK
end
variable (hm:MR ρ B s2.mem s.mem) (ht:TR ρ B s2.aE s.aE) (bV:tw ρ B s2.mem s2.slots s.slots) (hB:B≤B')
include hm ht hB bV
theorem NU {NS:BinOp} {x y:bR} (h:bP E wk ctx s2 row dst nx (.bin NS x y) K=some r):dx ρ B B' s2 s (.bin NS x y) row dst p K r:=by
 simp only[bP] at h
 obtain⟨a,ha,h⟩:=cj h
 obtain⟨b,hb,h⟩:=cj h
 obtain⟨v,c,h1,h2,h3⟩:=RM h (bg bV ha) (bg bV hb)
 exact .pure hm ht hB (fun _ _=>by simp only[bM.run,h1,Option.bind_some,kL]) (v:=.c c) h3 h2
theorem NV {neg:Bool} {x y:bR} (h:bP E wk ctx s2 row dst nx (.QT neg x y) K=some r):dx ρ B B' s2 s (.QT neg x y) row dst p K r:=by
 simp only[bP] at h
 obtain⟨a,ha,h⟩:=oI h
 obtain⟨b,hb,h⟩:=oI h
 have h1:=oK (bg bV ha)
 have h2:=oK (bg bV hb)
 refine .pure hm ht hB (a:=.d (.sc (.bool (if neg then !(a==b) else a==b)))) (fun _ _=>by simp only[bM.run,h1,h2,kL]) (v:=.c _) ?_ h
 cases neg<;>rfl
theorem Ix {neg:Bool} {x:bR} (h:bP E wk ctx s2 row dst nx (.wo neg x) K=some r):dx ρ B B' s2 s (.wo neg x) row dst p K r:=by
 simp only[bP] at h
 split at h
 ·rename_i b hx
  have h1:x.ev s.slots=_:=bg bV hx
  cases neg with
  |true=>
   refine .pure hm ht hB (a:=.d (.sc (.bool b))) (fun _ _=>by cases b<;>(simp only[bM.run,h1,kL]<;>try rfl)) (v:=.c _) ?_ h
   rfl
  |false=>
   refine .pure hm ht hB (a:=.d (.sc (.bool !b))) (fun _ _=>by cases b<;>(simp only[bM.run,h1,kL]<;>try rfl)) (v:=.c _) ?_ h
   rfl
 ·cases h
theorem FN {lo n sz:Nat} {x:bR} (h:bP E wk ctx s2 row dst nx (.pP lo n sz x) K=some r):dx ρ B B' s2 s (.pP lo n sz x) row dst p K r:=by
 simp only[bP] at h
 split at h
 ·rename_i lv sl af i off hx
  split at h
  ·rename_i hc
   obtain⟨hv,u,hu,h1⟩:=bg bV hx
   exact .pure hm ht hB (a:=.eH lv sl u (off+lo*sz) (n-lo) sz) (fun _ _=>by simp only[bM.run,h1,hc]) (v:=.c (.eH lv sl af (off+lo*sz) (n-lo) sz)) ⟨hv,u,hu,rfl⟩ h
  ·cases h
 ·cases h
theorem NW {neg:Bool} {sz:Nat} {l:List (Nat×Nat)} {x y:bR} (h:bP E wk ctx s2 row dst nx (.QU neg sz l x y) K=some r):dx ρ B B' s2 s (.QU neg sz l x y) row dst p K r:=by
 simp only[bP] at h
 split at h
 ·rename_i xs ys hx hy
  split at h
  ·rename_i b h1 h2
   rw[Bool.and_eq_true] at h1
   obtain⟨aK,e1,r1⟩:=bg bV hx
   obtain⟨bs,e2,r2⟩:=bg bV hy
   have l1:aK.length=sz:=by rw[←r1.length];exact Nat.eq_of_beq_eq_true h1.1
   have l2:bs.length=sz:=by rw[←r2.length];exact Nat.eq_of_beq_eq_true h1.2
   refine .pure hm ht hB (a:=.d (.sc (.bool (if neg then !b else b)))) (fun _ _=>by
    simp only[bM.run,e1,e2]
    rw[if_neg (by simp[l1,l2]),Cu r1 r2 h2]
    rfl) (v:=.c _) ?_ h
   cases neg<;>rfl
  ·cases h
 ·cases h
theorem RN {Z5:UnOp} {x:bR} (h:bP E wk ctx s2 row dst nx (.un Z5 x) K=some r):dx ρ B B' s2 s (.un Z5 x) row dst p K r:=by
 simp only[bP] at h
 obtain⟨a,ha,h⟩:=cj h
 obtain⟨v,c,h1,h2,h3⟩:=Vv h (bg bV ha)
 exact .pure hm ht hB (fun _ _=>by simp only[bM.run,h1,Option.bind_some,kL]) (v:=.c c) h3 h2
theorem LI {k:IntKind} {x:bR} (h:bP E wk ctx s2 row dst nx (.conv k x) K=some r):dx ρ B B' s2 s (.conv k x) row dst p K r:=by
 simp only[bP] at h
 obtain⟨kd,n,ha,h⟩:=rz h
 have e:=qq (bg bV ha)
 exact .int hm ht hB (fun _ _=>by simp only[bM.run,e,pR,Option.bind_some,kL]) h
theorem Iy {off sz:Nat} {agg:Bool} {x:bR} (h:bP E wk ctx s2 row dst nx (.field off sz agg x) K=some r):dx ρ B B' s2 s (.field off sz agg x) row dst p K r:=by
 simp only[bP] at h
 split at h
 ·rename_i cs hx
  split at h
  ·rename_i v h1 h2
   have h1:=Nat.le_of_ble_eq_true h1
   obtain⟨aK,e1,r1⟩:=bg bV hx
   obtain⟨a,g1,g2⟩:=Aa h2 ((r1.drop off).take sz)
   refine .pure hm ht hB (fun _ _=>?_) g2 h
   simp only[bM.run,e1]
   rw[if_pos (by rw[←r1.length];exact h1),g1]
   rfl
  ·cases h
 ·cases h
theorem Ad {off:Nat} {x:bR} (h:bP E wk ctx s2 row dst nx (.fieldAddr off x) K=some r):dx ρ B B' s2 s (.fieldAddr off x) row dst p K r:=by
 simp only[bP] at h
 split at h
 ·rename_i hx
  obtain⟨hv,u,hu,e⟩:=bg bV hx
  exact .ptr hm ht hB hv hu (fun _ _=>by simp only[bM.run,e]) h
 ·rename_i hx
  have e:x.ev s.slots=_:=bg bV hx
  exact .fo hm ht hB (fun _ _=>by simp only[bM.run,e]) h
 ·cases h
omit hm ht hB bV in
theorem rB:∀ {n k:Nat} {F:Nat→Option α},Lz n k F=some r→k<n∧F k=some r
 |0,_,_,h=>by cases h
 | n + 1, k, F, h => by
  unfold Lz at h
  cases hb:Nat.beq k n with
  |true=>
   have hb:=Nat.eq_of_beq_eq_true hb
   subst hb
   rw[show Nat.beq k k=true from Nat.beq_refl k] at h
   exact⟨Nat.lt_succ_self _,h⟩
  |false=>
   rw[hb] at h
   obtain⟨h1,h2⟩:=rB h
   exact⟨Nat.lt_succ_of_lt h1,h2⟩
theorem BE {n sz:Nat} {x i:bR} (h:bP E wk ctx s2 row dst nx (.jE n sz x i) K=some r):dx ρ B B' s2 s (.jE n sz x i) row dst p K r:=by
 simp only[bP] at h
 obtain⟨kd,k,hi,h0,h⟩:=kf h
 have hk:=iy (bg bV hi) h0
 split at h
 ·rename_i hx
  obtain⟨hlt,h⟩:=rB h
  obtain⟨hv,u,hu,e⟩:=bg bV hx
  exact .ptr hm ht hB hv hu (fun _ _=>by simp only[bM.run,hk,Option.bind_some,e,if_pos hlt]) h
 ·rename_i hx
  obtain⟨hlt,h⟩:=rB h
  have e:x.ev s.slots=_:=bg bV hx
  exact .fo hm ht hB (fun _ _=>by simp only[bM.run,hk,Option.bind_some,e,if_pos hlt]) h
 ·cases h
theorem FO {n sz:Nat} {agg:Bool} {x i:bR} (h:bP E wk ctx s2 row dst nx (.n8 n sz agg x i) K=some r):dx ρ B B' s2 s (.n8 n sz agg x i) row dst p K r:=by
 simp only[bP] at h
 obtain⟨kd,k,hi,h0,h⟩:=kf h
 have hk:=iy (bg bV hi) h0
 split at h
 ·rename_i cs hx
  obtain⟨hlt,h⟩:=rB h
  split at h
  ·rename_i v h1 h2
   have h1:=Nat.le_of_ble_eq_true h1
   obtain⟨aK,e1,r1⟩:=bg bV hx
   obtain⟨a,g1,g2⟩:=Aa h2 ((r1.drop (k.toNat*sz)).take sz)
   refine .pure hm ht hB (fun _ _=>?_) g2 h
   simp only[bM.run,hk,Option.bind_some,e1]
   rw[if_pos ⟨hlt,by rw[←r1.length];exact h1⟩,g1]
   rfl
  ·cases h
 ·cases h
omit hm ht hB bV in
theorem Ae {β : Type} {l:List β} {i:Int} {x : β} (h:idx l i=some x):0≤i∧l[i.toNat]?=some x:=by
 unfold idx at h
 by_cases hi:0≤i
 ·simp[hi] at h;exact⟨hi,h⟩
 ·simp[hi] at h
omit hm ht hB bV in
theorem FP {i:Int} {n:Nat} (h:jq i n=true):0≤i∧i.toNat<n:=by
 simpa[jq] using h
theorem Af {sz:Nat} {x i:bR} (h:bP E wk ctx s2 row dst nx (.indexAddr sz x i) K=some r):dx ρ B B' s2 s (.indexAddr sz x i) row dst p K r:=by
 simp only[bP] at h
 obtain⟨kd,n,hi,h⟩:=rz h
 have hi:=bg bV hi
 split at h
 ·rename_i t l o hx
  split at h
  ·rename_i hz
   have hz:=Nat.eq_of_beq_eq_true hz
   obtain⟨e,he,h⟩:=bind_some h
   obtain⟨h0,he⟩:=Ae he
   have hn:=iy hi h0
   have hg:(bx t l)[n.toNat]?=some (ef t e):=by rw[Ab,he];rfl
   have hx:=(gj (m:=s.mem) (bg bV hx)).2.1
   refine .fo hm ht hB (t:=t) (x:=e) (off:=0) (fun _ _=>?_) h
   rcases hx with e1|⟨o',e1⟩
   ·simp only[bM.run,hn,Option.bind_some,e1,hg,dQ,hz,if_true]
   ·simp only[bM.run,hn,Option.bind_some,e1,hg,dQ,hz,if_true]
  ·cases h
 ·rename_i lv sl af t hx
  split at h
  ·rename_i hz
   have hz:=Nat.eq_of_beq_eq_true hz
   obtain⟨r',hr,h⟩:=au h
   obtain⟨h1,h⟩:=bU h
   obtain⟨h0,h1⟩:=FP h1
   have hn:=iy hi h0
   obtain⟨hv,u,k,hu,e1,hk⟩:=bg bV hx
   have hk:=hk r' hr
   refine .ptr hm ht hB hv hu (fun _ _=>?_) h
   simp only[bM.run,hn,Option.bind_some,e1]
   rw[if_pos ⟨by omega,hz⟩,Nat.zero_add]
  ·cases h
 ·rename_i lv sl af t off len hx
  split at h
  ·rename_i hz
   have hz:=Nat.eq_of_beq_eq_true hz
   obtain⟨h1,h⟩:=bU h
   obtain⟨h0,h1⟩:=FP h1
   have hn:=iy hi h0
   obtain⟨hv,u,hu,e1⟩:=bg bV hx
   refine .ptr hm ht hB hv hu (fun _ _=>?_) h
   simp only[bM.run,hn,Option.bind_some,e1]
   rw[if_pos ⟨by omega,hz⟩]
  ·cases h
 ·cases h
theorem FQ {x i:bR} (h:bP E wk ctx s2 row dst nx (.n9 x i) K=some r):dx ρ B B' s2 s (.n9 x i) row dst p K r:=by
 simp only[bP] at h
 obtain⟨kd,n,hi,h⟩:=rz h
 have hi:=bg bV hi
 split at h
 ·rename_i b hx
  obtain⟨c,hc,h⟩:=bind_some h
  obtain⟨h0,hc⟩:=Ae hc
  have hn:=iy hi h0
  have e:x.ev s.slots=_:=bg bV hx
  refine .int hm ht hB (fun _ _=>?_) h
  simp only[bM.run,hn,Option.bind_some,e,hc,kL]
 ·cases h
omit hm ht hB in
theorem nR {β : Type} {x:Option bR} {K:Option Nat→Option β} {r : β} (h:sO x s2 K=some r):∃ n,(∀ d,eR x s.slots d=some (n.getD d))∧(n.isSome=x.isSome)∧K n=some r:=by
 unfold sO at h
 cases x with
 |none=>exact⟨none,fun _=>rfl,rfl,h⟩
 |some o=>
  obtain⟨kd,n,hv,h0,h⟩:=kf h
  exact⟨some n.toNat,fun _=>by simp[eR,iy (bg bV hv) h0],rfl,h⟩
omit hm ht hB bV in
theorem ga {n:Nat} {lo hi:Option Nat} (h:mg n lo hi=true):lo.getD 0≤hi.getD n∧hi.getD n≤n:=by
 unfold mg at h
 cases lo<;>cases hi<;>simp_all
omit hm ht hB bV in
theorem Ag {β : Type} {l:List β} {lo hi:Option Nat} (h:mg l.length lo hi=true):nH l lo hi=(l.drop (lo.getD 0)).take (hi.getD l.length-lo.getD 0):=by
 have:=ga h
 unfold nH
 cases lo<;>cases hi<;>simp_all
 ·rw[List.take_of_length_le (by simp)]
omit hm ht hB bV in
theorem vF {t:Ty} {l:List t.den} {lo hi:Option Nat} (h:mg l.length lo hi=true):bx t (nH l lo hi)=((bx t l).drop (lo.getD 0)).take (hi.getD (bx t l).length-lo.getD 0):=by
 rw[Ag h,bn]
 simp[bx,List.map_take,List.map_drop]
omit hm ht hB bV in
theorem LJ {sz:Nat} {x:Cell} {a:AV} {lo hi mx:Option Nat} {K:Cell→Option α} (h:Iq s2.mem sz x lo hi mx K=some r) (hx:RC ρ B s2.mem x a) (l h' k:Nat) (hl:l=lo.getD 0) (hh:∀ n,hi=some n→h'=n) (hk:∀ n,mx=some n→k=n) :
  ∃ a' c,dZ sz a l (hi.map fun _=>h') (mx.map fun _=>k)=some a'∧RC ρ B s2.mem c a'∧K c=some r:=by
 have ehi:hi.map (fun _=>h')=hi:=by cases hi with|none=>rfl|some n=>simp[hh n rfl]
 have emx:mx.map (fun _=>k)=mx:=by cases mx with|none=>rfl|some n=>simp[hk n rfl]
 rw[ehi,emx]
 subst hl
 unfold Iq at h
 split at h
 ·rename_i t l o
  split at h
  ·rename_i hz
   have hz:=Nat.eq_of_beq_eq_true hz
   have hall:(bx t l).all (fun e=>e.length==sz)=true:=by rw[←hz];exact fT t l
   split at h
   ·obtain ⟨hp, h⟩ := bU h
    have hp':=ga hp
    have he:=vF (t:=t) hp
    rw[bn] at he
    have c1:lo.getD 0≤hi.getD (bx t l).length∧hi.getD (bx t l).length≤(bx t l).length∧(bx t l).all (fun e=>e.length==sz)=true:=by
     rw[bn];exact⟨hp'.1,hp'.2,hall⟩
    have Ke:∀ {o:Ow},(o=.aJ∨o=.d)→RC ρ B s2.mem (.sl t (nH l lo hi) o) (.d (.sl ((bx t l).drop (lo.getD 0) |>.take (hi.getD (bx t l).length-lo.getD 0)))):=by
     intro o ho
     rw[bn,←he]
     rcases ho with rfl|rfl<;>exact .inl rfl
    have dat:dZ sz (.d (.sl (bx t l))) (lo.getD 0) hi none=some (.d (.sl ((bx t l).drop (lo.getD 0) |>.take (hi.getD (bx t l).length-lo.getD 0)))):=by
     simp only[dZ]
     rw[if_pos c1]
    have own:∀ o',o'≠.aJ→∃ a',dZ sz (.own (bx t l) o') (lo.getD 0) hi none=some a'∧RC ρ B s2.mem (.sl t (nH l lo hi) .d) a':=by
     intro o' ho'
     cases o' with
     |aJ=>exact (ho' rfl).elim
     | full =>
      simp only[dZ]
      rw[if_pos c1]
      split
      ·rename_i e
       refine⟨_,rfl,.inr ⟨.full,by simp,?_⟩⟩
       rw[he,show hi.getD l.length=l.length from by rw[bn] at e;exact e]
       rw[List.take_of_length_le (by simp[bn])]
      ·exact⟨_,rfl,Ke (.inr rfl)⟩
     |cx v z=>
      simp only[dZ]
      rw[if_pos c1]
      exact⟨_,rfl,Ke (.inr rfl)⟩
    split at h
    ·rcases hx with rfl | ⟨o', rfl⟩
     ·exact⟨_,_,dat,Ke (.inl rfl),h⟩
     ·by_cases ho' : o' = .aJ
      ·subst ho'
       refine⟨_,_,by simp only[dZ];rw[if_pos c1],?_,h⟩
       refine .inr ⟨.aJ,?_⟩
       rw[he,bn]
      ·obtain ⟨a', g1, g2⟩ := own o' ho'
       refine⟨a',_,g1,?_,h⟩
       rcases g2 with rfl|⟨o2,_,rfl⟩
       ·exact .inl rfl
       ·exact .inr ⟨_,rfl⟩
    ·split at h
     ·cases hx
      refine⟨.own ((bx t l).drop (lo.getD 0)) .full,_,?_,?_,h⟩
      ·simp only [dZ]
       rw[if_pos c1]
       simp
      ·show _ = _
       rw[he]
       simp only[Option.getD_none]
       rw[List.take_of_length_le (by simp[bn])]
     ·cases hx
      obtain⟨a',g1,g2⟩:=own .full (by simp)
      exact⟨a',_,g1,g2,h⟩
    ·rename_i aex aiy
     rcases (gj (m:=[]) hx).2.2 (fun e=>aex e) with rfl|⟨o',ho',rfl⟩
     ·exact⟨_,_,dat,Ke (.inr rfl),h⟩
     ·obtain ⟨a', g1, g2⟩ := own o' ho'
      exact⟨a',_,g1,g2,h⟩
   ·rename_i mm
    split at h
    ·cases h
    ·cases h
    ·rename_i hi' hne
     obtain⟨hp,h⟩:=bU h
     rw[Bool.and_eq_true] at hp
     obtain⟨hp,U6⟩:=hp
     have U6:=Nat.eq_of_beq_eq_true U6
     have hp':=ga hp
     have he:=vF (t:=t) hp
     simp only[Option.getD_some] at hp' he
     have c1:lo.getD 0≤hi'∧hi'=mm∧hi'≤(bx t l).length∧(bx t l).all (fun e=>e.length==sz)=true:=by
      rw[bn];exact⟨hp'.1,U6,hp'.2,hall⟩
     refine⟨.own ((bx t l).drop (lo.getD 0) |>.take (hi'-lo.getD 0)) .full,_,?_,?_,h⟩
     ·rcases (gj (m := []) hx).2.2 (fun e => hne e) with rfl | ⟨o', ho', rfl⟩
      ·simp only [dZ, Option.getD_some]
       rw[if_pos c1]
      ·cases o' with
       |aJ=>exact (ho' rfl).elim
       |_=>simp only[dZ,Option.getD_some];rw[if_pos c1]
     ·show _ = _
      rw[he]
  ·cases h
 ·rename_i f
  split at h
  ·obtain ⟨hp, h⟩ := bU h
   have hp':=ga hp
   have h0:hi.getD 0=0:=by omega
   have l0:lo.getD 0=0:=by omega
   cases f with
   |true=>
    cases hx
    refine⟨.own [] .full,.nil true,?_,rfl,h⟩
    simp[dZ,h0,l0]
   | false =>
    rcases hx with rfl|⟨o,ho,rfl⟩
    ·exact⟨.d (.sl []),.nil false,by simp[dZ,h0,l0],.inl rfl,h⟩
    ·cases o with
     |aJ=>exact (ho rfl).elim
     |full=>exact⟨.own [] .full,.nil false,by simp[dZ,h0,l0],.inr ⟨.full,by simp,rfl⟩,h⟩
     |cx v z=>exact⟨.d (.sl []),.nil false,by simp[dZ,h0,l0],.inl rfl,h⟩
  ·cases h
 ·rename_i lv sl af t
  cases hz:Nat.beq t.size sz with
  |false=>simp[hz] at h
  |true=>
  simp only[hz] at h
  split at h
  ·have hz := Nat.eq_of_beq_eq_true hz
   obtain⟨r',hr,h⟩:=au h
   obtain⟨hp,h⟩:=bU h
   have hp':=ga hp
   obtain⟨hv,u,n,hu,rfl,hn⟩:=hx
   have hn:=hn r' hr
   subst hn
   refine⟨_,.jg lv sl af t (xT lo) (hi.getD r'.l.length-xT lo),?_,⟨hv,u,hu,rfl,fun r2 hr2=>by rw[hr] at hr2;injection hr2 with hr2;subst hr2;have h1:=hp'.1;have h2:=hp'.2;simp only[xT] at h1 h2 ⊢;omega⟩,h⟩
   simp only[dZ,xT]
   rw[if_pos ⟨hp'.1,hp'.2,hz⟩,Nat.zero_add,hz]
  ·cases h
 ·rename_i lv sl af t off len
  cases hz:Nat.beq t.size sz with
  |false=>simp[hz] at h
  |true=>
  simp only[hz] at h
  split at h
  ·have hz := Nat.eq_of_beq_eq_true hz
   obtain⟨hp,h⟩:=bU h
   have hp':=ga hp
   obtain⟨hv,u,hu,rfl,hlen⟩:=hx
   refine⟨_,.jg lv sl af t (off+xT lo) (hi.getD len-xT lo),?_,⟨hv,u,hu,rfl,fun r2 hr2=>by have h0:=hlen r2 hr2;have h1:=hp'.1;have h2:=hp'.2;simp only[xT] at h1 h2 ⊢;omega⟩,h⟩
   simp only[dZ,xT]
   rw[if_pos ⟨hp'.1,hp'.2,hz⟩,hz]
  ·cases h
 ·cases h
theorem FR {x:bR} {lo hi:Option bR} (h:bP E wk ctx s2 row dst nx (.oa x lo hi) K=some r):dx ρ B B' s2 s (.oa x lo hi) row dst p K r:=by
 simp only[bP] at h
 split at h
 ·rename_i b hx
  obtain⟨l,el,il,h⟩:=nR bV h
  obtain⟨h',eh,ih,h⟩:=nR bV h
  obtain⟨hp,h⟩:=bU h
  have hp':=ga hp
  have e:x.ev s.slots=_:=bg bV hx
  refine .str hm ht hB (fun _ _=>?_) h
  simp only[bM.run,e,el,eh,DU]
  rw[if_pos hp',Iw,Ag hp]
  rfl
 ·cases h
theorem DV {x:bR} {i:Nat} (h:bP E wk ctx s2 row dst nx (.extract x i) K=some r):dx ρ B B' s2 s (.extract x i) row dst p K r:=by
 simp only[bP] at h
 split at h
 ·rename_i vs hx
  split at h
  ·rename_i a cs hi
   obtain⟨v,hv,h⟩:=au h
   obtain⟨aK,e1,r1⟩:=bg bV hx
   obtain⟨y,g1,g2⟩:=r1.get _ _ hi
   have:RV ρ B s2.mem v y:=by
    cases a with
    |true=>
     obtain⟨as',rfl,g3⟩:=g2
     simp only[jz,Option.some.injEq] at hv
     subst hv
     exact⟨as',rfl,g3⟩
    |false=>
     obtain⟨c,rfl,g3⟩:=g2
     simp only[jz,Option.some.injEq] at hv
     subst hv
     exact g3
   exact .pure hm ht hB (fun _ _=>by simp only[bM.run,e1,g1,Option.bind_some]) this h
  ·cases h
 ·cases h
theorem NX {x:bR} (h:bP E wk ctx s2 row dst nx (.len x) K=some r):dx ρ B B' s2 s (.len x) row dst p K r:=by
 simp only[bP] at h
 obtain⟨c,hx,h⟩:=cj h
 have hx:=bg bV hx
 split at h
 ·rename_i t l o
  refine .int hm ht hB (fun _ _=>?_) h
  rcases (gj (m:=s.mem) hx).2.1 with e|⟨o',e⟩<;>(simp only[bM.run,e,bn];rfl)
 ·rename_i f
  refine .int hm ht hB (fun _ _=>?_) h
  rcases (fM (m:=s.mem) hx).2 with e|⟨o',_,e⟩<;>(simp only[bM.run,e,List.length_nil];rfl)
 ·rename_i lv sl af t
  obtain⟨r',hr,h⟩:=au h
  obtain⟨hv,u,n,hu,e,hn⟩:=hx
  have hn:=hn r' hr
  subst hn
  exact .int hm ht hB (fun _ _=>by simp only[bM.run,e];rfl) h
 ·rename_i lv sl af t off len
  obtain⟨hv,u,hu,e⟩:=hx
  exact .int hm ht hB (fun _ _=>by simp only[bM.run,e];rfl) h
 ·cases h
theorem LK {x:bR} (h:bP E wk ctx s2 row dst nx (.EE x) K=some r):dx ρ B B' s2 s (.EE x) row dst p K r:=by
 simp only[bP] at h
 obtain⟨c,hx,h⟩:=cj h
 have hx:=bg bV hx
 split at h
 ·have e : x.ev s.slots = .own [] .full := hx
  exact .int hm ht hB (fun _ _=>by simp only[bM.run,e,List.length_nil];rfl) h
 ·have e : x.ev s.slots = .own (bx _ _) .full := hx
  exact .int hm ht hB (fun _ _=>by simp only[bM.run,e,bn];rfl) h
 ·cases h
theorem LL {x:bR} (h:bP E wk ctx s2 row dst nx (.C9 x) K=some r):dx ρ B B' s2 s (.C9 x) row dst p K r:=by
 simp only[bP] at h
 split at h
 ·rename_i b hx
  have e:x.ev s.slots=_:=bg bV hx
  exact .int hm ht hB (fun _ _=>by simp only[bM.run,e,DU];rfl) h
 ·cases h
omit bV in
theorem LM {n:Nat} (h:bP E wk ctx s2 row dst nx (.Bv n) K=some r):dx ρ B B' s2 s (.Bv n) row dst p K r:=by
 simp only[bP] at h
 exact .int hm ht hB (fun _ _=>rfl) h
theorem FT {n sz:Nat} {x:bR} (h:bP E wk ctx s2 row dst nx (.sliceB n sz x) K=some r):dx ρ B B' s2 s (.sliceB n sz x) row dst p K r:=by
 simp only[bP] at h
 obtain⟨c,hc,h⟩:=cj h
 have hc:=bg bV hc
 split at h
 ·rename_i lv sl af i off _
  split at h
  ·rename_i hi
   obtain⟨hv,u,hu,e⟩:=hc
   refine .pure (a:=.eH lv sl u off n sz) hm ht hB (fun _ _=>?_) (show RV ρ B s2.mem (.c (.eH lv sl af off n sz)) (.eH lv sl u off n sz) from⟨hv,u,hu,rfl⟩) h
   simp only[bM.run,e,hi]
  ·cases h
 ·cases h
theorem LN {x y:bR} (h:bP E wk ctx s2 row dst nx (.Da x y) K=some r):dx ρ B B' s2 s (.Da x y) row dst p K r:=by
 simp only[bP] at h
 split at h
 ·rename_i k a k' b hx hy
  split at h
  ·rename_i e _
   subst e
   have e1:=qq (bg bV hx)
   have e2:=qq (bg bV hy)
   exact .int hm ht hB (fun _ _=>by simp only[bM.run,e1,e2,if_true,kL]) h
  ·cases h
 ·cases h
theorem LO {x y:bR} (h:bP E wk ctx s2 row dst nx (.Db x y) K=some r):dx ρ B B' s2 s (.Db x y) row dst p K r:=by
 simp only[bP] at h
 split at h
 ·rename_i k a k' b hx hy
  split at h
  ·rename_i e _
   subst e
   have e1:=qq (bg bV hx)
   have e2:=qq (bg bV hy)
   exact .int hm ht hB (fun _ _=>by simp only[bM.run,e1,e2,if_true,kL]) h
  ·cases h
 ·cases h
omit hm ht hB bV in
theorem xo {m:List (Tr E2)} : ∀ {vs:List V2} {aK:List AV} {cs:List Cell},qn vs=some cs→az (RV ρ B m) vs aK→az (RC ρ B m) cs aK∧aK.all lK=true
 |[],[],cs,h,_=>by simp only[qn,Option.some.injEq] at h;subst h;exact⟨trivial,rfl⟩
 | v :: vs, a :: aK, cs, h, hv => by
  cases v with
  |c x=>
   simp only[qn] at h
   obtain⟨cs',h1,rfl⟩:=aM h
   obtain⟨g1,g2⟩:=xo h1 hv.2
   exact⟨⟨hv.1,g1⟩,by simp[(RC.cell hv.1).2.1,g2]⟩
  |_=>cases h
 |[],_ :: _,_,_,h=>h.elim
 |_ :: _,[],_,_,h=>h.elim
theorem BF {f:Nat} {cap:List bR} (h:bP E wk ctx s2 row dst nx (.makeFunc f cap) K=some r):dx ρ B B' s2 s (.makeFunc f cap) row dst p K r:=by
 simp only[bP] at h
 obtain⟨cs,hc,h⟩:=au h
 obtain⟨vs,h1,h2⟩:=aT hc
 obtain⟨g1,g2⟩:=xo h2 (oJ bV h1)
 exact .pure hm ht hB (fun _ _=>by simp only[bM.run,g2,if_true]) (v:=.fV f cs) ⟨_,rfl,g1⟩ h
end
end Go.Sym
