/- A part of the proof: SymE, SymF. -/
import Derived.Test.YthphehfgekjooaaGreatDoorSymD
set_option linter.unusedVariables false
set_option linter.unusedSimpArgs false
namespace Go.Sym
open Go Go.bq
section
variable {α : Type} {ρ : aR} {B B':Nat} {s2:S2} {s:St} {op:bL} {row dst p nx:Nat} {K:fP→Option α} {r : α} {E:au} {wk:Wk} {ctx:Nat}
theorem NU (x y:List UInt8):(⟨x.toArray⟩:ByteArray)++⟨y.toArray⟩=⟨(x++y).toArray⟩:=by
 apply ByteArray.ext
 simp
theorem E4 (x:List UInt8):(⟨x.toArray⟩:ByteArray).size=x.length:=by simp[ByteArray.size]
theorem Km (x:List UInt8) (a b:Nat):(⟨x.toArray⟩:ByteArray).extract a b=⟨((x.drop a).take (b-a)).toArray⟩:=by
 apply ByteArray.ext
 simp_all
theorem UH {x y:List UInt8} {QI:BinOp} {K:Cell→Option α} (h:Zu QI x y K=some r):∃ v c,JE QI ⟨x.toArray⟩ ⟨y.toArray⟩=some v∧K c=some r∧∀ (m:List (Tr E2)),RC ρ B m c (.d (.sc v)):=by
 unfold Zu at h
 split at h
 ·obtain ⟨h1, h⟩ := bK h
  refine⟨_,_,?_,h,fun _=>rfl⟩
  have:¬((x.length+y.length:Nat):Int)>IntKind.i64.max:=by simpa using h1
  simp only[JE,E4,NU]
  rw[if_neg this]
 all_goals first
  |(refine⟨_,_,?_,h,fun _=>rfl⟩;simp[JE,ByteArray.toList_eq];done)
  |cases h
theorem UI {x y:Cell} {a b:AV} {QI:BinOp} {m:List (Tr E2)} {K:Cell→Option α} (h:Zv QI x y K=some r) (hx:RC ρ B m x a) (hy:RC ρ B m y b):∃ v c,PM QI a b=some v∧K c=some r∧RC ρ B m c (.d (.sc v)):=by
 unfold Zv at h
 split at h
 ·cases hx; cases hy
  obtain⟨v,c,h1,h2,h3⟩:=UG (ρ:=ρ) (B:=B) h
  exact⟨v,c,h1,h2,h3 m⟩
 ·cases hx; cases hy
  obtain⟨v,c,h1,h2,h3⟩:=UH (ρ:=ρ) (B:=B) h
  exact⟨v,c,h1,h2,h3 m⟩
 grind
theorem QJ {kd:Nat} {x y:Cell} {a b:AV} {m:List (Tr E2)} {t:Bool} (h:Qu kd x y=some t) (hx:RC ρ B m x a) (hy:RC ρ B m y b):GA kd a b=some t:=by
 unfold Qu at h
 split at h
 ·split at h<;>simp_all[RC,aR,GA]
 ·split at h
  ·split at h<;>simp_all[RC,aR,GA]
  grind
 ·split at h
  ·cases h
  ·cases h
  ·rename_i x y n _ _
   cases hx;cases hy
   have:((⟨x.toArray⟩:ByteArray)==⟨y.toArray⟩)=(x==y):=by
    rw[Bool.eq_iff_iff]
    show (x.toArray==y.toArray)=true↔_
    simp
   unfold GA<;>grind
 grind
theorem Dn {xs ys:List Cell} {aD bs:List AV} {m:List (Tr E2)} (hx:aq (RC ρ B m) xs aD) (hy:aq (RC ρ B m) ys bs):∀ {l:List (Nat×Nat)} {t:Bool},EV xs ys l=some t→lq aD bs l=some t
 |[],t,h=>h
 | o :: l, t, h => by
  simp[EV] at h
  split at h
  ·rename_i x y b' h1 h2 h3
   obtain⟨b,h4,rfl⟩:=aG h
   obtain⟨a,g1,g2⟩:=hx.get _ _ h1
   obtain⟨a',g3,g4⟩:=hy.get _ _ h2
   simp[lq,g1,g3,QJ h4 g2 g4]
   cases b with
   |true=>simpa using Dn hx hy h3
   |false=>rfl
  grind
theorem ZE {x:Cell} {a:AV} {m:List (Tr E2)} {uop:UnOp} {K:Cell→Option α} (h:unK uop x K=some r) (hx:RC ρ B m x a):∃ v c,unA uop a=some v∧K c=some r∧RC ρ B m c (.d (.sc v)):=by
 unfold unK at h
 split at h
 ·split at h
  ·cases hx;exact⟨_,_,rfl,h,rfl⟩
  grind
 ·split at h
  ·cases hx;exact⟨_,_,rfl,h,rfl⟩
  ·cases hx;exact⟨_,_,by simp[unA,CC],h,rfl⟩
  grind
 grind
section
variable (hm:MR ρ B s2.mem s.mem) (ht:TR ρ B s2.aB s.aB) (hB:B≤B')
include hm ht hB
theorem cV.int {k:IntKind} {n:Int} (hrun:∀ call sh,op.run call sh s row dst p=eU.pure (.d (.sc (.int k n)))) (hK:K (cZ (.int k n))=some r):cV ρ B B' s2 s op row dst p K r:=
 .pure hm ht hB hrun (v:=.c (.int k n)) rfl hK
theorem cV.str {x:List UInt8} (hrun:∀ call sh,op.run call sh s row dst p=eU.pure (.d (.sc (.string ⟨x.toArray⟩)))) (hK:K (cZ (.str x))=some r):cV ρ B B' s2 s op row dst p K r:=
 .pure hm ht hB hrun (v:=.c (.str x)) rfl hK
theorem cV.eW {t:Ty} {x:t.den} {off:Nat} (hrun:∀ call sh,op.run call sh s row dst p=eU.pure (.eW (dX t x) off)) (hK:K (cZ (.eW t x off))=some r):cV ρ B B' s2 s op row dst p K r:=
 .pure hm ht hB hrun (v:=.c (.eW t x off)) rfl hK
theorem cV.ptr {lv sl aa u i off:Nat} (hv:aa<B) (hu : ρ aa=some u) (hrun:∀ call sh,op.run call sh s row dst p=eU.pure (.ptr lv sl u i off)) (hK:K (cZ (.ptr lv sl aa i off))=some r):cV ρ B B' s2 s op row dst p K r:=
 .pure hm ht hB hrun (v:=.c (.ptr lv sl aa i off)) ⟨hv,u,hu,rfl⟩ hK
end
variable (hm:MR ρ B s2.mem s.mem) (ht:TR ρ B s2.aB s.aB) (bI:tM ρ B s2.mem s2.slots s.slots) (hB:B≤B')
include hm ht hB bI
theorem QK {QI:BinOp} {x y:bA} (h:ck E wk ctx s2 row dst nx (.bin QI x y) K=some r):cV ρ B B' s2 s (.bin QI x y) row dst p K r:=by
 obtain⟨a,ha,h⟩:=bN h
 obtain⟨b,hb,h⟩:=bN h
 obtain⟨v,c,h1,h2,h3⟩:=UI h (aO bI ha) (aO bI hb)
 exact .pure hm ht hB (fun _ _=>by simp only[bL.run,h1,Option.bind_some,lu]) (v:=.c c) h3 h2
theorem QL {neg:Bool} {x y:bA} (h:ck E wk ctx s2 row dst nx (.TT neg x y) K=some r):cV ρ B B' s2 s (.TT neg x y) row dst p K r:=by
 obtain⟨a,ha,h⟩:=pQ h
 obtain⟨b,hb,h⟩:=pQ h
 have h1:=pT (aO bI ha)
 have h2:=pT (aO bI hb)
 refine .pure hm ht hB (a:=.d (.sc (.bool (if neg then !(a==b) else a==b)))) (fun _ _=>by simp only[bL.run,h1,h2,lu]) (v:=.c _) ?_ h
 cases neg<;>rfl
theorem Kn {neg:Bool} {x:bA} (h:ck E wk ctx s2 row dst nx (.xe neg x) K=some r):cV ρ B B' s2 s (.xe neg x) row dst p K r:=by
 simp[ck] at h
 split at h
 ·rename_i b hx
  have h1:x.ev s.slots=_:=aO bI hx
  cases neg with
  |true=>
   refine .pure hm ht hB (a:=.d (.sc (.bool b))) (fun _ _=>by cases b<;>(simp only[bL.run,h1,lu]<;>try rfl)) (v:=.c _) ?_ h
   rfl
  |false=>
   refine .pure hm ht hB (a:=.d (.sc (.bool !b))) (fun _ _=>by cases b<;>(simp only[bL.run,h1,lu]<;>try rfl)) (v:=.c _) ?_ h
   rfl
 grind
theorem HG {lo n sz:Nat} {x:bA} (h:ck E wk ctx s2 row dst nx (.qA lo n sz x) K=some r):cV ρ B B' s2 s (.qA lo n sz x) row dst p K r:=by
 simp[ck] at h
 split at h
 ·rename_i lv sl aa i off hx
  split at h
  ·rename_i hc
   obtain⟨hv,u,hu,h1⟩:=aO bI hx
   exact .pure hm ht hB (a:=.eA lv sl u (off+lo*sz) (n-lo) sz) (fun _ _=>by simp only[bL.run,h1,hc]) (v:=.c (.eA lv sl aa (off+lo*sz) (n-lo) sz)) ⟨hv,u,hu,rfl⟩ h
  grind
 grind
theorem QM {neg:Bool} {sz:Nat} {l:List (Nat×Nat)} {x y:bA} (h:ck E wk ctx s2 row dst nx (.TU neg sz l x y) K=some r):cV ρ B B' s2 s (.TU neg sz l x y) row dst p K r:=by
 simp[ck] at h
 split at h
 ·rename_i xs ys hx hy
  split at h
  ·rename_i b h1 h2
   obtain⟨aD,e1,r1⟩:=aO bI hx
   obtain⟨bs,e2,r2⟩:=aO bI hy
   have l1:aD.length=sz:=by rw[←r1.length]<;>simp_all
   have l2:bs.length=sz:=by rw[←r2.length]<;>simp_all
   refine .pure hm ht hB (a:=.d (.sc (.bool (if neg then !b else b)))) (fun _ _=>by
    simp only[bL.run,e1,e2]
    rw[if_neg (by simp[l1,l2]),Dn r1 r2 h2]
    rfl) (v:=.c _) ?_ h
   cases neg<;>rfl
  grind
 grind
theorem UJ {uop:UnOp} {x:bA} (h:ck E wk ctx s2 row dst nx (.un uop x) K=some r):cV ρ B B' s2 s (.un uop x) row dst p K r:=by
 obtain⟨a,ha,h⟩:=bN h
 obtain⟨v,c,h1,h2,h3⟩:=ZE h (aO bI ha)
 exact .pure hm ht hB (fun _ _=>by simp only[bL.run,h1,Option.bind_some,lu]) (v:=.c c) h3 h2
theorem NV {k:IntKind} {x:bA} (h:ck E wk ctx s2 row dst nx (.conv k x) K=some r):cV ρ B B' s2 s (.conv k x) row dst p K r:=by
 obtain⟨kd,n,ha,h⟩:=sC h
 have e:=rA (aO bI ha)
 exact .int hm ht hB (fun _ _=>by simp only[bL.run,e,qC,Option.bind_some,lu]) h
theorem Ko {off sz:Nat} {agg:Bool} {x:bA} (h:ck E wk ctx s2 row dst nx (.field off sz agg x) K=some r):cV ρ B B' s2 s (.field off sz agg x) row dst p K r:=by
 simp[ck] at h
 split at h
 ·rename_i cs hx
  split at h
  ·rename_i v h1 h2
   have h1:=Nat.le_of_ble_eq_true h1
   obtain⟨aD,e1,r1⟩:=aO bI hx
   obtain⟨a,g1,g2⟩:=AD h2 ((r1.drop off).take sz)
   refine .pure hm ht hB (fun _ _=>?_) g2 h
   simp[bL.run,e1]
   rw[if_pos (by rw[←r1.length];exact h1),g1]
   rfl
  grind
 grind
theorem AG {off:Nat} {x:bA} (h:ck E wk ctx s2 row dst nx (.fieldAddr off x) K=some r):cV ρ B B' s2 s (.fieldAddr off x) row dst p K r:=by
 simp[ck] at h
 split at h
 ·rename_i hx
  obtain⟨hv,u,hu,e⟩:=aO bI hx
  exact .ptr hm ht hB hv hu (fun _ _=>by simp only[bL.run,e]) h
 ·rename_i hx
  have e:x.ev s.slots=_:=aO bI hx
  exact .eW hm ht hB (fun _ _=>by simp only[bL.run,e]) h
 grind
omit hm ht hB bI in
theorem sE:∀ {n k:Nat} {F:Nat→Option α},NL n k F=some r→k<n∧F k=some r
 |0,_,_,h=>by cases h
 | n + 1, k, F, h => by
  unfold NL at h
  cases hb:Nat.beq k n with
  |true=>
   simp_all
  |false=>
   rw[hb] at h
   obtain⟨h1,h2⟩:=sE h<;>grind
theorem Cp {n sz:Nat} {x i:bA} (h:ck E wk ctx s2 row dst nx (.jz n sz x i) K=some r):cV ρ B B' s2 s (.jz n sz x i) row dst p K r:=by
 simp[ck] at h
 obtain⟨kd,k,hi,h0,h⟩:=kA h
 have hk:=gX (aO bI hi) h0
 split at h
 ·rename_i hx
  obtain⟨hlt,h⟩:=sE h
  obtain⟨hv,u,hu,e⟩:=aO bI hx
  exact .ptr hm ht hB hv hu (fun _ _=>by simp only[bL.run,hk,Option.bind_some,e,if_pos hlt]) h
 ·rename_i hx
  obtain⟨hlt,h⟩:=sE h
  have e:x.ev s.slots=_:=aO bI hx
  exact .eW hm ht hB (fun _ _=>by simp only[bL.run,hk,Option.bind_some,e,if_pos hlt]) h
 grind
theorem HH {n sz:Nat} {agg:Bool} {x i:bA} (h:ck E wk ctx s2 row dst nx (.oY n sz agg x i) K=some r):cV ρ B B' s2 s (.oY n sz agg x i) row dst p K r:=by
 simp[ck] at h
 obtain⟨kd,k,hi,h0,h⟩:=kA h
 have hk:=gX (aO bI hi) h0
 split at h
 ·rename_i cs hx
  obtain⟨hlt,h⟩:=sE h
  split at h
  ·rename_i v h1 h2
   have h1:=Nat.le_of_ble_eq_true h1
   obtain⟨aD,e1,r1⟩:=aO bI hx
   obtain⟨a,g1,g2⟩:=AD h2 ((r1.drop (k.toNat*sz)).take sz)
   refine .pure hm ht hB (fun _ _=>?_) g2 h
   simp[bL.run,hk,Option.bind_some,e1]
   rw[if_pos ⟨hlt,by rw[←r1.length];exact h1⟩,g1]<;>grind
  grind
 grind
omit hm ht hB bI in
theorem AH {β : Type} {l:List β} {i:Int} {x : β} (h:idx l i=some x):0≤i∧l[i.toNat]?=some x:=by
 grind[idx]
omit hm ht hB bI in
theorem HI {i:Int} {n:Nat} (h:jf i n=true):0≤i∧i.toNat<n:=by
 simpa[jf] using h
theorem AI {sz:Nat} {x i:bA} (h:ck E wk ctx s2 row dst nx (.indexAddr sz x i) K=some r):cV ρ B B' s2 s (.indexAddr sz x i) row dst p K r:=by
 obtain⟨kd,n,hi,h⟩:=sC h
 have hi:=aO bI hi
 split at h
 ·rename_i t l o hx
  split at h
  ·rename_i hz
   have hz:=Nat.eq_of_beq_eq_true hz
   obtain⟨e,he,h⟩:=bind_some h
   obtain⟨h0,he⟩:=AH he
   have hn:=gX hi h0
   have hg:(aS t l)[n.toNat]?=some (dX t e):=by rw[AE,he];rfl
   have hx:=(fQ (m:=s.mem) (aO bI hx)).2.1
   refine .eW hm ht hB (t:=t) (x:=e) (off:=0) (fun _ _=>?_) h
   rcases hx with e1|⟨o',e1⟩
   ·simp[bL.run,hn,Option.bind_some,e1,hg,dM,hz,if_true]
   ·simp[bL.run,hn,Option.bind_some,e1,hg,dM,hz,if_true]
  grind
 ·rename_i lv sl aa t hx
  split at h
  ·rename_i hz
   have hz:=Nat.eq_of_beq_eq_true hz
   obtain⟨r',hr,h⟩:=ak h
   obtain⟨h1,h⟩:=bK h
   obtain⟨h0,h1⟩:=HI h1
   have hn:=gX hi h0
   obtain⟨hv,u,k,hu,e1,hk⟩:=aO bI hx
   refine .ptr hm ht hB hv hu (fun _ _=>?_) h
   simp only[bL.run,hn,Option.bind_some,e1]<;>grind
  grind
 ·rename_i lv sl aa t off len hx
  split at h
  ·rename_i hz
   have hz:=Nat.eq_of_beq_eq_true hz
   obtain⟨h1,h⟩:=bK h
   obtain⟨h0,h1⟩:=HI h1
   have hn:=gX hi h0
   obtain⟨hv,u,hu,e1⟩:=aO bI hx
   refine .ptr hm ht hB hv hu (fun _ _=>?_) h
   simp only[bL.run,hn,Option.bind_some,e1]<;>grind
  grind
 grind
theorem HJ {x i:bA} (h:ck E wk ctx s2 row dst nx (.oZ x i) K=some r):cV ρ B B' s2 s (.oZ x i) row dst p K r:=by
 obtain⟨kd,n,hi,h⟩:=sC h
 have hi:=aO bI hi
 split at h
 ·rename_i b hx
  obtain⟨c,hc,h⟩:=bind_some h
  obtain⟨h0,hc⟩:=AH hc
  have hn:=gX hi h0
  have e:x.ev s.slots=_:=aO bI hx
  refine .int hm ht hB (fun _ _=>?_) h
  simp[bL.run,hn,Option.bind_some,e,hc,lu]
 grind
omit hm ht hB in
theorem oD {β : Type} {x:Option bA} {K:Option Nat→Option β} {r : β} (h:tJ x s2 K=some r):∃ n,(∀ d,eG x s.slots d=some (n.getD d))∧(n.isSome=x.isSome)∧K n=some r:=by
 unfold tJ at h
 cases x with
 |none=>exact⟨none,fun _=>rfl,rfl,h⟩
 |some o=>
  obtain⟨kd,n,hv,h0,h⟩:=kA h
  exact⟨some n.toNat,fun _=>by simp[eG,gX (aO bI hv) h0],rfl,h⟩
omit hm ht hB bI in
theorem gY {n:Nat} {lo hi:Option Nat} (h:lZ n lo hi=true):lo.getD 0≤hi.getD n∧hi.getD n≤n:=by
 unfold lZ at h<;>grind
omit hm ht hB bI in
theorem AJ {β : Type} {l:List β} {lo hi:Option Nat} (h:lZ l.length lo hi=true):nI l lo hi=(l.drop (lo.getD 0)).take (hi.getD l.length-lo.getD 0):=by
 unfold nI
 cases lo<;>cases hi<;>simp_all
 ·rw[List.take_of_length_le (by simp)]
omit hm ht hB bI in
theorem wH {t:Ty} {l:List t.den} {lo hi:Option Nat} (h:lZ l.length lo hi=true):aS t (nI l lo hi)=((aS t l).drop (lo.getD 0)).take (hi.getD (aS t l).length-lo.getD 0):=by
 rw[AJ h]<;>simp_all[lZ,Ty.den,nI,aS]
omit hm ht hB bI in
theorem NW {sz:Nat} {x:Cell} {a:AV} {lo hi mx:Option Nat} {K:Cell→Option α} (h:Ke s2.mem sz x lo hi mx K=some r) (hx:RC ρ B s2.mem x a) (l h' k:Nat) (hl:l=lo.getD 0) (hh:∀ n,hi=some n→h'=n) (hk:∀ n,mx=some n→k=n) :
  ∃ a' c,dV sz a l (hi.map fun _=>h') (mx.map fun _=>k)=some a'∧RC ρ B s2.mem c a'∧K c=some r:=by
 have ehi:hi.map (fun _=>h')=hi:=by cases hi with|none=>rfl|some n=>grind
 have emx:mx.map (fun _=>k)=mx:=by cases mx with|none=>rfl|some n=>grind
 rw[ehi,emx]
 subst hl
 unfold Ke at h
 split at h
 ·rename_i t l o
  split at h
  ·rename_i hz
   have hz:=Nat.eq_of_beq_eq_true hz
   have hall:(aS t l).all (fun e=>e.length==sz)=true:=by rw[←hz];exact fI t l
   split at h
   ·obtain ⟨hp, h⟩ := bK h
    have hp':=gY hp
    have he:=wH (t:=t) hp
    rw[aQ] at he
    have c1:lo.getD 0≤hi.getD (aS t l).length∧hi.getD (aS t l).length≤(aS t l).length∧(aS t l).all (fun e=>e.length==sz)=true:=by
     rw[aQ]<;>grind
    have ajq:∀ {o:Ow},(o=.bB∨o=.d)→RC ρ B s2.mem (.sl t (nI l lo hi) o) (.d (.sl ((aS t l).drop (lo.getD 0) |>.take (hi.getD (aS t l).length-lo.getD 0)))):=by
     intro o ho
     rw[aQ,←he]
     rcases ho with rfl|rfl<;>exact .inl rfl
    have dat:dV sz (.d (.sl (aS t l))) (lo.getD 0) hi none=some (.d (.sl ((aS t l).drop (lo.getD 0) |>.take (hi.getD (aS t l).length-lo.getD 0)))):=by
     simp only[dV]<;>grind
    have own:∀ o',o'≠.bB→∃ a',dV sz (.own (aS t l) o') (lo.getD 0) hi none=some a'∧RC ρ B s2.mem (.sl t (nI l lo hi) .d) a':=by
     intro o' ho'
     cases o' with
     |bB=>grind
     | full =>
      simp only[dV]
      rw[if_pos c1]
      split
      ·rename_i e
       refine⟨_,rfl,.inr ⟨.full,by simp,?_⟩⟩
       rw[he,show hi.getD l.length=l.length from by rw[aQ] at e;exact e]
       rw[List.take_of_length_le (by simp[aQ])]
      grind
     |bR v z=>
      simp only[dV]<;>grind
    split at h
    ·rcases hx with rfl | ⟨o', rfl⟩
     ·grind
     ·by_cases ho' : o' = .bB
      ·subst ho'
       refine⟨_,_,by simp only[dV];rw[if_pos c1],?_,h⟩
       refine .inr ⟨.bB,?_⟩
       rw[he,aQ]
      ·obtain ⟨a', g1, g2⟩ := own o' ho'
       refine⟨a',_,g1,?_,h⟩
       rcases g2 with rfl|⟨o2,_,rfl⟩
       ·exact .inl rfl
       ·exact .inr ⟨_,rfl⟩
    ·split at h
     ·cases hx
      refine⟨.own ((aS t l).drop (lo.getD 0)) .full,_,?_,?_,h⟩
      ·simp only[dV]<;>grind
      ·show _ = _
       rw[he]
       rw[List.take_of_length_le (by simp[aQ])]
     ·cases hx
      obtain⟨a',g1,g2⟩:=own .full (by simp)<;>grind
    ·rename_i ahs alf
     rcases (fQ (m:=[]) hx).2.2 (fun e=>ahs e) with rfl|⟨o',ho',rfl⟩
     ·grind
     ·obtain⟨a',g1,g2⟩:=own o' ho'<;>grind
   ·rename_i mm
    split at h
    ·cases h
    ·cases h
    ·rename_i hi' hne
     obtain⟨hp,h⟩:=bK h
     rw[Bool.and_eq_true] at hp
     obtain⟨hp,Zg⟩:=hp
     have Zg:=Nat.eq_of_beq_eq_true Zg
     have hp':=gY hp
     have he:=wH (t:=t) hp
     simp[Option.getD_some] at hp' he
     have c1:lo.getD 0≤hi'∧hi'=mm∧hi'≤(aS t l).length∧(aS t l).all (fun e=>e.length==sz)=true:=by
      rw[aQ];exact⟨hp'.1,Zg,hp'.2,hall⟩
     refine⟨.own ((aS t l).drop (lo.getD 0) |>.take (hi'-lo.getD 0)) .full,_,?_,?_,h⟩
     ·rcases (fQ (m := []) hx).2.2 (fun e => hne e) with rfl | ⟨o', ho', rfl⟩
      ·simp only [dV, Option.getD_some]
       rw[if_pos c1]
      ·cases o' with
       |bB=>exact (ho' rfl).elim
       |_=>simp only[dV,Option.getD_some];rw[if_pos c1]
     ·show _ = _
      rw[he]
  grind
 ·rename_i f
  split at h
  ·obtain ⟨hp, h⟩ := bK h
   have hp':=gY hp
   have h0:hi.getD 0=0:=by omega
   have l0:lo.getD 0=0:=by omega
   cases f with
   |true=>
    cases hx
    refine⟨.own [] .full,.nil true,?_,rfl,h⟩
    simp[dV,h0,l0]
   | false =>
    rcases hx with rfl|⟨o,ho,rfl⟩
    ·exact⟨.d (.sl []),.nil false,by simp[dV,h0,l0],.inl rfl,h⟩
    ·cases o with
     |bB=>grind
     |full=>exact⟨.own [] .full,.nil false,by simp[dV,h0,l0],.inr ⟨.full,by simp,rfl⟩,h⟩
     |bR v z=>exact⟨.d (.sl []),.nil false,by simp[dV,h0,l0],.inl rfl,h⟩
  grind
 ·rename_i lv sl aa t
  cases hz:Nat.beq t.size sz with
  |false=>grind
  |true=>
  split at h
  ·have hz := Nat.eq_of_beq_eq_true hz
   obtain⟨r',hr,h⟩:=ak h
   obtain⟨hp,h⟩:=bK h
   have hp':=gY hp
   obtain⟨hv,u,n,hu,rfl,hn⟩:=hx
   have hn:=hn r' hr
   refine⟨_,.iT lv sl aa t (yH lo) (hi.getD r'.l.length-yH lo),?_,⟨hv,u,hu,rfl,fun r2 hr2=>by rw[hr] at hr2;injection hr2 with hr2;subst hr2;have h1:=hp'.1;have h2:=hp'.2;simp only[yH] at h1 h2 ⊢;omega⟩,h⟩
   simp only[dV,yH]<;>grind
  grind
 ·rename_i lv sl aa t off len
  cases hz:Nat.beq t.size sz with
  |false=>grind
  |true=>
  split at h
  ·have hz := Nat.eq_of_beq_eq_true hz
   obtain⟨hp,h⟩:=bK h
   have hp':=gY hp
   obtain⟨hv,u,hu,rfl,hlen⟩:=hx
   refine⟨_,.iT lv sl aa t (off+yH lo) (hi.getD len-yH lo),?_,⟨hv,u,hu,rfl,fun r2 hr2=>by have h0:=hlen r2 hr2;have h1:=hp'.1;have h2:=hp'.2;simp only[yH] at h1 h2 ⊢;omega⟩,h⟩
   simp only[dV,yH]<;>grind
  grind
 grind
theorem HK {x:bA} {lo hi:Option bA} (h:ck E wk ctx s2 row dst nx (.o6 x lo hi) K=some r):cV ρ B B' s2 s (.o6 x lo hi) row dst p K r:=by
 simp[ck] at h
 split at h
 ·rename_i b hx
  obtain⟨l,el,il,h⟩:=oD bI h
  obtain⟨h',eh,ih,h⟩:=oD bI h
  obtain⟨hp,h⟩:=bK h
  have hp':=gY hp
  have e:x.ev s.slots=_:=aO bI hx
  refine .str hm ht hB (fun _ _=>?_) h
  simp[bL.run,e,el,eh,E4]
  rw[if_pos hp',Km,AJ hp]
  rfl
 grind
theorem E5 {x:bA} {i:Nat} (h:ck E wk ctx s2 row dst nx (.extract x i) K=some r):cV ρ B B' s2 s (.extract x i) row dst p K r:=by
 simp[ck] at h
 split at h
 ·rename_i vs hx
  split at h
  ·rename_i a cs hi
   obtain⟨v,hv,h⟩:=ak h
   obtain⟨aD,e1,r1⟩:=aO bI hx
   obtain⟨y,g1,g2⟩:=r1.get _ _ hi
   have:RV ρ B s2.mem v y:=by
    cases a with
    |true=>
     obtain⟨as',rfl,g3⟩:=g2
     cases hv
     exact⟨as',rfl,g3⟩
    |false=>
     obtain⟨c,rfl,g3⟩:=g2
     cases hv
     exact g3
   exact .pure hm ht hB (fun _ _=>by simp only[bL.run,e1,g1,Option.bind_some]) this h
  grind
 grind
theorem QN {x:bA} (h:ck E wk ctx s2 row dst nx (.len x) K=some r):cV ρ B B' s2 s (.len x) row dst p K r:=by
 obtain⟨c,hx,h⟩:=bN h
 have hx:=aO bI hx
 split at h
 ·refine .int hm ht hB (fun _ _ => ?_) h
  rcases (fQ (m:=s.mem) hx).2.1 with e|⟨o',e⟩<;>(simp only[bL.run,e,aQ];rfl)
 ·refine .int hm ht hB (fun _ _ => ?_) h
  rcases (fE (m:=s.mem) hx).2 with e|⟨o',_,e⟩<;>(simp only[bL.run,e,List.length_nil];rfl)
 ·obtain ⟨r', hr, h⟩ := ak h
  obtain⟨hv,u,n,hu,e,hn⟩:=hx
  have hn:=hn r' hr
  subst hn
  exact .int hm ht hB (fun _ _=>by simp only[bL.run,e];rfl) h
 ·obtain ⟨hv, u, hu, e⟩ := hx
  exact .int hm ht hB (fun _ _=>by simp only[bL.run,e];rfl) h
 grind
theorem NX {x:bA} (h:ck E wk ctx s2 row dst nx (.Gw x) K=some r):cV ρ B B' s2 s (.Gw x) row dst p K r:=by
 obtain⟨c,hx,h⟩:=bN h
 have hx:=aO bI hx
 split at h
 ·have e : x.ev s.slots = .own [] .full := hx
  exact .int hm ht hB (fun _ _=>by simp only[bL.run,e,List.length_nil];rfl) h
 ·have e : x.ev s.slots = .own (aS _ _) .full := hx
  exact .int hm ht hB (fun _ _=>by simp only[bL.run,e,aQ];rfl) h
 grind
theorem NY {x:bA} (h:ck E wk ctx s2 row dst nx (.Eg x) K=some r):cV ρ B B' s2 s (.Eg x) row dst p K r:=by
 simp[ck] at h
 split at h
 ·rename_i b hx
  have e:x.ev s.slots=_:=aO bI hx
  exact .int hm ht hB (fun _ _=>by simp only[bL.run,e,E4];rfl) h
 grind
omit bI in
theorem NZ {n:Nat} (h:ck E wk ctx s2 row dst nx (.Cf n) K=some r):cV ρ B B' s2 s (.Cf n) row dst p K r:=by
 exact .int hm ht hB (fun _ _=>rfl) h
theorem HL {n sz:Nat} {x:bA} (h:ck E wk ctx s2 row dst nx (.sliceB n sz x) K=some r):cV ρ B B' s2 s (.sliceB n sz x) row dst p K r:=by
 obtain⟨c,hc,h⟩:=bN h
 have hc:=aO bI hc
 split at h
 ·rename_i lv sl aa i off _
  split at h
  ·rename_i hi
   obtain⟨hv,u,hu,e⟩:=hc
   refine .pure (a:=.eA lv sl u off n sz) hm ht hB (fun _ _=>?_) (show RV ρ B s2.mem (.c (.eA lv sl aa off n sz)) (.eA lv sl u off n sz) from⟨hv,u,hu,rfl⟩) h
   simp[bL.run,e,hi]
  grind
 grind
theorem N0 {x y:bA} (h:ck E wk ctx s2 row dst nx (.Eh x y) K=some r):cV ρ B B' s2 s (.Eh x y) row dst p K r:=by
 simp[ck] at h
 split at h
 ·rename_i k a k' b hx hy
  split at h
  ·subst_vars
   have e1:=rA (aO bI hx)
   have e2:=rA (aO bI hy)
   exact .int hm ht hB (fun _ _=>by simp only[bL.run,e1,e2,if_true,lu]) h
  grind
 grind
theorem N1 {x y:bA} (h:ck E wk ctx s2 row dst nx (.Ei x y) K=some r):cV ρ B B' s2 s (.Ei x y) row dst p K r:=by
 simp[ck] at h
 split at h
 ·rename_i k a k' b hx hy
  split at h
  ·subst_vars
   have e1:=rA (aO bI hx)
   have e2:=rA (aO bI hy)
   exact .int hm ht hB (fun _ _=>by simp only[bL.run,e1,e2,if_true,lu]) h
  grind
 grind
omit hm ht hB bI in
theorem xU {m:List (Tr E2)} : ∀ {vs:List V2} {aD:List AV} {cs:List Cell},Ap vs=some cs→aq (RV ρ B m) vs aD→aq (RC ρ B m) cs aD∧aD.all mo=true
 |[],[],cs,h,_=>by cases h;exact⟨trivial,rfl⟩
 | v :: vs, a :: aD, cs, h, hv => by
  cases v with
  |c x=>
   obtain⟨cs',h1,rfl⟩:=aG h
   obtain⟨g1,g2⟩:=xU h1 hv.2
   exact⟨⟨hv.1,g1⟩,by simp[(RC.cell hv.1).2.1,g2]⟩
  |_=>cases h
 |[],_ :: _,_,_,h=>h.elim
 |_ :: _,[],_,_,h=>h.elim
theorem Cq {f:Nat} {cap:List bA} (h:ck E wk ctx s2 row dst nx (.makeFunc f cap) K=some r):cV ρ B B' s2 s (.makeFunc f cap) row dst p K r:=by
 obtain⟨cs,hc,h⟩:=ak h
 obtain⟨vs,h1,h2⟩:=aJ hc
 obtain⟨g1,g2⟩:=xU h2 (pR bI h1)
 exact .pure hm ht hB (fun _ _=>by simp only[bL.run,g2,if_true]) (v:=.fB f cs) ⟨_,rfl,g1⟩ h
end
end Go.Sym
namespace Go.Sym
open Go Go.bq
section
variable {α : Type} {ρ : aR} {B B':Nat} {s2:S2} {s:St} {op:bL} {row dst p nx:Nat} {K:fP→Option α} {r : α} {E:au} {wk:Wk} {ctx:Nat}
theorem nK:∀ (a b:List (Nat×Nat×Option E2)) (m:List (Tr E2)),eE m (a++b)=eE (eE m a) b
 |[],_,_=>rfl
 |(lv,sl,e) :: r,b,m=>by simp[List.cons_append,eE,nK r b]
theorem qo {m:List (Tr E2)} {lv sl bV cS aa:Nat} {r:SL} (h:rowOf (Al m lv sl none) bV cS aa=some r):rowOf m bV cS aa=some r:=by
 have:=bS h
 rw[js] at this<;>simp_all[gL,Al,rowOf]
theorem lI:∀ {ks:List (Nat×Nat)} {m:List (Tr E2)} {lv sl aa:Nat} {r:SL},rowOf (eE m (jK ks)) lv sl aa=some r→rowOf m lv sl aa=some r
 |[],_,_,_,_,_,h=>h
 |(a,b) :: ks,m,_,_,_,_,h=>qo (lI (ks:=ks) (m:=Al m a b none) h)
theorem pU {m:List (Tr E2)} {ks:List (Nat×Nat)} : dR B m (eE m (jK ks)):=fun _ _ _ r _ h=>⟨r,lI h,rfl⟩
def ZF (B:Nat) (m:List (Tr E2)) (lv sl:Nat):E2→Prop
 |.box _ _=>True
 |.row aa _ l=>B≤aa∨∃ r,rowOf m lv sl aa=some r∧r.l.length=l.length
 |.set _ _=>True
theorem dw {m:List (Tr E2)} {ks:List (Nat×Nat)} {lv sl:Nat} {e:E2} (h:ZF B m lv sl e):dR B m (eE m (jK ks++[(lv,sl,some e)])):=by
 intro bV cS aa r' hv hr
 rw[nK] at hr
 simp[eE] at hr
 have:=bS hr
 rw[js] at this
 split at this
 ·simp_all
  rcases h with h|⟨r,h1,h2⟩<;>grind
 ·exact⟨r',lI (fH.2 this),rfl⟩
theorem gZ {mf:List (Tr E2)} : ∀ {m:List (Tr aZ)} {ks:List (Nat×Nat)},aq (NS ρ B mf) (jK ks) (di m ks)
 |_,[]=>trivial
 |m,k :: ks=>⟨⟨rfl,rfl,fun _ h=>by cases h⟩,gZ (m:=m) (ks:=ks)⟩
theorem dx {mf:List (Tr E2)} {lv sl:Nat} {e2:E2} {e:aZ} (h:RE ρ B mf e2 e):aq (NS ρ B mf) [(lv,sl,some e2)] [(lv,sl,some e)]:=
 ⟨⟨rfl,rfl,fun x hx=>by simp_all⟩,trivial⟩
theorem Dp {mf:List (Tr E2)} : ∀ {Gn:List (Nat×Nat×Option E2)} {us:List (Nat×Nat×Option aZ)},aq (NS ρ B mf) Gn us→aK ρ (Gn.map fun u=>bw u.1 u.2.1) (us.map fun u=>bw u.1 u.2.1)
 |[],[],_=>aK.nil
 |(a,b,c) :: r2,(a',b',c') :: r,h=>by
  obtain⟨⟨h1,h2,_⟩,h4⟩:=h
  subst h1 h2
  exact aK.gW _ _ (Dp h4)
 |[],_ :: _,h=>h.elim
 |_ :: _,[],h=>h.elim
theorem aK.AK {a b:List (Nat×Nat×Nat)} {v u:Nat} (hu : ρ v=some u) (h:aK ρ a b):aK ρ (jw v :: a) (jw u :: b):=by
 intro x hx
 rcases List.mem_cons.1 hx with rfl|hx
 ·simp_all[aK,aR,KR,jw]
 ·obtain⟨y,h1,h2⟩:=h x hx<;>grind
theorem aK.skip {a b:List (Nat×Nat×Nat)} {k:Nat×Nat×Nat} (h:aK ρ a b):aK ρ (k :: a) b:=fun x hx=>by
 obtain⟨y,h1,h2⟩:=h x hx<;>grind
theorem mU.fy (hm:MR ρ B s2.mem s.mem) (ht:TR ρ B s2.aB s.aB) (hB:B≤B') {Gn:List (Nat×Nat×Option E2)} {us:List (Nat×Nat×Option aZ)} {v:V2} {a:AV} {QH rd:List (Nat×Nat×Nat)}
  (hst:dR B s2.mem (eE s2.mem Gn)) (hu:aq (NS ρ B' (eE s2.mem Gn)) Gn us) (hv:RV ρ B' (eE s2.mem Gn) v a) (hr:aK ρ QH rd) :
  mU ρ B B' s2 s { val:=v,cv:=Gn,bR:=[],rd:=QH } { val:=a,cv:=us,bR:=[],rd:=rd }:=
 ⟨hv, hm.cv hB hst hu, ht.up hB, hst, hr, by
  exact (Dp hu).append aK.nil⟩
theorem lJ {m:List (Tr E2)} : RV ρ B m (.gN []) je:=⟨[],rfl,trivial⟩
variable (hm:MR ρ B s2.mem s.mem) (ht:TR ρ B s2.aB s.aB) (bI:tM ρ B s2.mem s2.slots s.slots) (hB:B≤nx) (dY : ρ nx=some p)
include hm ht hB dY
theorem Dq {cs:List Cell} {aD:List AV} (hc:aq (RC ρ B s2.mem) cs aD)
  (hrun:∀ call sh,op.run call sh s row dst p=some (.bC { val:=.ptr (s.mem.length-1) dst p 0 0,cv:=[(s.mem.length-1,dst,some (.box p aD))],bR:=[],rd:=[] }))
  (h:K (.bC { val:=.c (.ptr (s2.mem.length-1) dst nx 0 0),cv:=[(s2.mem.length-1,dst,some (.box nx cs))],bR:=[],rd:=[] })=some r):cV ρ B (nx+1) s2 s op row dst p K r:=by
 have hst:dR B s2.mem (eE s2.mem [(s2.mem.length-1,dst,some (.box nx cs))]):=dw (ks:=[]) (e:=.box nx cs) trivial
 rw[hm.len] at h hst
 refine⟨_,_,hrun,.fy hm ht (by omega) hst (dx ⟨by omega,p,aD,dY,rfl,hc.mono fun _ _=>RC.move hst (by omega) fun _ _=>rfl⟩) (v:=.c (.ptr (s.mem.length-1) dst nx 0 0)) ⟨by omega,p,dY,rfl⟩ aK.nil,h⟩
theorem Kp {z:List AV} (h:ck E wk ctx s2 row dst nx (.alloc z) K=some r):cV ρ B (nx+1) s2 s (.alloc z) row dst p K r:=by
 obtain⟨cs,hc,h⟩:=ak h
 exact Dq hm ht hB dY (u6 hc) (fun _ _=>rfl) h
include bI in
theorem QO {x:bA} (h:ck E wk ctx s2 row dst nx (.box x) K=some r):cV ρ B (nx+1) s2 s (.box x) row dst p K r:=by
 obtain⟨cs,hc,h⟩:=ak h
 obtain⟨v,hv,h1⟩:=aJ hc
 obtain⟨aD,g1,g2⟩:=u7 h1 (aO bI hv)
 exact Dq hm ht hB dY g2 (fun _ _=>by simp only[bL.run,g1,Option.map_some]) h
omit dY hB ht in
theorem HM {sz:Nat} {pc:Cell} {a:AV} {K:List Cell→Option α} (h:Ml s2.mem sz pc K=some r) (hp:RC ρ B s2.mem pc a):∃ cs aD,ql s.mem sz a=some aD∧aq (RC ρ B s2.mem) cs aD∧K cs=some r:=by
 unfold Ml at h
 split at h
 ·rename_i lv sl aa i off
  obtain⟨hv,u,hu,rfl⟩:=hp
  split at h
  ·rename_i v cs he
   split at h
   ·rename_i hb
    simp only[Bool.and_eq_true] at hb
    obtain⟨⟨hv1,hi⟩,hl⟩:=hb
    have hv1:=Nat.eq_of_beq_eq_true hv1
    have hi:=Nat.eq_of_beq_eq_true hi
    obtain⟨e,g1,_,u',aD,g2,rfl,g3⟩:=hm.dW _ _ _ he
    simp_all
    refine⟨_,(aD.drop off).take sz,?_,(g3.drop off).take sz,h⟩
    simp only[ql,g1,rz]
    rw[if_pos (by rw[←g3.length];exact hl)]
   grind
  ·rename_i v t l he
   split at h
   ·rename_i hb
    simp only[Bool.and_eq_true] at hb
    obtain⟨hv1,hl⟩:=hb
    have hv1:=Nat.eq_of_beq_eq_true hv1
    obtain⟨x,hx,h⟩:=bind_some h
    obtain⟨e,g1,_,u',g2,rfl⟩:=hm.dW _ _ _ he
    simp_all
    refine⟨_,(((dX t x).map .d).drop off).take sz,?_,((kz t x).drop off).take sz,h⟩
    have:(aS t l)[i]?=some (dX t x):=by rw[AE,hx];rfl
    simp only[ql,g1,rz,this]
    rw[if_pos (by rw[dM];exact hl)]<;>simp_all
   grind
  ·cases h
  grind
 ·rename_i t x off
  split at h
  ·rename_i hl
   have hl:=Nat.le_of_ble_eq_true hl
   have e:a=_:=hp
   refine⟨_,(((dX t x).map .d).drop off).take sz,?_,((kz t x).drop off).take sz,h⟩
   rw[e]
   simp only[ql]
   rw[if_pos (by rw[dM];exact hl)]<;>simp_all
  grind
 grind
omit dY in
include bI in
theorem N2 {sz:Nat} {agg:Bool} {x:bA} (h:ck E wk ctx s2 row dst nx (.load sz agg x) K=some r):cV ρ B (nx+1) s2 s (.load sz agg x) row dst p K r:=by
 obtain⟨pc,hx,h⟩:=bN h
 have hx:=aO bI hx
 obtain⟨cs,aD,g1,g2,h⟩:=HM hm h hx
 obtain⟨v,hv,h⟩:=ak h
 obtain⟨a,g3,g4⟩:=AD hv g2
 exact⟨_,_,fun _ _=>by simp only[bL.run,g1,g3,Option.bind_some,Option.map_some],.wE hm ht (by omega) g4 (sD hx),h⟩
omit hm ht hB dY in
theorem vc {ks:List (Nat×Nat)} {lv sl:Nat} (h:Aq ks lv sl=false):¬(lv,sl)∈ks:=by
 intro hk
 have:Aq ks lv sl=true:=by
  simp_all[Aq]
 grind
omit hm ht hB dY in
theorem nW:∀ (t:Ty) (x:t.den),bH (gS t x)=some (dX t x)
 |.val,v=>by
  cases v
  simp[gS,bH,l9,dX,Kb,oW.kind,oW.int,oW.text,oW.list,oW.cut,aS,oA]
 |.int _,_=>rfl
 |.bool,_=>rfl
 |.str,_=>rfl
 |.sl _,_=>rfl
 |.unit,_=>rfl
 |.prod a b,x=>kY (nW a x.1) (nW b x.2)
 |.sum _ _,_=>rfl
omit hm ht hB dY in
theorem nX:∀ {cs:List Cell} {ds:List D},bH cs=some ds→ds.length=cs.length
 |[],ds,h=>by cases h;rfl
 |c :: r,ds,h=>by
  obtain⟨x,xs,h1,h2,rfl⟩:=fL h
  simp[nX h2]
omit hm ht hB dY in
theorem rB:∀ {cs:List Cell} {ds:List D} (n:Nat),bH cs=some ds→bH (cs.take n)=some (ds.take n)
 |_,_,0,_=>by simp[bH]
 |[],ds,n+1,h=>by cases h;rfl
 |c :: r,ds,n+1,h=>by
  obtain⟨x,xs,h1,h2,rfl⟩:=fL h
  simp[List.take_succ_cons,bH,h1,rB n h2]
omit hm ht hB dY in
theorem rC:∀ {cs:List Cell} {ds:List D} (n:Nat),bH cs=some ds→bH (cs.drop n)=some (ds.drop n)
 |_,_,0,h=>by grind
 |[],ds,n+1,h=>by cases h;rfl
 |c :: r,ds,n+1,h=>by
  obtain⟨x,xs,h1,h2,rfl⟩:=fL h
  simpa using rC n h2
omit hm ht hB dY in
theorem Cr {cs new:List Cell} {ds ds':List D} (h:bH cs=some ds) (h':bH new=some ds') (off:Nat):bH (bq.splice cs off new)=some (bq.splice ds off ds'):=by
 unfold bq.splice
 rw[nX h']
 exact kY (kY (rB off h) h') (rC _ h)
omit dY in
theorem N3 {sz:Nat} {pc:Cell} {new:List Cell} {a v:AV} {aD:List AV} (h:Kd s2.mem sz pc new K=some r) (hp:RC ρ B s2.mem pc a) (hv:cellsOf v=some aD) (hn:aq (RC ρ B s2.mem) new aD) :
  ∃ E e,pg s.mem sz a v=some e∧mU ρ B (nx+1) s2 s E e∧K (.bC E)=some r:=by
 unfold Kd at h
 split at h
 ·rename_i lv sl aa i off hz
  have hz:=Nat.eq_of_beq_eq_true hz
  rw[hn.length] at hz
  obtain⟨Cj,u,hu,rfl⟩:=hp
  split at h
  ·rename_i vv cs he
   split at h
   ·rename_i hb
    simp only[Bool.and_eq_true] at hb
    obtain⟨⟨hv1,hi⟩,hl⟩:=hb
    have hv1:=Nat.eq_of_beq_eq_true hv1
    have hi:=Nat.eq_of_beq_eq_true hi
    have hl:=Nat.le_of_ble_eq_true hl
    subst hv1 hi
    obtain⟨e,g1,_,u',bs,g2,rfl,g3⟩:=hm.dW _ _ _ he
    rw[hu] at g2;cases g2
    have hst:dR B s2.mem (eE s2.mem [(lv,sl,some (.box vv (bq.splice cs off new)))]):=dw (ks:=[]) (e:=.box _ _) trivial
    refine⟨_,_,?_,.fy hm ht (B':=nx+1) (by omega) hst (dx (e:=.box u (bq.splice bs off aD)) ⟨by omega,u,_,hu,rfl,(wG g3 hn off).mono fun _ _=>RC.move hst (by omega) fun _ _=>rfl⟩) lJ (aK.gW lv sl aK.nil),h⟩
    simp only[pg,hv,g1,rz]
    rw[if_pos hz,if_pos (by rw[←g3.length];exact hl)]
   grind
  ·rename_i vv t l he
   split at h
   ·rename_i new' ks hb hf
    simp only[Bool.and_eq_true] at hb
    obtain⟨hv1,hl⟩:=hb
    have hv1:=Nat.eq_of_beq_eq_true hv1
    have hl:=Nat.le_of_ble_eq_true hl
    subst hv1
    split at h
    ·cases h
    ·rename_i hk
     obtain⟨x,hx,h⟩:=bind_some h
     obtain⟨y,hy,h⟩:=ak h
     obtain⟨e,g1,_,u',g2,rfl⟩:=hm.dW _ _ _ he
     rw[hu] at g2;cases g2
     obtain⟨ds,g3,g4⟩:=Kj hm hf hn
     have hy:=oB hy (Cr (nW t x) g4 off)
     have hrow:rowOf s2.mem lv sl vv=some ⟨t,l⟩:=fH.2 he
     have hst:dR B s2.mem (eE s2.mem (jK ks++[(lv,sl,some (.row vv t (l.set i y)))])):=dw (.inr ⟨_,hrow,by simp⟩)
     refine⟨_,_,?_,.fy hm ht (B':=nx+1) (by omega) hst ((gZ (m:=s.mem)).append (dx (e:=.row u (aS t (l.set i y))) ⟨by omega,u,hu,rfl⟩)) lJ (aK.gW lv sl (aK.gO ks)),h⟩
     have hg:(aS t l)[i]?=some (dX t x):=by rw[AE,hx];rfl
     simp only[pg,hv,g1,rz,hg,g3]
     rw[if_pos hz,if_pos ⟨by rw[dM];exact hl,vc hk⟩,hy]
     simp[aS,List.map_set]
   grind
  ·cases h
  grind
 grind
omit dY in
include bI in
theorem Kq {sz:Nat} {x v:bA} (h:ck E wk ctx s2 row dst nx (.store sz x v) K=some r):cV ρ B (nx+1) s2 s (.store sz x v) row dst p K r:=by
 obtain⟨pc,hx,h⟩:=bN h
 obtain⟨new,hn,h⟩:=ak h
 obtain⟨w,hw,h1⟩:=aJ hn
 obtain⟨aD,g1,g2⟩:=u7 h1 (aO bI hw)
 obtain⟨E',e,h2,h3,h4⟩:=N3 hm ht hB h (aO bI hx) g1 g2
 exact⟨E',e,fun _ _=>by simp only[bL.run,h2,Option.map_some],h3,h4⟩
end
end Go.Sym
