/- The machine over typed data against the machine of pure data: what it means that a state of the one stands for a state of the other. -/
import Derived.Test.YtlfhlggkbcncoaaSymA
import Derived.Test.YtlfhlggkbcncoaaEngZA
namespace Go.Sym
open Go Go.Eng
abbrev VMap:=Nat→Option Nat
def encL (t:Ty) (l:List t.den):List (List D):=l.map (encs t)
def RC (ρ : VMap) (B:Nat) (m:List (Tr E2)):Cell→AV→Prop
 |.int k a,x=>x=.d (.sc (.int k a))
 |.bool b,x=>x=.d (.sc (.bool b))
 |.str s,x=>x=.d (.sc (.string ⟨s.toArray⟩))
 |.raw v,x=>x=.d (.sc v)
 |.nil true,x=>x=.own [] .full
 |.nil false,x=>x=.d (.sl [])∨∃ o,o≠.bor∧x=.own [] o
 |.sl t l .d,x=>x=.d (.sl (encL t l))∨∃ o,o≠.bor∧x=.own (encL t l) o
 |.sl t l .bor,x=>x=.d (.sl (encL t l))∨∃ o,x=.own (encL t l) o
 |.sl t l .full,x=>x=.own (encL t l) .full
 |.sl t l (.app v),x=>v<B∧((ρ v=none∧x=.own (encL t l) .full)∨∃ u,ρ v=some u∧x=.own (encL t l) (.tip u t.size))
 |.ref lv sl ver t,x=>ver<B∧∃ u n,ρ ver=some u∧x=.ref lv sl u 0 n t.size∧∀ r,rowOf m lv sl ver=some r→n=r.l.length
 |.refp lv sl ver t off len,x=>ver<B∧∃ u,ρ ver=some u∧x=.ref lv sl u off len t.size∧∀ r,rowOf m lv sl ver=some r→off+len≤r.l.length
 |.ptr lv sl ver i off,x=>ver<B∧∃ u,ρ ver=some u∧x=.ptr lv sl u i off
 |.dptr t e off,x=>x=.dptr (encs t e) off
 |.bref lv sl ver off n sz,x=>ver<B∧∃ u,ρ ver=some u∧x=.bref lv sl u off n sz
 |.mp lv sl ver,x=>ver<B∧∃ u,ρ ver=some u∧x=.mp lv sl u
def R1 (ρ : VMap) (B:Nat) (m:List (Tr E2)):Bool×List Cell→AV→Prop
 |(true,cs),a=>∃ as,a=.agg as∧All2 (RC ρ B m) cs as
 |(false,cs),a=>∃ c,cs=[c]∧RC ρ B m c a
def RV (ρ : VMap) (B:Nat) (m:List (Tr E2)):V2→AV→Prop
 |.c x,a=>RC ρ B m x a
 |.agg cs,a=>∃ as,a=.agg as∧All2 (RC ρ B m) cs as
 |.clo f cs,a=>∃ as,a=.clo f as∧All2 (RC ρ B m) cs as
 |.tup vs,a=>∃ as,a=.tup as∧All2 (R1 ρ B m) vs as
def RE (ρ : VMap) (B:Nat) (m:List (Tr E2)):E2→Ent→Prop
 |.row ver t l,e=>ver<B∧∃ u,ρ ver=some u∧e=.row u (encL t l)
 |.box ver cs,e=>ver<B∧∃ u as,ρ ver=some u∧e=.box u as∧All2 (RC ρ B m) cs as
 |.set ver l,e=>ver<B∧∃ u,ρ ver=some u∧e=.mp u l
structure MR (ρ : VMap) (B:Nat) (m2:List (Tr E2)) (m:List (Tr Ent)):Prop where
 len:m2.length=m.length
 ents:∀ lv sl e2,mget m2 lv sl=some e2→∃ e,memGet m lv sl=some e∧RE ρ B m2 e2 e
def TR (ρ : VMap) (B:Nat) (t2 t:Tr Unit):Prop:=∀ v,t2.get? v=some ()→v<B∧∀ u,ρ v=some u→t.get? u=some ()
structure VOK (ρ : VMap) (n2 n:Nat):Prop where
 low:∀ v u,v<n2→ρ v=some u→u<n
 high:∀ v,n2≤v→ρ v=some (n+(v-n2))
 inj:∀ v v' u,ρ v=some u→ρ v'=some u→v=v'
def SlR (ρ : VMap) (B:Nat) (m:List (Tr E2)) (t:Tr V2) (o:Tr AV):Prop:=∀ k v,t.get? k=some v→RV ρ B m v (getS o k)
structure SR (ρ : VMap) (B:Nat) (os:List (Tr AV)) (s2:S2) (s:St):Prop where
 slots:SlR ρ B s2.mem s2.slots s.slots
 outer:All2 (SlR ρ B s2.mem) s2.outer os
 mem:MR ρ B s2.mem s.mem
 tips:TR ρ B s2.tips s.tips
 ver:VOK ρ s2.nv s.nv
 le:B≤s2.nv
def Stab (B:Nat) (m m':List (Tr E2)):Prop:=∀ lv sl ver r',ver<B→rowOf m' lv sl ver=some r'→∃ r,rowOf m lv sl ver=some r∧r.l.length=r'.l.length
theorem Stab.refl (B:Nat) (m:List (Tr E2)):Stab B m m:=fun _ _ _ r _ h=>⟨r,h,rfl⟩
theorem Stab.trans {B:Nat} {m m' m'':List (Tr E2)} (h:Stab B m m') (k:Stab B m' m''):Stab B m m'':=by
 intro lv sl ver r'' hv hr
 obtain⟨r',h1,h2⟩:=k lv sl ver r'' hv hr
 obtain⟨r,h3,h4⟩:=h lv sl ver r' hv h1
 exact⟨r,h3,h4.trans h2⟩
theorem RC.move {ρ ρ':VMap} {B B':Nat} {m m':List (Tr E2)} (hs:Stab B m m') (hB:B≤B') (hρ : ∀ v,v<B→ρ' v = ρ v):∀ {c:Cell} {x:AV},RC ρ B m c x→RC ρ' B' m' c x:=by
 intro c x h
 cases c with
 |nil f=>cases f<;>exact h
 | sl t l o =>
  cases o with
  |app v=>
   obtain⟨hv,h⟩:=h
   refine⟨by omega,?_⟩
   rw[hρ v hv]
   exact h
  |d=>exact h
  |full=>exact h
  |bor=>exact h
 |ref lv sl ver t=>
  obtain⟨hv,u,n,hu,hx,hr⟩:=h
  refine⟨by omega,u,n,by rw[hρ ver hv];exact hu,hx,fun r' hr'=>?_⟩
  obtain⟨r,h1,h2⟩:=hs _ _ _ _ hv hr'
  rw[hr r h1,h2]
 |refp lv sl ver t off len=>
  obtain⟨hv,u,hu,hx,hr⟩:=h
  refine⟨by omega,u,by rw[hρ ver hv];exact hu,hx,fun r' hr'=>?_⟩
  obtain⟨r,h1,h2⟩:=hs _ _ _ _ hv hr'
  rw[←h2];exact hr r h1
 |ptr lv sl ver i off=>
  obtain⟨hv,u,hu,hx⟩:=h
  exact⟨by omega,u,by rw[hρ ver hv];exact hu,hx⟩
 |bref lv sl ver off n sz=>
  obtain⟨hv,u,hu,hx⟩:=h
  exact⟨by omega,u,by rw[hρ ver hv];exact hu,hx⟩
 |mp lv sl ver=>
  obtain⟨hv,u,hu,hx⟩:=h
  exact⟨by omega,u,by rw[hρ ver hv];exact hu,hx⟩
 |_=>exact h
theorem R1.mono {ρ ρ':VMap} {B B':Nat} {m m':List (Tr E2)} (hc:∀ c x,RC ρ B m c x→RC ρ' B' m' c x):∀ {v:Bool×List Cell} {x:AV},R1 ρ B m v x→R1 ρ' B' m' v x
 |(true,_),_,⟨as,h1,h2⟩=>⟨as,h1,h2.mono hc⟩
 |(false,_),_,⟨c,h1,h2⟩=>⟨c,h1,hc _ _ h2⟩
theorem RV.mono {ρ ρ':VMap} {B B':Nat} {m m':List (Tr E2)} (hc:∀ c x,RC ρ B m c x→RC ρ' B' m' c x):∀ {v:V2} {x:AV},RV ρ B m v x→RV ρ' B' m' v x:=by
 intro v x h
 cases v with
 |c c=>exact hc _ _ h
 |agg cs=>obtain⟨as,h1,h2⟩:=h;exact⟨as,h1,h2.mono hc⟩
 |clo f cs=>obtain⟨as,h1,h2⟩:=h;exact⟨as,h1,h2.mono hc⟩
 |tup vs=>obtain⟨as,h1,h2⟩:=h;exact⟨as,h1,h2.mono fun _ _=>R1.mono hc⟩
theorem RE.mono {ρ ρ':VMap} {B B':Nat} {m m':List (Tr E2)} (hB:B≤B') (hρ : ∀ v,v<B→ρ' v = ρ v) (hc:∀ c x,RC ρ B m c x→RC ρ' B' m' c x):∀ {e2:E2} {e:Ent},RE ρ B m e2 e→RE ρ' B' m' e2 e:=by
 intro e2 e h
 cases e2 with
 |row ver t l=>obtain⟨hv,u,h1,h2⟩:=h;exact⟨by omega,u,by rw[hρ ver hv];exact h1,h2⟩
 |box ver cs=>obtain⟨hv,u,as,h1,h2,h3⟩:=h;exact⟨by omega,u,as,by rw[hρ ver hv];exact h1,h2,h3.mono hc⟩
 |set ver l=>obtain⟨hv,u,h1,h2⟩:=h;exact⟨by omega,u,by rw[hρ ver hv];exact h1,h2⟩
theorem SlR.mono {ρ ρ':VMap} {B B':Nat} {m m':List (Tr E2)} (hc:∀ c x,RC ρ B m c x→RC ρ' B' m' c x) {t:Tr V2} {o:Tr AV} (h:SlR ρ B m t o):SlR ρ' B' m' t o:=
 fun k v hk=>RV.mono hc (h k v hk)
theorem RV.move {ρ ρ':VMap} {B B':Nat} {m m':List (Tr E2)} (hs:Stab B m m') (hB:B≤B') (hρ : ∀ v,v<B→ρ' v = ρ v) {v:V2} {x:AV} (h:RV ρ B m v x):RV ρ' B' m' v x:=
 RV.mono (fun _ _=>RC.move hs hB hρ) h
theorem SlR.move {ρ ρ':VMap} {B B':Nat} {m m':List (Tr E2)} (hs:Stab B m m') (hB:B≤B') (hρ : ∀ v,v<B→ρ' v = ρ v) {t:Tr V2} {o:Tr AV} (h:SlR ρ B m t o):SlR ρ' B' m' t o:=
 SlR.mono (fun _ _=>RC.move hs hB hρ) h
theorem encVs_map:∀ l:List Val,encVs l=l.map encV
 |[]=>by simp[encVs]
 |v :: r=>by simp[encVs,encVs_map r]
theorem encs_length:∀ (t:Ty) (x:t.den),(encs t x).length=t.size
 |.val,v=>by cases v;simp[encs,encV,Ty.size]
 |.int _,_=>rfl
 |.bool,_=>rfl
 |.str,_=>rfl
 |.sl _,_=>rfl
 |.unit,_=>rfl
 |.prod a b,x=>by simp[encs,Ty.size,encs_length a,encs_length b]
 |.sum _ _,_=>rfl
theorem cellsT_ok {ρ : VMap} {B:Nat} {m:List (Tr E2)} : ∀ (t:Ty) (x:t.den),All2 (RC ρ B m) (cellsT t x) ((encs t x).map .d)
 |.val,v=>by
  cases v
  refine⟨rfl,rfl,rfl,.inl ?_,rfl,trivial⟩
  simp[encL,Val.list,encVs_map,encs]
 |.int _,_=>⟨rfl,trivial⟩
 |.bool,_=>⟨rfl,trivial⟩
 |.str,_=>⟨rfl,trivial⟩
 |.sl _,_=>⟨.inl rfl,trivial⟩
 |.unit,_=>trivial
 |.prod a b,x=>by
  simp only[cellsT,encs,List.map_append]
  exact (cellsT_ok a x.1).append (cellsT_ok b x.2)
 |.sum _ _,_=>trivial
theorem castL_eq {a b:Ty} {l:List a.den} {l':List b.den} (h:castL a b l=some l'):∃ e:a=b,l'=e ▸ l:=by
 unfold castL at h
 split at h
 ·rename_i e _;injection h with h;exact⟨e,h.symm⟩
 ·cases h
theorem castTy_eq {a b:Ty} {l:a.den} {l':b.den} (h:castTy a b l=some l'):∃ e:a=b,l'=e ▸ l:=by
 unfold castTy at h
 split at h
 ·rename_i e _;injection h with h;exact⟨e,h.symm⟩
 ·cases h
def cellD:Cell→Option D
 |.int k a=>some (.sc (.int k a))
 |.bool b=>some (.sc (.bool b))
 |.str s=>some (.sc (.string ⟨s.toArray⟩))
 |.raw v=>some (.sc v)
 |.nil _=>some (.sl [])
 |.sl t l _=>some (.sl (encL t l))
 |_=>none
def cellDs:List Cell→Option (List D)
 |[]=>some []
 |c :: r=>match cellD c,cellDs r with
  |some x,some xs=>some (x :: xs)
  |_,_=>none
theorem cellDs_append:∀ {l l':List Cell} {ds ds':List D},cellDs l=some ds→cellDs l'=some ds'→cellDs (l++l')=some (ds++ds')
 |[],_,_,_,h,h'=>by simp only[cellDs,Option.some.injEq] at h;subst h;simpa using h'
 | c :: r, l', ds, ds', h, h' => by
  simp only[cellDs] at h
  split at h
  ·rename_i x xs h1 h2
   injection h with h;subst h
   simp only[List.cons_append,cellDs,h1,cellDs_append h2 h']
  ·cases h
theorem cellDs_cons {c:Cell} {r:List Cell} {ds:List D} (h:cellDs (c :: r)=some ds):∃ x xs,cellD c=some x∧cellDs r=some xs∧ds=x :: xs:=by
 simp only[cellDs] at h
 split at h
 ·rename_i x xs h1 h2
  injection h with h
  exact⟨x,xs,h1,h2,h.symm⟩
 ·cases h
theorem pkInt_ok {k:IntKind} {cs r:List Cell} {x:Int} {ds:List D} (h:pkInt k cs=some (x,r)) (hd:cellDs cs=some ds):∃ ds',ds=.sc (.int k x) :: ds'∧cellDs r=some ds':=by
 unfold pkInt at h
 split at h
 ·split at h
  ·rename_i e _
   injection h with h;injection h with h1 h2
   subst e h1 h2
   obtain⟨y,ys,h1,h2,rfl⟩:=cellDs_cons hd
   injection h1 with h1;subst h1
   exact⟨ys,rfl,h2⟩
  ·cases h
 ·cases h
theorem pkBool_ok {cs r:List Cell} {x:Bool} {ds:List D} (h:pkBool cs=some (x,r)) (hd:cellDs cs=some ds):∃ ds',ds=.sc (.bool x) :: ds'∧cellDs r=some ds':=by
 unfold pkBool at h
 split at h
 ·injection h with h; injection h with h1 h2
  subst h1 h2
  obtain⟨y,ys,h1,h2,rfl⟩:=cellDs_cons hd
  injection h1 with h1;subst h1
  exact⟨ys,rfl,h2⟩
 ·cases h
theorem pkStr_ok {cs r:List Cell} {x:List UInt8} {ds:List D} (h:pkStr cs=some (x,r)) (hd:cellDs cs=some ds):∃ ds',ds=.sc (.string ⟨x.toArray⟩) :: ds'∧cellDs r=some ds':=by
 unfold pkStr at h
 split at h
 ·injection h with h; injection h with h1 h2
  subst h1 h2
  obtain⟨y,ys,h1,h2,rfl⟩:=cellDs_cons hd
  injection h1 with h1;subst h1
  exact⟨ys,rfl,h2⟩
 ·cases h
theorem pkSl_ok {t:Ty} {cs r:List Cell} {x:List t.den} {ds:List D} (h:pkSl t cs=some (x,r)) (hd:cellDs cs=some ds):∃ ds',ds=.sl (encL t x) :: ds'∧cellDs r=some ds':=by
 unfold pkSl at h
 split at h
 ·injection h with h; injection h with h1 h2
  subst h1 h2
  obtain⟨y,ys,h1,h2,rfl⟩:=cellDs_cons hd
  injection h1 with h1;subst h1
  exact⟨ys,rfl,h2⟩
 ·split at h
  ·rename_i hc
   injection h with h;injection h with h1 h2
   subst h1 h2
   obtain⟨e,hl⟩:=castL_eq hc
   subst e hl
   obtain⟨y,ys,h1,h2,rfl⟩:=cellDs_cons hd
   injection h1 with h1;subst h1
   exact⟨ys,rfl,h2⟩
  ·cases h
 ·cases h
theorem packC_ok:∀ (t:Ty) {cs r:List Cell} {x:t.den},packC t cs=some (x,r)→∀ {ds:List D},cellDs cs=some ds→∃ ds',ds=encs t x++ds'∧cellDs r=some ds'
 | .val, cs, r, x, h, ds, hd => by
  simp only[packC,pkVal] at h
  split at h
  ·rename_i k r1 h1
   split at h
   ·rename_i i r2 h2
    split at h
    ·rename_i s r3 h3
     split at h
     ·rename_i l r4 h4
      split at h
      ·rename_i c r5 h5
       injection h with h;injection h with hx hr
       subst hx hr
       obtain⟨d1,rfl,e1⟩:=pkInt_ok h1 hd
       obtain⟨d2,rfl,e2⟩:=pkInt_ok h2 e1
       obtain⟨d3,rfl,e3⟩:=pkStr_ok h3 e2
       obtain⟨d4,rfl,e4⟩:=pkSl_ok h4 e3
       obtain⟨d5,rfl,e5⟩:=pkBool_ok h5 e4
       refine⟨d5,?_,e5⟩
       have:encL .val l=encVs l:=by rw[encVs_map];rfl
       simp[encs,encV,this]
      ·cases h
     ·cases h
    ·cases h
   ·cases h
  ·cases h
 |.int k,_,_,_,h,_,hd=>pkInt_ok h hd
 |.bool,_,_,_,h,_,hd=>pkBool_ok h hd
 |.str,_,_,_,h,_,hd=>pkStr_ok h hd
 |.sl t,_,_,_,h,_,hd=>pkSl_ok h hd
 |.unit,_,_,_,h,ds,hd=>by
  simp only[packC,Option.some.injEq,Prod.mk.injEq] at h
  obtain⟨_,rfl⟩:=h
  exact⟨ds,rfl,hd⟩
 | .prod a b, cs, r, x, h, ds, hd => by
  simp only[packC] at h
  split at h
  ·rename_i x1 r1 h1
   split at h
   ·rename_i x2 r2 h2
    injection h with h;injection h with hx hr
    subst hx hr
    obtain⟨d1,rfl,e1⟩:=packC_ok a h1 hd
    obtain⟨d2,rfl,e2⟩:=packC_ok b h2 e1
    exact⟨d2,by simp[encs],e2⟩
   ·cases h
  ·cases h
 |.sum _ _,_,_,_,h,_,_=>by simp[packC] at h
theorem packE_ok {t:Ty} {cs:List Cell} {x:t.den} {ds:List D} (h:packE t cs=some x) (hd:cellDs cs=some ds):ds=encs t x:=by
 unfold packE at h
 split at h
 ·rename_i y h1
  injection h with h;subst h
  obtain⟨ds',rfl,e⟩:=packC_ok t h1 hd
  simp only[cellDs,Option.some.injEq] at e
  subst e
  simp
 ·cases h
end Go.Sym
