/- The machine over typed data against the machine of pure data: what it means that a state of the one stands for a state of the other. -/
import Derived.Test.YtokjmkblnafppaaGreatDoorSymA
import Derived.Test.YtokjmkblnafppaaGreatDoorEngTb
set_option linter.unusedVariables false
set_option linter.unusedSimpArgs false
namespace Go.Sym
open Go Go.bI
abbrev bG:=Nat→Option Nat
def bx (t:Ty) (l:List t.den):List (List D):=l.map (ef t)
def RC (ρ : bG) (B:Nat) (m:List (Tr E2)):Cell→AV→Prop
 |.int k a,x=>x=.d (.sc (.int k a))
 |.bool b,x=>x=.d (.sc (.bool b))
 |.er b,x=>x=.d (match b with
  |true=>.er
  |false=>.sc .nilIface)
 |.str s,x=>x=.d (.sc (.string ⟨s.toArray⟩))
 |.raw v,x=>x=.d (.sc v)
 |.nil true,x=>x=.own [] .full
 |.nil false,x=>x=.d (.sl [])∨∃ o,o≠.aJ∧x=.own [] o
 |.sl t l .d,x=>x=.d (.sl (bx t l))∨∃ o,o≠.aJ∧x=.own (bx t l) o
 |.sl t l .aJ,x=>x=.d (.sl (bx t l))∨∃ o,x=.own (bx t l) o
 |.sl t l .full,x=>x=.own (bx t l) .full
 |.sl t l (.app v),x=>v<B∧((ρ v=none∧x=.own (bx t l) .full)∨∃ u,ρ v=some u∧x=.own (bx t l) (.cx u t.size))
 |.ref lv sl af t,x=>af<B∧∃ u n,ρ af=some u∧x=.ref lv sl u 0 n t.size∧∀ r,rowOf m lv sl af=some r→n=r.l.length
 |.jg lv sl af t off len,x=>af<B∧∃ u,ρ af=some u∧x=.ref lv sl u off len t.size∧∀ r,rowOf m lv sl af=some r→off+len≤r.l.length
 |.ptr lv sl af i off,x=>af<B∧∃ u,ρ af=some u∧x=.ptr lv sl u i off
 |.fo t e off,x=>x=.fo (ef t e) off
 |.eH lv sl af off n sz,x=>af<B∧∃ u,ρ af=some u∧x=.eH lv sl u off n sz
 |.mp lv sl af,x=>af<B∧∃ u,ρ af=some u∧x=.mp lv sl u
def R1 (ρ : bG) (B:Nat) (m:List (Tr E2)):Bool×List Cell→AV→Prop
 |(true,cs),a=>∃ aK,a=.agg aK∧az (RC ρ B m) cs aK
 |(false,cs),a=>∃ c,cs=[c]∧RC ρ B m c a
def RV (ρ : bG) (B:Nat) (m:List (Tr E2)):V2→AV→Prop
 |.c x,a=>RC ρ B m x a
 |.agg cs,a=>∃ aK,a=.agg aK∧az (RC ρ B m) cs aK
 |.fV f cs,a=>∃ aK,a=.fV f aK∧az (RC ρ B m) cs aK
 |.gZ vs,a=>∃ aK,a=.gZ aK∧az (R1 ρ B m) vs aK
def RE (ρ : bG) (B:Nat) (m:List (Tr E2)):E2→bH→Prop
 |.row af t l,e=>af<B∧∃ u,ρ af=some u∧e=.row u (bx t l)
 |.box af cs,e=>af<B∧∃ u aK,ρ af=some u∧e=.box u aK∧az (RC ρ B m) cs aK
 |.set af l,e=>af<B∧∃ u,ρ af=some u∧e=.mp u l
structure MR (ρ : bG) (B:Nat) (m2:List (Tr E2)) (m:List (Tr bH)):Prop where
 len:m2.length=m.length
 ec:∀ lv sl e2,iY m2 lv sl=some e2→∃ e,aN m lv sl=some e∧RE ρ B m2 e2 e
def TR (ρ : bG) (B:Nat) (t2 t:Tr Unit):Prop:=∀ v,t2.get? v=some ()→v<B∧∀ u,ρ v=some u→t.get? u=some ()
structure VOK (ρ : bG) (n2 n:Nat):Prop where
 low:∀ v u,v<n2→ρ v=some u→u<n
 high:∀ v,n2≤v→ρ v=some (n+(v-n2))
 inj:∀ v v' u,ρ v=some u→ρ v'=some u→v=v'
def tw (ρ : bG) (B:Nat) (m:List (Tr E2)) (t:Tr V2) (o:Tr AV):Prop:=∀ k v,t.get? k=some v→RV ρ B m v (jC o k)
structure SR (ρ : bG) (B:Nat) (os:List (Tr AV)) (s2:S2) (s:St):Prop where
 slots:tw ρ B s2.mem s2.slots s.slots
 outer:az (tw ρ B s2.mem) s2.outer os
 mem:MR ρ B s2.mem s.mem
 aE:TR ρ B s2.aE s.aE
 af:VOK ρ s2.nv s.nv
 le:B≤s2.nv
def eg (B:Nat) (m m':List (Tr E2)):Prop:=∀ lv sl af r',af<B→rowOf m' lv sl af=some r'→∃ r,rowOf m lv sl af=some r∧r.l.length=r'.l.length
theorem eg.refl (B:Nat) (m:List (Tr E2)):eg B m m:=fun _ _ _ r _ h=>⟨r,h,rfl⟩
theorem eg.trans {B:Nat} {m m' m'':List (Tr E2)} (h:eg B m m') (k:eg B m' m''):eg B m m'':=by
 intro lv sl af r'' hv hr
 obtain⟨r',h1,h2⟩:=k lv sl af r'' hv hr
 obtain⟨r,h3,h4⟩:=h lv sl af r' hv h1
 exact⟨r,h3,h4.trans h2⟩
theorem RC.move {ρ ρ':bG} {B B':Nat} {m m':List (Tr E2)} (hs:eg B m m') (hB:B≤B') (hρ : ∀ v,v<B→ρ' v = ρ v):∀ {c:Cell} {x:AV},RC ρ B m c x→RC ρ' B' m' c x:=by
 intro c x h
 cases c with
 |nil f=>cases f<;>exact h
 | sl t l o =>
  cases o with
  |app v=>
   obtain⟨hv,h⟩:=h
   refine⟨by omega,?_⟩
   rw[hρ v hv]
   exact h
  |d=>exact h
  |full=>exact h
  |aJ=>exact h
 |ref lv sl af t=>
  obtain⟨hv,u,n,hu,hx,hr⟩:=h
  refine⟨by omega,u,n,by rw[hρ af hv];exact hu,hx,fun r' hr'=>?_⟩
  obtain⟨r,h1,h2⟩:=hs _ _ _ _ hv hr'
  rw[hr r h1,h2]
 |jg lv sl af t off len=>
  obtain⟨hv,u,hu,hx,hr⟩:=h
  refine⟨by omega,u,by rw[hρ af hv];exact hu,hx,fun r' hr'=>?_⟩
  obtain⟨r,h1,h2⟩:=hs _ _ _ _ hv hr'
  rw[←h2];exact hr r h1
 |ptr lv sl af i off=>
  obtain⟨hv,u,hu,hx⟩:=h
  exact⟨by omega,u,by rw[hρ af hv];exact hu,hx⟩
 |eH lv sl af off n sz=>
  obtain⟨hv,u,hu,hx⟩:=h
  exact⟨by omega,u,by rw[hρ af hv];exact hu,hx⟩
 |mp lv sl af=>
  obtain⟨hv,u,hu,hx⟩:=h
  exact⟨by omega,u,by rw[hρ af hv];exact hu,hx⟩
 |_=>exact h
theorem R1.mono {ρ ρ':bG} {B B':Nat} {m m':List (Tr E2)} (hc:∀ c x,RC ρ B m c x→RC ρ' B' m' c x):∀ {v:Bool×List Cell} {x:AV},R1 ρ B m v x→R1 ρ' B' m' v x
 |(true,_),_,⟨aK,h1,h2⟩=>⟨aK,h1,h2.mono hc⟩
 |(false,_),_,⟨c,h1,h2⟩=>⟨c,h1,hc _ _ h2⟩
theorem RV.mono {ρ ρ':bG} {B B':Nat} {m m':List (Tr E2)} (hc:∀ c x,RC ρ B m c x→RC ρ' B' m' c x):∀ {v:V2} {x:AV},RV ρ B m v x→RV ρ' B' m' v x:=by
 intro v x h
 cases v with
 |c c=>exact hc _ _ h
 |agg cs=>obtain⟨aK,h1,h2⟩:=h;exact⟨aK,h1,h2.mono hc⟩
 |fV f cs=>obtain⟨aK,h1,h2⟩:=h;exact⟨aK,h1,h2.mono hc⟩
 |gZ vs=>obtain⟨aK,h1,h2⟩:=h;exact⟨aK,h1,h2.mono fun _ _=>R1.mono hc⟩
theorem RE.mono {ρ ρ':bG} {B B':Nat} {m m':List (Tr E2)} (hB:B≤B') (hρ : ∀ v,v<B→ρ' v = ρ v) (hc:∀ c x,RC ρ B m c x→RC ρ' B' m' c x):∀ {e2:E2} {e:bH},RE ρ B m e2 e→RE ρ' B' m' e2 e:=by
 intro e2 e h
 cases e2 with
 |row af t l=>obtain⟨hv,u,h1,h2⟩:=h;exact⟨by omega,u,by rw[hρ af hv];exact h1,h2⟩
 |box af cs=>obtain⟨hv,u,aK,h1,h2,h3⟩:=h;exact⟨by omega,u,aK,by rw[hρ af hv];exact h1,h2,h3.mono hc⟩
 |set af l=>obtain⟨hv,u,h1,h2⟩:=h;exact⟨by omega,u,by rw[hρ af hv];exact h1,h2⟩
theorem tw.mono {ρ ρ':bG} {B B':Nat} {m m':List (Tr E2)} (hc:∀ c x,RC ρ B m c x→RC ρ' B' m' c x) {t:Tr V2} {o:Tr AV} (h:tw ρ B m t o):tw ρ' B' m' t o:=
 fun k v hk=>RV.mono hc (h k v hk)
theorem RV.move {ρ ρ':bG} {B B':Nat} {m m':List (Tr E2)} (hs:eg B m m') (hB:B≤B') (hρ : ∀ v,v<B→ρ' v = ρ v) {v:V2} {x:AV} (h:RV ρ B m v x):RV ρ' B' m' v x:=
 RV.mono (fun _ _=>RC.move hs hB hρ) h
theorem tw.move {ρ ρ':bG} {B B':Nat} {m m':List (Tr E2)} (hs:eg B m m') (hB:B≤B') (hρ : ∀ v,v<B→ρ' v = ρ v) {t:Tr V2} {o:Tr AV} (h:tw ρ B m t o):tw ρ' B' m' t o:=
 tw.mono (fun _ _=>RC.move hs hB hρ) h
theorem nO:∀ l:List n7,Cp l=l.map Im
 |[]=>by simp[Cp]
 |v :: r=>by simp[Cp,nO r]
theorem dQ:∀ (t:Ty) (x:t.den),(ef t x).length=t.size
 |.val,v=>by cases v;simp[ef,Im,Ty.size]
 |.int _,_=>rfl
 |.bool,_=>rfl
 |.str,_=>rfl
 |.sl _,_=>rfl
 |.unit,_=>rfl
 |.prod a b,x=>by simp[ef,Ty.size,dQ a,dQ b]
 |.sum _ _,_=>rfl
theorem ke {ρ : bG} {B:Nat} {m:List (Tr E2)} : ∀ (t:Ty) (x:t.den),az (RC ρ B m) (ij t x) ((ef t x).map .d)
 |.val,v=>by
  cases v
  refine⟨rfl,rfl,rfl,.inl ?_,rfl,trivial⟩
  simp[bx,n7.list,nO,ef]
 |.int _,_=>⟨rfl,trivial⟩
 |.bool,_=>⟨rfl,trivial⟩
 |.str,_=>⟨rfl,trivial⟩
 |.sl _,_=>⟨.inl rfl,trivial⟩
 |.unit,_=>trivial
 |.prod a b,x=>by
  simp only[ij,ef,List.map_append]
  exact (ke a x.1).append (ke b x.2)
 |.sum _ _,_=>trivial
theorem z6 {a b:Ty} {l:List a.den} {l':List b.den} (h:iO a b l=some l'):∃ e:a=b,l'=e ▸ l:=by
 unfold iO at h
 split at h
 ·rename_i e _;injection h with h;exact⟨e,h.symm⟩
 ·cases h
theorem LD {a b:Ty} {l:a.den} {l':b.den} (h:sN a b l=some l'):∃ e:a=b,l'=e ▸ l:=by
 unfold sN at h
 split at h
 ·rename_i e _;injection h with h;exact⟨e,h.symm⟩
 ·cases h
def qo:Cell→Option D
 |.int k a=>some (.sc (.int k a))
 |.bool b=>some (.sc (.bool b))
 |.str s=>some (.sc (.string ⟨s.toArray⟩))
 |.raw v=>some (.sc v)
 |.nil _=>some (.sl [])
 |.sl t l _=>some (.sl (bx t l))
 |_=>none
def bO:List Cell→Option (List D)
 |[]=>some []
 |c :: r=>match qo c,bO r with
  |some x,some xs=>some (x :: xs)
  |_,_=>none
theorem kH:∀ {l l':List Cell} {ds ds':List D},bO l=some ds→bO l'=some ds'→bO (l++l')=some (ds++ds')
 |[],_,_,_,h,h'=>by simp only[bO,Option.some.injEq] at h;subst h;simpa using h'
 | c :: r, l', ds, ds', h, h' => by
  simp only[bO] at h
  split at h
  ·rename_i x xs h1 h2
   injection h with h;subst h
   simp only[List.cons_append,bO,h1,kH h2 h']
  ·cases h
theorem fZ {c:Cell} {r:List Cell} {ds:List D} (h:bO (c :: r)=some ds):∃ x xs,qo c=some x∧bO r=some xs∧ds=x :: xs:=by
 simp only[bO] at h
 split at h
 ·rename_i x xs h1 h2
  injection h with h
  exact⟨x,xs,h1,h2,h.symm⟩
 ·cases h
theorem z7 {k:IntKind} {cs r:List Cell} {x:Int} {ds:List D} (h:FB k cs=some (x,r)) (hd:bO cs=some ds):∃ ds',ds=.sc (.int k x) :: ds'∧bO r=some ds':=by
 unfold FB at h
 split at h
 ·split at h
  ·rename_i e _
   injection h with h;injection h with h1 h2
   subst e h1 h2
   obtain⟨y,ys,h1,h2,rfl⟩:=fZ hd
   injection h1 with h1;subst h1
   exact⟨ys,rfl,h2⟩
  ·cases h
 ·cases h
theorem Ct {cs r:List Cell} {x:Bool} {ds:List D} (h:DJ cs=some (x,r)) (hd:bO cs=some ds):∃ ds',ds=.sc (.bool x) :: ds'∧bO r=some ds':=by
 unfold DJ at h
 split at h
 ·injection h with h; injection h with h1 h2
  subst h1 h2
  obtain⟨y,ys,h1,h2,rfl⟩:=fZ hd
  injection h1 with h1;subst h1
  exact⟨ys,rfl,h2⟩
 ·cases h
theorem FJ {cs r:List Cell} {x:List UInt8} {ds:List D} (h:J3 cs=some (x,r)) (hd:bO cs=some ds):∃ ds',ds=.sc (.string ⟨x.toArray⟩) :: ds'∧bO r=some ds':=by
 unfold J3 at h
 split at h
 ·injection h with h; injection h with h1 h2
  subst h1 h2
  obtain⟨y,ys,h1,h2,rfl⟩:=fZ hd
  injection h1 with h1;subst h1
  exact⟨ys,rfl,h2⟩
 ·cases h
theorem J8 {t:Ty} {cs r:List Cell} {x:List t.den} {ds:List D} (h:Rw t cs=some (x,r)) (hd:bO cs=some ds):∃ ds',ds=.sl (bx t x) :: ds'∧bO r=some ds':=by
 unfold Rw at h
 split at h
 ·injection h with h; injection h with h1 h2
  subst h1 h2
  obtain⟨y,ys,h1,h2,rfl⟩:=fZ hd
  injection h1 with h1;subst h1
  exact⟨ys,rfl,h2⟩
 ·split at h
  ·rename_i hc
   injection h with h;injection h with h1 h2
   subst h1 h2
   obtain⟨e,hl⟩:=z6 hc
   subst e hl
   obtain⟨y,ys,h1,h2,rfl⟩:=fZ hd
   injection h1 with h1;subst h1
   exact⟨ys,rfl,h2⟩
  ·cases h
 ·cases h
theorem z8:∀ (t:Ty) {cs r:List Cell} {x:t.den},xd t cs=some (x,r)→∀ {ds:List D},bO cs=some ds→∃ ds',ds=ef t x++ds'∧bO r=some ds'
 | .val, cs, r, x, h, ds, hd => by
  simp only[xd,Ue] at h
  split at h
  ·rename_i k r1 h1
   split at h
   ·rename_i i r2 h2
    split at h
    ·rename_i s r3 h3
     split at h
     ·rename_i l r4 h4
      split at h
      ·rename_i c r5 h5
       injection h with h;injection h with hx hr
       subst hx hr
       obtain⟨d1,rfl,e1⟩:=z7 h1 hd
       obtain⟨d2,rfl,e2⟩:=z7 h2 e1
       obtain⟨d3,rfl,e3⟩:=FJ h3 e2
       obtain⟨d4,rfl,e4⟩:=J8 h4 e3
       obtain⟨d5,rfl,e5⟩:=Ct h5 e4
       refine⟨d5,?_,e5⟩
       have:bx .val l=Cp l:=by rw[nO];rfl
       simp[ef,Im,this]
      ·cases h
     ·cases h
    ·cases h
   ·cases h
  ·cases h
 |.int k,_,_,_,h,_,hd=>z7 h hd
 |.bool,_,_,_,h,_,hd=>Ct h hd
 |.str,_,_,_,h,_,hd=>FJ h hd
 |.sl t,_,_,_,h,_,hd=>J8 h hd
 |.unit,_,_,_,h,ds,hd=>by
  simp only[xd,Option.some.injEq,Prod.mk.injEq] at h
  obtain⟨_,rfl⟩:=h
  exact⟨ds,rfl,hd⟩
 | .prod a b, cs, r, x, h, ds, hd => by
  simp only[xd] at h
  split at h
  ·rename_i x1 r1 h1
   split at h
   ·rename_i x2 r2 h2
    injection h with h;injection h with hx hr
    subst hx hr
    obtain⟨d1,rfl,e1⟩:=z8 a h1 hd
    obtain⟨d2,rfl,e2⟩:=z8 b h2 e1
    exact⟨d2,by simp[ef],e2⟩
   ·cases h
  ·cases h
 |.sum _ _,_,_,_,h,_,_=>by simp[xd] at h
theorem nP {t:Ty} {cs:List Cell} {x:t.den} {ds:List D} (h:xe t cs=some x) (hd:bO cs=some ds):ds=ef t x:=by
 unfold xe at h
 split at h
 ·rename_i y h1
  injection h with h;subst h
  obtain⟨ds',rfl,e⟩:=z8 t h1 hd
  simp only[bO,Option.some.injEq] at e
  subst e
  simp
 ·cases h
end Go.Sym
