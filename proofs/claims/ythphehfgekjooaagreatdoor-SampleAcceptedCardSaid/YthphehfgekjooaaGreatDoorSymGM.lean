/- A part of the proof: SymG, SymGM. -/
import Derived.Test.YthphehfgekjooaaGreatDoorSymF
set_option linter.unusedVariables false
set_option linter.unusedSimpArgs false
namespace Go.Sym
open Go Go.bq
section
variable {α : Type} {ρ : aR} {B B':Nat} {s2:S2} {s:St} {op:bL} {row dst p nx:Nat} {K:fP→Option α} {r : α} {E:au} {wk:Wk} {ctx:Nat}
theorem TR.fresh {t2 t:Tr Unit} (h:TR ρ B t2 t) (hB:B≤nx) (dY : ρ nx=some p):TR ρ (nx+1) (dh t2 [(nx,true)]) (dh t [(p,true)]):=by
 intro v hv
 simp[dh,if_true] at hv ⊢
 rw[Tr.bQ] at hv
 split at hv
 ·simp_all
  rw[Tr.bQ,if_pos rfl]
 ·obtain ⟨h1, h2⟩ := h v hv
  refine⟨by omega,fun u hu=>?_⟩
  rw[Tr.bQ]<;>grind
theorem TR.adm {t2 t:Tr Unit} (h:TR ρ B t2 t) (v:Nat):TR ρ B (t2.set v none) t:=by
 intro v' hv
 rw[Tr.bQ] at hv
 split at hv
 ·cases hv
 ·exact h v' hv
theorem TR.drop {t2 t:Tr Unit} (h:TR ρ B t2 t) (hinj:∀ v v' u,ρ v=some u→ρ v'=some u→v=v') {v u:Nat} (hu : ρ v=some u):TR ρ B (t2.set v none) (t.set u none):=by
 intro v' hv
 rw[Tr.bQ] at hv
 split at hv
 ·cases hv
 ·refine ⟨(h v' hv).1, fun u' j7 => ?_⟩
  rw[Tr.bQ]
  split
  ·grind
  ·exact (h v' hv).2 u' j7
theorem dS {a t:Ty} {l:List a.den} {l':List t.den} (h:iI a t l=some l'):aS a l=aS t l'∧l.length=l'.length:=by
 obtain⟨e,he⟩:=Az h<;>grind
theorem kB {n b:Nat} (h:room n b=true):n≤dU∧n*b≤jl:=by simpa[room] using h
theorem Dr {m:List (Tr E2)} {mm:List (Tr aZ)} (hm:MR ρ B m mm) {x:Cell} {a:AV} {e:Option Ty} {K:SL→Option α} (h:nH m x e K=some r) (hx:RC ρ B m x a) (hne:∀ b,x≠.str b):∃ els,cH mm a=some els:=by
 unfold nH at h
 split at h
 ·exact⟨_,(fQ hx).1⟩
 ·exact⟨_,(fE hx).1⟩
 ·obtain ⟨r', hr, h⟩ := ak h
  exact⟨_,kZ hm hx hr⟩
 ·obtain ⟨r', hr, h⟩ := ak h
  have q:=bK h
  obtain⟨hl,h⟩:=q
  exact⟨_,iU hm hx hr (of_decide_eq_true hl)⟩
 ·grind
 grind
variable (hm:MR ρ B s2.mem s.mem) (ht:TR ρ B s2.aB s.aB) (bI:tM ρ B s2.mem s2.slots s.slots) (hB:B≤nx) (dY : ρ nx=some p) (hinj:∀ v v' u,ρ v=some u→ρ v'=some u→v=v')
include hm ht hB dY
omit ht in
theorem mU.AM {t:Ty} {l:List t.den} {els:List (List D)} {QH rd:List (Nat×Nat×Nat)} {tp2 tp:List (Nat×Bool)} (he:els=aS t l) (hr:aK ρ QH rd) (htp:TR ρ (nx+1) (dh s2.aB tp2) (dh s.aB tp)) (hw:aK ρ (tp2.map fun u=>jw u.1) (tp.map fun u=>jw u.1)) :
  mU ρ B (nx+1) s2 s { val:=.c (.sl t l (.app nx)),cv:=[],bR:=tp2,rd:=QH } { val:=.own els (.bR p t.size),cv:=[],bR:=tp,rd:=rd }:=by
 subst he
 exact⟨⟨by omega,.inr ⟨p,dY,rfl⟩⟩,hm.mono (by omega),htp,dR.refl _ _,hr,by simpa[Ho.wr,eU.wr] using hw⟩
theorem mU.pV {t:Ty} {l:List t.den} {els:List (List D)} {n lv sl:Nat} {ks:List (Nat×Nat)} {QH rd:List (Nat×Nat×Nat)} (he:els=aS t l) (hn:n=l.length) (hr:aK ρ QH rd) :
  mU ρ B (nx+1) s2 s { val:=.c (.ref lv sl nx t),cv:=jK ks++[(lv,sl,some (.row nx t l))],bR:=[],rd:=QH } { val:=.ref lv sl p 0 n t.size,cv:=di s.mem ks++[(lv,sl,some (.row p els))],bR:=[],rd:=rd }:=by
 subst he hn
 refine .fy hm ht (by omega) (dw (.inl hB)) (gZ.append (dx ⟨by omega,p,dY,rfl⟩)) ⟨by omega,p,l.length,dY,rfl,fun r' hr'=>?_⟩ hr
 rw[nK] at hr'
 simp[eE] at hr'
 have:=bS hr'
 rw[js] at this
 split at this
 ·grind
 ·have h1 := lI (fH.2 this)
  obtain⟨e,_,hlt,_⟩:=hm.dW _ _ _ (bS h1)<;>omega
include hinj in
theorem E6 {ZG:Bool} {lv sl sz bytes:Nat} {x y:Cell} {a b:AV} {e:Option Ty} (h:NN s2 ZG lv sl nx sz bytes x y e K=some r) (hx:RC ρ B s2.mem x a) (hy:RC ρ B s2.mem y b) :
  ∃ E e,cP s ZG lv sl p sz bytes a b=some e∧mU ρ B (nx+1) s2 s E e∧K (.bC E)=some r:=by
 unfold NN at h
 have PE:=sD hy
 split at h
 ·obtain ⟨n, hn, h⟩ := jL hm h hy
  split at h
  ·rename_i hz
   have hz:=Nat.eq_of_beq_eq_true hz
   have q:=bK h
   obtain⟨hr,h⟩:=q
   have hr:=kB hr
   cases hx
   split at h
   ·refine ⟨_, _, ?_, .AM hm hB dY (l := n.l) (els := [] ++ aS n.t n.l) rfl PE (ht.fresh hB dY) (aK.AK dY aK.nil), h⟩
    simp only[cP,←hz,hn,fI,if_true,List.all_nil,List.length_nil,Nat.zero_add,aQ]
    rw[if_pos ⟨trivial,hr.1,hr.2⟩]
   ·refine ⟨_, _, ?_, .pV hm ht hB dY (ks := []) (els := [] ++ aS n.t n.l) rfl rfl PE, h⟩
    simp only[cP,←hz,hn,fI,if_true,List.all_nil,List.length_nil,Nat.zero_add,aQ]
    rw[if_pos ⟨trivial,hr.1,hr.2⟩]
    simp[di]
  ·cases h
 ·rename_i t l
  have q:=jL hm h hy
  obtain⟨n,hn,h⟩:=q
  split at h
  ·rename_i news hz hc
   have hz:=Nat.eq_of_beq_eq_true hz
   obtain⟨hc,_⟩:=dS hc
   rw[hc] at hn
   have q:=bK h
   obtain⟨hr,h⟩:=q
   have hr:=kB hr
   cases hx
   split at h
   ·refine ⟨_, _, ?_, .AM hm hB dY (l := l ++ news) (els := aS t l ++ aS t news) (lH ..).symm PE (ht.fresh hB dY) (aK.AK dY aK.nil), h⟩
    simp only[cP,←hz,hn,fI,if_true,aQ]
    rw[if_pos ⟨trivial,hr.1,hr.2⟩]
   ·obtain ⟨hne, h⟩ := bK h
    refine⟨_,_,?_,.pV hm ht hB dY (ks:=[]) (l:=l++news) (n:=l.length+news.length) (els:=aS t l++aS t news) (lH ..).symm (by simp) PE,h⟩
    simp only[cP,←hz,hn,fI,if_true,aQ]
    rw[if_pos ⟨trivial,hr.1,hr.2⟩,if_neg (by
     intro hc
     have h1:l.isEmpty=false:=by simpa[aS] using hc.1
     have h2:news.isEmpty=true:=by simpa[aS] using hc.2
     rw[h1,h2] at hne
     cases hne)]
    simp[di]
  ·cases h
 ·rename_i t l v
  have q:=jL hm h hy
  obtain⟨n,hn,h⟩:=q
  cases hz:Nat.beq t.size sz with
  |false=>simp[hz] at h
  |true=>
  cases hc:iI n.t t n.l with
  |none=>simp[hz,hc] at h
  |some news=>
  cases ZG with
  |true=>simp[hz,hc] at h
  |false=>
  cases htip:s2.aB.get? v with
  |none=>simp[hz,hc,htip] at h
  |some un=>
  simp[hz,hc,htip] at h
  ·have hz := Nat.eq_of_beq_eq_true hz
   obtain⟨hc,_⟩:=dS hc
   rw[hc] at hn
   have q:=bK h
   obtain⟨hr,h⟩:=q
   have hr:=kB hr
   rcases hx with⟨hv,⟨hu,rfl⟩|⟨u,hu,rfl⟩⟩
   ·refine ⟨_, _, ?_, .AM hm hB dY (l := l ++ news) (els := aS t l ++ aS t news) (tp2 := [(v, false), (nx, true)]) (tp := [(p, true)]) (lH ..).symm PE.skip (TR.fresh (ht.adm v) hB dY) (aK.skip (aK.AK dY aK.nil)), h⟩
    simp only[cP,←hz,hn,fI,if_true,aQ]
    rw[if_pos ⟨trivial,hr.1,hr.2⟩]
   ·refine ⟨_, _, ?_, .AM hm hB dY (l := l ++ news) (els := aS t l ++ aS t news) (tp2 := [(v, false), (nx, true)]) (tp := [(u, false), (p, true)]) (lH ..).symm (aK.AK hu PE) (TR.fresh (ht.drop hinj hu) hB dY) (aK.AK hu (aK.AK dY aK.nil)), h⟩
    have:=(ht v htip).2 u hu
    simp only[cP,←hz,hn,fI,if_true,aQ]
    rw[if_pos ⟨trivial,hr.1,hr.2,by rw[this];rfl⟩]
 ·rename_i bV cS aa t
  have q:=ak h
  obtain⟨r',hr',h⟩:=q
  have q:=jL hm h hy
  obtain⟨n,hn,h⟩:=q
  split at h
  ·rename_i l news hz hc1 hc
   have hz:=Nat.eq_of_beq_eq_true hz
   obtain⟨hc,_⟩:=dS hc
   obtain⟨hc1,mP⟩:=dS hc1
   rw[hc] at hn
   have q:=bK h
   obtain⟨hr,h⟩:=q
   have hr:=kB hr
   obtain⟨hv,u,n',hu,rfl,hn'⟩:=hx
   have hn':=hn' _ hr'
   rw[mP] at hn'
   subst hn'
   have hrow:=(gV hm hr' hu).2
   rw[hc1] at hrow
   refine⟨_,_,?_,.pV hm ht hB dY (ks:=[]) (l:=l++news) (n:=l.length+news.length) (els:=aS t l++aS t news) (lH ..).symm (by simp) (aK.gW bV cS PE),h⟩
   simp only[cP,←hz,hn,fI,if_true,hrow,aQ]
   rw[if_pos ⟨trivial,by omega,hr.1,hr.2⟩]
   simp[di,List.take_of_length_le,aQ]
  ·cases h
 ·rename_i bV cS aa t off len
  have q:=ak h
  obtain⟨r',hr',h⟩:=q
  have q:=jL hm h hy
  obtain⟨n,hn,h⟩:=q
  split at h
  ·rename_i l news hz hc1 hc
   have hz:=Nat.eq_of_beq_eq_true hz
   obtain⟨hc,_⟩:=dS hc
   obtain⟨hc1,mP⟩:=dS hc1
   rw[hc] at hn
   have q:=bK h
   obtain⟨hr,h⟩:=q
   rw[Bool.and_eq_true] at hr
   have hl:=of_decide_eq_true hr.1
   have hr:=kB hr.2
   obtain⟨hv,u,hu,rfl,_⟩:=hx
   have hrow:=(gV hm hr' hu).2
   rw[hc1] at hrow
   refine⟨_,_,?_,.pV hm ht hB dY (ks:=[]) (l:=(l.drop off).take len++news) (n:=len+news.length) (els:=((aS t l).drop off).take len++aS t news) (by simp[aS,List.map_take,List.map_drop]) (by simp;omega) (aK.gW bV cS PE),h⟩
   simp only[cP,←hz,hn,fI,if_true,hrow,aQ]
   rw[if_pos ⟨trivial,hl,hr.1,hr.2⟩]
   simp[di]
  ·cases h
 ·cases h
theorem UK {sz:Nat} {x:Cell} {a:AV} {lo hi:Option Nat} (h:Zw s2.mem sz nx x lo hi K=some r) (hx:RC ρ B s2.mem x a) (l h':Nat) (hl:l=lo.getD 0) (hh:∀ n,hi=some n→h'=n) :
  ∃ E e,GC s p sz a l (hi.map fun _=>h')=some e∧mU ρ B (nx+1) s2 s E e∧K (.bC E)=some r:=by
 have ehi:hi.map (fun _=>h')=hi:=by cases hi with|none=>rfl|some n=>grind
 rw[ehi]
 subst hl
 unfold Zw at h
 split at h
 ·rename_i lv sl aa t
  have q:=ak h
  obtain⟨r',hr',h⟩:=q
  split at h
  ·rename_i l' hz hc1
   have hz:=Nat.eq_of_beq_eq_true hz
   obtain⟨hc1,mP⟩:=dS hc1
   have q:=bK h
   obtain⟨hp,h⟩:=q
   have hp':=gY hp
   obtain⟨hv,u,n',hu,rfl,hn'⟩:=hx
   have hn':=hn' _ hr'
   rw[mP] at hn'
   subst hn'
   have hrow:=(gV hm hr' hu).2
   rw[hc1] at hrow
   have he:=wH (t:=t) hp
   rw[aQ] at he
   refine⟨_,_,?_,.pV hm ht hB dY (ks:=[]) (l:=nI l' lo hi) (n:=hi.getD l'.length-lo.getD 0) (els:=((aS t l').drop (lo.getD 0)).take (hi.getD l'.length-lo.getD 0)) he.symm ?_ (aK.gW lv sl aK.nil),h⟩
   ·simp only [GC, hrow, ← hz]
    rw[if_pos ⟨trivial,hp'.1,hp'.2,by rw[aQ];omega⟩]
    simp[di]
   ·rw [AJ hp, List.length_take, List.length_drop]
    omega
  grind
 grind
omit hm ht hB dY in
theorem RC.isRow {m:List (Tr E2)} {c:Cell} {a:AV} (h:RC ρ B m c a):bq.isRow a=c.isRow:=by
 cases c with
 |nil f=>
  cases f with
  |false=>rcases h with rfl|⟨_,_,rfl⟩<;>rfl
  |true=>cases h;rfl
 |sl t l o=>
  cases o with
  |d=>rcases h with rfl|⟨_,_,rfl⟩<;>rfl
  |bB=>rcases h with rfl|⟨_,rfl⟩<;>rfl
  |full=>cases h;rfl
  |app v=>rcases h.2 with⟨_,rfl⟩|⟨_,_,rfl⟩<;>rfl
 |ref=>obtain⟨_,_,_,_,rfl,_⟩:=h;rfl
 |iT=>obtain⟨_,_,_,rfl,_⟩:=h;rfl
 |ptr=>obtain⟨_,_,_,rfl⟩:=h;rfl
 |eA=>obtain⟨_,_,_,rfl⟩:=h;rfl
 |mp=>obtain⟨_,_,_,rfl⟩:=h;rfl
 |int=>cases h;rfl
 |bool=>cases h;rfl
 |er=>cases h;rfl
 |str=>cases h;rfl
 |raw=>cases h;rfl
 |eW=>cases h;rfl
include bI in
theorem Kr {sz:Nat} {x:bA} {lo hi mx:Option bA} (h:ck E wk ctx s2 row dst nx (.slice sz x lo hi mx) K=some r):cV ρ B (nx+1) s2 s (.slice sz x lo hi mx) row dst p K r:=by
 have q:=bN h
 obtain⟨c,hx,h⟩:=q
 have q:=oD bI h
 obtain⟨l,el,il,h⟩:=q
 have q:=oD bI h
 obtain⟨h',eh,ih,h⟩:=q
 have q:=oD bI h
 obtain⟨k,ek,ik,h⟩:=q
 have e1:hi.map (fun _=>h'.getD 0)=h'.map fun _=>h'.getD 0:=by cases hi<;>cases h'<;>simp_all
 have e2:mx.map (fun _=>k.getD 0)=k.map fun _=>k.getD 0:=by cases mx<;>cases k<;>simp_all
 have hir:=RC.isRow (aO bI hx)
 split at h
 ·rename_i hq
  rw[←hir] at hq
  obtain⟨E',e,g1,g2,g3⟩:=UK hm ht hB dY h (aO bI hx) (l.getD 0) (h'.getD 0) rfl (fun n e=>by rw[e];rfl)
  exact⟨E',e,fun _ _=>by simp only[bL.run,el,eh,ek,hq,e1,g1,Option.map_some],g2,g3⟩
 ·rename_i hq
  rw[←hir] at hq
  obtain⟨a',c',g1,g2,g3⟩:=NW h (aO bI hx) (l.getD 0) (h'.getD 0) (k.getD 0) rfl (fun n e=>by rw[e];rfl) (fun n e=>by rw[e];rfl)
  refine .pure hm ht (by omega) (a:=a') (fun _ _=>?_) (v:=.c c') g2 g3
  simp[bL.run,el,eh,ek,hq,e1,e2,g1,Option.bind_some]
include hinj bI in
theorem HN {sz bytes:Nat} {x y:bA} (h:ck E wk ctx s2 row dst nx (.append sz bytes x y) K=some r):cV ρ B (nx+1) s2 s (.append sz bytes x y) row dst p K r:=by
 have q:=bN h
 obtain⟨a,ha,h⟩:=q
 have q:=bN h
 obtain⟨b,hb,h⟩:=q
 rw[hm.len] at h
 obtain⟨E',e,h1,h2,h3⟩:=E6 hm ht hB dY hinj h (aO bI ha) (aO bI hb)
 exact⟨E',e,fun _ _=>by simp only[bL.run,h1,Option.map_some],h2,h3⟩
include hinj bI in
theorem E7 {sz bytes:Nat} {z:List D} {x n:bA} (h:ck E wk ctx s2 row dst nx (.ny sz bytes z x n) K=some r):cV ρ B (nx+1) s2 s (.ny sz bytes z x n) row dst p K r:=by
 have q:=bN h
 obtain⟨a,ha,h⟩:=q
 have q:=kA h
 obtain⟨kl,l',hl,hl0,h⟩:=q
 have q:=ak h
 obtain⟨t,_,h⟩:=q
 have q:=ak h
 obtain⟨z',JM,h⟩:=q
 obtain⟨zc,hz1,ZH⟩:=aJ JM
 have ZI:=oB ZH (oC hz1)
 split at h
 ·rename_i hb
  simp only[Bool.and_eq_true] at hb
  have h2:=Nat.eq_of_beq_eq_true hb.2
  have q:=bK h
  obtain⟨hr,h⟩:=q
  have hr:=kB hr
  rw[hm.len] at h
  have hb:RC ρ B s2.mem (.sl t (List.replicate l'.toNat z') .d) (.d (.sl (List.replicate l'.toNat z))):=.inl (by simp[aS,ZI])
  obtain⟨E',e,h3,h4,h5⟩:=E6 hm ht hB dY hinj h (aO bI ha) hb
  exact⟨E',e,fun _ _=>by
   simp only[bL.run,gX (aO bI hl) hl0,Option.bind_some]
   rw[if_pos ⟨h2,hr.1,hr.2⟩,h3,Option.map_some],h4,h5⟩
 grind
include hinj bI in
theorem Ks {sz bytes:Nat} {x:bA} (h:ck E wk ctx s2 row dst nx (.clone sz bytes x) K=some r):cV ρ B (nx+1) s2 s (.clone sz bytes x) row dst p K r:=by
 have q:=bN h
 obtain⟨b,hb,h⟩:=q
 have hb:=aO bI hb
 split at h
 ·cases h
 ·rename_i hne
  rw[hm.len] at h
  have he:∃ els,cH s.mem (x.ev s.slots)=some els:=by
   unfold NN at h
   exact Dr hm h hb (fun b' e=>hne b' e)
  obtain⟨els,he⟩:=he
  obtain⟨E',e,h1,h2,h3⟩:=E6 hm ht hB dY hinj h (show RC ρ B s2.mem (.nil true) (.own [] .full) from rfl) hb
  exact⟨E',e,fun _ _=>by simp only[bL.run,he,h1,Option.map_some],h2,h3⟩
omit dY hm ht hB in
theorem Ds {t:Ty} : ∀ l:List t.den,aq (RC ρ B s2.mem) (l.flatMap (gS t)) (((l.map (dX t)).flatten).map .d)
 |[]=>trivial
 |x :: l=>by
  simp only[List.flatMap_cons,List.map_cons,List.flatten_cons,List.map_append]
  exact (kz t x).append (Ds l)
omit dY in
include bI in
theorem N4 {sz:Nat} {x y:bA} (h:ck E wk ctx s2 row dst nx (.copy sz x y) K=some r):cV ρ B (nx+1) s2 s (.copy sz x y) row dst p K r:=by
 have q:=bN h
 clear h
 obtain⟨a,ha,h⟩:=q
 have q:=bN h
 clear h
 obtain⟨b,hb,h⟩:=q
 have ha:=aO bI ha
 have hb:=aO bI hb
 have PE:=sD hb
 split at h
 ·rename_i lv sl aa t _
  have q:=ak h
  obtain⟨r',hr',h⟩:=q
  have q:=jL hm h hb
  obtain⟨n,hn,h⟩:=q
  split at h
  ·rename_i l news hz hc1 hc
   have hz:=Nat.eq_of_beq_eq_true hz
   obtain⟨hc,_⟩:=dS hc
   obtain⟨hc1,mP⟩:=dS hc1
   rw[hc] at hn
   obtain⟨hv,u,n',hu,ea,hn'⟩:=ha
   have hn':=hn' _ hr'
   rw[mP] at hn'
   subst hn'
   have hrow:=(gV hm hr' hu).2
   rw[hc1] at hrow
   have hst:dR B s2.mem (eE s2.mem [(lv,sl,some (.row aa t (Hq news l)))]):=dw (ks:=[]) (.inr ⟨_,hr',by simp[Hq,mP];omega⟩)
   refine⟨_,_,fun _ _=>?_,.fy hm ht (by omega) hst (dx (e:=.row u (aS t (Hq news l))) ⟨by omega,u,hu,rfl⟩) (v:=.c (.int .i64 ((min news.length l.length:Nat):Int))) (a:=n6 (min news.length l.length)) (show _=_ from rfl) (aK.gW lv sl PE),h⟩
   simp[bL.run,←hz,ea,hn,hrow,fI,aQ]
   simp[Hq,bq.splice,aS,List.map_take,List.map_drop]
  grind
 ·rename_i lv sl aa t off len _
  have q:=ak h
  obtain⟨r',hr',h⟩:=q
  have q:=jL hm h hb
  obtain⟨n,hn,h⟩:=q
  split at h
  ·rename_i l news hz hc1 hc
   have hz:=Nat.eq_of_beq_eq_true hz
   obtain⟨hc,_⟩:=dS hc
   obtain⟨hc1,mP⟩:=dS hc1
   rw[hc] at hn
   have q:=bK h
   obtain⟨hl,h⟩:=q
   have hl:=of_decide_eq_true hl
   obtain⟨hv,u,hu,ea⟩:=ha
   have hrow:=(gV hm hr' hu).2
   rw[hc1] at hrow
   have hst:dR B s2.mem (eE s2.mem [(lv,sl,some (.row aa t (l.take off++(news.take (min news.length len)++l.drop (off+(news.take (min news.length len)).length)))))]):=dw (ks:=[]) (.inr ⟨_,hr',by simp[mP];omega⟩)
   refine⟨_,_,fun _ _=>?_,.fy hm ht (by omega) hst (dx (e:=.row u (aS t (l.take off++(news.take (min news.length len)++l.drop (off+(news.take (min news.length len)).length))))) ⟨by omega,u,hu,rfl⟩) (v:=.c (.int .i64 ((min news.length len:Nat):Int))) (a:=n6 (min news.length len)) (show _=_ from rfl) (aK.gW lv sl PE),h⟩
   simp only[bL.run,←hz,ea,hn,hrow,fI,aQ]
   rw[if_pos ⟨trivial,hl,trivial⟩]
   simp[bq.splice,aS,List.map_take,List.map_drop]
  grind
 ·rename_i lv sl aa off n sz' _
  obtain⟨Cj,u,hu,ea⟩:=ha
  split at h
  ·rename_i v cs he
   have q:=jL hm h hb
   clear h
   obtain⟨nw,hn,h⟩:=q
   split at h
   ·rename_i hq
    simp only[Bool.and_eq_true] at hq
    obtain⟨⟨⟨hv1,hz1⟩,hl⟩,hz⟩:=hq
    have hv1:=Nat.eq_of_beq_eq_true hv1
    have hz1:=Nat.eq_of_beq_eq_true hz1
    have hl:=Nat.le_of_ble_eq_true hl
    have hz:=Nat.eq_of_beq_eq_true hz
    subst hv1 hz1
    obtain⟨e,g1,_,u',bs,g2,rfl,g3⟩:=hm.dW _ _ _ he
    rw[hu] at g2;cases g2
    have hst:dR B s2.mem (eE s2.mem [(lv,sl,some (.box v (bq.splice cs off ((nw.l.take (min nw.l.length n)).flatMap (gS nw.t)))))]):=dw (ks:=[]) (e:=.box _ _) trivial
    have hcells:aq (RC ρ B s2.mem) ((nw.l.take (min nw.l.length n)).flatMap (gS nw.t)) ((((aS nw.t nw.l).take (min (aS nw.t nw.l).length n)).flatten).map .d):=by
     rw[aQ]
     unfold aS
     rw[←List.map_take]
     exact Ds _
    refine⟨_,_,fun _ _=>?_,.fy hm ht (B':=nx+1) (by omega) hst (dx (e:=.box u (bq.splice bs off ((((aS nw.t nw.l).take (min (aS nw.t nw.l).length n)).flatten).map .d))) ⟨by omega,u,_,hu,rfl,(wG g3 hcells off).mono fun _ _=>RC.move hst (by omega) fun _ _=>rfl⟩) (v:=.c (.int .i64 ((min nw.l.length n:Nat):Int))) (a:=n6 (min nw.l.length n)) (show _=_ from rfl) (aK.gW lv sl PE),h⟩
    have JW:bq.fK s.mem lv sl u=some bs:=by simp[bq.fK,g1,rz]
    simp only[bL.run,ea,hn,JW]
    rw[if_pos ⟨trivial,by rw[←g3.length];exact hl,by rw[←hz];exact fI _ _⟩,aQ]
   grind
  grind
 grind
include bI in
theorem AN {sz bytes:Nat} {z:List D} {l c:bA} (h:ck E wk ctx s2 row dst nx (.makeSlice sz bytes z l c) K=some r):cV ρ B (nx+1) s2 s (.makeSlice sz bytes z l c) row dst p K r:=by
 simp[ck] at h
 have q:=kA h
 clear h
 obtain⟨kl,l',hl,hl0,h⟩:=q
 have q:=kA h
 clear h
 obtain⟨kc,c',hc,hc0,h⟩:=q
 have q:=ak h
 clear h
 obtain⟨t,_,h⟩:=q
 have q:=ak h
 clear h
 obtain⟨z',JM,h⟩:=q
 obtain⟨zc,hz1,ZH⟩:=aJ JM
 have ZI:=oB ZH (oC hz1)
 split at h
 ·rename_i hb
  simp only[Bool.and_eq_true] at hb
  have h1:=Nat.eq_of_beq_eq_true hb.1
  have h2:=Nat.eq_of_beq_eq_true hb.2
  subst h1
  have q:=bK h
  obtain⟨hr,h⟩:=q
  rw[Bool.and_eq_true] at hr
  have hle:=of_decide_eq_true hr.1
  have hr:=kB hr.2
  rw[hm.len] at h
  refine⟨_,_,fun _ _=>?_,.pV hm ht hB dY (ks:=[]) (l:=List.replicate l'.toNat z') (n:=l'.toNat) (els:=List.replicate l'.toNat z) (by simp[aS,ZI]) (by simp) aK.nil,h⟩
  simp only[bL.run,gX (aO bI hl) hl0,gX (aO bI hc) hc0]
  rw[if_pos ⟨hle,by rw[Nat.mul_comm];exact hr.2,hr.1,h2⟩]
  simp[di]
 grind
omit dY in
include bI in
theorem Kt {sz:Nat} {z:List D} {x:bA} (h:ck E wk ctx s2 row dst nx (.clear sz z x) K=some r):cV ρ B (nx+1) s2 s (.clear sz z x) row dst p K r:=by
 have q:=bN h
 obtain⟨a,ha,h⟩:=q
 have ha:=aO bI ha
 split at h
 ·rename_i lv sl aa t _
  have q:=ak h
  obtain⟨r',hr',h⟩:=q
  have q:=ak h
  obtain⟨z',JM,h⟩:=q
  obtain⟨zc,hz1,ZH⟩:=aJ JM
  have ZI:=oB ZH (oC hz1)
  split at h
  ·rename_i l hb hc1
   simp only[Bool.and_eq_true] at hb
   have h1:=Nat.eq_of_beq_eq_true hb.1
   have h2:=Nat.eq_of_beq_eq_true hb.2
   obtain⟨hc1,mP⟩:=dS hc1
   obtain⟨hv,u,n',hu,ea,hn'⟩:=ha
   have hn':=hn' _ hr'
   rw[mP] at hn'
   subst hn'
   have hrow:=(gV hm hr' hu).2
   rw[hc1] at hrow
   have hst:dR B s2.mem (eE s2.mem [(lv,sl,some (.row aa t (List.replicate l.length z')))]):=dw (ks:=[]) (.inr ⟨_,hr',by simp[mP]⟩)
   refine⟨_,_,fun _ _=>?_,.fy hm ht (by omega) hst (dx (e:=.row u (aS t (List.replicate l.length z'))) ⟨by omega,u,hu,rfl⟩) lJ (aK.gW lv sl aK.nil),h⟩
   simp only[bL.run,←h1,ea,hrow,aQ]
   rw[if_pos ⟨trivial,by omega,by rw[h2,h1]⟩]
   simp[bq.splice,aS,ZI]
  grind
 ·rename_i lv sl aa t off len _
  have q:=ak h
  obtain⟨r',hr',h⟩:=q
  have q:=ak h
  obtain⟨z',JM,h⟩:=q
  obtain⟨zc,hz1,ZH⟩:=aJ JM
  have ZI:=oB ZH (oC hz1)
  split at h
  ·rename_i l hb hc1
   simp only[Bool.and_eq_true] at hb
   have h1:=Nat.eq_of_beq_eq_true hb.1
   have h2:=Nat.eq_of_beq_eq_true hb.2
   obtain⟨hc1,mP⟩:=dS hc1
   have q:=bK h
   obtain⟨hd,h⟩:=q
   have hd:=of_decide_eq_true hd
   obtain⟨hv,u,hu,ea,_⟩:=ha
   have hrow:=(gV hm hr' hu).2
   rw[hc1] at hrow
   have hst:dR B s2.mem (eE s2.mem [(lv,sl,some (.row aa t (l.take off++List.replicate len z'++l.drop (off+len))))]):=dw (ks:=[]) (.inr ⟨_,hr',by simp[mP];omega⟩)
   refine⟨_,_,fun _ _=>?_,.fy hm ht (by omega) hst (dx (e:=.row u (aS t (l.take off++List.replicate len z'++l.drop (off+len)))) ⟨by omega,u,hu,rfl⟩) lJ (aK.gW lv sl aK.nil),h⟩
   simp only[bL.run,←h1,ea,hrow,aQ]
   rw[if_pos ⟨trivial,hd,by rw[h2,h1]⟩]
   simp[bq.splice,aS,ZI,List.map_take,List.map_drop]
  grind
 grind
omit hm ht hB dY in
theorem pW:∀ l:List Int,qG (gG l)=some l
 |[]=>rfl
 |z :: l=>by
  show (qG (gG l)).map (z :: ·)=_
  rw[pW l]
  rfl
omit hm ht hB dY in
theorem RV.isRow {m:List (Tr E2)} {v:V2} {a:AV} (h:RV ρ B m v a):bq.isRow a=v.isRow:=by
 cases v with
 |c c=>exact RC.isRow h
 |agg=>obtain⟨_,rfl,_⟩:=h;rfl
 |fB=>obtain⟨_,rfl,_⟩:=h;rfl
 |gN=>obtain⟨_,rfl,_⟩:=h;rfl
omit hm ht hB dY in
theorem N5 {m:List (Tr E2)} {row lv d aH:Nat} {v:V2} {a:AV} (h:RV ρ B m v a) (h1:∀ f,v≠.c (.nil f)) (h2:∀ t l o,v≠.c (.sl t l o)):yD row lv d aH a = { val:=a,cv:=[],bR:=[],rd:=[] }:=by
 unfold yD
 split
 ·cases v with
  |c x=>
   cases x with
   |nil f=>grind
   |sl t l o=>grind
   |ref=>obtain⟨_,_,_,_,e,_⟩:=h<;>grind
   |iT=>obtain⟨_,_,_,e,_⟩:=h<;>grind
   |ptr=>obtain⟨_,_,_,e⟩:=h<;>grind
   |eA=>obtain⟨_,_,_,e⟩:=h<;>grind
   |mp=>obtain⟨_,_,_,e⟩:=h<;>grind
   |int=>cases h
   |bool=>cases h
   |er=>cases h
   |str=>cases h
   |raw=>cases h
   |eW=>cases h
  |agg=>obtain⟨_,e,_⟩:=h<;>grind
  |fB=>obtain⟨_,e,_⟩:=h<;>grind
  |gN=>obtain⟨_,e,_⟩:=h<;>grind
 ·rfl
include bI in
theorem QS {x:bA} (h:ck E wk ctx s2 row dst nx (.Gv x) K=some r):cV ρ B (nx+1) s2 s (.Gv x) row dst p K r:=by
 have q:=ak h
 obtain⟨v,hv,h⟩:=q
 have hv:=aO bI hv
 have hir:=RV.isRow hv
 split at h
 ·rename_i hq
  rw[←hir] at hq
  split at h
  ·rename_i lv sl aa t _
   have q:=ak h
   obtain⟨r',hr',h⟩:=q
   have q:=ak h
   obtain⟨l,hl,h⟩:=q
   obtain⟨hc1,mP⟩:=dS hl
   obtain⟨Cj,u,n',hu,ea,hn'⟩:=hv
   have hn':=hn' _ hr'
   rw[mP] at hn'
   subst hn'
   have hrow:=(gV hm hr' hu).2
   rw[hc1] at hrow
   rw[hm.len] at h
   have hst:dR B s2.mem (eE s2.mem [(lv,sl,none),(s.mem.length-1,dst,some (.row nx t l))]):=dw (ks:=[(lv,sl)]) (e:=.row nx t l) (.inl hB)
   refine⟨_,_,fun _ _=>?_,.fy hm ht (B':=nx+1) (Gn:=[(lv,sl,none),(s.mem.length-1,dst,some (.row nx t l))]) (us:=[(lv,sl,none),(s.mem.length-1,dst,some (.row p (aS t l)))]) (by omega) hst ⟨⟨rfl,rfl,fun _ h=>by cases h⟩,dx ⟨Nat.lt_succ_self _,p,dY,rfl⟩⟩ (v:=.c (.ref (s.mem.length-1) dst nx t)) (a:=.ref (s.mem.length-1) dst p 0 l.length t.size) (show RC _ _ _ (.ref (s.mem.length-1) dst nx t) _ from⟨Nat.lt_succ_self _,p,l.length,dY,rfl,fun r hr=>?_⟩) (aK.gW lv sl aK.nil),h⟩
   ·rw [ea] at hq
    simp only[bL.run,hq,ea,GD,hrow,Nat.zero_add,aQ,List.drop_zero]
    rw[show Nat.ble l.length l.length=true from Nat.ble_eq_true_of_le (Nat.le_refl _),←aQ (t:=t) (l:=l),List.take_length]
    simp[aQ]
   ·have this := bS hr
    simp[eE] at this
    rw[js] at this
    split at this
    ·injection this with this
     injection this with _ h1 h2
     obtain⟨t',l'⟩:=r
     simp only at h1 h2
     subst h1
     cases h2
     rfl
    ·have h1 := qo (fH.2 this)
     obtain⟨e,_,hlt,_⟩:=hm.dW _ _ _ (bS h1)
     omega
  grind
 rename_i hq
 rw[←hir] at hq
 split at h
 ·rename_i hq4
  refine .pure hm ht (by omega) (fun _ _=>?_) hv h
  simp[bL.run,hq,yD,hq4]
  rfl
 ·rename_i hq4
  split at h
  ·have e : x.ev s.slots = .own [] .full := hv
   have q:=ak h
   obtain⟨t,_,h⟩:=q
   split at h
   ·rename_i hsz
    have hsz:=Nat.eq_of_beq_eq_true hsz
    rw[hm.len] at h
    refine⟨_,_,fun _ _=>?_,.pV hm ht hB dY (ks:=[]) (l:=([]:List t.den)) (n:=0) (els:=[]) rfl rfl aK.nil,h⟩
    rw[e] at hq
    simp[bL.run,yD,hq,hq4,e,hsz]
    rfl
   grind
  ·cases h
  ·cases h
  ·rename_i h1 h2 h3
   refine .pure hm ht (by omega) (fun _ _=>?_) hv h
   simp[bL.run,hq]
   rw[N5 hv (fun f hf=>h2 f hf) (fun t l o hf=>h3 t l o hf)]
   rfl
include bI in
theorem E8 {x:bA} (h:ck E wk ctx s2 row dst nx (.compact x) K=some r):cV ρ B (nx+1) s2 s (.compact x) row dst p K r:=by
 have q:=bN h
 obtain⟨a,ha,h⟩:=q
 have ha:=aO bI ha
 split at h
 ·have e : x.ev s.slots = .own [] .full := ha
  refine .pure hm ht (by omega) (a:=.own [] .full) (fun _ _=>?_) (v:=.c (.nil true)) rfl h
  simp[bL.run,lB,e,Option.map_some]
  rfl
 ·rename_i lv sl aa t _
  have q:=ak h
  obtain⟨r',hr',h⟩:=q
  split at h
  ·rename_i l hb hc1
   have h1:=Nat.eq_of_beq_eq_true hb
   obtain⟨hc1,mP⟩:=dS hc1
   have q:=bK h
   obtain⟨hd,h⟩:=q
   obtain⟨hv,u,n',hu,ea,hn'⟩:=ha
   have hn':=hn' _ hr'
   rw[mP] at hn'
   subst hn'
   have hrow:=(gV hm hr' hu).2
   rw[hc1] at hrow
   refine⟨_,_,fun _ _=>?_,.pV hm ht hB dY (ks:=[]) (t:=.int .i64) (l:=gH l) (n:=(gH l).length) (els:=aS (.int .i64) (gH l)) rfl rfl (aK.gW lv sl aK.nil),h⟩
   have he:aS (.int .i64) l=gG l:=rfl
   simp only[bL.run,lB,ea,hrow,he,pW,Option.bind_some,h1]
   rw[if_pos ⟨trivial,by simp[gG],trivial,by simpa[gG] using hd⟩]
   rfl
  grind
 grind
omit dY in
include bI in
theorem N6 {x:bA} (h:ck E wk ctx s2 row dst nx (.sort x) K=some r):cV ρ B (nx+1) s2 s (.sort x) row dst p K r:=by
 have q:=bN h
 obtain⟨a,ha,h⟩:=q
 have ha:=aO bI ha
 split at h
 ·have e : x.ev s.slots = .own [] .full := ha
  exact⟨_,_,fun _ _=>by simp only[bL.run,xg,e,Option.map_some],.fy (Gn:=[]) (us:=[]) hm ht (by omega) (dR.refl _ _) trivial lJ aK.nil,h⟩
 ·rename_i lv sl aa t _
  have q:=ak h
  obtain⟨r',hr',h⟩:=q
  split at h
  ·rename_i l hb hc1
   have h1:=Nat.eq_of_beq_eq_true hb
   obtain⟨hc1,mP⟩:=dS hc1
   have q:=bK h
   obtain⟨hd,h⟩:=q
   obtain⟨hv,u,n',hu,ea,hn'⟩:=ha
   have hn':=hn' _ hr'
   rw[mP] at hn'
   subst hn'
   have hrow:=(gV hm hr' hu).2
   rw[hc1] at hrow
   have hst:dR B s2.mem (eE s2.mem [(lv,sl,some (.row aa (.int .i64) (jm l)))]):=dw (ks:=[]) (.inr ⟨_,hr',by rw[mP];exact (mA l).symm⟩)
   refine⟨_,_,fun _ _=>?_,.fy hm ht (by omega) hst (dx (e:=.row u (aS (.int .i64) (jm l))) ⟨by omega,u,hu,rfl⟩) lJ (aK.gW lv sl aK.nil),h⟩
   have he:aS (.int .i64) l=gG l:=rfl
   simp only[bL.run,xg,ea,hrow,he,pW,Option.bind_some,h1]
   rw[if_pos ⟨trivial,by simp[gG],trivial,by simpa[gG] using hd⟩]
   rfl
  grind
 grind
include bI in
theorem N7 {sz:Nat} {x n:bA} (h:ck E wk ctx s2 row dst nx (.grow sz x n) K=some r):cV ρ B (nx+1) s2 s (.grow sz x n) row dst p K r:=by
 have q:=bN h
 obtain⟨a,ha,h⟩:=q
 have q:=kA h
 clear h
 obtain⟨kn,n',hn,hn0,h⟩:=q
 have ha:=aO bI ha
 split at h
 ·rename_i t hty _
  split at h
  ·rename_i hz
   have hz:=Nat.eq_of_beq_eq_true hz
   have ea:x.ev s.slots=_:=ha
   refine⟨_,_,fun _ _=>?_,.AM hm hB dY (l:=([]:List t.den)) (els:=[]) rfl aK.nil (ht.fresh hB dY) (aK.AK dY aK.nil),h⟩
   simp[bL.run,ea,gX (aO bI hn) hn0,hz]
  grind
 grind
omit ht hB dY in
include bI in
theorem HO {sz:Nat} : ∀ {ps:List (Nat×bA)} {wg Mx:List (List Cell)} {els:List (List D)} {ks:List (Nat×Nat)},An s2 sz wg ps=some (Mx,ks)→aq (fun c d=>bH c=some d) wg els→
  ∃ els',n9 s.mem s.slots sz els ps=some (els',ks)∧aq (fun c d=>bH c=some d) Mx els'
 |[],wg,Mx,els,ks,h,ha=>by
  cases h
  exact⟨els,rfl,ha⟩
 | (i, x) :: ps, wg, Mx, els, ks, h, ha => by
  simp[An] at h
  split at h
  ·rename_i e k hn
   obtain⟨cs,h1,h2⟩:=aJ hn
   obtain⟨v,hv,h3⟩:=aJ h1
   obtain⟨aD,g1,g2⟩:=u7 h3 (aO bI hv)
   obtain⟨ds,g3,g4⟩:=Kj hm h2 g2
   split at h
   ·rename_i hb
    rw[Bool.and_eq_true] at hb
    have hz:=Nat.eq_of_beq_eq_true hb.1
    have hi:i<wg.length:=by simp_all
    split at h
    ·rename_i els' ks' h4
     cases h
     have ha':aq (fun c d=>bH c=some d) (wg.set i e) (els.set i ds):=by
      refine .tw (by simp[ha.length]) fun j c d hc hd=>?_
      rw[List.getElem?_set] at hc hd
      by_cases hij:i=j
      ·grind
      ·rw [if_neg hij] at hc hd
       obtain⟨d',g5,g6⟩:=ha.get j c hc<;>grind
     obtain⟨Za,g5,g6⟩:=HO h4 ha'
     refine⟨Za,?_,g6⟩
     simp only[n9,CB,g1,Option.bind_some,g3]
     rw[if_pos ⟨by rw[nX g4];exact hz,by rw[←ha.length];exact hi⟩,g5]
    grind
   grind
  grind
omit hm ht hB dY in
theorem wI {t:Ty} : ∀ {wg:List (List Cell)} {els:List (List D)} {l:List t.den},Ao t wg=some l→aq (fun c d=>bH c=some d) wg els→els=aS t l
 |[],[],l,h,_=>by cases h;rfl
 | c :: r, d :: ds, l, h, ha => by
  simp[Ao] at h
  split at h
  ·rename_i x xs h1 h2
   cases h
   rw[oB h1 ha.1,wI h2 ha.2]
   rfl
  grind
 |[],_ :: _,_,_,h=>h.elim
 |_ :: _,[],_,_,h=>h.elim
omit hm ht hB dY in
theorem rD {β γ : Type} {R : β→γ→Prop} {x : β} {y : γ} (h:R x y):∀ n,aq R (List.replicate n x) (List.replicate n y)
 |0=>trivial
 |n+1=>⟨h,rD h n⟩
include bI in
theorem yI {sz n:Nat} {z:List D} {ps:List (Nat×bA)} (h:ck E wk ctx s2 row dst nx (.buildSlice sz n z ps) K=some r):cV ρ B (nx+1) s2 s (.buildSlice sz n z ps) row dst p K r:=by
 simp[ck] at h
 cases hr2:Nat.beq row 2 with
 | true =>
  rw[hr2] at h
  simp at h
  split at h
  ·cases h
  rename_i hn
  obtain⟨cs,hcs,h⟩:=ak h
  obtain⟨zc,Uf,hcs⟩:=aJ hcs
  have qP:∀ k:Nat,aq (RC ρ B s2.mem) (List.replicate k zc).flatten ((List.replicate k z).flatten.map .d):=by
   intro k
   induction k with
   |zero=>trivial
   |succ k ih=>
    simp only[List.replicate_succ,List.flatten_cons,List.map_append]
    exact (HD Uf).append ih
  obtain⟨aD,g1,g2⟩:=AF bI hcs (qP n)
  have hst:dR B s2.mem (eE s2.mem [(s2.mem.length-1,dst,some (.box nx cs))]):=dw (ks:=[]) (e:=.box nx cs) trivial
  refine⟨_,_,fun _ _=>?_,.fy hm ht (B':=nx+1) (by omega) hst (dx (e:=.box p aD) ⟨by omega,p,aD,dY,rfl,g2.mono fun _ _=>RC.move hst (by omega) fun _ _=>rfl⟩) (v:=.c (.eA (s2.mem.length-1) dst nx 0 n sz)) (a:=.eA (s2.mem.length-1) dst p 0 n sz) ⟨by omega,p,dY,rfl⟩ aK.nil,h⟩
  simp only[bL.run,hr2,hn,g1,hm.len,Option.map_some]
 |false=>
 rw[hr2] at h
 have q:=ak h
 obtain⟨t,_,h⟩:=q
 have q:=ak h
 obtain⟨zc,Uf,h⟩:=q
 have q:=ak h
 obtain⟨⟨wg,ks⟩,hf,h⟩:=q
 obtain⟨els,g1,g2⟩:=HO hm bI hf (rD (R:=fun c d=>bH c=some d) (oC Uf) n)
 split at h
 ·rename_i l hz hp
  have hz:=Nat.eq_of_beq_eq_true hz
  have he:=wI hp g2
  have hlen:n=l.length:=by
   have h1:=g2.length
   have h2:∀ {ps:List (Nat×bA)} {a b:List (List Cell)} {ks:List (Nat×Nat)},An s2 sz a ps=some (b,ks)→b.length=a.length:=by
    intro ps
    induction ps with
    |nil=>intro a b ks h;simp[An,Option.some.injEq,Prod.mk.injEq] at h;rw[h.1]
    |cons q ps ih=>
     intro a b ks h
     simp[An] at h<;>grind
   have:=h2 hf
   simp at this
   rw[←this,h1,he,aQ]
  split at h
  ·rename_i hrow
   refine⟨_,_,fun _ _=>?_,.fy hm ht (by omega) (pU (ks:=ks)) (gZ (m:=s.mem)) (v:=.c (.sl t l .full)) (a:=.own els .full) (show _=_ by rw[he]) (aK.gO ks),h⟩
   simp[bL.run,hr2,g1,hrow]
  ·rename_i hrow
   split at h
   ·cases h
   ·rename_i hk
    rw[hm.len] at h hk
    refine⟨_,_,fun _ _=>?_,.pV hm ht hB dY (ks:=ks) (l:=l) (n:=n) (els:=els) he hlen (aK.gO ks),h⟩
    simp only[bL.run,hr2,g1,hrow]
    rw[if_neg (vc hk),hz]
 grind
end
end Go.Sym
namespace Go.Sym
open Go Go.bq
section
variable {α : Type} {ρ : aR} {B B':Nat} {s2:S2} {s:St} {row dst p nx:Nat} {K:fP→Option α} {r : α} {E:au} {wk:Wk} {ctx:Nat}
theorem xV:∀ l:List Int,bytesOf (aS (.int .u8) l)=some (l.map fun n=>UInt8.ofNat n.toNat)
 |[]=>rfl
 |n :: l=>by
  have ih:=xV l
  show (bytesOf (aS (.int .u8) l)).map _=_
  grind
theorem QT {m:List (Tr aZ)} {a:AV} {x els:List (List D)} (h:fq m a=some x) (he:cH m a=some els):x=els:=by
 unfold fq at h<;>grind[cH,fq]
theorem HP {m2:List (Tr E2)} {m:List (Tr aZ)} (hm:MR ρ B m2 m) {lv sl aa u:Nat} {l:List (List UInt8)} (h:Mk m2 lv sl aa=some l) (hu : ρ aa=some u):gL m2 lv sl=some (.set aa l)∧setAt m lv sl u=some l:=by
 unfold Mk at h
 split at h
 ·rename_i v l' hg
  split at h
  ·subst_vars
   obtain⟨e,g1,_,u',g2,rfl⟩:=hm.dW _ _ _ hg<;>simp_all[aR,setAt,gL]
  grind
 grind
variable (hm:MR ρ B s2.mem s.mem) (ht:TR ρ B s2.aB s.aB) (bI:tM ρ B s2.mem s2.slots s.slots) (hB:B≤nx) (dY : ρ nx=some p)
include hm ht hB bI
theorem QU {x:bA} (h:ck E wk ctx s2 row dst nx (.W1 x) K=some r):cV ρ B (nx+1) s2 s (.W1 x) row dst p K r:=by
 have q:=bN h
 obtain⟨c,hc,h⟩:=q
 have hc:=aO bI hc
 split at h
 ·cases h
 ·rename_i hne
  obtain⟨els,he⟩:=Dr hm h hc (fun b' e=>hne b' e)
  obtain⟨n,h1,h⟩:=jL hm h hc
  obtain⟨l,hl,h⟩:=ak h
  have hx:=QT h1 he
  subst hx
  obtain⟨t,l0⟩:=n
  obtain⟨e1,e2⟩:=Az hl
  cases e1
  subst e2
  refine⟨_,_,fun _ _=>?_,.wE hm ht (by omega) (v:=.c (.str (l.map fun (n:Int)=>UInt8.ofNat n.toNat))) (a:=lu (.string (lV (l.map fun (n:Int)=>UInt8.ofNat n.toNat)))) rfl (sD hc),h⟩
  simp[bL.run,he,Option.bind_some,xV,Option.map_some]
theorem QV {x:bA} (h:ck E wk ctx s2 row dst nx (.W2 x) K=some r):cV ρ B (nx+1) s2 s (.W2 x) row dst p K r:=by
 simp[ck] at h
 split at h
 ·rename_i b hx
  have e:x.ev s.slots=_:=aO bI hx
  refine .pure (a:=.d (.sl (b.map fun (c:UInt8)=>[.sc (.int .u8 (c.toNat:Int))]))) hm ht (by omega) (fun _ _=>?_) (v:=.c (.sl (.int .u8) (bx b) .d)) (show RC ρ B s2.mem (.sl (.int .u8) (bx b) .d) (.d (.sl (b.map fun (c:UInt8)=>[.sc (.int .u8 (c.toNat:Int))]))) from .inl ?_) h
  ·simp[bL.run,e]
  ·simp[aS,bx,dX,List.map_map,Function.comp_def]
 grind
include dY in
omit bI in
theorem Ku (h:ck E wk ctx s2 row dst nx .mkSet K=some r):cV ρ B (nx+1) s2 s .mkSet row dst p K r:=by
 simp[ck] at h
 rw[hm.len] at h
 have hst:dR B s2.mem (eE s2.mem [(s.mem.length-1,dst,some (.set nx []))]):=dw (ks:=[]) (e:=.set nx []) trivial
 exact⟨_,_,fun _ _=>rfl,.fy hm ht (B':=nx+1) (by omega) hst (dx (e:=.mp p []) ⟨by omega,p,dY,rfl⟩) (v:=.c (.mp (s.mem.length-1) dst nx)) (a:=.mp (s.mem.length-1) dst p) (show RC ρ (nx+1) (eE s2.mem [(s.mem.length-1,dst,some (.set nx []))]) (.mp (s.mem.length-1) dst nx) _ from⟨Nat.lt_succ_self _,p,dY,rfl⟩) aK.nil,h⟩
theorem N8 {x y:bA} (h:ck E wk ctx s2 row dst nx (.Gx x y) K=some r):cV ρ B (nx+1) s2 s (.Gx x y) row dst p K r:=by
 simp[ck] at h
 split at h
 ·rename_i lv sl aa b hx hy
  obtain⟨l,hl,h⟩:=ak h
  obtain⟨hv,u,hu,ex⟩:=aO bI hx
  have ey:y.ev s.slots=_:=aO bI hy
  obtain⟨_,g⟩:=HP hm hl hu
  refine⟨_,_,fun _ _=>?_,.wE hm ht (by omega) (v:=.c (.bool (hasB l b))) (a:=lu (.bool (hasB l b))) rfl (aK.gW lv sl aK.nil),h⟩
  simp[bL.run,ex,ey,g,Option.map_some]
 grind
theorem N9 {x y:bA} (h:ck E wk ctx s2 row dst nx (.Gy x y) K=some r):cV ρ B (nx+1) s2 s (.Gy x y) row dst p K r:=by
 simp[ck] at h
 split at h
 ·rename_i lv sl aa b hx hy
  obtain⟨l,hl,h⟩:=ak h
  obtain⟨hv,u,hu,ex⟩:=aO bI hx
  have ey:y.ev s.slots=_:=aO bI hy
  obtain⟨_,g⟩:=HP hm hl hu
  have hst:dR B s2.mem (eE s2.mem [(lv,sl,some (.set aa (qB l b)))]):=dw (ks:=[]) (e:=.set aa (qB l b)) trivial
  refine⟨_,_,fun _ _=>?_,.fy hm ht (B':=nx+1) (by omega) hst (dx (e:=.mp u (qB l b)) ⟨by omega,u,hu,rfl⟩) lJ (aK.gW lv sl aK.nil),h⟩
  simp[bL.run,ex,ey,g,Option.map_some]
 grind
end
end Go.Sym
