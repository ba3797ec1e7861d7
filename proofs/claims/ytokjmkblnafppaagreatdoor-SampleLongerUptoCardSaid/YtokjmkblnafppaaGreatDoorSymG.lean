/- The machine over typed data: slices that are made and that grow. -/
import Derived.Test.YtokjmkblnafppaaGreatDoorSymF
set_option linter.unusedVariables false
set_option linter.unusedSimpArgs false
namespace Go.Sym
open Go Go.bI
section
variable {α : Type} {ρ : bG} {B B':Nat} {s2:S2} {s:St} {op:bM} {row dst p nx:Nat} {K:gi→Option α} {r : α} {E:aA} {wk:Wk} {ctx:Nat}
theorem TR.fresh {t2 t:Tr Unit} (h:TR ρ B t2 t) (hB:B≤nx) (eE : ρ nx=some p):TR ρ (nx+1) (dL t2 [(nx,true)]) (dL t [(p,true)]):=by
 intro v hv
 simp only[dL,if_true] at hv ⊢
 rw[Tr.cr] at hv
 split at hv
 ·rename_i e; subst e
  refine⟨by omega,fun u hu=>?_⟩
  rw[eE] at hu;injection hu with hu;subst hu
  rw[Tr.cr,if_pos rfl]
 ·obtain ⟨h1, h2⟩ := h v hv
  refine⟨by omega,fun u hu=>?_⟩
  rw[Tr.cr]
  split
  ·rfl
  ·exact h2 u hu
theorem TR.Z6 {t2 t:Tr Unit} (h:TR ρ B t2 t) (v:Nat):TR ρ B (t2.set v none) t:=by
 intro v' hv
 rw[Tr.cr] at hv
 split at hv
 ·cases hv
 ·exact h v' hv
theorem TR.drop {t2 t:Tr Unit} (h:TR ρ B t2 t) (hinj:∀ v v' u,ρ v=some u→ρ v'=some u→v=v') {v u:Nat} (hu : ρ v=some u):TR ρ B (t2.set v none) (t.set u none):=by
 intro v' hv
 rw[Tr.cr] at hv
 split at hv
 ·cases hv
 ·rename_i hne
  refine⟨(h v' hv).1,fun u' dw=>?_⟩
  rw[Tr.cr]
  split
  ·rename_i e;subst e;exact absurd (hinj _ _ _ hu dw) hne
  ·exact (h v' hv).2 u' dw
theorem dY {a t:Ty} {l:List a.den} {l':List t.den} (h:iO a t l=some l'):bx a l=bx t l'∧l.length=l'.length:=by
 obtain⟨e,he⟩:=z6 h
 subst e
 simp only at he
 subst he
 exact⟨rfl,rfl⟩
theorem kg {n b:Nat} (h:room n b=true):n≤eU∧n*b≤j0:=by simpa[room] using h
theorem Cy {m:List (Tr E2)} {mm:List (Tr bH)} (hm:MR ρ B m mm) {x:Cell} {a:AV} {e:Option Ty} {K:SL→Option α} (h:nG m x e K=some r) (hx:RC ρ B m x a) (hne:∀ b,x≠.str b):∃ els,dK mm a=some els:=by
 unfold nG at h
 split at h
 ·exact⟨_,(gj hx).1⟩
 ·exact⟨_,(fM hx).1⟩
 ·obtain ⟨r', hr, h⟩ := au h
  exact⟨_,jS hm hx hr⟩
 ·obtain ⟨r', hr, h⟩ := au h
  have q:=bU h
  clear h
  obtain⟨hl,h⟩:=q
  exact⟨_,jh hm hx hr (of_decide_eq_true hl)⟩
 ·exact absurd rfl (hne _)
 ·cases h
variable (hm:MR ρ B s2.mem s.mem) (ht:TR ρ B s2.aE s.aE) (bV:tw ρ B s2.mem s2.slots s.slots) (hB:B≤nx) (eE : ρ nx=some p) (hinj:∀ v v' u,ρ v=some u→ρ v'=some u→v=v')
include hm ht hB eE
omit ht in
theorem mj.Ai {t:Ty} {l:List t.den} {els:List (List D)} {NR rd:List (Nat×Nat×Nat)} {Z7 tp:List (Nat×Bool)} (he:els=bx t l) (hr:aU ρ NR rd) (htp:TR ρ (nx+1) (dL s2.aE Z7) (dL s.aE tp)) (hw:aU ρ (Z7.map fun u=>jF u.1) (tp.map fun u=>jF u.1)) :
  mj ρ B (nx+1) s2 s { val:=.c (.sl t l (.app nx)),cK:=[],cx:=Z7,rd:=NR } { val:=.own els (.cx p t.size),cK:=[],cx:=tp,rd:=rd }:=by
 subst he
 exact⟨⟨by omega,.inr ⟨p,eE,rfl⟩⟩,hm.mono (by omega),htp,eg.refl _ _,hr,by simpa[DK.wr,eX.wr] using hw⟩
theorem mj.oM {t:Ty} {l:List t.den} {els:List (List D)} {n lv sl:Nat} {ks:List (Nat×Nat)} {NR rd:List (Nat×Nat×Nat)} (he:els=bx t l) (hn:n=l.length) (hr:aU ρ NR rd) :
  mj ρ B (nx+1) s2 s { val:=.c (.ref lv sl nx t),cK:=jQ ks++[(lv,sl,some (.row nx t l))],cx:=[],rd:=NR } { val:=.ref lv sl p 0 n t.size,cK:=dy s.mem ks++[(lv,sl,some (.row p els))],cx:=[],rd:=rd }:=by
 subst he hn
 refine .fF hm ht (by omega) (dA (.inl hB)) (iz.append (dB ⟨by omega,p,eE,rfl⟩)) ⟨by omega,p,l.length,eE,rfl,fun r' hr'=>?_⟩ hr
 rw[mR] at hr'
 simp only[eN] at hr'
 have:=cy hr'
 rw[jA] at this
 split at this
 ·injection this with this
  injection this with _ h1 h2
  obtain⟨t',l'⟩:=r'
  simp only at h1 h2
  subst h1
  cases h2
  rfl
 ·rename_i hc
  have h1:=kW (fm.2 this)
  obtain⟨e,_,hlt,_⟩:=hm.ec _ _ _ (cy h1)
  omega
include hinj in
theorem DX {Vx:Bool} {lv sl sz bytes:Nat} {x y:Cell} {a b:AV} {e:Option Ty} (h:LB s2 Vx lv sl nx sz bytes x y e K=some r) (hx:RC ρ B s2.mem x a) (hy:RC ρ B s2.mem y b) :
  ∃ E e,di s Vx lv sl p sz bytes a b=some e∧mj ρ B (nx+1) s2 s E e∧K (.bS E)=some r:=by
 unfold LB at h
 have MS:=rA hy
 split at h
 ·obtain ⟨n, hn, h⟩ := jT hm h hy
  split at h
  ·rename_i hz
   have hz:=Nat.eq_of_beq_eq_true hz
   have q:=bU h
   clear h
   obtain⟨hr,h⟩:=q
   have hr:=kg hr
   cases hx
   split at h
   ·refine ⟨_, _, ?_, .Ai hm hB eE (l := n.l) (els := [] ++ bx n.t n.l) rfl MS (ht.fresh hB eE) (aU.Ah eE aU.nil), h⟩
    simp only[di,←hz,hn,fT,if_true,List.all_nil,List.length_nil,Nat.zero_add,bn]
    rw[if_pos ⟨trivial,hr.1,hr.2⟩]
   ·refine ⟨_, _, ?_, .oM hm ht hB eE (ks := []) (els := [] ++ bx n.t n.l) rfl rfl MS, h⟩
    simp only[di,←hz,hn,fT,if_true,List.all_nil,List.length_nil,Nat.zero_add,bn]
    rw[if_pos ⟨trivial,hr.1,hr.2⟩]
    simp[dy]
  ·cases h
 ·rename_i t l
  have q:=jT hm h hy
  clear h
  obtain⟨n,hn,h⟩:=q
  split at h
  ·rename_i news hz hc
   have hz:=Nat.eq_of_beq_eq_true hz
   obtain⟨hc,_⟩:=dY hc
   rw[hc] at hn
   have q:=bU h
   clear h
   obtain⟨hr,h⟩:=q
   have hr:=kg hr
   cases hx
   split at h
   ·refine ⟨_, _, ?_, .Ai hm hB eE (l := l ++ news) (els := bx t l ++ bx t news) (kV ..).symm MS (ht.fresh hB eE) (aU.Ah eE aU.nil), h⟩
    simp only[di,←hz,hn,fT,if_true,bn]
    rw[if_pos ⟨trivial,hr.1,hr.2⟩]
   ·obtain ⟨hne, h⟩ := bU h
    refine⟨_,_,?_,.oM hm ht hB eE (ks:=[]) (l:=l++news) (n:=l.length+news.length) (els:=bx t l++bx t news) (kV ..).symm (by simp) MS,h⟩
    simp only[di,←hz,hn,fT,if_true,bn]
    rw[if_pos ⟨trivial,hr.1,hr.2⟩,if_neg (by
     intro hc
     have h1:l.isEmpty=false:=by simpa[bx] using hc.1
     have h2:news.isEmpty=true:=by simpa[bx] using hc.2
     rw[h1,h2] at hne
     cases hne)]
    simp[dy]
  ·cases h
 ·rename_i t l v
  have q:=jT hm h hy
  clear h
  obtain⟨n,hn,h⟩:=q
  cases hz:Nat.beq t.size sz with
  |false=>simp[hz] at h
  |true=>
  cases hc:iO n.t t n.l with
  |none=>simp[hz,hc] at h
  |some news=>
  cases Vx with
  |true=>simp[hz,hc] at h
  |false=>
  cases htip:s2.aE.get? v with
  |none=>simp[hz,hc,htip] at h
  |some un=>
  simp only[hz,hc,htip] at h
  ·have hz := Nat.eq_of_beq_eq_true hz
   obtain⟨hc,_⟩:=dY hc
   rw[hc] at hn
   have q:=bU h
   clear h
   obtain⟨hr,h⟩:=q
   have hr:=kg hr
   rcases hx with⟨hv,⟨hu,rfl⟩|⟨u,hu,rfl⟩⟩
   ·refine ⟨_, _, ?_, .Ai hm hB eE (l := l ++ news) (els := bx t l ++ bx t news) (Z7 := [(v, false), (nx, true)]) (tp := [(p, true)]) (kV ..).symm MS.skip (TR.fresh (ht.Z6 v) hB eE) (aU.skip (aU.Ah eE aU.nil)), h⟩
    simp only[di,←hz,hn,fT,if_true,bn]
    rw[if_pos ⟨trivial,hr.1,hr.2⟩]
   ·refine ⟨_, _, ?_, .Ai hm hB eE (l := l ++ news) (els := bx t l ++ bx t news) (Z7 := [(v, false), (nx, true)]) (tp := [(u, false), (p, true)]) (kV ..).symm (aU.Ah hu MS) (TR.fresh (ht.drop hinj hu) hB eE) (aU.Ah hu (aU.Ah eE aU.nil)), h⟩
    have:=(ht v htip).2 u hu
    simp only[di,←hz,hn,fT,if_true,bn]
    rw[if_pos ⟨trivial,hr.1,hr.2,by rw[this];rfl⟩]
 ·rename_i cl cX af t
  have q:=au h
  clear h
  obtain⟨r',hr',h⟩:=q
  have q:=jT hm h hy
  clear h
  obtain⟨n,hn,h⟩:=q
  split at h
  ·rename_i l news hz hc1 hc
   have hz:=Nat.eq_of_beq_eq_true hz
   obtain⟨hc,_⟩:=dY hc
   obtain⟨hc1,pz⟩:=dY hc1
   rw[hc] at hn
   have q:=bU h
   clear h
   obtain⟨hr,h⟩:=q
   have hr:=kg hr
   obtain⟨hv,u,n',hu,rfl,hn'⟩:=hx
   have hn':=hn' _ hr'
   rw[pz] at hn'
   subst hn'
   have hrow:=(iu hm hr' hu).2
   rw[hc1] at hrow
   refine⟨_,_,?_,.oM hm ht hB eE (ks:=[]) (l:=l++news) (n:=l.length+news.length) (els:=bx t l++bx t news) (kV ..).symm (by simp) (aU.iw cl cX MS),h⟩
   simp only[di,←hz,hn,fT,if_true,hrow,bn]
   rw[if_pos ⟨trivial,by omega,hr.1,hr.2⟩]
   simp[dy,List.take_of_length_le,bn]
  ·cases h
 ·rename_i cl cX af t off len
  have q:=au h
  clear h
  obtain⟨r',hr',h⟩:=q
  have q:=jT hm h hy
  clear h
  obtain⟨n,hn,h⟩:=q
  split at h
  ·rename_i l news hz hc1 hc
   have hz:=Nat.eq_of_beq_eq_true hz
   obtain⟨hc,_⟩:=dY hc
   obtain⟨hc1,pz⟩:=dY hc1
   rw[hc] at hn
   have q:=bU h
   clear h
   obtain⟨hr,h⟩:=q
   rw[Bool.and_eq_true] at hr
   have hl:=of_decide_eq_true hr.1
   have hr:=kg hr.2
   obtain⟨hv,u,hu,rfl,_⟩:=hx
   have hrow:=(iu hm hr' hu).2
   rw[hc1] at hrow
   refine⟨_,_,?_,.oM hm ht hB eE (ks:=[]) (l:=(l.drop off).take len++news) (n:=len+news.length) (els:=((bx t l).drop off).take len++bx t news) (by simp[bx,List.map_take,List.map_drop]) (by simp;omega) (aU.iw cl cX MS),h⟩
   simp only[di,←hz,hn,fT,if_true,hrow,bn]
   rw[if_pos ⟨trivial,hl,hr.1,hr.2⟩]
   simp[dy]
  ·cases h
 ·cases h
theorem RO {sz:Nat} {x:Cell} {a:AV} {lo hi:Option Nat} (h:Vp s2.mem sz nx x lo hi K=some r) (hx:RC ρ B s2.mem x a) (l h':Nat) (hl:l=lo.getD 0) (hh:∀ n,hi=some n→h'=n) :
  ∃ E e,EI s p sz a l (hi.map fun _=>h')=some e∧mj ρ B (nx+1) s2 s E e∧K (.bS E)=some r:=by
 have ehi:hi.map (fun _=>h')=hi:=by cases hi with|none=>rfl|some n=>simp[hh n rfl]
 rw[ehi]
 subst hl
 unfold Vp at h
 split at h
 ·rename_i lv sl af t
  have q:=au h
  clear h
  obtain⟨r',hr',h⟩:=q
  split at h
  ·rename_i l' hz hc1
   have hz:=Nat.eq_of_beq_eq_true hz
   obtain⟨hc1,pz⟩:=dY hc1
   have q:=bU h
   clear h
   obtain⟨hp,h⟩:=q
   have hp':=ga hp
   obtain⟨hv,u,n',hu,rfl,hn'⟩:=hx
   have hn':=hn' _ hr'
   rw[pz] at hn'
   subst hn'
   have hrow:=(iu hm hr' hu).2
   rw[hc1] at hrow
   have he:=vF (t:=t) hp
   rw[bn] at he
   refine⟨_,_,?_,.oM hm ht hB eE (ks:=[]) (l:=nH l' lo hi) (n:=hi.getD l'.length-lo.getD 0) (els:=((bx t l').drop (lo.getD 0)).take (hi.getD l'.length-lo.getD 0)) he.symm ?_ (aU.iw lv sl aU.nil),h⟩
   ·simp only [EI, hrow, ← hz]
    rw[if_pos ⟨trivial,hp'.1,hp'.2,by rw[bn];omega⟩]
    simp[dy]
   ·rw [Ag hp, List.length_take, List.length_drop]
    omega
  ·cases h
 ·cases h
omit hm ht hB eE in
theorem RC.isRow {m:List (Tr E2)} {c:Cell} {a:AV} (h:RC ρ B m c a):bI.isRow a=c.isRow:=by
 cases c with
 |nil f=>
  cases f with
  |false=>rcases h with rfl|⟨_,_,rfl⟩<;>rfl
  |true=>cases h;rfl
 |sl t l o=>
  cases o with
  |d=>rcases h with rfl|⟨_,_,rfl⟩<;>rfl
  |aJ=>rcases h with rfl|⟨_,rfl⟩<;>rfl
  |full=>cases h;rfl
  |app v=>rcases h.2 with⟨_,rfl⟩|⟨_,_,rfl⟩<;>rfl
 |ref=>obtain⟨_,_,_,_,rfl,_⟩:=h;rfl
 |jg=>obtain⟨_,_,_,rfl,_⟩:=h;rfl
 |ptr=>obtain⟨_,_,_,rfl⟩:=h;rfl
 |eH=>obtain⟨_,_,_,rfl⟩:=h;rfl
 |mp=>obtain⟨_,_,_,rfl⟩:=h;rfl
 |int=>cases h;rfl
 |bool=>cases h;rfl
 |er=>cases h;rfl
 |str=>cases h;rfl
 |raw=>cases h;rfl
 |fo=>cases h;rfl
include bV in
theorem IB {sz:Nat} {x:bR} {lo hi mx:Option bR} (h:bP E wk ctx s2 row dst nx (.slice sz x lo hi mx) K=some r):dx ρ B (nx+1) s2 s (.slice sz x lo hi mx) row dst p K r:=by
 simp only[bP] at h
 have q:=cj h
 clear h
 obtain⟨c,hx,h⟩:=q
 have q:=nR bV h
 clear h
 obtain⟨l,el,il,h⟩:=q
 have q:=nR bV h
 clear h
 obtain⟨h',eh,ih,h⟩:=q
 have q:=nR bV h
 clear h
 obtain⟨k,ek,ik,h⟩:=q
 have e1:hi.map (fun _=>h'.getD 0)=h'.map fun _=>h'.getD 0:=by cases hi<;>cases h'<;>simp_all
 have e2:mx.map (fun _=>k.getD 0)=k.map fun _=>k.getD 0:=by cases mx<;>cases k<;>simp_all
 have hir:=RC.isRow (bg bV hx)
 split at h
 ·rename_i hq
  rw[←hir] at hq
  obtain⟨E',e,g1,g2,g3⟩:=RO hm ht hB eE h (bg bV hx) (l.getD 0) (h'.getD 0) rfl (fun n e=>by rw[e];rfl)
  exact⟨E',e,fun _ _=>by simp only[bM.run,el,eh,ek,hq,e1,g1,Option.map_some],g2,g3⟩
 ·rename_i hq
  rw[←hir] at hq
  obtain⟨a',c',g1,g2,g3⟩:=LJ h (bg bV hx) (l.getD 0) (h'.getD 0) (k.getD 0) rfl (fun n e=>by rw[e];rfl) (fun n e=>by rw[e];rfl)
  refine .pure hm ht (by omega) (a:=a') (fun _ _=>?_) (v:=.c c') g2 g3
  simp only[bM.run,el,eh,ek,hq,e1,e2,g1,Option.bind_some]
include hinj bV in
theorem FV {sz bytes:Nat} {x y:bR} (h:bP E wk ctx s2 row dst nx (.append sz bytes x y) K=some r):dx ρ B (nx+1) s2 s (.append sz bytes x y) row dst p K r:=by
 simp only[bP] at h
 have q:=cj h
 clear h
 obtain⟨a,ha,h⟩:=q
 have q:=cj h
 clear h
 obtain⟨b,hb,h⟩:=q
 rw[hm.len] at h
 obtain⟨E',e,h1,h2,h3⟩:=DX hm ht hB eE hinj h (bg bV ha) (bg bV hb)
 exact⟨E',e,fun _ _=>by simp only[bM.run,h1,Option.map_some],h2,h3⟩
include hinj bV in
theorem DY {sz bytes:Nat} {z:List D} {x n:bR} (h:bP E wk ctx s2 row dst nx (.mK sz bytes z x n) K=some r):dx ρ B (nx+1) s2 s (.mK sz bytes z x n) row dst p K r:=by
 simp only[bP] at h
 have q:=cj h
 clear h
 obtain⟨a,ha,h⟩:=q
 have q:=kf h
 clear h
 obtain⟨kl,l',hl,hl0,h⟩:=q
 have q:=au h
 clear h
 obtain⟨t,_,h⟩:=q
 have q:=au h
 clear h
 obtain⟨z',Hy,h⟩:=q
 obtain⟨zc,hz1,Vy⟩:=aT Hy
 have Vz:=nP Vy (nQ hz1)
 split at h
 ·rename_i hb
  simp only[Bool.and_eq_true] at hb
  have h1:=Nat.eq_of_beq_eq_true hb.1
  have h2:=Nat.eq_of_beq_eq_true hb.2
  subst h1
  have q:=bU h
  clear h
  obtain⟨hr,h⟩:=q
  have hr:=kg hr
  rw[hm.len] at h
  have hb:RC ρ B s2.mem (.sl t (List.replicate l'.toNat z') .d) (.d (.sl (List.replicate l'.toNat z))):=.inl (by simp[bx,Vz])
  obtain⟨E',e,h3,h4,h5⟩:=DX hm ht hB eE hinj h (bg bV ha) hb
  exact⟨E',e,fun _ _=>by
   simp only[bM.run,iy (bg bV hl) hl0,Option.bind_some]
   rw[if_pos ⟨h2,hr.1,hr.2⟩,h3,Option.map_some],h4,h5⟩
 ·cases h
include hinj bV in
theorem IC {sz bytes:Nat} {x:bR} (h:bP E wk ctx s2 row dst nx (.clone sz bytes x) K=some r):dx ρ B (nx+1) s2 s (.clone sz bytes x) row dst p K r:=by
 simp only[bP] at h
 have q:=cj h
 clear h
 obtain⟨b,hb,h⟩:=q
 have hb:=bg bV hb
 split at h
 ·cases h
 ·rename_i hne
  rw[hm.len] at h
  have he:∃ els,dK s.mem (x.ev s.slots)=some els:=by
   unfold LB at h
   exact Cy hm h hb (fun b' e=>hne b' e)
  obtain⟨els,he⟩:=he
  obtain⟨E',e,h1,h2,h3⟩:=DX hm ht hB eE hinj h (show RC ρ B s2.mem (.nil true) (.own [] .full) from rfl) hb
  exact⟨E',e,fun _ _=>by simp only[bM.run,he,h1,Option.map_some],h2,h3⟩
omit eE hm ht hB in
theorem Cz {t:Ty} : ∀ l:List t.den,az (RC ρ B s2.mem) (l.flatMap (ij t)) (((l.map (ef t)).flatten).map .d)
 |[]=>trivial
 |x :: l=>by
  simp only[List.flatMap_cons,List.map_cons,List.flatten_cons,List.map_append]
  exact (ke t x).append (Cz l)
omit eE in
include bV in
theorem LR {sz:Nat} {x y:bR} (h:bP E wk ctx s2 row dst nx (.copy sz x y) K=some r):dx ρ B (nx+1) s2 s (.copy sz x y) row dst p K r:=by
 simp only[bP] at h
 have q:=cj h
 clear h
 obtain⟨a,ha,h⟩:=q
 have q:=cj h
 clear h
 obtain⟨b,hb,h⟩:=q
 have ha:=bg bV ha
 have hb:=bg bV hb
 have MS:=rA hb
 split at h
 ·rename_i lv sl af t _
  have q:=au h
  clear h
  obtain⟨r',hr',h⟩:=q
  have q:=jT hm h hb
  clear h
  obtain⟨n,hn,h⟩:=q
  split at h
  ·rename_i l news hz hc1 hc
   have hz:=Nat.eq_of_beq_eq_true hz
   obtain⟨hc,_⟩:=dY hc
   obtain⟨hc1,pz⟩:=dY hc1
   rw[hc] at hn
   obtain⟨hv,u,n',hu,ea,hn'⟩:=ha
   have hn':=hn' _ hr'
   rw[pz] at hn'
   subst hn'
   have hrow:=(iu hm hr' hu).2
   rw[hc1] at hrow
   have hst:eg B s2.mem (eN s2.mem [(lv,sl,some (.row af t (FC news l)))]):=dA (ks:=[]) (.inr ⟨_,hr',by simp[FC,pz];omega⟩)
   refine⟨_,_,fun _ _=>?_,.fF hm ht (by omega) hst (dB (e:=.row u (bx t (FC news l))) ⟨by omega,u,hu,rfl⟩) (v:=.c (.int .i64 ((min news.length l.length:Nat):Int))) (a:=nq (min news.length l.length)) (show _=_ from rfl) (aU.iw lv sl MS),h⟩
   simp only[bM.run,←hz,ea,hn,hrow,fT,bn]
   rw[if_pos ⟨trivial,by omega,trivial⟩]
   simp[FC,bI.splice,bx,List.map_take,List.map_drop]
  ·cases h
 ·rename_i lv sl af t off len _
  have q:=au h
  clear h
  obtain⟨r',hr',h⟩:=q
  have q:=jT hm h hb
  clear h
  obtain⟨n,hn,h⟩:=q
  split at h
  ·rename_i l news hz hc1 hc
   have hz:=Nat.eq_of_beq_eq_true hz
   obtain⟨hc,_⟩:=dY hc
   obtain⟨hc1,pz⟩:=dY hc1
   rw[hc] at hn
   have q:=bU h
   clear h
   obtain⟨hl,h⟩:=q
   have hl:=of_decide_eq_true hl
   obtain⟨hv,u,hu,ea⟩:=ha
   have hrow:=(iu hm hr' hu).2
   rw[hc1] at hrow
   have hst:eg B s2.mem (eN s2.mem [(lv,sl,some (.row af t (l.take off++(news.take (min news.length len)++l.drop (off+(news.take (min news.length len)).length)))))]):=dA (ks:=[]) (.inr ⟨_,hr',by simp[pz];omega⟩)
   refine⟨_,_,fun _ _=>?_,.fF hm ht (by omega) hst (dB (e:=.row u (bx t (l.take off++(news.take (min news.length len)++l.drop (off+(news.take (min news.length len)).length))))) ⟨by omega,u,hu,rfl⟩) (v:=.c (.int .i64 ((min news.length len:Nat):Int))) (a:=nq (min news.length len)) (show _=_ from rfl) (aU.iw lv sl MS),h⟩
   simp only[bM.run,←hz,ea,hn,hrow,fT,bn]
   rw[if_pos ⟨trivial,hl,trivial⟩]
   simp[bI.splice,bx,List.map_take,List.map_drop]
  ·cases h
 ·rename_i lv sl af off n sz' _
  obtain⟨Bw,u,hu,ea⟩:=ha
  split at h
  ·rename_i v cs he
   have q:=jT hm h hb
   clear h
   obtain⟨nw,hn,h⟩:=q
   split at h
   ·rename_i hq
    simp only[Bool.and_eq_true] at hq
    obtain⟨⟨⟨DW,hz1⟩,hl⟩,hz⟩:=hq
    have DW:=Nat.eq_of_beq_eq_true DW
    have hz1:=Nat.eq_of_beq_eq_true hz1
    have hl:=Nat.le_of_ble_eq_true hl
    have hz:=Nat.eq_of_beq_eq_true hz
    subst DW hz1
    obtain⟨e,g1,_,u',bs,g2,rfl,g3⟩:=hm.ec _ _ _ he
    rw[hu] at g2;injection g2 with g2;subst g2
    have hst:eg B s2.mem (eN s2.mem [(lv,sl,some (.box v (bI.splice cs off ((nw.l.take (min nw.l.length n)).flatMap (ij nw.t)))))]):=dA (ks:=[]) (e:=.box _ _) trivial
    have hcells:az (RC ρ B s2.mem) ((nw.l.take (min nw.l.length n)).flatMap (ij nw.t)) ((((bx nw.t nw.l).take (min (bx nw.t nw.l).length n)).flatten).map .d):=by
     rw[bn]
     unfold bx
     rw[←List.map_take]
     exact Cz _
    refine⟨_,_,fun _ _=>?_,.fF hm ht (B':=nx+1) (by omega) hst (dB (e:=.box u (bI.splice bs off ((((bx nw.t nw.l).take (min (bx nw.t nw.l).length n)).flatten).map .d))) ⟨by omega,u,_,hu,rfl,(vE g3 hcells off).mono fun _ _=>RC.move hst (by omega) fun _ _=>rfl⟩) (v:=.c (.int .i64 ((min nw.l.length n:Nat):Int))) (a:=nq (min nw.l.length n)) (show _=_ from rfl) (aU.iw lv sl MS),h⟩
    have HY:bI.fX s.mem lv sl u=some bs:=by simp only[bI.fX,g1,kU]
    simp only[bM.run,ea,hn,HY]
    rw[if_pos ⟨trivial,by rw[←g3.length];exact hl,by rw[←hz];exact fT _ _⟩,bn]
   ·cases h
  ·cases h
 ·cases h
include bV in
theorem Aj {sz bytes:Nat} {z:List D} {l c:bR} (h:bP E wk ctx s2 row dst nx (.makeSlice sz bytes z l c) K=some r):dx ρ B (nx+1) s2 s (.makeSlice sz bytes z l c) row dst p K r:=by
 simp only[bP] at h
 have q:=kf h
 clear h
 obtain⟨kl,l',hl,hl0,h⟩:=q
 have q:=kf h
 clear h
 obtain⟨kc,c',hc,hc0,h⟩:=q
 have q:=au h
 clear h
 obtain⟨t,_,h⟩:=q
 have q:=au h
 clear h
 obtain⟨z',Hy,h⟩:=q
 obtain⟨zc,hz1,Vy⟩:=aT Hy
 have Vz:=nP Vy (nQ hz1)
 split at h
 ·rename_i hb
  simp only[Bool.and_eq_true] at hb
  have h1:=Nat.eq_of_beq_eq_true hb.1
  have h2:=Nat.eq_of_beq_eq_true hb.2
  subst h1
  have q:=bU h
  clear h
  obtain⟨hr,h⟩:=q
  rw[Bool.and_eq_true] at hr
  have hle:=of_decide_eq_true hr.1
  have hr:=kg hr.2
  rw[hm.len] at h
  refine⟨_,_,fun _ _=>?_,.oM hm ht hB eE (ks:=[]) (l:=List.replicate l'.toNat z') (n:=l'.toNat) (els:=List.replicate l'.toNat z) (by simp[bx,Vz]) (by simp) aU.nil,h⟩
  simp only[bM.run,iy (bg bV hl) hl0,iy (bg bV hc) hc0]
  rw[if_pos ⟨hle,by rw[Nat.mul_comm];exact hr.2,hr.1,h2⟩]
  simp[dy]
 ·cases h
omit eE in
include bV in
theorem ID {sz:Nat} {z:List D} {x:bR} (h:bP E wk ctx s2 row dst nx (.clear sz z x) K=some r):dx ρ B (nx+1) s2 s (.clear sz z x) row dst p K r:=by
 simp only[bP] at h
 have q:=cj h
 clear h
 obtain⟨a,ha,h⟩:=q
 have ha:=bg bV ha
 split at h
 ·rename_i lv sl af t _
  have q:=au h
  clear h
  obtain⟨r',hr',h⟩:=q
  have q:=au h
  clear h
  obtain⟨z',Hy,h⟩:=q
  obtain⟨zc,hz1,Vy⟩:=aT Hy
  have Vz:=nP Vy (nQ hz1)
  split at h
  ·rename_i l hb hc1
   simp only[Bool.and_eq_true] at hb
   have h1:=Nat.eq_of_beq_eq_true hb.1
   have h2:=Nat.eq_of_beq_eq_true hb.2
   obtain⟨hc1,pz⟩:=dY hc1
   obtain⟨hv,u,n',hu,ea,hn'⟩:=ha
   have hn':=hn' _ hr'
   rw[pz] at hn'
   subst hn'
   have hrow:=(iu hm hr' hu).2
   rw[hc1] at hrow
   have hst:eg B s2.mem (eN s2.mem [(lv,sl,some (.row af t (List.replicate l.length z')))]):=dA (ks:=[]) (.inr ⟨_,hr',by simp[pz]⟩)
   refine⟨_,_,fun _ _=>?_,.fF hm ht (by omega) hst (dB (e:=.row u (bx t (List.replicate l.length z'))) ⟨by omega,u,hu,rfl⟩) kX (aU.iw lv sl aU.nil),h⟩
   simp only[bM.run,←h1,ea,hrow,bn]
   rw[if_pos ⟨trivial,by omega,by rw[h2,h1]⟩]
   simp[bI.splice,bx,Vz]
  ·cases h
 ·rename_i lv sl af t off len _
  have q:=au h
  clear h
  obtain⟨r',hr',h⟩:=q
  have q:=au h
  clear h
  obtain⟨z',Hy,h⟩:=q
  obtain⟨zc,hz1,Vy⟩:=aT Hy
  have Vz:=nP Vy (nQ hz1)
  split at h
  ·rename_i l hb hc1
   simp only[Bool.and_eq_true] at hb
   have h1:=Nat.eq_of_beq_eq_true hb.1
   have h2:=Nat.eq_of_beq_eq_true hb.2
   obtain⟨hc1,pz⟩:=dY hc1
   have q:=bU h
   clear h
   obtain⟨hd,h⟩:=q
   have hd:=of_decide_eq_true hd
   obtain⟨hv,u,hu,ea,_⟩:=ha
   have hrow:=(iu hm hr' hu).2
   rw[hc1] at hrow
   have hst:eg B s2.mem (eN s2.mem [(lv,sl,some (.row af t (l.take off++List.replicate len z'++l.drop (off+len))))]):=dA (ks:=[]) (.inr ⟨_,hr',by simp[pz];omega⟩)
   refine⟨_,_,fun _ _=>?_,.fF hm ht (by omega) hst (dB (e:=.row u (bx t (l.take off++List.replicate len z'++l.drop (off+len)))) ⟨by omega,u,hu,rfl⟩) kX (aU.iw lv sl aU.nil),h⟩
   simp only[bM.run,←h1,ea,hrow,bn]
   rw[if_pos ⟨trivial,hd,by rw[h2,h1]⟩]
   simp[bI.splice,bx,Vz,List.map_take,List.map_drop]
  ·cases h
 ·cases h
omit hm ht hB eE in
theorem oN:∀ l:List Int,sw (gH l)=some l
 |[]=>rfl
 |z :: l=>by
  show (sw (gH l)).map (z :: ·)=_
  rw[oN l]
  rfl
omit hm ht hB eE in
theorem RV.isRow {m:List (Tr E2)} {v:V2} {a:AV} (h:RV ρ B m v a):bI.isRow a=v.isRow:=by
 cases v with
 |c c=>exact RC.isRow h
 |agg=>obtain⟨_,rfl,_⟩:=h;rfl
 |fV=>obtain⟨_,rfl,_⟩:=h;rfl
 |gZ=>obtain⟨_,rfl,_⟩:=h;rfl
omit hm ht hB eE in
theorem LS {m:List (Tr E2)} {row lv d aR:Nat} {v:V2} {a:AV} (h:RV ρ B m v a) (h1:∀ f,v≠.c (.nil f)) (h2:∀ t l o,v≠.c (.sl t l o)):xO row lv d aR a = { val:=a,cK:=[],cx:=[],rd:=[] }:=by
 unfold xO
 split
 ·rename_i he
  exfalso
  cases v with
  |c x=>
   cases x with
   |nil f=>exact h1 f rfl
   |sl t l o=>exact h2 t l o rfl
   |ref=>obtain⟨_,_,_,_,e,_⟩:=h;cases e
   |jg=>obtain⟨_,_,_,e,_⟩:=h;cases e
   |ptr=>obtain⟨_,_,_,e⟩:=h;cases e
   |eH=>obtain⟨_,_,_,e⟩:=h;cases e
   |mp=>obtain⟨_,_,_,e⟩:=h;cases e
   |int=>cases h
   |bool=>cases h
   |er=>cases h
   |str=>cases h
   |raw=>cases h
   |fo=>cases h
  |agg=>obtain⟨_,e,_⟩:=h;cases e
  |fV=>obtain⟨_,e,_⟩:=h;cases e
  |gZ=>obtain⟨_,e,_⟩:=h;cases e
 ·rfl
include bV in
theorem NZ {x:bR} (h:bP E wk ctx s2 row dst nx (.ED x) K=some r):dx ρ B (nx+1) s2 s (.ED x) row dst p K r:=by
 simp only[bP] at h
 have q:=au h
 clear h
 obtain⟨v,hv,h⟩:=q
 have hv:=bg bV hv
 have hir:=RV.isRow hv
 split at h
 ·rename_i hq
  rw[←hir] at hq
  split at h
  ·rename_i lv sl af t _
   have q:=au h
   clear h
   obtain⟨r',hr',h⟩:=q
   have q:=au h
   clear h
   obtain⟨l,hl,h⟩:=q
   obtain⟨hc1,pz⟩:=dY hl
   obtain⟨Bw,u,n',hu,ea,hn'⟩:=hv
   have hn':=hn' _ hr'
   rw[pz] at hn'
   subst hn'
   have hrow:=(iu hm hr' hu).2
   rw[hc1] at hrow
   rw[hm.len] at h
   have hst:eg B s2.mem (eN s2.mem [(lv,sl,none),(s.mem.length-1,dst,some (.row nx t l))]):=dA (ks:=[(lv,sl)]) (e:=.row nx t l) (.inl hB)
   refine⟨_,_,fun _ _=>?_,.fF hm ht (B':=nx+1) (Ey:=[(lv,sl,none),(s.mem.length-1,dst,some (.row nx t l))]) (us:=[(lv,sl,none),(s.mem.length-1,dst,some (.row p (bx t l)))]) (by omega) hst ⟨⟨rfl,rfl,fun _ h=>by cases h⟩,dB ⟨Nat.lt_succ_self _,p,eE,rfl⟩⟩ (v:=.c (.ref (s.mem.length-1) dst nx t)) (a:=.ref (s.mem.length-1) dst p 0 l.length t.size) (show RC _ _ _ (.ref (s.mem.length-1) dst nx t) _ from⟨Nat.lt_succ_self _,p,l.length,eE,rfl,fun r hr=>?_⟩) (aU.iw lv sl aU.nil),h⟩
   ·rw [ea] at hq
    simp only[bM.run,hq,ea,EJ,hrow,Nat.zero_add,bn,List.drop_zero]
    rw[show Nat.ble l.length l.length=true from Nat.ble_eq_true_of_le (Nat.le_refl _),←bn (t:=t) (l:=l),List.take_length]
    simp[bn]
   ·have this := cy hr
    simp only[eN] at this
    rw[jA] at this
    split at this
    ·injection this with this
     injection this with _ h1 h2
     obtain⟨t',l'⟩:=r
     simp only at h1 h2
     subst h1
     cases h2
     rfl
    ·have h1 := pG (fm.2 this)
     obtain⟨e,_,hlt,_⟩:=hm.ec _ _ _ (cy h1)
     omega
  ·cases h
 rename_i hq
 rw[←hir] at hq
 split at h
 ·rename_i hq4
  refine .pure hm ht (by omega) (fun _ _=>?_) hv h
  simp only[bM.run,hq,xO,hq4]
  rfl
 ·rename_i hq4
  split at h
  ·have e : x.ev s.slots = .own [] .full := hv
   have q:=au h
   clear h
   obtain⟨t,_,h⟩:=q
   split at h
   ·rename_i hsz
    have hsz:=Nat.eq_of_beq_eq_true hsz
    rw[hm.len] at h
    refine⟨_,_,fun _ _=>?_,.oM hm ht hB eE (ks:=[]) (l:=([]:List t.den)) (n:=0) (els:=[]) rfl rfl aU.nil,h⟩
    rw[e] at hq
    simp only[bM.run,xO,hq,hq4,e,hsz]
    rfl
   ·cases h
  ·cases h
  ·cases h
  ·rename_i h1 h2 h3
   refine .pure hm ht (by omega) (fun _ _=>?_) hv h
   simp only[bM.run,hq]
   rw[LS hv (fun f hf=>h2 f hf) (fun t l o hf=>h3 t l o hf)]
   rfl
include bV in
theorem DZ {x:bR} (h:bP E wk ctx s2 row dst nx (.compact x) K=some r):dx ρ B (nx+1) s2 s (.compact x) row dst p K r:=by
 simp only[bP] at h
 have q:=cj h
 clear h
 obtain⟨a,ha,h⟩:=q
 have ha:=bg bV ha
 split at h
 ·have e : x.ev s.slots = .own [] .full := ha
  refine .pure hm ht (by omega) (a:=.own [] .full) (fun _ _=>?_) (v:=.c (.nil true)) rfl h
  simp only[bM.run,kM,e,Option.map_some]
  rfl
 ·rename_i lv sl af t _
  have q:=au h
  clear h
  obtain⟨r',hr',h⟩:=q
  split at h
  ·rename_i l hb hc1
   have h1:=Nat.eq_of_beq_eq_true hb
   obtain⟨hc1,pz⟩:=dY hc1
   have q:=bU h
   clear h
   obtain⟨hd,h⟩:=q
   have hd:=of_decide_eq_true hd
   obtain⟨hv,u,n',hu,ea,hn'⟩:=ha
   have hn':=hn' _ hr'
   rw[pz] at hn'
   subst hn'
   have hrow:=(iu hm hr' hu).2
   rw[hc1] at hrow
   refine⟨_,_,fun _ _=>?_,.oM hm ht hB eE (ks:=[]) (t:=.int .i64) (l:=gT l) (n:=(gT l).length) (els:=bx (.int .i64) (gT l)) rfl rfl (aU.iw lv sl aU.nil),h⟩
   have he:bx (.int .i64) l=gH l:=rfl
   simp only[bM.run,kM,ea,hrow,he,oN,Option.bind_some,h1]
   rw[if_pos ⟨trivial,by simp[gH],trivial,by simpa[gH] using hd⟩]
   rfl
  ·cases h
 ·cases h
omit eE in
include bV in
theorem LU {x:bR} (h:bP E wk ctx s2 row dst nx (.sort x) K=some r):dx ρ B (nx+1) s2 s (.sort x) row dst p K r:=by
 simp only[bP] at h
 have q:=cj h
 clear h
 obtain⟨a,ha,h⟩:=q
 have ha:=bg bV ha
 split at h
 ·have e : x.ev s.slots = .own [] .full := ha
  exact⟨_,_,fun _ _=>by simp only[bM.run,wq,e,Option.map_some],.fF (Ey:=[]) (us:=[]) hm ht (by omega) (eg.refl _ _) trivial kX aU.nil,h⟩
 ·rename_i lv sl af t _
  have q:=au h
  clear h
  obtain⟨r',hr',h⟩:=q
  split at h
  ·rename_i l hb hc1
   have h1:=Nat.eq_of_beq_eq_true hb
   obtain⟨hc1,pz⟩:=dY hc1
   have q:=bU h
   clear h
   obtain⟨hd,h⟩:=q
   have hd:=of_decide_eq_true hd
   obtain⟨hv,u,n',hu,ea,hn'⟩:=ha
   have hn':=hn' _ hr'
   rw[pz] at hn'
   subst hn'
   have hrow:=(iu hm hr' hu).2
   rw[hc1] at hrow
   have hst:eg B s2.mem (eN s2.mem [(lv,sl,some (.row af (.int .i64) (jc l)))]):=dA (ks:=[]) (.inr ⟨_,hr',by rw[pz];exact (lS l).symm⟩)
   refine⟨_,_,fun _ _=>?_,.fF hm ht (by omega) hst (dB (e:=.row u (bx (.int .i64) (jc l))) ⟨by omega,u,hu,rfl⟩) kX (aU.iw lv sl aU.nil),h⟩
   have he:bx (.int .i64) l=gH l:=rfl
   simp only[bM.run,wq,ea,hrow,he,oN,Option.bind_some,h1]
   rw[if_pos ⟨trivial,by simp[gH],trivial,by simpa[gH] using hd⟩]
   rfl
  ·cases h
 ·cases h
include bV in
theorem LV {sz:Nat} {x n:bR} (h:bP E wk ctx s2 row dst nx (.grow sz x n) K=some r):dx ρ B (nx+1) s2 s (.grow sz x n) row dst p K r:=by
 simp only[bP] at h
 have q:=cj h
 clear h
 obtain⟨a,ha,h⟩:=q
 have q:=kf h
 clear h
 obtain⟨kn,n',hn,hn0,h⟩:=q
 have ha:=bg bV ha
 split at h
 ·rename_i t hty _
  split at h
  ·rename_i hz
   have hz:=Nat.eq_of_beq_eq_true hz
   have ea:x.ev s.slots=_:=ha
   refine⟨_,_,fun _ _=>?_,.Ai hm hB eE (l:=([]:List t.den)) (els:=[]) rfl aU.nil (ht.fresh hB eE) (aU.Ah eE aU.nil),h⟩
   simp only[bM.run,ea,iy (bg bV hn) hn0,hz]
  ·cases h
 ·cases h
omit ht hB eE in
include bV in
theorem FX {sz:Nat} : ∀ {ps:List (Nat×bR)} {vo Kf:List (List Cell)} {els:List (List D)} {ks:List (Nat×Nat)},xh s2 sz vo ps=some (Kf,ks)→az (fun c d=>bO c=some d) vo els→
  ∃ els',mO s.mem s.slots sz els ps=some (els',ks)∧az (fun c d=>bO c=some d) Kf els'
 |[],vo,Kf,els,ks,h,ha=>by
  simp only[xh,Option.some.injEq,Prod.mk.injEq] at h
  obtain⟨rfl,rfl⟩:=h
  exact⟨els,rfl,ha⟩
 | (i, x) :: ps, vo, Kf, els, ks, h, ha => by
  simp only[xh] at h
  split at h
  ·rename_i e k hn
   obtain⟨cs,h1,h2⟩:=aT hn
   obtain⟨v,hv,h3⟩:=aT h1
   obtain⟨aK,g1,g2⟩:=uF h3 (bg bV hv)
   obtain⟨ds,g3,g4⟩:=It hm h2 g2
   split at h
   ·rename_i hb
    rw[Bool.and_eq_true] at hb
    have hz:=Nat.eq_of_beq_eq_true hb.1
    have hi:i<vo.length:=by simpa using hb.2
    split at h
    ·rename_i els' ks' h4
     injection h with h;injection h with h5 h6
     subst h5 h6
     have ha':az (fun c d=>bO c=some d) (vo.set i e) (els.set i ds):=by
      refine .sB (by simp[ha.length]) fun j c d hc hd=>?_
      rw[List.getElem?_set] at hc hd
      by_cases hij:i=j
      ·subst hij
       rw[if_pos rfl,if_pos hi] at hc
       rw[if_pos rfl,if_pos (by rw[←ha.length];exact hi)] at hd
       injection hc with hc;injection hd with hd
       subst hc hd;exact g4
      ·rw [if_neg hij] at hc hd
       obtain⟨d',g5,g6⟩:=ha.get j c hc
       rw[hd] at g5;injection g5 with g5;subst g5;exact g6
     obtain⟨U0,g5,g6⟩:=FX h4 ha'
     refine⟨U0,?_,g6⟩
     simp only[mO,BQ,g1,Option.bind_some,g3]
     rw[if_pos ⟨by rw[ng g4];exact hz,by rw[←ha.length];exact hi⟩,g5]
    ·cases h
   ·cases h
  ·cases h
omit hm ht hB eE in
theorem vG {t:Ty} : ∀ {vo:List (List Cell)} {els:List (List D)} {l:List t.den},vz t vo=some l→az (fun c d=>bO c=some d) vo els→els=bx t l
 |[],[],l,h,_=>by simp only[vz,Option.some.injEq] at h;subst h;rfl
 | c :: r, d :: ds, l, h, ha => by
  simp only[vz] at h
  split at h
  ·rename_i x xs h1 h2
   injection h with h;subst h
   rw[nP h1 ha.1,vG h2 ha.2]
   rfl
  ·cases h
 |[],_ :: _,_,_,h=>h.elim
 |_ :: _,[],_,_,h=>h.elim
omit hm ht hB eE in
theorem qv {β γ : Type} {R : β→γ→Prop} {x : β} {y : γ} (h:R x y):∀ n,az R (List.replicate n x) (List.replicate n y)
 |0=>trivial
 |n+1=>⟨h,qv h n⟩
include bV in
theorem xU {sz n : Nat} {z : List D} {ps : List (Nat × bR)} (h : bP E wk ctx s2 row dst nx (.buildSlice sz n z ps) K = some r) : dx ρ B (nx + 1) s2 s (.buildSlice sz n z ps) row dst p K r := by
 simp only[bP] at h
 cases hr2:Nat.beq row 2 with
 | true =>
  rw[hr2] at h
  simp only at h
  split at h
  ·cases h
  rename_i hn
  obtain⟨cs,hcs,h⟩:=au h
  obtain⟨zc,Rf,hcs⟩:=aT hcs
  have pZ:∀ k:Nat,az (RC ρ B s2.mem) (List.replicate k zc).flatten ((List.replicate k z).flatten.map .d):=by
   intro k
   induction k with
   |zero=>trivial
   |succ k ih=>
    simp only[List.replicate_succ,List.flatten_cons,List.map_append]
    exact (FK Rf).append ih
  obtain⟨aK,g1,g2⟩:=Ac bV hcs (pZ n)
  have hst:eg B s2.mem (eN s2.mem [(s2.mem.length-1,dst,some (.box nx cs))]):=dA (ks:=[]) (e:=.box nx cs) trivial
  refine⟨_,_,fun _ _=>?_,.fF hm ht (B':=nx+1) (by omega) hst (dB (e:=.box p aK) ⟨by omega,p,aK,eE,rfl,g2.mono fun _ _=>RC.move hst (by omega) fun _ _=>rfl⟩) (v:=.c (.eH (s2.mem.length-1) dst nx 0 n sz)) (a:=.eH (s2.mem.length-1) dst p 0 n sz) ⟨by omega,p,eE,rfl⟩ aU.nil,h⟩
  simp only[bM.run,hr2,hn,g1,hm.len,Option.map_some]
 |false=>
 rw[hr2] at h
 simp only at h
 have q:=au h
 clear h
 obtain⟨t,_,h⟩:=q
 have q:=au h
 clear h
 obtain⟨zc,Rf,h⟩:=q
 have q:=au h
 clear h
 obtain⟨⟨vo,ks⟩,hf,h⟩:=q
 obtain⟨els,g1,g2⟩:=FX hm bV hf (qv (R:=fun c d=>bO c=some d) (nQ Rf) n)
 simp only at h
 split at h
 ·rename_i l hz hp
  have hz:=Nat.eq_of_beq_eq_true hz
  have he:=vG hp g2
  have hlen : n = l.length := by
   have h1:=g2.length
   have h2 : ∀ {ps : List (Nat × bR)} {a b : List (List Cell)} {ks : List (Nat × Nat)}, xh s2 sz a ps = some (b, ks) → b.length = a.length := by
    intro ps
    induction ps with
    |nil=>intro a b ks h;simp only[xh,Option.some.injEq,Prod.mk.injEq] at h;rw[h.1]
    | cons q ps ih =>
     intro a b ks h
     obtain⟨i,x⟩:=q
     simp only[xh] at h
     split at h
     ·split at h
      ·split at h
       ·rename_i h4
        injection h with h;injection h with h5 h6
        subst h5
        simpa using ih h4
       ·cases h
      ·cases h
     ·cases h
   have:=h2 hf
   rw[List.length_replicate] at this
   rw[←this,h1,he,bn]
  split at h
  ·rename_i hrow
   refine⟨_,_,fun _ _=>?_,.fF hm ht (by omega) (oL (ks:=ks)) (iz (m:=s.mem)) (v:=.c (.sl t l .full)) (a:=.own els .full) (show _=_ by rw[he]) (aU.gS ks),h⟩
   simp only[bM.run,hr2,g1,hrow]
  ·rename_i hrow
   split at h
   ·cases h
   ·rename_i hk
    rw[hm.len] at h hk
    refine⟨_,_,fun _ _=>?_,.oM hm ht hB eE (ks:=ks) (l:=l) (n:=n) (els:=els) he hlen (aU.gS ks),h⟩
    simp only[bM.run,hr2,g1,hrow]
    rw[if_neg (uH hk),hz]
 ·cases h
end
end Go.Sym
