/- The machine over typed data: bytes as a string; sets of strings. -/
import Derived.Test.YtokjmkblnafppaaGreatDoorSymG
set_option linter.unusedVariables false
set_option linter.unusedSimpArgs false
namespace Go.Sym
open Go Go.bI
section
variable {α : Type} {ρ : bG} {B B':Nat} {s2:S2} {s:St} {row dst p nx:Nat} {K:gi→Option α} {r : α} {E:aA} {wk:Wk} {ctx:Nat}
theorem xz:∀ l:List Int,bytesOf (bx (.int .u8) l)=some (l.map fun n=>UInt8.ofNat n.toNat)
 |[]=>rfl
 |n :: l=>by
  have ih:=xz l
  show (bytesOf (bx (.int .u8) l)).map _=_
  rw[ih]
  rfl
theorem Od {m:List (Tr bH)} {a:AV} {x els:List (List D)} (h:gQ m a=some x) (he:dK m a=some els):x=els:=by
 unfold gQ at h
 split at h
 ·cases he
 ·rw[he] at h;injection h with h;exact h.symm
theorem Gf {m2:List (Tr E2)} {m:List (Tr bH)} (hm:MR ρ B m2 m) {lv sl af u:Nat} {l:List (List UInt8)} (h:J4 m2 lv sl af=some l) (hu : ρ af=some u):iY m2 lv sl=some (.set af l)∧setAt m lv sl u=some l:=by
 unfold J4 at h
 split at h
 ·rename_i v l' hg
  split at h
  ·rename_i hb
   injection h with h;subst h
   have hb:=Nat.eq_of_beq_eq_true hb
   subst hb
   obtain⟨e,g1,_,u',g2,rfl⟩:=hm.ec _ _ _ hg
   rw[hu] at g2;injection g2 with g2;subst g2
   refine⟨hg,?_⟩
   simp only[setAt,g1,kU]
  ·cases h
 ·cases h
variable (hm:MR ρ B s2.mem s.mem) (ht:TR ρ B s2.aE s.aE) (bV:tw ρ B s2.mem s2.slots s.slots) (hB:B≤nx) (eE : ρ nx=some p)
include hm ht hB bV
theorem Oe {x:bR} (h:bP E wk ctx s2 row dst nx (.TY x) K=some r):dx ρ B (nx+1) s2 s (.TY x) row dst p K r:=by
 simp only[bP] at h
 have q:=cj h
 clear h
 obtain⟨c,hc,h⟩:=q
 have hc:=bg bV hc
 split at h
 ·cases h
 ·rename_i hne
  obtain⟨els,he⟩:=Cy hm h hc (fun b' e=>hne b' e)
  obtain⟨n,h1,h⟩:=jT hm h hc
  obtain⟨l,hl,h⟩:=au h
  have hx:=Od h1 he
  subst hx
  obtain⟨t,l0⟩:=n
  obtain⟨e1,e2⟩:=z6 hl
  simp only at e1
  subst e1
  subst e2
  refine⟨_,_,fun _ _=>?_,.vD hm ht (by omega) (v:=.c (.str (l.map fun (n:Int)=>UInt8.ofNat n.toNat))) (a:=kL (.string (js (l.map fun (n:Int)=>UInt8.ofNat n.toNat)))) rfl (rA hc),h⟩
  simp only[bM.run,he,Option.bind_some,xz,Option.map_some]
theorem Of {x:bR} (h:bP E wk ctx s2 row dst nx (.TZ x) K=some r):dx ρ B (nx+1) s2 s (.TZ x) row dst p K r:=by
 simp only[bP] at h
 split at h
 ·rename_i b hx
  have e:x.ev s.slots=_:=bg bV hx
  refine .pure (a:=.d (.sl (b.map fun (c:UInt8)=>[.sc (.int .u8 (c.toNat:Int))]))) hm ht (by omega) (fun _ _=>?_) (v:=.c (.sl (.int .u8) (cu b) .d)) (show RC ρ B s2.mem (.sl (.int .u8) (cu b) .d) (.d (.sl (b.map fun (c:UInt8)=>[.sc (.int .u8 (c.toNat:Int))]))) from .inl ?_) h
  ·simp only[bM.run,e]
  ·simp[bx,cu,ef,List.map_map,Function.comp_def]
 ·cases h
include eE in
omit bV in
theorem IJ (h:bP E wk ctx s2 row dst nx .mkSet K=some r):dx ρ B (nx+1) s2 s .mkSet row dst p K r:=by
 simp only[bP] at h
 rw[hm.len] at h
 have hst:eg B s2.mem (eN s2.mem [(s.mem.length-1,dst,some (.set nx []))]):=dA (ks:=[]) (e:=.set nx []) trivial
 exact⟨_,_,fun _ _=>rfl,.fF hm ht (B':=nx+1) (by omega) hst (dB (e:=.mp p []) ⟨by omega,p,eE,rfl⟩) (v:=.c (.mp (s.mem.length-1) dst nx)) (a:=.mp (s.mem.length-1) dst p) (show RC ρ (nx+1) (eN s2.mem [(s.mem.length-1,dst,some (.set nx []))]) (.mp (s.mem.length-1) dst nx) _ from⟨Nat.lt_succ_self _,p,eE,rfl⟩) aU.nil,h⟩
theorem L4 {x y:bR} (h:bP E wk ctx s2 row dst nx (.EF x y) K=some r):dx ρ B (nx+1) s2 s (.EF x y) row dst p K r:=by
 simp only[bP] at h
 split at h
 ·rename_i lv sl af b hx hy
  obtain⟨l,hl,h⟩:=au h
  obtain⟨hv,u,hu,ex⟩:=bg bV hx
  have ey:y.ev s.slots=_:=bg bV hy
  obtain⟨_,g⟩:=Gf hm hl hu
  refine⟨_,_,fun _ _=>?_,.vD hm ht (by omega) (v:=.c (.bool (hasB l b))) (a:=kL (.bool (hasB l b))) rfl (aU.iw lv sl aU.nil),h⟩
  simp only[bM.run,ex,ey,g,Option.map_some]
 ·cases h
theorem L5 {x y:bR} (h:bP E wk ctx s2 row dst nx (.EG x y) K=some r):dx ρ B (nx+1) s2 s (.EG x y) row dst p K r:=by
 simp only[bP] at h
 split at h
 ·rename_i lv sl af b hx hy
  obtain⟨l,hl,h⟩:=au h
  obtain⟨hv,u,hu,ex⟩:=bg bV hx
  have ey:y.ev s.slots=_:=bg bV hy
  obtain⟨_,g⟩:=Gf hm hl hu
  have hst:eg B s2.mem (eN s2.mem [(lv,sl,some (.set af (pQ l b)))]):=dA (ks:=[]) (e:=.set af (pQ l b)) trivial
  refine⟨_,_,fun _ _=>?_,.fF hm ht (B':=nx+1) (by omega) hst (dB (e:=.mp u (pQ l b)) ⟨by omega,u,hu,rfl⟩) kX (aU.iw lv sl aU.nil),h⟩
  simp only[bM.run,ex,ey,g,Option.map_some]
 ·cases h
end
end Go.Sym
