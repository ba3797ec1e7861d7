/- The machine over typed data: bytes as a string; sets of strings. -/
import Derived.Test.YtlfhlggkbcncoaaSymG
namespace Go.Sym
open Go Go.Eng
section
variable {α : Type} {ρ : VMap} {B B':Nat} {s2:S2} {s:St} {row dst p nx:Nat} {K:Res2→Option α} {r : α} {E:SEnv} {wk:Wk} {ctx:Nat}
theorem bytesOf_enc:∀ l:List Int,bytesOf (encL (.int .u8) l)=some (l.map fun n=>UInt8.ofNat n.toNat)
 |[]=>rfl
 |n :: l=>by
  have ih:=bytesOf_enc l
  show (bytesOf (encL (.int .u8) l)).map _=_
  rw[ih]
  rfl
theorem news_els {m:List (Tr Ent)} {a:AV} {x els:List (List D)} (h:newsOf m a=some x) (he:elsOf m a=some els):x=els:=by
 unfold newsOf at h
 split at h
 ·cases he
 ·rw[he] at h;injection h with h;exact h.symm
theorem setOf_ok {m2:List (Tr E2)} {m:List (Tr Ent)} (hm:MR ρ B m2 m) {lv sl ver u:Nat} {l:List (List UInt8)} (h:setOf m2 lv sl ver=some l) (hu : ρ ver=some u):mget m2 lv sl=some (.set ver l)∧setAt m lv sl u=some l:=by
 unfold setOf at h
 split at h
 ·rename_i v l' hg
  split at h
  ·rename_i hb
   injection h with h;subst h
   have hb:=Nat.eq_of_beq_eq_true hb
   subst hb
   obtain⟨e,g1,_,u',g2,rfl⟩:=hm.ents _ _ _ hg
   rw[hu] at g2;injection g2 with g2;subst g2
   refine⟨hg,?_⟩
   simp only[setAt,g1,beq_self]
  ·cases h
 ·cases h
variable (hm:MR ρ B s2.mem s.mem) (ht:TR ρ B s2.tips s.tips) (hsl:SlR ρ B s2.mem s2.slots s.slots) (hB:B≤nx) (hnx : ρ nx=some p)
include hm ht hB hsl
theorem does_b2s {x:Opd} (h:run2 E wk ctx s2 row dst nx (.b2s x) K=some r):Does ρ B (nx+1) s2 s (.b2s x) row dst p K r:=by
 simp only[run2] at h
 have q:=cellK_some h
 clear h
 obtain⟨c,hc,h⟩:=q
 have hc:=ev2_ok hsl hc
 split at h
 ·cases h
 ·rename_i hne
  obtain⟨els,he⟩:=newsK_els hm h hc (fun b' e=>hne b' e)
  obtain⟨n,h1,h⟩:=newsK_ok hm h hc
  obtain⟨l,hl,h⟩:=optK_some h
  have hx:=news_els h1 he
  subst hx
  obtain⟨t,l0⟩:=n
  obtain⟨e1,e2⟩:=castL_eq hl
  simp only at e1
  subst e1
  subst e2
  refine⟨_,_,fun _ _=>?_,.of_val hm ht (by omega) (v:=.c (.str (l.map fun (n:Int)=>UInt8.ofNat n.toNat))) (a:=scA (.string (strOfB (l.map fun (n:Int)=>UInt8.ofNat n.toNat)))) rfl (keyC_ok hc),h⟩
  simp only[AOp.run,he,Option.bind_some,bytesOf_enc,Option.map_some]
theorem does_s2b {x:Opd} (h:run2 E wk ctx s2 row dst nx (.s2b x) K=some r):Does ρ B (nx+1) s2 s (.s2b x) row dst p K r:=by
 simp only[run2] at h
 split at h
 ·rename_i b hx
  have e:x.ev s.slots=_:=ev2_ok hsl hx
  refine .pure (a:=.d (.sl (b.map fun (c:UInt8)=>[.sc (.int .u8 (c.toNat:Int))]))) hm ht (by omega) (fun _ _=>?_) (v:=.c (.sl (.int .u8) (bytesL b) .d)) (show RC ρ B s2.mem (.sl (.int .u8) (bytesL b) .d) (.d (.sl (b.map fun (c:UInt8)=>[.sc (.int .u8 (c.toNat:Int))]))) from .inl ?_) h
  ·simp only[AOp.run,e]
  ·simp[encL,bytesL,encs,List.map_map,Function.comp_def]
 ·cases h
include hnx in
omit hsl in
theorem does_mkSet (h:run2 E wk ctx s2 row dst nx .mkSet K=some r):Does ρ B (nx+1) s2 s .mkSet row dst p K r:=by
 simp only[run2] at h
 rw[hm.len] at h
 have hst:Stab B s2.mem (updM s2.mem [(s.mem.length-1,dst,some (.set nx []))]):=stab_new (ks:=[]) (e:=.set nx []) trivial
 exact⟨_,_,fun _ _=>rfl,.of_mem hm ht (B':=nx+1) (by omega) hst (updR_one (e:=.mp p []) ⟨by omega,p,hnx,rfl⟩) (v:=.c (.mp (s.mem.length-1) dst nx)) (a:=.mp (s.mem.length-1) dst p) (show RC ρ (nx+1) (updM s2.mem [(s.mem.length-1,dst,some (.set nx []))]) (.mp (s.mem.length-1) dst nx) _ from⟨Nat.lt_succ_self _,p,hnx,rfl⟩) KeysR.nil,h⟩
theorem does_hasK {x y:Opd} (h:run2 E wk ctx s2 row dst nx (.hasK x y) K=some r):Does ρ B (nx+1) s2 s (.hasK x y) row dst p K r:=by
 simp only[run2] at h
 split at h
 ·rename_i lv sl ver b hx hy
  obtain⟨l,hl,h⟩:=optK_some h
  obtain⟨hv,u,hu,ex⟩:=ev2_ok hsl hx
  have ey:y.ev s.slots=_:=ev2_ok hsl hy
  obtain⟨_,g⟩:=setOf_ok hm hl hu
  refine⟨_,_,fun _ _=>?_,.of_val hm ht (by omega) (v:=.c (.bool (hasB l b))) (a:=scA (.bool (hasB l b))) rfl (KeysR.consE lv sl KeysR.nil),h⟩
  simp only[AOp.run,ex,ey,g,Option.map_some]
 ·cases h
theorem does_addK {x y:Opd} (h:run2 E wk ctx s2 row dst nx (.addK x y) K=some r):Does ρ B (nx+1) s2 s (.addK x y) row dst p K r:=by
 simp only[run2] at h
 split at h
 ·rename_i lv sl ver b hx hy
  obtain⟨l,hl,h⟩:=optK_some h
  obtain⟨hv,u,hu,ex⟩:=ev2_ok hsl hx
  have ey:y.ev s.slots=_:=ev2_ok hsl hy
  obtain⟨_,g⟩:=setOf_ok hm hl hu
  have hst:Stab B s2.mem (updM s2.mem [(lv,sl,some (.set ver (addB l b)))]):=stab_new (ks:=[]) (e:=.set ver (addB l b)) trivial
  refine⟨_,_,fun _ _=>?_,.of_mem hm ht (B':=nx+1) (by omega) hst (updR_one (e:=.mp u (addB l b)) ⟨by omega,u,hu,rfl⟩) undef_rv (KeysR.consE lv sl KeysR.nil),h⟩
  simp only[AOp.run,ex,ey,g,Option.map_some]
 ·cases h
end
end Go.Sym
