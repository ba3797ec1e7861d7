/- The machine over typed data: bytes as a string; sets of strings. -/
import Derived.Test.YtkdilffhbejjaaaGreatSymG
set_option linter.unusedVariables false
set_option linter.unusedSimpArgs false
namespace Go.Sym
open Go Go.bM
section
variable{α:Type}{ρ:bD}{B B':Nat}{s2:S2}{s:St}{row dst p nx:Nat}{K:gY->Option α}{r:α}{E:ah}{wk:Wk}{ctx:Nat}
theorem zK:∀l:List Int,bytesOf (bx (.int .u8) l)=some (l.map λn=>UInt8.ofNat n.toNat)|[]=>rfl|n::l=>by have ih:=zK l;show(bytesOf (bx (.int .u8) l)).map _=_;grind
theorem Sq{m:List (Tr bH)}{a:AV}{x els:List (List D)}(h:gB m a=some x)(he:dG m a=some els):x=els:=by unfold gB at h<;>grind[dG,gB]
theorem Jk{m2:List (Tr E2)}{m:List (Tr bH)}(hm:MR ρ B m2 m){lv sl au u:Nat}{l:List (List UInt8)}(h:Nf m2 lv sl au=some l)(hu:ρ au=some u):jO m2 lv sl=some (.set au l)/\setAt m lv sl u=some l:=by
 unfold Nf at h;split at h
 .rename_i v l' hg;split at h;.subst_vars;obtain⟨e,g1,_,u',g2,rfl⟩:=hm.fZ _ _ _ hg<;>simp_all[bD,setAt,jO]
  grind
 grind
variable(hm:MR ρ B s2.mem s.mem)(ht:TR ρ B s2.aK s.aK)(cj:va ρ B s2.mem s2.slots s.slots)(hB:B<=nx)(fU:ρ nx=some p)
include hm ht hB cj
theorem Sr{x:cc}(h:cY E wk ctx s2 row dst nx (.Zr x) K=some r):dX ρ B (nx+1) s2 s (.Zr x) row dst p K r:=by
 have q:=cD h;obtain⟨c,hc,h⟩:=q;have hc:=bt cj hc;split at h;.cases h
 .rename_i hne;obtain⟨els,he⟩:=E4 hm h hc (λb' e=>hne b' e);obtain⟨n,h1,h⟩:=kU hm h hc;obtain⟨l,hl,h⟩:=aB h;have hx:=Sq h1 he;subst hx;obtain⟨t,l0⟩:=n;obtain⟨e1,e2⟩:=B3 hl;cases e1;subst e2;refine⟨_,_,λ_ _=>?_,.xT hm ht (by omega) (v:=.c (.str (l.map λ(n:Int)=>UInt8.ofNat n.toNat))) (a:=mM (.string (nF (l.map λ(n:Int)=>UInt8.ofNat n.toNat)))) rfl (ue hc),h⟩;simp[ct.run,he,ae,zK,ca]
theorem Ss{x:cc}(h:cY E wk ctx s2 row dst nx (.Zs x) K=some r):dX ρ B (nx+1) s2 s (.Zs x) row dst p K r:=by
 simp[cY]at h;split at h
 .rename_i b hx;have e:x.ev s.slots=_:=bt cj hx;refine .pure (a:=.d (.sl (b.map λ(c:UInt8)=>[.sc (.int .u8 (c.toNat:Int))]))) hm ht (by omega) (λ_ _=>?_) (v:=.c (.sl (.int .u8) (bK b) .d)) (show RC ρ B s2.mem (.sl (.int .u8) (bK b) .d) (.d (.sl (b.map λ(c:UInt8)=>[.sc (.int .u8 (c.toNat:Int))])))from .inl ?_) h;.simp[ct.run,e]
  .simp[bx,bK,fy,po,Function.comp_def]
 grind
include fU in omit cj in theorem LM(h:cY E wk ctx s2 row dst nx .mkSet K=some r):dX ρ B (nx+1) s2 s .mkSet row dst p K r:=by simp[cY]at h;rw[hm.len]at h;have hst:fA B s2.mem (gr s2.mem [(s.mem.length-1,dst,some (.set nx []))]):=e8 (ks:=[]) (e:=.set nx []) trivial;exact⟨_,_,λ_ _=>rfl,.gD hm ht (B':=nx+1) (by omega) hst (e9 (e:=.mp p []) ⟨by omega,p,fU,rfl⟩) (v:=.c (.mp (s.mem.length-1) dst nx)) (a:=.mp (s.mem.length-1) dst p) (show RC ρ (nx+1) (gr s2.mem [(s.mem.length-1,dst,some (.set nx []))]) (.mp (s.mem.length-1) dst nx) _ from⟨ub _,p,fU,rfl⟩) aW.nil,h⟩
theorem Pn{x y:cc}(h:cY E wk ctx s2 row dst nx (.HU x y) K=some r):dX ρ B (nx+1) s2 s (.HU x y) row dst p K r:=by
 simp[cY]at h;split at h;.rename_i lv sl au b hx hy;obtain⟨l,hl,h⟩:=aB h;obtain⟨hv,u,hu,ex⟩:=bt cj hx;have ey:y.ev s.slots=_:=bt cj hy;obtain⟨_,g⟩:=Jk hm hl hu;refine⟨_,_,λ_ _=>?_,.xT hm ht (by omega) (v:=.c (.bool (hasB l b))) (a:=mM (.bool (hasB l b))) rfl (aW.jT lv sl aW.nil),h⟩;simp[ct.run,ex,ey,g,ca]
 grind
theorem Po{x y:cc}(h:cY E wk ctx s2 row dst nx (.HV x y) K=some r):dX ρ B (nx+1) s2 s (.HV x y) row dst p K r:=by
 simp[cY]at h;split at h;.rename_i lv sl au b hx hy;obtain⟨l,hl,h⟩:=aB h;obtain⟨hv,u,hu,ex⟩:=bt cj hx;have ey:y.ev s.slots=_:=bt cj hy;obtain⟨_,g⟩:=Jk hm hl hu;have hst:fA B s2.mem (gr s2.mem [(lv,sl,some (.set au (sj l b)))]):=e8 (ks:=[]) (e:=.set au (sj l b)) trivial;refine⟨_,_,λ_ _=>?_,.gD hm ht (B':=nx+1) (by omega) hst (e9 (e:=.mp u (sj l b)) ⟨by omega,u,hu,rfl⟩) mY (aW.jT lv sl aW.nil),h⟩;simp[ct.run,ex,ey,g,ca]
 grind
end
end Go.Sym
