/- The machine over typed data: bytes as a string; sets of strings. -/
import Derived.Test.YtdogilonhnbapaaGreatDoorSymG
set_option linter.unusedVariables false
set_option linter.unusedSimpArgs false
namespace Go.Sym
open Go Go.bI
section
variable{α:Type}{ρ:aZ}{B B':Nat}{s2:S2}{s:St}{row dst p nx:Nat}{K:gC->Option α}{r:α}{E:aq}{wk:Wk}{ctx:Nat}
theorem zh:∀l:List Int,bytesOf (bf (.int .u8) l)=some (l.map λn=>UInt8.ofNat n.toNat)|[]=>rfl|n::l=>by have ih:=zh l;show(bytesOf (bf (.int .u8) l)).map _=_;grind
theorem SM{m:List (Tr bC)}{a:AV}{x els:List (List D)}(h:gi m a=some x)(he:dm m a=some els):x=els:=by unfold gi at h<;>grind[dm,gi]
theorem Jh{m2:List (Tr E2)}{m:List (Tr bC)}(hm:MR ρ B m2 m){lv sl ai u:Nat}{l:List (List UInt8)}(h:ND m2 lv sl ai=some l)(hu:ρ ai=some u):iD m2 lv sl=some (.set ai l)/\setAt m lv sl u=some l:=by
 unfold ND at h;split at h
 .rename_i v l' hg;split at h;.subst_vars;obtain⟨e,g1,_,u',g2,rfl⟩:=hm.eV _ _ _ hg<;>simp_all[aZ,setAt,iD]
  grind
 grind
variable(hm:MR ρ B s2.mem s.mem)(ht:TR ρ B s2.aG s.aG)(cg:uJ ρ B s2.mem s2.slots s.slots)(hB:B<=nx)(fI:ρ nx=some p)
include hm ht hB cg
theorem SN{x:bZ}(h:cT E wk ctx s2 row dst nx (.ZG x) K=some r):dI ρ B (nx+1) s2 s (.ZG x) row dst p K r:=by
 have q:=cv h;obtain⟨c,hc,h⟩:=q;have hc:=aW cg hc;split at h;.cases h
 .rename_i hne;obtain⟨els,he⟩:=Eu hm h hc (λb' e=>hne b' e);obtain⟨n,h1,h⟩:=ko hm h hc;obtain⟨l,hl,h⟩:=az h;have hx:=SM h1 he;subst hx;obtain⟨t,l0⟩:=n;obtain⟨e1,e2⟩:=BB hl;cases e1;subst e2;refine⟨_,_,λ_ _=>?_,.xG hm ht (by omega) (v:=.c (.str (l.map λ(n:Int)=>UInt8.ofNat n.toNat))) (a:=lY (.string (mC (l.map λ(n:Int)=>UInt8.ofNat n.toNat)))) rfl (tK hc),h⟩;simp[cq.run,he,Option.bind_some,zh,Option.map_some]
theorem SO{x:bZ}(h:cT E wk ctx s2 row dst nx (.ZH x) K=some r):dI ρ B (nx+1) s2 s (.ZH x) row dst p K r:=by
 simp[cT]at h;split at h
 .rename_i b hx;have e:x.ev s.slots=_:=aW cg hx;refine .pure (a:=.d (.sl (b.map λ(c:UInt8)=>[.sc (.int .u8 (c.toNat:Int))]))) hm ht (by omega) (λ_ _=>?_) (v:=.c (.sl (.int .u8) (bM b) .d)) (show RC ρ B s2.mem (.sl (.int .u8) (bM b) .d) (.d (.sl (b.map λ(c:UInt8)=>[.sc (.int .u8 (c.toNat:Int))])))from .inl ?_) h;.simp[cq.run,e]
  .simp[bf,bM,eX,List.map_map,Function.comp_def]
 grind
include fI in omit cg in theorem LJ(h:cT E wk ctx s2 row dst nx .mkSet K=some r):dI ρ B (nx+1) s2 s .mkSet row dst p K r:=by simp[cT]at h;rw[hm.len]at h;have hst:eE B s2.mem (fo s2.mem [(s.mem.length-1,dst,some (.set nx []))]):=dW (ks:=[]) (e:=.set nx []) trivial;exact⟨_,_,λ_ _=>rfl,.fN hm ht (B':=nx+1) (by omega) hst (dX (e:=.mp p []) ⟨by omega,p,fI,rfl⟩) (v:=.c (.mp (s.mem.length-1) dst nx)) (a:=.mp (s.mem.length-1) dst p) (show RC ρ (nx+1) (fo s2.mem [(s.mem.length-1,dst,some (.set nx []))]) (.mp (s.mem.length-1) dst nx) _ from⟨Nat.lt_succ_self _,p,fI,rfl⟩) aR.nil,h⟩
theorem PJ{x y:bZ}(h:cT E wk ctx s2 row dst nx (.HS x y) K=some r):dI ρ B (nx+1) s2 s (.HS x y) row dst p K r:=by
 simp[cT]at h;split at h;.rename_i lv sl ai b hx hy;obtain⟨l,hl,h⟩:=az h;obtain⟨hv,u,hu,ex⟩:=aW cg hx;have ey:y.ev s.slots=_:=aW cg hy;obtain⟨_,g⟩:=Jh hm hl hu;refine⟨_,_,λ_ _=>?_,.xG hm ht (by omega) (v:=.c (.bool (hasB l b))) (a:=lY (.bool (hasB l b))) rfl (aR.iN lv sl aR.nil),h⟩;simp[cq.run,ex,ey,g,Option.map_some]
 grind
theorem PK{x y:bZ}(h:cT E wk ctx s2 row dst nx (.HT x y) K=some r):dI ρ B (nx+1) s2 s (.HT x y) row dst p K r:=by
 simp[cT]at h;split at h;.rename_i lv sl ai b hx hy;obtain⟨l,hl,h⟩:=az h;obtain⟨hv,u,hu,ex⟩:=aW cg hx;have ey:y.ev s.slots=_:=aW cg hy;obtain⟨_,g⟩:=Jh hm hl hu;have hst:eE B s2.mem (fo s2.mem [(lv,sl,some (.set ai (rL l b)))]):=dW (ks:=[]) (e:=.set ai (rL l b)) trivial;refine⟨_,_,λ_ _=>?_,.fN hm ht (B':=nx+1) (by omega) hst (dX (e:=.mp u (rL l b)) ⟨by omega,u,hu,rfl⟩) mg (aR.iN lv sl aR.nil),h⟩;simp[cq.run,ex,ey,g,Option.map_some]
 grind
end
end Go.Sym
