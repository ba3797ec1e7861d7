/- The machine over typed data: bytes as a string; sets of strings. -/
import Derived.Test.YtgkllgjmfpjeoaaGreatDoorSymG
set_option linter.unusedVariables false
set_option linter.unusedSimpArgs false
namespace Go.Sym
open Go Go.bJ
section
variable{α:Type}{ρ:bt}{B B':Nat}{s2:S2}{s:St}{row dst p nx:Nat}{K:gF->Option α}{r:α}{E:ak}{wk:Wk}{ctx:Nat}
theorem yL:∀l:List Int,bytesOf (bf (.int .u8) l)=some (l.map λn=>UInt8.ofNat n.toNat)|[]=>rfl|n::l=>by have ih:=yL l;show(bytesOf (bf (.int .u8) l)).map _=_;grind
theorem Rs{m:List (Tr bB)}{a:AV}{x els:List (List D)}(h:gi m a=some x)(he:dc m a=some els):x=els:=by unfold gi at h<;>grind[dc,gi]
theorem Io{m2:List (Tr E2)}{m:List (Tr bB)}(hm:MR ρ B m2 m){lv sl ah u:Nat}{l:List (List UInt8)}(h:Mt m2 lv sl ah=some l)(hu:ρ ah=some u):ji m2 lv sl=some (.set ah l)/\setAt m lv sl u=some l:=by
 unfold Mt at h;split at h
 .rename_i v l' hg;split at h;.subst_vars;obtain⟨e,g1,_,u',g2,rfl⟩:=hm.fN _ _ _ hg<;>simp_all[bt,setAt,ji]
  grind
 grind
variable(hm:MR ρ B s2.mem s.mem)(ht:TR ρ B s2.aI s.aI)(bX:ur ρ B s2.mem s2.slots s.slots)(hB:B<=nx)(fk:ρ nx=some p)
include hm ht hB bX
theorem Rt{x:bT}(h:cQ E wk ctx s2 row dst nx (.Xv x) K=some r):dI ρ B (nx+1) s2 s (.Xv x) row dst p K r:=by
 have q:=cu h;obtain⟨c,hc,h⟩:=q;have hc:=aW bX hc;split at h;.cases h
 .rename_i hne;obtain⟨els,he⟩:=DW hm h hc (λb' e=>hne b' e);obtain⟨n,h1,h⟩:=kg hm h hc;obtain⟨l,hl,h⟩:=aA h;have hx:=Rs h1 he;subst hx;obtain⟨t,l0⟩:=n;obtain⟨e1,e2⟩:=A2 hl;cases e1;subst e2;refine⟨_,_,λ_ _=>?_,.xe hm ht (by omega) (v:=.c (.str (l.map λ(n:Int)=>UInt8.ofNat n.toNat))) (a:=lT (.string (mA (l.map λ(n:Int)=>UInt8.ofNat n.toNat)))) rfl (th hc),h⟩;simp[cj.run,he,Option.bind_some,yL,Option.map_some]
theorem Ru{x:bT}(h:cQ E wk ctx s2 row dst nx (.Xw x) K=some r):dI ρ B (nx+1) s2 s (.Xw x) row dst p K r:=by
 simp[cQ]at h;split at h
 .rename_i b hx;have e:x.ev s.slots=_:=aW bX hx;refine .pure (a:=.d (.sl (b.map λ(c:UInt8)=>[.sc (.int .u8 (c.toNat:Int))]))) hm ht (by omega) (λ_ _=>?_) (v:=.c (.sl (.int .u8) (bU b) .d)) (show RC ρ B s2.mem (.sl (.int .u8) (bU b) .d) (.d (.sl (b.map λ(c:UInt8)=>[.sc (.int .u8 (c.toNat:Int))])))from .inl ?_) h;.simp[cj.run,e]
  .simp[bf,bU,eY,List.map_map,Function.comp_def]
 grind
include fk in omit bX in theorem KH(h:cQ E wk ctx s2 row dst nx .mkSet K=some r):dI ρ B (nx+1) s2 s .mkSet row dst p K r:=by simp[cQ]at h;rw[hm.len]at h;have hst:eZ B s2.mem (fU s2.mem [(s.mem.length-1,dst,some (.set nx []))]):=eM (ks:=[]) (e:=.set nx []) trivial;exact⟨_,_,λ_ _=>rfl,.gm hm ht (B':=nx+1) (by omega) hst (eN (e:=.mp p []) ⟨by omega,p,fk,rfl⟩) (v:=.c (.mp (s.mem.length-1) dst nx)) (a:=.mp (s.mem.length-1) dst p) (show RC ρ (nx+1) (fU s2.mem [(s.mem.length-1,dst,some (.set nx []))]) (.mp (s.mem.length-1) dst nx) _ from⟨Nat.lt_succ_self _,p,fk,rfl⟩) aS.nil,h⟩
theorem Oz{x y:bT}(h:cQ E wk ctx s2 row dst nx (.GO x y) K=some r):dI ρ B (nx+1) s2 s (.GO x y) row dst p K r:=by
 simp[cQ]at h;split at h;.rename_i lv sl ah b hx hy;obtain⟨l,hl,h⟩:=aA h;obtain⟨hv,u,hu,ex⟩:=aW bX hx;have ey:y.ev s.slots=_:=aW bX hy;obtain⟨_,g⟩:=Io hm hl hu;refine⟨_,_,λ_ _=>?_,.xe hm ht (by omega) (v:=.c (.bool (hasB l b))) (a:=lT (.bool (hasB l b))) rfl (aS.js lv sl aS.nil),h⟩;simp[cj.run,ex,ey,g,Option.map_some]
 grind
theorem OA{x y:bT}(h:cQ E wk ctx s2 row dst nx (.GP x y) K=some r):dI ρ B (nx+1) s2 s (.GP x y) row dst p K r:=by
 simp[cQ]at h;split at h;.rename_i lv sl ah b hx hy;obtain⟨l,hl,h⟩:=aA h;obtain⟨hv,u,hu,ex⟩:=aW bX hx;have ey:y.ev s.slots=_:=aW bX hy;obtain⟨_,g⟩:=Io hm hl hu;have hst:eZ B s2.mem (fU s2.mem [(lv,sl,some (.set ah (q9 l b)))]):=eM (ks:=[]) (e:=.set ah (q9 l b)) trivial;refine⟨_,_,λ_ _=>?_,.gm hm ht (B':=nx+1) (by omega) hst (eN (e:=.mp u (q9 l b)) ⟨by omega,u,hu,rfl⟩) l8 (aS.js lv sl aS.nil),h⟩;simp[cj.run,ex,ey,g,Option.map_some]
 grind
end
end Go.Sym
