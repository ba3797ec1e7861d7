/- The machine over typed data: slices that are made and that grow. -/
import Derived.Test.YtgkllgjmfpjeoaaGreatDoorSymF
set_option linter.unusedVariables false
set_option linter.unusedSimpArgs false
namespace Go.Sym
open Go Go.bJ
section
variable{α:Type}{ρ:bt}{B B':Nat}{s2:S2}{s:St}{op:cj}{row dst p nx:Nat}{K:gF->Option α}{r:α}{E:ak}{wk:Wk}{ctx:Nat}
theorem TR.fresh{t2 t:Tr Unit}(h:TR ρ B t2 t)(hB:B<=nx)(fk:ρ nx=some p):TR ρ (nx+1) (dS t2 [(nx,true)]) (dS t [(p,true)]):=by
 intro v hv;simp[dS,if_true]at hv⊢;rw[Tr.cz]at hv;split at hv;.simp_all;rw[Tr.cz,if_pos rfl]
 .obtain⟨h1,h2⟩:=h v hv;refine⟨by omega,λu hu=>?_⟩;rw[Tr.cz]<;>grind
theorem TR.adU{t2 t:Tr Unit}(h:TR ρ B t2 t)(v:Nat):TR ρ B (t2.set v none) t:=by
 intro v' hv;rw[Tr.cz]at hv;split at hv;.cases hv
 .exact h v' hv
theorem TR.drop{t2 t:Tr Unit}(h:TR ρ B t2 t)(hinj:∀v v' u,ρ v=some u->ρ v'=some u->v=v'){v u:Nat}(hu:ρ v=some u):TR ρ B (t2.set v none) (t.set u none):=by
 intro v' hv;rw[Tr.cz]at hv;split at hv;.cases hv
 .refine⟨(h v' hv).1,λu' kK=>?_⟩;rw[Tr.cz];split;.grind
  .exact(h v' hv).2 u' kK
theorem eO{a t:Ty}{l:List a.den}{l':List t.den}(h:jq a t l=some l'):bf a l=bf t l'/\l.length=l'.length:=by obtain⟨e,he⟩:=A2 h<;>grind
theorem kZ{n b:Nat}(h:room n b=true):n<=eV/\n*b<=jP:=by simpa[room]using h
theorem DW{m:List (Tr E2)}{mm:List (Tr bB)}(hm:MR ρ B m mm){x:Cell}{a:AV}{e:Option Ty}{K:SL->Option α}(h:n8 m x e K=some r)(hx:RC ρ B m x a)(hne:∀b,x≠.str b):∃els,dc mm a=some els:=by
 unfold n8 at h;split at h;.exact⟨_,(iA hx).1⟩
 .exact⟨_,(gH hx).1⟩
 .obtain⟨r',hr,h⟩:=aA h;exact⟨_,lQ hm hx hr⟩
 .obtain⟨r',hr,h⟩:=aA h;have q:=cg h;obtain⟨hl,h⟩:=q;exact⟨_,jy hm hx hr (of_decide_eq_true hl)⟩
 .grind
 grind
variable(hm:MR ρ B s2.mem s.mem)(ht:TR ρ B s2.aI s.aI)(bX:ur ρ B s2.mem s2.slots s.slots)(hB:B<=nx)(fk:ρ nx=some p)(hinj:∀v v' u,ρ v=some u->ρ v'=some u->v=v')
include hm ht hB fk
omit ht in theorem nG.Bc{t:Ty}{l:List t.den}{els:List (List D)}{Q7 rd:List (Nat×Nat×Nat)}{tp2 tp:List (Nat×Bool)}(he:els=bf t l)(hr:aS ρ Q7 rd)(htp:TR ρ (nx+1) (dS s2.aI tp2) (dS s.aI tp))(hw:aS ρ (tp2.map λu=>jW u.1) (tp.map λu=>jW u.1)):nG ρ B (nx+1) s2 s {val:=.c (.sl t l (.app nx)),cV:=[],cD:=tp2,rd:=Q7} {val:=.own els (.cD p t.size),cV:=[],cD:=tp,rd:=rd}:=by subst he;exact⟨⟨by omega,.inr ⟨p,fk,rfl⟩⟩,hm.mono (by omega),htp,eZ.refl _ _,hr,by simpa[HE.wr,fH.wr]using hw⟩
theorem nG.ql{t:Ty}{l:List t.den}{els:List (List D)}{n lv sl:Nat}{ks:List (Nat×Nat)}{Q7 rd:List (Nat×Nat×Nat)}(he:els=bf t l)(hn:n=l.length)(hr:aS ρ Q7 rd):nG ρ B (nx+1) s2 s {val:=.c (.ref lv sl nx t),cV:=kf ks++[(lv,sl,some (.row nx t l))],cD:=[],rd:=Q7} {val:=.ref lv sl p 0 n t.size,cV:=dV s.mem ks++[(lv,sl,some (.row p els))],cD:=[],rd:=rd}:=by
 subst he hn;refine .gm hm ht (by omega) (eM (.inl hB)) (iN.append (eN ⟨by omega,p,fk,rfl⟩)) ⟨by omega,p,l.length,fk,rfl,λr' hr'=>?_⟩ hr;rw[oe]at hr';simp[fU]at hr';have:=cA hr';rw[jU]at this;split at this;.grind
 .have h1:=l7 (gv.2 this);obtain⟨e,_,hlt,_⟩:=hm.fN _ _ _ (cA h1)<;>omega
include hinj in theorem FJ{aag:Bool}{lv sl sz bytes:Nat}{x y:Cell}{a b:AV}{e:Option Ty}(h:N5 s2 aag lv sl nx sz bytes x y e K=some r)(hx:RC ρ B s2.mem x a)(hy:RC ρ B s2.mem y b):∃E e,dA s aag lv sl p sz bytes a b=some e/\nG ρ B (nx+1) s2 s E e/\K (.bW E)=some r:=by
 unfold N5 at h;have P6:=th hy;split at h
 .obtain⟨n,hn,h⟩:=kg hm h hy;split at h
  .rename_i hz;have hz:=Nat.eq_of_beq_eq_true hz;have q:=cg h;obtain⟨hr,h⟩:=q;have hr:=kZ hr;cases hx;split at h;.refine⟨_,_,?_,.Bc hm hB fk (l:=n.l) (els:=[]++bf n.t n.l) rfl P6 (ht.fresh hB fk) (aS.Bb fk aS.nil),h⟩;simp only[dA,<-hz,hn,gw,if_true,List.all_nil,List.length_nil,Nat.zero_add,aY];rw[if_pos ⟨trivial,hr.1,hr.2⟩]
   .refine⟨_,_,?_,.ql hm ht hB fk (ks:=[]) (els:=[]++bf n.t n.l) rfl rfl P6,h⟩;simp only[dA,<-hz,hn,gw,if_true,List.all_nil,List.length_nil,Nat.zero_add,aY];rw[if_pos ⟨trivial,hr.1,hr.2⟩];simp[dV]
  .cases h
 .rename_i t l;have q:=kg hm h hy;obtain⟨n,hn,h⟩:=q;split at h
  .rename_i news hz hc;have hz:=Nat.eq_of_beq_eq_true hz;obtain⟨hc,_⟩:=eO hc;rw[hc]at hn;have q:=cg h;obtain⟨hr,h⟩:=q;have hr:=kZ hr;cases hx;split at h;.refine⟨_,_,?_,.Bc hm hB fk (l:=l++news) (els:=bf t l++bf t news) (l6 ..).symm P6 (ht.fresh hB fk) (aS.Bb fk aS.nil),h⟩;simp only[dA,<-hz,hn,gw,if_true,aY];rw[if_pos ⟨trivial,hr.1,hr.2⟩]
   .obtain⟨hne,h⟩:=cg h;refine⟨_,_,?_,.ql hm ht hB fk (ks:=[]) (l:=l++news) (n:=l.length+news.length) (els:=bf t l++bf t news) (l6 ..).symm (by simp) P6,h⟩;simp only[dA,<-hz,hn,gw,if_true,aY];rw[if_pos ⟨trivial,hr.1,hr.2⟩,if_neg (by
    intro hc;have h1:l.isEmpty=false:=by simpa[bf]using hc.1
    have h2:news.isEmpty=true:=by simpa[bf]using hc.2
    rw[h1,h2]at hne;cases hne)];simp[dV]
  .cases h
 .rename_i t l v;have q:=kg hm h hy;obtain⟨n,hn,h⟩:=q;cases hz:Nat.beq t.size sz with|false=>simp[hz]at h|true=>cases hc:jq n.t t n.l with|none=>simp[hz,hc]at h|some news=>cases aag with|true=>simp[hz,hc]at h|false=>cases htip:s2.aI.get? v with|none=>simp[hz,hc,htip]at h|some un=>
  simp[hz,hc,htip]at h
  .have hz:=Nat.eq_of_beq_eq_true hz;obtain⟨hc,_⟩:=eO hc;rw[hc]at hn;have q:=cg h;obtain⟨hr,h⟩:=q;have hr:=kZ hr;rcases hx with⟨hv,⟨hu,rfl⟩|⟨u,hu,rfl⟩⟩;.refine⟨_,_,?_,.Bc hm hB fk (l:=l++news) (els:=bf t l++bf t news) (tp2:=[(v,false),(nx,true)]) (tp:=[(p,true)]) (l6 ..).symm P6.skip (TR.fresh (ht.adU v) hB fk) (aS.skip (aS.Bb fk aS.nil)),h⟩;simp only[dA,<-hz,hn,gw,if_true,aY];rw[if_pos ⟨trivial,hr.1,hr.2⟩]
   .refine⟨_,_,?_,.Bc hm hB fk (l:=l++news) (els:=bf t l++bf t news) (tp2:=[(v,false),(nx,true)]) (tp:=[(u,false),(p,true)]) (l6 ..).symm (aS.Bb hu P6) (TR.fresh (ht.drop hinj hu) hB fk) (aS.Bb hu (aS.Bb fk aS.nil)),h⟩;have:=(ht v htip).2 u hu;simp only[dA,<-hz,hn,gw,if_true,aY];rw[if_pos ⟨trivial,hr.1,hr.2,by rw[this];rfl⟩]
 .rename_i cL dU ah t;have q:=aA h;obtain⟨r',hr',h⟩:=q;have q:=kg hm h hy;obtain⟨n,hn,h⟩:=q;split at h;.rename_i l news hz hc1 hc;have hz:=Nat.eq_of_beq_eq_true hz;obtain⟨hc,_⟩:=eO hc;obtain⟨hc1,qO⟩:=eO hc1;rw[hc]at hn;have q:=cg h;obtain⟨hr,h⟩:=q;have hr:=kZ hr;obtain⟨hv,u,n',hu,rfl,hn'⟩:=hx;have hn':=hn' _ hr';rw[qO]at hn';subst hn';have hrow:=(iK hm hr' hu).2;rw[hc1]at hrow;refine⟨_,_,?_,.ql hm ht hB fk (ks:=[]) (l:=l++news) (n:=l.length+news.length) (els:=bf t l++bf t news) (l6 ..).symm (by simp) (aS.js cL dU P6),h⟩;simp only[dA,<-hz,hn,gw,if_true,hrow,aY];rw[if_pos ⟨trivial,by omega,hr.1,hr.2⟩];simp[dV,List.take_of_length_le,aY]
  .cases h
 .rename_i cL dU ah t off len;have q:=aA h;obtain⟨r',hr',h⟩:=q;have q:=kg hm h hy;obtain⟨n,hn,h⟩:=q;split at h;.rename_i l news hz hc1 hc;have hz:=Nat.eq_of_beq_eq_true hz;obtain⟨hc,_⟩:=eO hc;obtain⟨hc1,qO⟩:=eO hc1;rw[hc]at hn;have q:=cg h;obtain⟨hr,h⟩:=q;rw[Bool.and_eq_true]at hr;have hl:=of_decide_eq_true hr.1;have hr:=kZ hr.2;obtain⟨hv,u,hu,rfl,_⟩:=hx;have hrow:=(iK hm hr' hu).2;rw[hc1]at hrow;refine⟨_,_,?_,.ql hm ht hB fk (ks:=[]) (l:=(l.drop off).take len++news) (n:=len+news.length) (els:=((bf t l).drop off).take len++bf t news) (by simp[bf,List.map_take,List.map_drop]) (by simp;omega) (aS.js cL dU P6),h⟩;simp only[dA,<-hz,hn,gw,if_true,hrow,aY];rw[if_pos ⟨trivial,hl,hr.1,hr.2⟩];simp[dV]
  .cases h
 .cases h
theorem VV{sz:Nat}{x:Cell}{a:AV}{lo hi:Option Nat}(h:Z7 s2.mem sz nx x lo hi K=some r)(hx:RC ρ B s2.mem x a)(l h':Nat)(hl:l=lo.getD 0)(hh:∀n,hi=some n->h'=n):∃E e,GS s p sz a l (hi.map λ_=>h')=some e/\nG ρ B (nx+1) s2 s E e/\K (.bW E)=some r:=by
 have ehi:hi.map (λ_=>h')=hi:=by cases hi with|none=>rfl|some n=>grind
 rw[ehi];subst hl;unfold Z7 at h;split at h
 .rename_i lv sl ah t;have q:=aA h;obtain⟨r',hr',h⟩:=q;split at h
  .rename_i l' hz hc1;have hz:=Nat.eq_of_beq_eq_true hz;obtain⟨hc1,qO⟩:=eO hc1;have q:=cg h;obtain⟨hp,h⟩:=q;have hp':=iM hp;obtain⟨hv,u,n',hu,rfl,hn'⟩:=hx;have hn':=hn' _ hr';rw[qO]at hn';subst hn';have hrow:=(iK hm hr' hu).2;rw[hc1]at hrow;have he:=xh (t:=t) hp;rw[aY]at he;refine⟨_,_,?_,.ql hm ht hB fk (ks:=[]) (l:=n9 l' lo hi) (n:=hi.getD l'.length-lo.getD 0) (els:=((bf t l').drop (lo.getD 0)).take (hi.getD l'.length-lo.getD 0)) he.symm ?_ (aS.js lv sl aS.nil),h⟩;.simp only[GS,hrow,<-hz];rw[if_pos ⟨trivial,hp'.1,hp'.2,by rw[aY];omega⟩];simp[dV]
   .rw[Ba hp,List.length_take,List.length_drop];omega
  grind
 grind
omit hm ht hB fk in theorem RC.isRow{m:List (Tr E2)}{c:Cell}{a:AV}(h:RC ρ B m c a):bJ.isRow a=c.isRow:=by cases c with
 |nil f=>cases f with|false=>rcases h with rfl|⟨_,_,rfl⟩<;>rfl|true=>cases h;rfl
 |sl t l o=>cases o with|d=>rcases h with rfl|⟨_,_,rfl⟩<;>rfl|bC=>rcases h with rfl|⟨_,rfl⟩<;>rfl|full=>cases h;rfl|app v=>rcases h.2with⟨_,rfl⟩|⟨_,_,rfl⟩<;>rfl
 |ref=>obtain⟨_,_,_,_,rfl,_⟩:=h;rfl|jx=>obtain⟨_,_,_,rfl,_⟩:=h;rfl|ptr=>obtain⟨_,_,_,rfl⟩:=h;rfl|fe=>obtain⟨_,_,_,rfl⟩:=h;rfl|mp=>obtain⟨_,_,_,rfl⟩:=h;rfl|int=>cases h;rfl|bool=>cases h;rfl|er=>cases h;rfl|str=>cases h;rfl|raw=>cases h;rfl|fK=>cases h;rfl
include bX in theorem Ky{sz:Nat}{x:bT}{lo hi mx:Option bT}(h:cQ E wk ctx s2 row dst nx (.slice sz x lo hi mx) K=some r):dI ρ B (nx+1) s2 s (.slice sz x lo hi mx) row dst p K r:=by
 have q:=cu h;obtain⟨c,hx,h⟩:=q;have q:=pJ bX h;obtain⟨l,el,il,h⟩:=q;have q:=pJ bX h;obtain⟨h',eh,ih,h⟩:=q;have q:=pJ bX h;obtain⟨k,ek,ik,h⟩:=q;have e1:hi.map (λ_=>h'.getD 0)=h'.map λ_=>h'.getD 0:=by cases hi<;>cases h'<;>simp_all
 have e2:mx.map (λ_=>k.getD 0)=k.map λ_=>k.getD 0:=by cases mx<;>cases k<;>simp_all
 have hir:=RC.isRow (aW bX hx);split at h;.rename_i hq;rw[<-hir]at hq;obtain⟨E',e,g1,g2,g3⟩:=VV hm ht hB fk h (aW bX hx) (l.getD 0) (h'.getD 0) rfl (λn e=>by rw[e];rfl);exact⟨E',e,λ_ _=>by simp only[cj.run,el,eh,ek,hq,e1,g1,Option.map_some],g2,g3⟩
 .rename_i hq;rw[<-hir]at hq;obtain⟨a',c',g1,g2,g3⟩:=Od h (aW bX hx) (l.getD 0) (h'.getD 0) (k.getD 0) rfl (λn e=>by rw[e];rfl) (λn e=>by rw[e];rfl);refine .pure hm ht (by omega) (a:=a') (λ_ _=>?_) (v:=.c c') g2 g3;simp[cj.run,el,eh,ek,hq,e1,e2,g1,Option.bind_some]
include hinj bX in theorem H7{sz bytes:Nat}{x y:bT}(h:cQ E wk ctx s2 row dst nx (.append sz bytes x y) K=some r):dI ρ B (nx+1) s2 s (.append sz bytes x y) row dst p K r:=by have q:=cu h;obtain⟨a,ha,h⟩:=q;have q:=cu h;obtain⟨b,hb,h⟩:=q;rw[hm.len]at h;obtain⟨E',e,h1,h2,h3⟩:=FJ hm ht hB fk hinj h (aW bX ha) (aW bX hb);exact⟨E',e,λ_ _=>by simp only[cj.run,h1,Option.map_some],h2,h3⟩
include hinj bX in theorem FK{sz bytes:Nat}{z:List D}{x n:bT}(h:cQ E wk ctx s2 row dst nx (.nY sz bytes z x n) K=some r):dI ρ B (nx+1) s2 s (.nY sz bytes z x n) row dst p K r:=by
 have q:=cu h;obtain⟨a,ha,h⟩:=q;have q:=kY h;obtain⟨kl,l',hl,hl0,h⟩:=q;have q:=aA h;obtain⟨t,_,h⟩:=q;have q:=aA h;obtain⟨z',JW,h⟩:=q;obtain⟨zc,hz1,hz2⟩:=aR JW;have hze:=pH hz2 (pI hz1);split at h;.rename_i hb;simp only[Bool.and_eq_true]at hb;have h2:=Nat.eq_of_beq_eq_true hb.2;have q:=cg h;obtain⟨hr,h⟩:=q;have hr:=kZ hr;rw[hm.len]at h;have hb:RC ρ B s2.mem (.sl t (List.replicate l'.toNat z') .d) (.d (.sl (List.replicate l'.toNat z))):=.inl (by simp[bf,hze]);obtain⟨E',e,h3,h4,h5⟩:=FJ hm ht hB fk hinj h (aW bX ha) hb;exact⟨E',e,λ_ _=>by simp only[cj.run,iL (aW bX hl) hl0,Option.bind_some];rw[if_pos ⟨h2,hr.1,hr.2⟩,h3,Option.map_some],h4,h5⟩
 grind
include hinj bX in theorem KA{sz bytes:Nat}{x:bT}(h:cQ E wk ctx s2 row dst nx (.clone sz bytes x) K=some r):dI ρ B (nx+1) s2 s (.clone sz bytes x) row dst p K r:=by
 have q:=cu h;obtain⟨b,hb,h⟩:=q;have hb:=aW bX hb;split at h;.cases h
 .rename_i hne;rw[hm.len]at h;have he:∃els,dc s.mem (x.ev s.slots)=some els:=by unfold N5 at h;exact DW hm h hb (λb' e=>hne b' e)
  obtain⟨els,he⟩:=he;obtain⟨E',e,h1,h2,h3⟩:=FJ hm ht hB fk hinj h (show RC ρ B s2.mem (.nil true) (.own [] .full)from rfl) hb;exact⟨E',e,λ_ _=>by simp only[cj.run,he,h1,Option.map_some],h2,h3⟩
omit fk hm ht hB in theorem DX{t:Ty}:∀l:List t.den,aC (RC ρ B s2.mem) (l.flatMap (iI t)) (((l.map (eY t)).flatten).map .d)|[]=>trivial|x::l=>by simp only[List.flatMap_cons,List.map_cons,List.flatten_cons,List.map_append];exact(kX t x).append (DX l)
omit fk in include bX in theorem Om{sz:Nat}{x y:bT}(h:cQ E wk ctx s2 row dst nx (.copy sz x y) K=some r):dI ρ B (nx+1) s2 s (.copy sz x y) row dst p K r:=by
 have q:=cu h;clear h;obtain⟨a,ha,h⟩:=q;have q:=cu h;clear h;obtain⟨b,hb,h⟩:=q;have ha:=aW bX ha;have hb:=aW bX hb;have P6:=th hb;split at h
 .rename_i lv sl ah t _;have q:=aA h;obtain⟨r',hr',h⟩:=q;have q:=kg hm h hb;obtain⟨n,hn,h⟩:=q;split at h;.rename_i l news hz hc1 hc;have hz:=Nat.eq_of_beq_eq_true hz;obtain⟨hc,_⟩:=eO hc;obtain⟨hc1,qO⟩:=eO hc1;rw[hc]at hn;obtain⟨hv,u,n',hu,ea,hn'⟩:=ha;have hn':=hn' _ hr';rw[qO]at hn';subst hn';have hrow:=(iK hm hr' hu).2;rw[hc1]at hrow;have hst:eZ B s2.mem (fU s2.mem [(lv,sl,some (.row ah t (HF news l)))]):=eM (ks:=[]) (.inr ⟨_,hr',by simp[HF,qO];omega⟩);refine⟨_,_,λ_ _=>?_,.gm hm ht (by omega) hst (eN (e:=.row u (bf t (HF news l))) ⟨by omega,u,hu,rfl⟩) (v:=.c (.int .i64 ((min news.length l.length:Nat):Int))) (a:=oW (min news.length l.length)) (show _=_ from rfl) (aS.js lv sl P6),h⟩;simp[cj.run,<-hz,ea,hn,hrow,gw,aY];simp[HF,bJ.splice,bf,List.map_take,List.map_drop]
  grind
 .rename_i lv sl ah t off len _;have q:=aA h;obtain⟨r',hr',h⟩:=q;have q:=kg hm h hb;obtain⟨n,hn,h⟩:=q;split at h;.rename_i l news hz hc1 hc;have hz:=Nat.eq_of_beq_eq_true hz;obtain⟨hc,_⟩:=eO hc;obtain⟨hc1,qO⟩:=eO hc1;rw[hc]at hn;have q:=cg h;obtain⟨hl,h⟩:=q;have hl:=of_decide_eq_true hl;obtain⟨hv,u,hu,ea⟩:=ha;have hrow:=(iK hm hr' hu).2;rw[hc1]at hrow;have hst:eZ B s2.mem (fU s2.mem [(lv,sl,some (.row ah t (l.take off++(news.take (min news.length len)++l.drop (off+(news.take (min news.length len)).length)))))]):=eM (ks:=[]) (.inr ⟨_,hr',by simp[qO];omega⟩);refine⟨_,_,λ_ _=>?_,.gm hm ht (by omega) hst (eN (e:=.row u (bf t (l.take off++(news.take (min news.length len)++l.drop (off+(news.take (min news.length len)).length))))) ⟨by omega,u,hu,rfl⟩) (v:=.c (.int .i64 ((min news.length len:Nat):Int))) (a:=oW (min news.length len)) (show _=_ from rfl) (aS.js lv sl P6),h⟩;simp only[cj.run,<-hz,ea,hn,hrow,gw,aY];rw[if_pos ⟨trivial,hl,trivial⟩];simp[bJ.splice,bf,List.map_take,List.map_drop]
  grind
 .rename_i lv sl ah off n sz' _;obtain⟨CK,u,hu,ea⟩:=ha;split at h
  .rename_i v cs he;have q:=kg hm h hb;clear h;obtain⟨nw,hn,h⟩:=q;split at h
   .rename_i hq;simp only[Bool.and_eq_true]at hq;obtain⟨⟨⟨hv1,hz1⟩,hl⟩,hz⟩:=hq;have hv1:=Nat.eq_of_beq_eq_true hv1;have hz1:=Nat.eq_of_beq_eq_true hz1;have hl:=Nat.le_of_ble_eq_true hl;have hz:=Nat.eq_of_beq_eq_true hz;subst hv1 hz1;obtain⟨e,g1,_,u',bs,g2,rfl,g3⟩:=hm.fN _ _ _ he;rw[hu]at g2;cases g2;have hst:eZ B s2.mem (fU s2.mem [(lv,sl,some (.box v (bJ.splice cs off ((nw.l.take (min nw.l.length n)).flatMap (iI nw.t)))))]):=eM (ks:=[]) (e:=.box _ _) trivial;have hcells:aC (RC ρ B s2.mem) ((nw.l.take (min nw.l.length n)).flatMap (iI nw.t)) ((((bf nw.t nw.l).take (min (bf nw.t nw.l).length n)).flatten).map .d):=by rw[aY];unfold bf;rw[<-List.map_take];exact DX _
    refine⟨_,_,λ_ _=>?_,.gm hm ht (B':=nx+1) (by omega) hst (eN (e:=.box u (bJ.splice bs off ((((bf nw.t nw.l).take (min (bf nw.t nw.l).length n)).flatten).map .d))) ⟨by omega,u,_,hu,rfl,(xg g3 hcells off).mono λ_ _=>RC.move hst (by omega) λ_ _=>rfl⟩) (v:=.c (.int .i64 ((min nw.l.length n:Nat):Int))) (a:=oW (min nw.l.length n)) (show _=_ from rfl) (aS.js lv sl P6),h⟩;have ai8:bJ.nZ s.mem lv sl u=some bs:=by simp[bJ.nZ,g1,rR]
    simp only[cj.run,ea,hn,ai8];rw[if_pos ⟨trivial,by rw[<-g3.length];exact hl,by rw[<-hz];exact gw _ _⟩,aY]
   grind
  grind
 grind
include bX in theorem Bd{sz bytes:Nat}{z:List D}{l c:bT}(h:cQ E wk ctx s2 row dst nx (.makeSlice sz bytes z l c) K=some r):dI ρ B (nx+1) s2 s (.makeSlice sz bytes z l c) row dst p K r:=by
 simp[cQ]at h;have q:=kY h;clear h;obtain⟨kl,l',hl,hl0,h⟩:=q;have q:=kY h;clear h;obtain⟨kc,c',hc,hc0,h⟩:=q;have q:=aA h;clear h;obtain⟨t,_,h⟩:=q;have q:=aA h;clear h;obtain⟨z',JW,h⟩:=q;obtain⟨zc,hz1,hz2⟩:=aR JW;have hze:=pH hz2 (pI hz1);split at h;.rename_i hb;simp only[Bool.and_eq_true]at hb;have h1:=Nat.eq_of_beq_eq_true hb.1;have h2:=Nat.eq_of_beq_eq_true hb.2;subst h1;have q:=cg h;obtain⟨hr,h⟩:=q;rw[Bool.and_eq_true]at hr;have hle:=of_decide_eq_true hr.1;have hr:=kZ hr.2;rw[hm.len]at h;refine⟨_,_,λ_ _=>?_,.ql hm ht hB fk (ks:=[]) (l:=List.replicate l'.toNat z') (n:=l'.toNat) (els:=List.replicate l'.toNat z) (by simp[bf,hze]) (by simp) aS.nil,h⟩;simp only[cj.run,iL (aW bX hl) hl0,iL (aW bX hc) hc0];rw[if_pos ⟨hle,by rw[Nat.mul_comm];exact hr.2,hr.1,h2⟩];simp[dV]
 grind
omit fk in include bX in theorem KB{sz:Nat}{z:List D}{x:bT}(h:cQ E wk ctx s2 row dst nx (.clear sz z x) K=some r):dI ρ B (nx+1) s2 s (.clear sz z x) row dst p K r:=by
 have q:=cu h;obtain⟨a,ha,h⟩:=q;have ha:=aW bX ha;split at h
 .rename_i lv sl ah t _;have q:=aA h;obtain⟨r',hr',h⟩:=q;have q:=aA h;obtain⟨z',JW,h⟩:=q;obtain⟨zc,hz1,hz2⟩:=aR JW;have hze:=pH hz2 (pI hz1);split at h;.rename_i l hb hc1;simp only[Bool.and_eq_true]at hb;have h1:=Nat.eq_of_beq_eq_true hb.1;have h2:=Nat.eq_of_beq_eq_true hb.2;obtain⟨hc1,qO⟩:=eO hc1;obtain⟨hv,u,n',hu,ea,hn'⟩:=ha;have hn':=hn' _ hr';rw[qO]at hn';subst hn';have hrow:=(iK hm hr' hu).2;rw[hc1]at hrow;have hst:eZ B s2.mem (fU s2.mem [(lv,sl,some (.row ah t (List.replicate l.length z')))]):=eM (ks:=[]) (.inr ⟨_,hr',by simp[qO]⟩);refine⟨_,_,λ_ _=>?_,.gm hm ht (by omega) hst (eN (e:=.row u (bf t (List.replicate l.length z'))) ⟨by omega,u,hu,rfl⟩) l8 (aS.js lv sl aS.nil),h⟩;simp only[cj.run,<-h1,ea,hrow,aY];rw[if_pos ⟨trivial,by omega,by rw[h2,h1]⟩];simp[bJ.splice,bf,hze]
  grind
 .rename_i lv sl ah t off len _;have q:=aA h;obtain⟨r',hr',h⟩:=q;have q:=aA h;obtain⟨z',JW,h⟩:=q;obtain⟨zc,hz1,hz2⟩:=aR JW;have hze:=pH hz2 (pI hz1);split at h;.rename_i l hb hc1;simp only[Bool.and_eq_true]at hb;have h1:=Nat.eq_of_beq_eq_true hb.1;have h2:=Nat.eq_of_beq_eq_true hb.2;obtain⟨hc1,qO⟩:=eO hc1;have q:=cg h;obtain⟨hd,h⟩:=q;have hd:=of_decide_eq_true hd;obtain⟨hv,u,hu,ea,_⟩:=ha;have hrow:=(iK hm hr' hu).2;rw[hc1]at hrow;have hst:eZ B s2.mem (fU s2.mem [(lv,sl,some (.row ah t (l.take off++List.replicate len z'++l.drop (off+len))))]):=eM (ks:=[]) (.inr ⟨_,hr',by simp[qO];omega⟩);refine⟨_,_,λ_ _=>?_,.gm hm ht (by omega) hst (eN (e:=.row u (bf t (l.take off++List.replicate len z'++l.drop (off+len)))) ⟨by omega,u,hu,rfl⟩) l8 (aS.js lv sl aS.nil),h⟩;simp only[cj.run,<-h1,ea,hrow,aY];rw[if_pos ⟨trivial,hd,by rw[h2,h1]⟩];simp[bJ.splice,bf,hze,List.map_take,List.map_drop]
  grind
 grind
omit hm ht hB fk in theorem qm:∀l:List Int,rj (iB l)=some l|[]=>rfl|z::l=>by show(rj (iB l)).map (z::·)=_;rw[qm l];rfl
omit hm ht hB fk in theorem RV.isRow{m:List (Tr E2)}{v:V2}{a:AV}(h:RV ρ B m v a):bJ.isRow a=v.isRow:=by cases v with|c c=>exact RC.isRow h|agg=>obtain⟨_,rfl,_⟩:=h;rfl|gp=>obtain⟨_,rfl,_⟩:=h;rfl|iY=>obtain⟨_,rfl,_⟩:=h;rfl
omit hm ht hB fk in theorem On{m:List (Tr E2)}{row lv d aO:Nat}{v:V2}{a:AV}(h:RV ρ B m v a)(h1:∀f,v≠.c (.nil f))(h2:∀t l o,v≠.c (.sl t l o)):zo row lv d aO a={val:=a,cV:=[],cD:=[],rd:=[]}:=by
 unfold zo;split;.cases v with
  |c x=>cases x with|nil f=>grind|sl t l o=>grind|ref=>obtain⟨_,_,_,_,e,_⟩:=h<;>grind|jx=>obtain⟨_,_,_,e,_⟩:=h<;>grind|ptr=>obtain⟨_,_,_,e⟩:=h<;>grind|fe=>obtain⟨_,_,_,e⟩:=h<;>grind|mp=>obtain⟨_,_,_,e⟩:=h<;>grind|int=>cases h|bool=>cases h|er=>cases h|str=>cases h|raw=>cases h|fK=>cases h
  |agg=>obtain⟨_,e,_⟩:=h<;>grind|gp=>obtain⟨_,e,_⟩:=h<;>grind|iY=>obtain⟨_,e,_⟩:=h<;>grind
 .rfl
include bX in theorem Rg{x:bT}(h:cQ E wk ctx s2 row dst nx (.GM x) K=some r):dI ρ B (nx+1) s2 s (.GM x) row dst p K r:=by
 have q:=aA h;obtain⟨v,hv,h⟩:=q;have hv:=aW bX hv;have hir:=RV.isRow hv;split at h
 .rename_i hq;rw[<-hir]at hq;split at h
  .rename_i lv sl ah t _;have q:=aA h;obtain⟨r',hr',h⟩:=q;have q:=aA h;obtain⟨l,hl,h⟩:=q;obtain⟨hc1,qO⟩:=eO hl;obtain⟨CK,u,n',hu,ea,hn'⟩:=hv;have hn':=hn' _ hr';rw[qO]at hn';subst hn';have hrow:=(iK hm hr' hu).2;rw[hc1]at hrow;rw[hm.len]at h;have hst:eZ B s2.mem (fU s2.mem [(lv,sl,none),(s.mem.length-1,dst,some (.row nx t l))]):=eM (ks:=[(lv,sl)]) (e:=.row nx t l) (.inl hB);refine⟨_,_,λ_ _=>?_,.gm hm ht (B':=nx+1) (FG:=[(lv,sl,none),(s.mem.length-1,dst,some (.row nx t l))]) (us:=[(lv,sl,none),(s.mem.length-1,dst,some (.row p (bf t l)))]) (by omega) hst ⟨⟨rfl,rfl,λ_ h=>by cases h⟩,eN ⟨Nat.lt_succ_self _,p,fk,rfl⟩⟩ (v:=.c (.ref (s.mem.length-1) dst nx t)) (a:=.ref (s.mem.length-1) dst p 0 l.length t.size) (show RC _ _ _ (.ref (s.mem.length-1) dst nx t) _ from⟨Nat.lt_succ_self _,p,l.length,fk,rfl,λr hr=>?_⟩) (aS.js lv sl aS.nil),h⟩;.rw[ea]at hq;simp only[cj.run,hq,ea,GU,hrow,Nat.zero_add,aY,List.drop_zero];rw[show Nat.ble l.length l.length=true from Nat.ble_eq_true_of_le (Nat.le_refl _),<-aY (t:=t) (l:=l),List.take_length];simp[aY]
   .have this:=cA hr;simp[fU]at this;rw[jU]at this;split at this;.injection this with this;injection this with _ h1 h2;obtain⟨t',l'⟩:=r;simp only at h1 h2;subst h1;cases h2;rfl
    .have h1:=qR (gv.2 this);obtain⟨e,_,hlt,_⟩:=hm.fN _ _ _ (cA h1);omega
  grind
 rename_i hq;rw[<-hir]at hq;split at h;.rename_i hq4;refine .pure hm ht (by omega) (λ_ _=>?_) hv h;simp[cj.run,hq,zo,hq4];rfl
 .rename_i hq4;split at h
  .have e:x.ev s.slots=.own [] .full:=hv;have q:=aA h;obtain⟨t,_,h⟩:=q;split at h;.rename_i hsz;have hsz:=Nat.eq_of_beq_eq_true hsz;rw[hm.len]at h;refine⟨_,_,λ_ _=>?_,.ql hm ht hB fk (ks:=[]) (l:=([]:List t.den)) (n:=0) (els:=[]) rfl rfl aS.nil,h⟩;rw[e]at hq;simp[cj.run,zo,hq,hq4,e,hsz];rfl
   grind
  .cases h
  .cases h
  .rename_i h1 h2 h3;refine .pure hm ht (by omega) (λ_ _=>?_) hv h;simp[cj.run,hq];rw[On hv (λf hf=>h2 f hf) (λt l o hf=>h3 t l o hf)];rfl
include bX in theorem FL{x:bT}(h:cQ E wk ctx s2 row dst nx (.compact x) K=some r):dI ρ B (nx+1) s2 s (.compact x) row dst p K r:=by
 have q:=cu h;obtain⟨a,ha,h⟩:=q;have ha:=aW bX ha;split at h;.have e:x.ev s.slots=.own [] .full:=ha;refine .pure hm ht (by omega) (a:=.own [] .full) (λ_ _=>?_) (v:=.c (.nil true)) rfl h;simp[cj.run,lV,e,Option.map_some];rfl
 .rename_i lv sl ah t _;have q:=aA h;obtain⟨r',hr',h⟩:=q;split at h;.rename_i l hb hc1;have h1:=Nat.eq_of_beq_eq_true hb;obtain⟨hc1,qO⟩:=eO hc1;have q:=cg h;obtain⟨hd,h⟩:=q;obtain⟨hv,u,n',hu,ea,hn'⟩:=ha;have hn':=hn' _ hr';rw[qO]at hn';subst hn';have hrow:=(iK hm hr' hu).2;rw[hc1]at hrow;refine⟨_,_,λ_ _=>?_,.ql hm ht hB fk (ks:=[]) (t:=.int .i64) (l:=jo l) (n:=(jo l).length) (els:=bf (.int .i64) (jo l)) rfl rfl (aS.js lv sl aS.nil),h⟩;have he:bf (.int .i64) l=iB l:=rfl;simp only[cj.run,lV,ea,hrow,he,qm,Option.bind_some,h1];rw[if_pos ⟨trivial,by simp[iB],trivial,by simpa[iB]using hd⟩];rfl
  grind
 grind
omit fk in include bX in theorem Oo{x:bT}(h:cQ E wk ctx s2 row dst nx (.sort x) K=some r):dI ρ B (nx+1) s2 s (.sort x) row dst p K r:=by
 have q:=cu h;obtain⟨a,ha,h⟩:=q;have ha:=aW bX ha;split at h;.have e:x.ev s.slots=.own [] .full:=ha;exact⟨_,_,λ_ _=>by simp only[cj.run,xZ,e,Option.map_some],.gm (FG:=[]) (us:=[]) hm ht (by omega) (eZ.refl _ _) trivial l8 aS.nil,h⟩
 .rename_i lv sl ah t _;have q:=aA h;obtain⟨r',hr',h⟩:=q;split at h;.rename_i l hb hc1;have h1:=Nat.eq_of_beq_eq_true hb;obtain⟨hc1,qO⟩:=eO hc1;have q:=cg h;obtain⟨hd,h⟩:=q;obtain⟨hv,u,n',hu,ea,hn'⟩:=ha;have hn':=hn' _ hr';rw[qO]at hn';subst hn';have hrow:=(iK hm hr' hu).2;rw[hc1]at hrow;have hst:eZ B s2.mem (fU s2.mem [(lv,sl,some (.row ah (.int .i64) (jm l)))]):=eM (ks:=[]) (.inr ⟨_,hr',by rw[qO];exact(mT l).symm⟩);refine⟨_,_,λ_ _=>?_,.gm hm ht (by omega) hst (eN (e:=.row u (bf (.int .i64) (jm l))) ⟨by omega,u,hu,rfl⟩) l8 (aS.js lv sl aS.nil),h⟩;have he:bf (.int .i64) l=iB l:=rfl;simp only[cj.run,xZ,ea,hrow,he,qm,Option.bind_some,h1];rw[if_pos ⟨trivial,by simp[iB],trivial,by simpa[iB]using hd⟩];rfl
  grind
 grind
include bX in theorem Oq{sz:Nat}{x n:bT}(h:cQ E wk ctx s2 row dst nx (.grow sz x n) K=some r):dI ρ B (nx+1) s2 s (.grow sz x n) row dst p K r:=by
 have q:=cu h;obtain⟨a,ha,h⟩:=q;have q:=kY h;clear h;obtain⟨kn,n',hn,hn0,h⟩:=q;have ha:=aW bX ha;split at h
 .rename_i t hty _;split at h;.rename_i hz;have hz:=Nat.eq_of_beq_eq_true hz;have ea:x.ev s.slots=_:=ha;refine⟨_,_,λ_ _=>?_,.Bc hm hB fk (l:=([]:List t.den)) (els:=[]) rfl aS.nil (ht.fresh hB fk) (aS.Bb fk aS.nil),h⟩;simp[cj.run,ea,iL (aW bX hn) hn0,hz]
  grind
 grind
omit ht hB fk in include bX in theorem H8{sz:Nat}:∀{ps:List (Nat×bT)}{wU MG:List (List Cell)}{els:List (List D)}{ks:List (Nat×Nat)},AO s2 sz wU ps=some (MG,ks)->aC (λc d=>cc c=some d) wU els->∃els',oY s.mem s.slots sz els ps=some (els',ks)/\aC (λc d=>cc c=some d) MG els'
 |[],wU,MG,els,ks,h,ha=>by cases h;exact⟨els,rfl,ha⟩|(i,x)::ps,wU,MG,els,ks,h,ha=>by
  simp[AO]at h;split at h
  .rename_i e k hn;obtain⟨cs,h1,h2⟩:=aR hn;obtain⟨v,hv,h3⟩:=aR h1;obtain⟨aL,g1,g2⟩:=vH h3 (aW bX hv);obtain⟨ds,g3,g4⟩:=Kr hm h2 g2;split at h
   .rename_i hb;rw[Bool.and_eq_true]at hb;have hz:=Nat.eq_of_beq_eq_true hb.1;have hi:i<wU.length:=by simp_all
    split at h
    .rename_i els' ks' h4;cases h;have ha':aC (λc d=>cc c=some d) (wU.set i e) (els.set i ds):=by
      refine .tX (by simp[ha.length]) λj c d hc hd=>?_;rw[List.getElem?_set]at hc hd;by_cases hij:i=j;.grind
      .rw[if_neg hij]at hc hd;obtain⟨d',g5,g6⟩:=ha.get j c hc<;>grind
     obtain⟨ZL,g5,g6⟩:=H8 h4 ha';refine⟨ZL,?_,g6⟩;simp only[oY,C7,g1,Option.bind_some,g3];rw[if_pos ⟨by rw[oQ g4];exact hz,by rw[<-ha.length];exact hi⟩,g5]
    grind
   grind
  grind
omit hm ht hB fk in theorem xj{t:Ty}:∀{wU:List (List Cell)}{els:List (List D)}{l:List t.den},AP t wU=some l->aC (λc d=>cc c=some d) wU els->els=bf t l
 |[],[],l,h,_=>by cases h;rfl|c::r,d::ds,l,h,ha=>by
  simp[AP]at h;split at h;.rename_i x xs h1 h2;cases h;rw[pH h1 ha.1,xj h2 ha.2];rfl
  grind|[],_::_,_,_,h=>h.elim|_::_,[],_,_,h=>h.elim
omit hm ht hB fk in theorem rW{β γ:Type}{R:β->γ->Prop}{x:β}{y:γ}(h:R x y):∀n,aC R (List.replicate n x) (List.replicate n y)|0=>trivial|n+1=>⟨h,rW h n⟩
include bX in theorem zz{sz n:Nat}{z:List D}{ps:List (Nat×bT)}(h:cQ E wk ctx s2 row dst nx (.buildSlice sz n z ps) K=some r):dI ρ B (nx+1) s2 s (.buildSlice sz n z ps) row dst p K r:=by simp[cQ]at h;cases hr2:Nat.beq row 2with|true=>
  rw[hr2]at h;simp at h;split at h;.cases h
  rename_i hn;obtain⟨cs,hcs,h⟩:=aA h;obtain⟨zc,Vn,hcs⟩:=aR hcs;have tZ:∀k:Nat,aC (RC ρ B s2.mem) (List.replicate k zc).flatten ((List.replicate k z).flatten.map .d):=by intro k;induction k with|zero=>trivial|succ k ih=>simp only[List.replicate_succ,List.flatten_cons,List.map_append];exact(HR Vn).append ih
  obtain⟨aL,g1,g2⟩:=A7 bX hcs (tZ n);have hst:eZ B s2.mem (fU s2.mem [(s2.mem.length-1,dst,some (.box nx cs))]):=eM (ks:=[]) (e:=.box nx cs) trivial;refine⟨_,_,λ_ _=>?_,.gm hm ht (B':=nx+1) (by omega) hst (eN (e:=.box p aL) ⟨by omega,p,aL,fk,rfl,g2.mono λ_ _=>RC.move hst (by omega) λ_ _=>rfl⟩) (v:=.c (.fe (s2.mem.length-1) dst nx 0 n sz)) (a:=.fe (s2.mem.length-1) dst p 0 n sz) ⟨by omega,p,fk,rfl⟩ aS.nil,h⟩;simp only[cj.run,hr2,hn,g1,hm.len,Option.map_some]|false=>
 rw[hr2]at h;have q:=aA h;obtain⟨t,_,h⟩:=q;have q:=aA h;obtain⟨zc,Vn,h⟩:=q;have q:=aA h;obtain⟨⟨wU,ks⟩,hf,h⟩:=q;obtain⟨els,g1,g2⟩:=H8 hm bX hf (rW (R:=λc d=>cc c=some d) (pI Vn) n);split at h
 .rename_i l hz hp;have hz:=Nat.eq_of_beq_eq_true hz;have he:=xj hp g2;have hlen:n=l.length:=by
   have h1:=g2.length;have h2:∀{ps:List (Nat×bT)}{a b:List (List Cell)}{ks:List (Nat×Nat)},AO s2 sz a ps=some (b,ks)->b.length=a.length:=by intro ps;induction ps with|nil=>intro a b ks h;simp[AO,Option.some.injEq,Prod.mk.injEq]at h;rw[h.1]|cons q ps ih=>intro a b ks h;simp[AO]at h<;>grind
   have:=h2 hf;simp at this;rw[<-this,h1,he,aY]
  split at h;.rename_i hrow;refine⟨_,_,λ_ _=>?_,.gm hm ht (by omega) (qk (ks:=ks)) (iN (m:=s.mem)) (v:=.c (.sl t l .full)) (a:=.own els .full) (show _=_ by rw[he]) (aS.iE ks),h⟩;simp[cj.run,hr2,g1,hrow]
  .rename_i hrow;split at h;.cases h
   .rename_i hk;rw[hm.len]at h hk;refine⟨_,_,λ_ _=>?_,.ql hm ht hB fk (ks:=ks) (l:=l) (n:=n) (els:=els) he hlen (aS.iE ks),h⟩;simp only[cj.run,hr2,g1,hrow];rw[if_neg (vJ hk),hz]
 grind
end
end Go.Sym
