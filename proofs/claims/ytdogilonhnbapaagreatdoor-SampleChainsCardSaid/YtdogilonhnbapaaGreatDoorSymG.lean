/- The machine over typed data: slices that are made and that grow. -/
import Derived.Test.YtdogilonhnbapaaGreatDoorSymF
set_option linter.unusedVariables false
set_option linter.unusedSimpArgs false
namespace Go.Sym
open Go Go.bI
section
variable{α:Type}{ρ:aZ}{B B':Nat}{s2:S2}{s:St}{op:cq}{row dst p nx:Nat}{K:gC->Option α}{r:α}{E:aq}{wk:Wk}{ctx:Nat}
theorem TR.fresh{t2 t:Tr Unit}(h:TR ρ B t2 t)(hB:B<=nx)(fI:ρ nx=some p):TR ρ (nx+1) (dR t2 [(nx,true)]) (dR t [(p,true)]):=by
 intro v hv;simp[dR,if_true]at hv⊢;rw[Tr.cz]at hv;split at hv;.simp_all;rw[Tr.cz,if_pos rfl]
 .obtain⟨h1,h2⟩:=h v hv;refine⟨by omega,λu hu=>?_⟩;rw[Tr.cz]<;>grind
theorem TR.ag3{t2 t:Tr Unit}(h:TR ρ B t2 t)(v:Nat):TR ρ B (t2.set v none) t:=by
 intro v' hv;rw[Tr.cz]at hv;split at hv;.cases hv
 .exact h v' hv
theorem TR.drop{t2 t:Tr Unit}(h:TR ρ B t2 t)(hinj:∀v v' u,ρ v=some u->ρ v'=some u->v=v'){v u:Nat}(hu:ρ v=some u):TR ρ B (t2.set v none) (t.set u none):=by
 intro v' hv;rw[Tr.cz]at hv;split at hv;.cases hv
 .refine⟨(h v' hv).1,λu' kQ=>?_⟩;rw[Tr.cz];split;.grind
  .exact(h v' hv).2 u' kQ
theorem eO{a t:Ty}{l:List a.den}{l':List t.den}(h:js a t l=some l'):bf a l=bf t l'/\l.length=l'.length:=by obtain⟨e,he⟩:=BB h<;>grind
theorem lq{n b:Nat}(h:room n b=true):n<=eT/\n*b<=jO:=by simpa[room]using h
theorem Eu{m:List (Tr E2)}{mm:List (Tr bC)}(hm:MR ρ B m mm){x:Cell}{a:AV}{e:Option Ty}{K:SL->Option α}(h:ou m x e K=some r)(hx:RC ρ B m x a)(hne:∀b,x≠.str b):∃els,dm mm a=some els:=by
 unfold ou at h;split at h;.exact⟨_,(gI hx).1⟩
 .exact⟨_,(gq hx).1⟩
 .obtain⟨r',hr,h⟩:=az h;exact⟨_,lV hm hx hr⟩
 .obtain⟨r',hr,h⟩:=az h;have q:=cl h;obtain⟨hl,h⟩:=q;exact⟨_,jA hm hx hr (of_decide_eq_true hl)⟩
 .grind
 grind
variable(hm:MR ρ B s2.mem s.mem)(ht:TR ρ B s2.aG s.aG)(cg:uJ ρ B s2.mem s2.slots s.slots)(hB:B<=nx)(fI:ρ nx=some p)(hinj:∀v v' u,ρ v=some u->ρ v'=some u->v=v')
include hm ht hB fI
omit ht in theorem nM.BL{t:Ty}{l:List t.den}{els:List (List D)}{Sn rd:List (Nat×Nat×Nat)}{tp2 tp:List (Nat×Bool)}(he:els=bf t l)(hr:aR ρ Sn rd)(htp:TR ρ (nx+1) (dR s2.aG tp2) (dR s.aG tp))(hw:aR ρ (tp2.map λu=>jX u.1) (tp.map λu=>jX u.1)):nM ρ B (nx+1) s2 s {val:=.c (.sl t l (.app nx)),cX:=[],cB:=tp2,rd:=Sn} {val:=.own els (.cB p t.size),cX:=[],cB:=tp,rd:=rd}:=by subst he;exact⟨⟨by omega,.inr ⟨p,fI,rfl⟩⟩,hm.mono (by omega),htp,eE.refl _ _,hr,by simpa[IC.wr,fH.wr]using hw⟩
theorem nM.qA{t:Ty}{l:List t.den}{els:List (List D)}{n lv sl:Nat}{ks:List (Nat×Nat)}{Sn rd:List (Nat×Nat×Nat)}(he:els=bf t l)(hn:n=l.length)(hr:aR ρ Sn rd):nM ρ B (nx+1) s2 s {val:=.c (.ref lv sl nx t),cX:=kj ks++[(lv,sl,some (.row nx t l))],cB:=[],rd:=Sn} {val:=.ref lv sl p 0 n t.size,cX:=dS s.mem ks++[(lv,sl,some (.row p els))],cB:=[],rd:=rd}:=by
 subst he hn;refine .fN hm ht (by omega) (dW (.inl hB)) (iQ.append (dX ⟨by omega,p,fI,rfl⟩)) ⟨by omega,p,l.length,fI,rfl,λr' hr'=>?_⟩ hr;rw[oC]at hr';simp[fo]at hr';have:=cC hr';rw[jS]at this;split at this;.grind
 .have h1:=me (gw.2 this);obtain⟨e,_,hlt,_⟩:=hm.eV _ _ _ (cC h1)<;>omega
include hinj in theorem Gs{acy:Bool}{lv sl sz bytes:Nat}{x y:Cell}{a b:AV}{e:Option Ty}(h:Pe s2 acy lv sl nx sz bytes x y e K=some r)(hx:RC ρ B s2.mem x a)(hy:RC ρ B s2.mem y b):∃E e,dA s acy lv sl p sz bytes a b=some e/\nM ρ B (nx+1) s2 s E e/\K (.bX E)=some r:=by
 unfold Pe at h;have Rg:=tK hy;split at h
 .obtain⟨n,hn,h⟩:=ko hm h hy;split at h
  .rename_i hz;have hz:=Nat.eq_of_beq_eq_true hz;have q:=cl h;obtain⟨hr,h⟩:=q;have hr:=lq hr;cases hx;split at h;.refine⟨_,_,?_,.BL hm hB fI (l:=n.l) (els:=[]++bf n.t n.l) rfl Rg (ht.fresh hB fI) (aR.BK fI aR.nil),h⟩;simp only[dA,<-hz,hn,gx,if_true,List.all_nil,List.length_nil,Nat.zero_add,aY];rw[if_pos ⟨trivial,hr.1,hr.2⟩]
   .refine⟨_,_,?_,.qA hm ht hB fI (ks:=[]) (els:=[]++bf n.t n.l) rfl rfl Rg,h⟩;simp only[dA,<-hz,hn,gx,if_true,List.all_nil,List.length_nil,Nat.zero_add,aY];rw[if_pos ⟨trivial,hr.1,hr.2⟩];simp[dS]
  .cases h
 .rename_i t l;have q:=ko hm h hy;obtain⟨n,hn,h⟩:=q;split at h
  .rename_i news hz hc;have hz:=Nat.eq_of_beq_eq_true hz;obtain⟨hc,_⟩:=eO hc;rw[hc]at hn;have q:=cl h;obtain⟨hr,h⟩:=q;have hr:=lq hr;cases hx;split at h;.refine⟨_,_,?_,.BL hm hB fI (l:=l++news) (els:=bf t l++bf t news) (mc ..).symm Rg (ht.fresh hB fI) (aR.BK fI aR.nil),h⟩;simp only[dA,<-hz,hn,gx,if_true,aY];rw[if_pos ⟨trivial,hr.1,hr.2⟩]
   .obtain⟨hne,h⟩:=cl h;refine⟨_,_,?_,.qA hm ht hB fI (ks:=[]) (l:=l++news) (n:=l.length+news.length) (els:=bf t l++bf t news) (mc ..).symm (by simp) Rg,h⟩;simp only[dA,<-hz,hn,gx,if_true,aY];rw[if_pos ⟨trivial,hr.1,hr.2⟩,if_neg (by
    intro hc;have h1:l.isEmpty=false:=by simpa[bf]using hc.1
    have h2:news.isEmpty=true:=by simpa[bf]using hc.2
    rw[h1,h2]at hne;cases hne)];simp[dS]
  .cases h
 .rename_i t l v;have q:=ko hm h hy;obtain⟨n,hn,h⟩:=q;cases hz:Nat.beq t.size sz with|false=>simp[hz]at h|true=>cases hc:js n.t t n.l with|none=>simp[hz,hc]at h|some news=>cases acy with|true=>simp[hz,hc]at h|false=>cases htip:s2.aG.get? v with|none=>simp[hz,hc,htip]at h|some un=>
  simp[hz,hc,htip]at h
  .have hz:=Nat.eq_of_beq_eq_true hz;obtain⟨hc,_⟩:=eO hc;rw[hc]at hn;have q:=cl h;obtain⟨hr,h⟩:=q;have hr:=lq hr;rcases hx with⟨hv,⟨hu,rfl⟩|⟨u,hu,rfl⟩⟩;.refine⟨_,_,?_,.BL hm hB fI (l:=l++news) (els:=bf t l++bf t news) (tp2:=[(v,false),(nx,true)]) (tp:=[(p,true)]) (mc ..).symm Rg.skip (TR.fresh (ht.ag3 v) hB fI) (aR.skip (aR.BK fI aR.nil)),h⟩;simp only[dA,<-hz,hn,gx,if_true,aY];rw[if_pos ⟨trivial,hr.1,hr.2⟩]
   .refine⟨_,_,?_,.BL hm hB fI (l:=l++news) (els:=bf t l++bf t news) (tp2:=[(v,false),(nx,true)]) (tp:=[(u,false),(p,true)]) (mc ..).symm (aR.BK hu Rg) (TR.fresh (ht.drop hinj hu) hB fI) (aR.BK hu (aR.BK fI aR.nil)),h⟩;have:=(ht v htip).2 u hu;simp only[dA,<-hz,hn,gx,if_true,aY];rw[if_pos ⟨trivial,hr.1,hr.2,by rw[this];rfl⟩]
 .rename_i cG dF ai t;have q:=az h;obtain⟨r',hr',h⟩:=q;have q:=ko hm h hy;obtain⟨n,hn,h⟩:=q;split at h;.rename_i l news hz hc1 hc;have hz:=Nat.eq_of_beq_eq_true hz;obtain⟨hc,_⟩:=eO hc;obtain⟨hc1,qZ⟩:=eO hc1;rw[hc]at hn;have q:=cl h;obtain⟨hr,h⟩:=q;have hr:=lq hr;obtain⟨hv,u,n',hu,rfl,hn'⟩:=hx;have hn':=hn' _ hr';rw[qZ]at hn';subst hn';have hrow:=(iM hm hr' hu).2;rw[hc1]at hrow;refine⟨_,_,?_,.qA hm ht hB fI (ks:=[]) (l:=l++news) (n:=l.length+news.length) (els:=bf t l++bf t news) (mc ..).symm (by simp) (aR.iN cG dF Rg),h⟩;simp only[dA,<-hz,hn,gx,if_true,hrow,aY];rw[if_pos ⟨trivial,by omega,hr.1,hr.2⟩];simp[dS,List.take_of_length_le,aY]
  .cases h
 .rename_i cG dF ai t off len;have q:=az h;obtain⟨r',hr',h⟩:=q;have q:=ko hm h hy;obtain⟨n,hn,h⟩:=q;split at h;.rename_i l news hz hc1 hc;have hz:=Nat.eq_of_beq_eq_true hz;obtain⟨hc,_⟩:=eO hc;obtain⟨hc1,qZ⟩:=eO hc1;rw[hc]at hn;have q:=cl h;obtain⟨hr,h⟩:=q;rw[Bool.and_eq_true]at hr;have hl:=of_decide_eq_true hr.1;have hr:=lq hr.2;obtain⟨hv,u,hu,rfl,_⟩:=hx;have hrow:=(iM hm hr' hu).2;rw[hc1]at hrow;refine⟨_,_,?_,.qA hm ht hB fI (ks:=[]) (l:=(l.drop off).take len++news) (n:=len+news.length) (els:=((bf t l).drop off).take len++bf t news) (by simp[bf,List.map_take,List.map_drop]) (by simp;omega) (aR.iN cG dF Rg),h⟩;simp only[dA,<-hz,hn,gx,if_true,hrow,aY];rw[if_pos ⟨trivial,hl,hr.1,hr.2⟩];simp[dS]
  .cases h
 .cases h
theorem WO{sz:Nat}{x:Cell}{a:AV}{lo hi:Option Nat}(h:acm s2.mem sz nx x lo hi K=some r)(hx:RC ρ B s2.mem x a)(l h':Nat)(hl:l=lo.getD 0)(hh:∀n,hi=some n->h'=n):∃E e,HW s p sz a l (hi.map λ_=>h')=some e/\nM ρ B (nx+1) s2 s E e/\K (.bX E)=some r:=by
 have ehi:hi.map (λ_=>h')=hi:=by cases hi with|none=>rfl|some n=>grind
 rw[ehi];subst hl;unfold acm at h;split at h
 .rename_i lv sl ai t;have q:=az h;obtain⟨r',hr',h⟩:=q;split at h
  .rename_i l' hz hc1;have hz:=Nat.eq_of_beq_eq_true hz;obtain⟨hc1,qZ⟩:=eO hc1;have q:=cl h;obtain⟨hp,h⟩:=q;have hp':=iP hp;obtain⟨hv,u,n',hu,rfl,hn'⟩:=hx;have hn':=hn' _ hr';rw[qZ]at hn';subst hn';have hrow:=(iM hm hr' hu).2;rw[hc1]at hrow;have he:=xI (t:=t) hp;rw[aY]at he;refine⟨_,_,?_,.qA hm ht hB fI (ks:=[]) (l:=ov l' lo hi) (n:=hi.getD l'.length-lo.getD 0) (els:=((bf t l').drop (lo.getD 0)).take (hi.getD l'.length-lo.getD 0)) he.symm ?_ (aR.iN lv sl aR.nil),h⟩;.simp only[HW,hrow,<-hz];rw[if_pos ⟨trivial,hp'.1,hp'.2,by rw[aY];omega⟩];simp[dS]
   .rw[BJ hp,List.length_take,List.length_drop];omega
  grind
 grind
omit hm ht hB fI in theorem RC.isRow{m:List (Tr E2)}{c:Cell}{a:AV}(h:RC ρ B m c a):bI.isRow a=c.isRow:=by cases c with
 |nil f=>cases f with|false=>rcases h with rfl|⟨_,_,rfl⟩<;>rfl|true=>cases h;rfl
 |sl t l o=>cases o with|d=>rcases h with rfl|⟨_,_,rfl⟩<;>rfl|bA=>rcases h with rfl|⟨_,rfl⟩<;>rfl|full=>cases h;rfl|app v=>rcases h.2with⟨_,rfl⟩|⟨_,_,rfl⟩<;>rfl
 |ref=>obtain⟨_,_,_,_,rfl,_⟩:=h;rfl|jz=>obtain⟨_,_,_,rfl,_⟩:=h;rfl|ptr=>obtain⟨_,_,_,rfl⟩:=h;rfl|ff=>obtain⟨_,_,_,rfl⟩:=h;rfl|mp=>obtain⟨_,_,_,rfl⟩:=h;rfl|int=>cases h;rfl|bool=>cases h;rfl|er=>cases h;rfl|str=>cases h;rfl|raw=>cases h;rfl|fJ=>cases h;rfl
include cg in theorem LA{sz:Nat}{x:bZ}{lo hi mx:Option bZ}(h:cT E wk ctx s2 row dst nx (.slice sz x lo hi mx) K=some r):dI ρ B (nx+1) s2 s (.slice sz x lo hi mx) row dst p K r:=by
 have q:=cv h;obtain⟨c,hx,h⟩:=q;have q:=pS cg h;obtain⟨l,el,il,h⟩:=q;have q:=pS cg h;obtain⟨h',eh,ih,h⟩:=q;have q:=pS cg h;obtain⟨k,ek,ik,h⟩:=q;have e1:hi.map (λ_=>h'.getD 0)=h'.map λ_=>h'.getD 0:=by cases hi<;>cases h'<;>simp_all
 have e2:mx.map (λ_=>k.getD 0)=k.map λ_=>k.getD 0:=by cases mx<;>cases k<;>simp_all
 have hir:=RC.isRow (aW cg hx);split at h;.rename_i hq;rw[<-hir]at hq;obtain⟨E',e,g1,g2,g3⟩:=WO hm ht hB fI h (aW cg hx) (l.getD 0) (h'.getD 0) rfl (λn e=>by rw[e];rfl);exact⟨E',e,λ_ _=>by simp only[cq.run,el,eh,ek,hq,e1,g1,Option.map_some],g2,g3⟩
 .rename_i hq;rw[<-hir]at hq;obtain⟨a',c',g1,g2,g3⟩:=Pp h (aW cg hx) (l.getD 0) (h'.getD 0) (k.getD 0) rfl (λn e=>by rw[e];rfl) (λn e=>by rw[e];rfl);refine .pure hm ht (by omega) (a:=a') (λ_ _=>?_) (v:=.c c') g2 g3;simp[cq.run,el,eh,ek,hq,e1,e2,g1,Option.bind_some]
include hinj cg in theorem I3{sz bytes:Nat}{x y:bZ}(h:cT E wk ctx s2 row dst nx (.append sz bytes x y) K=some r):dI ρ B (nx+1) s2 s (.append sz bytes x y) row dst p K r:=by have q:=cv h;obtain⟨a,ha,h⟩:=q;have q:=cv h;obtain⟨b,hb,h⟩:=q;rw[hm.len]at h;obtain⟨E',e,h1,h2,h3⟩:=Gs hm ht hB fI hinj h (aW cg ha) (aW cg hb);exact⟨E',e,λ_ _=>by simp only[cq.run,h1,Option.map_some],h2,h3⟩
include hinj cg in theorem Gt{sz bytes:Nat}{z:List D}{x n:bZ}(h:cT E wk ctx s2 row dst nx (.od sz bytes z x n) K=some r):dI ρ B (nx+1) s2 s (.od sz bytes z x n) row dst p K r:=by
 have q:=cv h;obtain⟨a,ha,h⟩:=q;have q:=lg h;obtain⟨kl,l',hl,hl0,h⟩:=q;have q:=az h;obtain⟨t,_,h⟩:=q;have q:=az h;obtain⟨z',KL,h⟩:=q;obtain⟨zc,hz1,hz2⟩:=aQ KL;have hze:=pQ hz2 (pR hz1);split at h;.rename_i hb;simp only[Bool.and_eq_true]at hb;have h2:=Nat.eq_of_beq_eq_true hb.2;have q:=cl h;obtain⟨hr,h⟩:=q;have hr:=lq hr;rw[hm.len]at h;have hb:RC ρ B s2.mem (.sl t (List.replicate l'.toNat z') .d) (.d (.sl (List.replicate l'.toNat z))):=.inl (by simp[bf,hze]);obtain⟨E',e,h3,h4,h5⟩:=Gs hm ht hB fI hinj h (aW cg ha) hb;exact⟨E',e,λ_ _=>by simp only[cq.run,iO (aW cg hl) hl0,Option.bind_some];rw[if_pos ⟨h2,hr.1,hr.2⟩,h3,Option.map_some],h4,h5⟩
 grind
include hinj cg in theorem LB{sz bytes:Nat}{x:bZ}(h:cT E wk ctx s2 row dst nx (.clone sz bytes x) K=some r):dI ρ B (nx+1) s2 s (.clone sz bytes x) row dst p K r:=by
 have q:=cv h;obtain⟨b,hb,h⟩:=q;have hb:=aW cg hb;split at h;.cases h
 .rename_i hne;rw[hm.len]at h;have he:∃els,dm s.mem (x.ev s.slots)=some els:=by unfold Pe at h;exact Eu hm h hb (λb' e=>hne b' e)
  obtain⟨els,he⟩:=he;obtain⟨E',e,h1,h2,h3⟩:=Gs hm ht hB fI hinj h (show RC ρ B s2.mem (.nil true) (.own [] .full)from rfl) hb;exact⟨E',e,λ_ _=>by simp only[cq.run,he,h1,Option.map_some],h2,h3⟩
omit fI hm ht hB in theorem Ew{t:Ty}:∀l:List t.den,aC (RC ρ B s2.mem) (l.flatMap (iK t)) (((l.map (eX t)).flatten).map .d)|[]=>trivial|x::l=>by simp only[List.flatMap_cons,List.map_cons,List.flatten_cons,List.map_append];exact(ld t x).append (Ew l)
omit fI in include cg in theorem Py{sz:Nat}{x y:bZ}(h:cT E wk ctx s2 row dst nx (.copy sz x y) K=some r):dI ρ B (nx+1) s2 s (.copy sz x y) row dst p K r:=by
 have q:=cv h;clear h;obtain⟨a,ha,h⟩:=q;have q:=cv h;clear h;obtain⟨b,hb,h⟩:=q;have ha:=aW cg ha;have hb:=aW cg hb;have Rg:=tK hb;split at h
 .rename_i lv sl ai t _;have q:=az h;obtain⟨r',hr',h⟩:=q;have q:=ko hm h hb;obtain⟨n,hn,h⟩:=q;split at h;.rename_i l news hz hc1 hc;have hz:=Nat.eq_of_beq_eq_true hz;obtain⟨hc,_⟩:=eO hc;obtain⟨hc1,qZ⟩:=eO hc1;rw[hc]at hn;obtain⟨hv,u,n',hu,ea,hn'⟩:=ha;have hn':=hn' _ hr';rw[qZ]at hn';subst hn';have hrow:=(iM hm hr' hu).2;rw[hc1]at hrow;have hst:eE B s2.mem (fo s2.mem [(lv,sl,some (.row ai t (ID news l)))]):=dW (ks:=[]) (.inr ⟨_,hr',by simp[ID,qZ];omega⟩);refine⟨_,_,λ_ _=>?_,.fN hm ht (by omega) hst (dX (e:=.row u (bf t (ID news l))) ⟨by omega,u,hu,rfl⟩) (v:=.c (.int .i64 ((min news.length l.length:Nat):Int))) (a:=o9 (min news.length l.length)) (show _=_ from rfl) (aR.iN lv sl Rg),h⟩;simp[cq.run,<-hz,ea,hn,hrow,gx,aY];simp[ID,bI.splice,bf,List.map_take,List.map_drop]
  grind
 .rename_i lv sl ai t off len _;have q:=az h;obtain⟨r',hr',h⟩:=q;have q:=ko hm h hb;obtain⟨n,hn,h⟩:=q;split at h;.rename_i l news hz hc1 hc;have hz:=Nat.eq_of_beq_eq_true hz;obtain⟨hc,_⟩:=eO hc;obtain⟨hc1,qZ⟩:=eO hc1;rw[hc]at hn;have q:=cl h;obtain⟨hl,h⟩:=q;have hl:=of_decide_eq_true hl;obtain⟨hv,u,hu,ea⟩:=ha;have hrow:=(iM hm hr' hu).2;rw[hc1]at hrow;have hst:eE B s2.mem (fo s2.mem [(lv,sl,some (.row ai t (l.take off++(news.take (min news.length len)++l.drop (off+(news.take (min news.length len)).length)))))]):=dW (ks:=[]) (.inr ⟨_,hr',by simp[qZ];omega⟩);refine⟨_,_,λ_ _=>?_,.fN hm ht (by omega) hst (dX (e:=.row u (bf t (l.take off++(news.take (min news.length len)++l.drop (off+(news.take (min news.length len)).length))))) ⟨by omega,u,hu,rfl⟩) (v:=.c (.int .i64 ((min news.length len:Nat):Int))) (a:=o9 (min news.length len)) (show _=_ from rfl) (aR.iN lv sl Rg),h⟩;simp only[cq.run,<-hz,ea,hn,hrow,gx,aY];rw[if_pos ⟨trivial,hl,trivial⟩];simp[bI.splice,bf,List.map_take,List.map_drop]
  grind
 .rename_i lv sl ai off n sz' _;obtain⟨De,u,hu,ea⟩:=ha;split at h
  .rename_i v cs he;have q:=ko hm h hb;clear h;obtain⟨nw,hn,h⟩:=q;split at h
   .rename_i hq;simp only[Bool.and_eq_true]at hq;obtain⟨⟨⟨hv1,hz1⟩,hl⟩,hz⟩:=hq;have hv1:=Nat.eq_of_beq_eq_true hv1;have hz1:=Nat.eq_of_beq_eq_true hz1;have hl:=Nat.le_of_ble_eq_true hl;have hz:=Nat.eq_of_beq_eq_true hz;subst hv1 hz1;obtain⟨e,g1,_,u',bs,g2,rfl,g3⟩:=hm.eV _ _ _ he;rw[hu]at g2;cases g2;have hst:eE B s2.mem (fo s2.mem [(lv,sl,some (.box v (bI.splice cs off ((nw.l.take (min nw.l.length n)).flatMap (iK nw.t)))))]):=dW (ks:=[]) (e:=.box _ _) trivial;have hcells:aC (RC ρ B s2.mem) ((nw.l.take (min nw.l.length n)).flatMap (iK nw.t)) ((((bf nw.t nw.l).take (min (bf nw.t nw.l).length n)).flatten).map .d):=by rw[aY];unfold bf;rw[<-List.map_take];exact Ew _
    refine⟨_,_,λ_ _=>?_,.fN hm ht (B':=nx+1) (by omega) hst (dX (e:=.box u (bI.splice bs off ((((bf nw.t nw.l).take (min (bf nw.t nw.l).length n)).flatten).map .d))) ⟨by omega,u,_,hu,rfl,(xH g3 hcells off).mono λ_ _=>RC.move hst (by omega) λ_ _=>rfl⟩) (v:=.c (.int .i64 ((min nw.l.length n:Nat):Int))) (a:=o9 (min nw.l.length n)) (show _=_ from rfl) (aR.iN lv sl Rg),h⟩;have KV:bI.gE s.mem lv sl u=some bs:=by simp[bI.gE,g1,sB]
    simp only[cq.run,ea,hn,KV];rw[if_pos ⟨trivial,by rw[<-g3.length];exact hl,by rw[<-hz];exact gx _ _⟩,aY]
   grind
  grind
 grind
include cg in theorem BM{sz bytes:Nat}{z:List D}{l c:bZ}(h:cT E wk ctx s2 row dst nx (.makeSlice sz bytes z l c) K=some r):dI ρ B (nx+1) s2 s (.makeSlice sz bytes z l c) row dst p K r:=by
 simp[cT]at h;have q:=lg h;clear h;obtain⟨kl,l',hl,hl0,h⟩:=q;have q:=lg h;clear h;obtain⟨kc,c',hc,hc0,h⟩:=q;have q:=az h;clear h;obtain⟨t,_,h⟩:=q;have q:=az h;clear h;obtain⟨z',KL,h⟩:=q;obtain⟨zc,hz1,hz2⟩:=aQ KL;have hze:=pQ hz2 (pR hz1);split at h;.rename_i hb;simp only[Bool.and_eq_true]at hb;have h1:=Nat.eq_of_beq_eq_true hb.1;have h2:=Nat.eq_of_beq_eq_true hb.2;subst h1;have q:=cl h;obtain⟨hr,h⟩:=q;rw[Bool.and_eq_true]at hr;have hle:=of_decide_eq_true hr.1;have hr:=lq hr.2;rw[hm.len]at h;refine⟨_,_,λ_ _=>?_,.qA hm ht hB fI (ks:=[]) (l:=List.replicate l'.toNat z') (n:=l'.toNat) (els:=List.replicate l'.toNat z) (by simp[bf,hze]) (by simp) aR.nil,h⟩;simp only[cq.run,iO (aW cg hl) hl0,iO (aW cg hc) hc0];rw[if_pos ⟨hle,by rw[Nat.mul_comm];exact hr.2,hr.1,h2⟩];simp[dS]
 grind
omit fI in include cg in theorem LC{sz:Nat}{z:List D}{x:bZ}(h:cT E wk ctx s2 row dst nx (.clear sz z x) K=some r):dI ρ B (nx+1) s2 s (.clear sz z x) row dst p K r:=by
 have q:=cv h;obtain⟨a,ha,h⟩:=q;have ha:=aW cg ha;split at h
 .rename_i lv sl ai t _;have q:=az h;obtain⟨r',hr',h⟩:=q;have q:=az h;obtain⟨z',KL,h⟩:=q;obtain⟨zc,hz1,hz2⟩:=aQ KL;have hze:=pQ hz2 (pR hz1);split at h;.rename_i l hb hc1;simp only[Bool.and_eq_true]at hb;have h1:=Nat.eq_of_beq_eq_true hb.1;have h2:=Nat.eq_of_beq_eq_true hb.2;obtain⟨hc1,qZ⟩:=eO hc1;obtain⟨hv,u,n',hu,ea,hn'⟩:=ha;have hn':=hn' _ hr';rw[qZ]at hn';subst hn';have hrow:=(iM hm hr' hu).2;rw[hc1]at hrow;have hst:eE B s2.mem (fo s2.mem [(lv,sl,some (.row ai t (List.replicate l.length z')))]):=dW (ks:=[]) (.inr ⟨_,hr',by simp[qZ]⟩);refine⟨_,_,λ_ _=>?_,.fN hm ht (by omega) hst (dX (e:=.row u (bf t (List.replicate l.length z'))) ⟨by omega,u,hu,rfl⟩) mg (aR.iN lv sl aR.nil),h⟩;simp only[cq.run,<-h1,ea,hrow,aY];rw[if_pos ⟨trivial,by omega,by rw[h2,h1]⟩];simp[bI.splice,bf,hze]
  grind
 .rename_i lv sl ai t off len _;have q:=az h;obtain⟨r',hr',h⟩:=q;have q:=az h;obtain⟨z',KL,h⟩:=q;obtain⟨zc,hz1,hz2⟩:=aQ KL;have hze:=pQ hz2 (pR hz1);split at h;.rename_i l hb hc1;simp only[Bool.and_eq_true]at hb;have h1:=Nat.eq_of_beq_eq_true hb.1;have h2:=Nat.eq_of_beq_eq_true hb.2;obtain⟨hc1,qZ⟩:=eO hc1;have q:=cl h;obtain⟨hd,h⟩:=q;have hd:=of_decide_eq_true hd;obtain⟨hv,u,hu,ea,_⟩:=ha;have hrow:=(iM hm hr' hu).2;rw[hc1]at hrow;have hst:eE B s2.mem (fo s2.mem [(lv,sl,some (.row ai t (l.take off++List.replicate len z'++l.drop (off+len))))]):=dW (ks:=[]) (.inr ⟨_,hr',by simp[qZ];omega⟩);refine⟨_,_,λ_ _=>?_,.fN hm ht (by omega) hst (dX (e:=.row u (bf t (l.take off++List.replicate len z'++l.drop (off+len)))) ⟨by omega,u,hu,rfl⟩) mg (aR.iN lv sl aR.nil),h⟩;simp only[cq.run,<-h1,ea,hrow,aY];rw[if_pos ⟨trivial,hd,by rw[h2,h1]⟩];simp[bI.splice,bf,hze,List.map_take,List.map_drop]
  grind
 grind
omit hm ht hB fI in theorem qB:∀l:List Int,rP (iA l)=some l|[]=>rfl|z::l=>by show(rP (iA l)).map (z::·)=_;rw[qB l];rfl
omit hm ht hB fI in theorem RV.isRow{m:List (Tr E2)}{v:V2}{a:AV}(h:RV ρ B m v a):bI.isRow a=v.isRow:=by cases v with|c c=>exact RC.isRow h|agg=>obtain⟨_,rfl,_⟩:=h;rfl|gm=>obtain⟨_,rfl,_⟩:=h;rfl|iF=>obtain⟨_,rfl,_⟩:=h;rfl
omit hm ht hB fI in theorem Pz{m:List (Tr E2)}{row lv d aO:Nat}{v:V2}{a:AV}(h:RV ρ B m v a)(h1:∀f,v≠.c (.nil f))(h2:∀t l o,v≠.c (.sl t l o)):zT row lv d aO a={val:=a,cX:=[],cB:=[],rd:=[]}:=by
 unfold zT;split;.cases v with
  |c x=>cases x with|nil f=>grind|sl t l o=>grind|ref=>obtain⟨_,_,_,_,e,_⟩:=h<;>grind|jz=>obtain⟨_,_,_,e,_⟩:=h<;>grind|ptr=>obtain⟨_,_,_,e⟩:=h<;>grind|ff=>obtain⟨_,_,_,e⟩:=h<;>grind|mp=>obtain⟨_,_,_,e⟩:=h<;>grind|int=>cases h|bool=>cases h|er=>cases h|str=>cases h|raw=>cases h|fJ=>cases h
  |agg=>obtain⟨_,e,_⟩:=h<;>grind|gm=>obtain⟨_,e,_⟩:=h<;>grind|iF=>obtain⟨_,e,_⟩:=h<;>grind
 .rfl
include cg in theorem Sx{x:bZ}(h:cT E wk ctx s2 row dst nx (.HQ x) K=some r):dI ρ B (nx+1) s2 s (.HQ x) row dst p K r:=by
 have q:=az h;obtain⟨v,hv,h⟩:=q;have hv:=aW cg hv;have hir:=RV.isRow hv;split at h
 .rename_i hq;rw[<-hir]at hq;split at h
  .rename_i lv sl ai t _;have q:=az h;obtain⟨r',hr',h⟩:=q;have q:=az h;obtain⟨l,hl,h⟩:=q;obtain⟨hc1,qZ⟩:=eO hl;obtain⟨De,u,n',hu,ea,hn'⟩:=hv;have hn':=hn' _ hr';rw[qZ]at hn';subst hn';have hrow:=(iM hm hr' hu).2;rw[hc1]at hrow;rw[hm.len]at h;have hst:eE B s2.mem (fo s2.mem [(lv,sl,none),(s.mem.length-1,dst,some (.row nx t l))]):=dW (ks:=[(lv,sl)]) (e:=.row nx t l) (.inl hB);refine⟨_,_,λ_ _=>?_,.fN hm ht (B':=nx+1) (Gp:=[(lv,sl,none),(s.mem.length-1,dst,some (.row nx t l))]) (us:=[(lv,sl,none),(s.mem.length-1,dst,some (.row p (bf t l)))]) (by omega) hst ⟨⟨rfl,rfl,λ_ h=>by cases h⟩,dX ⟨Nat.lt_succ_self _,p,fI,rfl⟩⟩ (v:=.c (.ref (s.mem.length-1) dst nx t)) (a:=.ref (s.mem.length-1) dst p 0 l.length t.size) (show RC _ _ _ (.ref (s.mem.length-1) dst nx t) _ from⟨Nat.lt_succ_self _,p,l.length,fI,rfl,λr hr=>?_⟩) (aR.iN lv sl aR.nil),h⟩;.rw[ea]at hq;simp only[cq.run,hq,ea,HX,hrow,Nat.zero_add,aY,List.drop_zero];rw[show Nat.ble l.length l.length=true from Nat.ble_eq_true_of_le (Nat.le_refl _),<-aY (t:=t) (l:=l),List.take_length];simp[aY]
   .have this:=cC hr;simp[fo]at this;rw[jS]at this;split at this;.injection this with this;injection this with _ h1 h2;obtain⟨t',l'⟩:=r;simp only at h1 h2;subst h1;cases h2;rfl
    .have h1:=rq (gw.2 this);obtain⟨e,_,hlt,_⟩:=hm.eV _ _ _ (cC h1);omega
  grind
 rename_i hq;rw[<-hir]at hq;split at h;.rename_i hq4;refine .pure hm ht (by omega) (λ_ _=>?_) hv h;simp[cq.run,hq,zT,hq4];rfl
 .rename_i hq4;split at h
  .have e:x.ev s.slots=.own [] .full:=hv;have q:=az h;obtain⟨t,_,h⟩:=q;split at h;.rename_i hsz;have hsz:=Nat.eq_of_beq_eq_true hsz;rw[hm.len]at h;refine⟨_,_,λ_ _=>?_,.qA hm ht hB fI (ks:=[]) (l:=([]:List t.den)) (n:=0) (els:=[]) rfl rfl aR.nil,h⟩;rw[e]at hq;simp[cq.run,zT,hq,hq4,e,hsz];rfl
   grind
  .cases h
  .cases h
  .rename_i h1 h2 h3;refine .pure hm ht (by omega) (λ_ _=>?_) hv h;simp[cq.run,hq];rw[Pz hv (λf hf=>h2 f hf) (λt l o hf=>h3 t l o hf)];rfl
include cg in theorem Gu{x:bZ}(h:cT E wk ctx s2 row dst nx (.compact x) K=some r):dI ρ B (nx+1) s2 s (.compact x) row dst p K r:=by
 have q:=cv h;obtain⟨a,ha,h⟩:=q;have ha:=aW cg ha;split at h;.have e:x.ev s.slots=.own [] .full:=ha;refine .pure hm ht (by omega) (a:=.own [] .full) (λ_ _=>?_) (v:=.c (.nil true)) rfl h;simp[cq.run,l5,e,Option.map_some];rfl
 .rename_i lv sl ai t _;have q:=az h;obtain⟨r',hr',h⟩:=q;split at h;.rename_i l hb hc1;have h1:=Nat.eq_of_beq_eq_true hb;obtain⟨hc1,qZ⟩:=eO hc1;have q:=cl h;obtain⟨hd,h⟩:=q;obtain⟨hv,u,n',hu,ea,hn'⟩:=ha;have hn':=hn' _ hr';rw[qZ]at hn';subst hn';have hrow:=(iM hm hr' hu).2;rw[hc1]at hrow;refine⟨_,_,λ_ _=>?_,.qA hm ht hB fI (ks:=[]) (t:=.int .i64) (l:=jq l) (n:=(jq l).length) (els:=bf (.int .i64) (jq l)) rfl rfl (aR.iN lv sl aR.nil),h⟩;have he:bf (.int .i64) l=iA l:=rfl;simp only[cq.run,l5,ea,hrow,he,qB,Option.bind_some,h1];rw[if_pos ⟨trivial,by simp[iA],trivial,by simpa[iA]using hd⟩];rfl
  grind
 grind
omit fI in include cg in theorem PA{x:bZ}(h:cT E wk ctx s2 row dst nx (.sort x) K=some r):dI ρ B (nx+1) s2 s (.sort x) row dst p K r:=by
 have q:=cv h;obtain⟨a,ha,h⟩:=q;have ha:=aW cg ha;split at h;.have e:x.ev s.slots=.own [] .full:=ha;exact⟨_,_,λ_ _=>by simp only[cq.run,yq,e,Option.map_some],.fN (Gp:=[]) (us:=[]) hm ht (by omega) (eE.refl _ _) trivial mg aR.nil,h⟩
 .rename_i lv sl ai t _;have q:=az h;obtain⟨r',hr',h⟩:=q;split at h;.rename_i l hb hc1;have h1:=Nat.eq_of_beq_eq_true hb;obtain⟨hc1,qZ⟩:=eO hc1;have q:=cl h;obtain⟨hd,h⟩:=q;obtain⟨hv,u,n',hu,ea,hn'⟩:=ha;have hn':=hn' _ hr';rw[qZ]at hn';subst hn';have hrow:=(iM hm hr' hu).2;rw[hc1]at hrow;have hst:eE B s2.mem (fo s2.mem [(lv,sl,some (.row ai (.int .i64) (jo l)))]):=dW (ks:=[]) (.inr ⟨_,hr',by rw[qZ];exact(mW l).symm⟩);refine⟨_,_,λ_ _=>?_,.fN hm ht (by omega) hst (dX (e:=.row u (bf (.int .i64) (jo l))) ⟨by omega,u,hu,rfl⟩) mg (aR.iN lv sl aR.nil),h⟩;have he:bf (.int .i64) l=iA l:=rfl;simp only[cq.run,yq,ea,hrow,he,qB,Option.bind_some,h1];rw[if_pos ⟨trivial,by simp[iA],trivial,by simpa[iA]using hd⟩];rfl
  grind
 grind
include cg in theorem PB{sz:Nat}{x n:bZ}(h:cT E wk ctx s2 row dst nx (.grow sz x n) K=some r):dI ρ B (nx+1) s2 s (.grow sz x n) row dst p K r:=by
 have q:=cv h;obtain⟨a,ha,h⟩:=q;have q:=lg h;clear h;obtain⟨kn,n',hn,hn0,h⟩:=q;have ha:=aW cg ha;split at h
 .rename_i t hty _;split at h;.rename_i hz;have hz:=Nat.eq_of_beq_eq_true hz;have ea:x.ev s.slots=_:=ha;refine⟨_,_,λ_ _=>?_,.BL hm hB fI (l:=([]:List t.den)) (els:=[]) rfl aR.nil (ht.fresh hB fI) (aR.BK fI aR.nil),h⟩;simp[cq.run,ea,iO (aW cg hn) hn0,hz]
  grind
 grind
omit ht hB fI in include cg in theorem I4{sz:Nat}:∀{ps:List (Nat×bZ)}{xo NR:List (List Cell)}{els:List (List D)}{ks:List (Nat×Nat)},Bq s2 sz xo ps=some (NR,ks)->aC (λc d=>ck c=some d) xo els->∃els',pz s.mem s.slots sz els ps=some (els',ks)/\aC (λc d=>ck c=some d) NR els'
 |[],xo,NR,els,ks,h,ha=>by cases h;exact⟨els,rfl,ha⟩|(i,x)::ps,xo,NR,els,ks,h,ha=>by
  simp[Bq]at h;split at h
  .rename_i e k hn;obtain⟨cs,h1,h2⟩:=aQ hn;obtain⟨v,hv,h3⟩:=aQ h1;obtain⟨aJ,g1,g2⟩:=vY h3 (aW cg hv);obtain⟨ds,g3,g4⟩:=Lr hm h2 g2;split at h
   .rename_i hb;rw[Bool.and_eq_true]at hb;have hz:=Nat.eq_of_beq_eq_true hb.1;have hi:i<xo.length:=by simp_all
    split at h
    .rename_i els' ks' h4;cases h;have ha':aC (λc d=>ck c=some d) (xo.set i e) (els.set i ds):=by
      refine .uu (by simp[ha.length]) λj c d hc hd=>?_;rw[List.getElem?_set]at hc hd;by_cases hij:i=j;.grind
      .rw[if_neg hij]at hc hd;obtain⟨d',g5,g6⟩:=ha.get j c hc<;>grind
     obtain⟨abV,g5,g6⟩:=I4 h4 ha';refine⟨abV,?_,g6⟩;simp only[pz,DF,g1,Option.bind_some,g3];rw[if_pos ⟨by rw[oX g4];exact hz,by rw[<-ha.length];exact hi⟩,g5]
    grind
   grind
  grind
omit hm ht hB fI in theorem xJ{t:Ty}:∀{xo:List (List Cell)}{els:List (List D)}{l:List t.den},Br t xo=some l->aC (λc d=>ck c=some d) xo els->els=bf t l
 |[],[],l,h,_=>by cases h;rfl|c::r,d::ds,l,h,ha=>by
  simp[Br]at h;split at h;.rename_i x xs h1 h2;cases h;rw[pQ h1 ha.1,xJ h2 ha.2];rfl
  grind|[],_::_,_,_,h=>h.elim|_::_,[],_,_,h=>h.elim
omit hm ht hB fI in theorem sG{β γ:Type}{R:β->γ->Prop}{x:β}{y:γ}(h:R x y):∀n,aC R (List.replicate n x) (List.replicate n y)|0=>trivial|n+1=>⟨h,sG h n⟩
include cg in theorem zZ{sz n:Nat}{z:List D}{ps:List (Nat×bZ)}(h:cT E wk ctx s2 row dst nx (.buildSlice sz n z ps) K=some r):dI ρ B (nx+1) s2 s (.buildSlice sz n z ps) row dst p K r:=by simp[cT]at h;cases hr2:Nat.beq row 2with|true=>
  rw[hr2]at h;simp at h;split at h;.cases h
  rename_i hn;obtain⟨cs,hcs,h⟩:=az h;obtain⟨zc,Wg,hcs⟩:=aQ hcs;have uw:∀k:Nat,aC (RC ρ B s2.mem) (List.replicate k zc).flatten ((List.replicate k z).flatten.map .d):=by intro k;induction k with|zero=>trivial|succ k ih=>simp only[List.replicate_succ,List.flatten_cons,List.map_append];exact(IT Wg).append ih
  obtain⟨aJ,g1,g2⟩:=BG cg hcs (uw n);have hst:eE B s2.mem (fo s2.mem [(s2.mem.length-1,dst,some (.box nx cs))]):=dW (ks:=[]) (e:=.box nx cs) trivial;refine⟨_,_,λ_ _=>?_,.fN hm ht (B':=nx+1) (by omega) hst (dX (e:=.box p aJ) ⟨by omega,p,aJ,fI,rfl,g2.mono λ_ _=>RC.move hst (by omega) λ_ _=>rfl⟩) (v:=.c (.ff (s2.mem.length-1) dst nx 0 n sz)) (a:=.ff (s2.mem.length-1) dst p 0 n sz) ⟨by omega,p,fI,rfl⟩ aR.nil,h⟩;simp only[cq.run,hr2,hn,g1,hm.len,Option.map_some]|false=>
 rw[hr2]at h;have q:=az h;obtain⟨t,_,h⟩:=q;have q:=az h;obtain⟨zc,Wg,h⟩:=q;have q:=az h;obtain⟨⟨xo,ks⟩,hf,h⟩:=q;obtain⟨els,g1,g2⟩:=I4 hm cg hf (sG (R:=λc d=>ck c=some d) (pR Wg) n);split at h
 .rename_i l hz hp;have hz:=Nat.eq_of_beq_eq_true hz;have he:=xJ hp g2;have hlen:n=l.length:=by
   have h1:=g2.length;have h2:∀{ps:List (Nat×bZ)}{a b:List (List Cell)}{ks:List (Nat×Nat)},Bq s2 sz a ps=some (b,ks)->b.length=a.length:=by intro ps;induction ps with|nil=>intro a b ks h;simp[Bq,Option.some.injEq,Prod.mk.injEq]at h;rw[h.1]|cons q ps ih=>intro a b ks h;simp[Bq]at h<;>grind
   have:=h2 hf;simp at this;rw[<-this,h1,he,aY]
  split at h;.rename_i hrow;refine⟨_,_,λ_ _=>?_,.fN hm ht (by omega) (qz (ks:=ks)) (iQ (m:=s.mem)) (v:=.c (.sl t l .full)) (a:=.own els .full) (show _=_ by rw[he]) (aR.iG ks),h⟩;simp[cq.run,hr2,g1,hrow]
  .rename_i hrow;split at h;.cases h
   .rename_i hk;rw[hm.len]at h hk;refine⟨_,_,λ_ _=>?_,.qA hm ht hB fI (ks:=ks) (l:=l) (n:=n) (els:=els) he hlen (aR.iG ks),h⟩;simp only[cq.run,hr2,g1,hrow];rw[if_neg (we hk),hz]
 grind
end
end Go.Sym
