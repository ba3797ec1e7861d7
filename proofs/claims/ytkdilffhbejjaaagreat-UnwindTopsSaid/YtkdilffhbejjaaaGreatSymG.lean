/- The machine over typed data: slices that are made and that grow. -/
import Derived.Test.YtkdilffhbejjaaaGreatSymF
set_option linter.unusedVariables false
set_option linter.unusedSimpArgs false
namespace Go.Sym
open Go Go.bM
section
variable{α:Type}{ρ:bD}{B B':Nat}{s2:S2}{s:St}{op:ct}{row dst p nx:Nat}{K:gY->Option α}{r:α}{E:ah}{wk:Wk}{ctx:Nat}
theorem TR.fresh{t2 t:Tr Unit}(h:TR ρ B t2 t)(hB:B<=nx)(fU:ρ nx=some p):TR ρ (nx+1) (eu t2 [(nx,true)]) (eu t [(p,true)]):=by
 intro v hv;simp[eu,ii]at hv⊢;rw[Tr.cy]at hv;split at hv;.simp_all;rw[Tr.cy,bb rfl]
 .obtain⟨h1,h2⟩:=h v hv;refine⟨by omega,λu hu=>?_⟩;rw[Tr.cy]<;>grind
theorem TR.agf{t2 t:Tr Unit}(h:TR ρ B t2 t)(v:Nat):TR ρ B (t2.set v none) t:=by
 intro v' hv;rw[Tr.cy]at hv;split at hv;.cases hv
 .exact h v' hv
theorem TR.drop{t2 t:Tr Unit}(h:TR ρ B t2 t)(hinj:∀v v' u,ρ v=some u->ρ v'=some u->v=v'){v u:Nat}(hu:ρ v=some u):TR ρ B (t2.set v none) (t.set u none):=by
 intro v' hv;rw[Tr.cy]at hv;split at hv;.cases hv
 .refine⟨(h v' hv).1,λu' lF=>?_⟩;rw[Tr.cy];split;.grind
  .exact(h v' hv).2 u' lF
theorem fc{a t:Ty}{l:List a.den}{l':List t.den}(h:jS a t l=some l'):bx a l=bx t l'/\l.length=l'.length:=by obtain⟨e,he⟩:=B3 h<;>grind
theorem lV{n b:Nat}(h:room n b=true):n<=fm/\n*b<=ku:=by simpa[room]using h
theorem E4{m:List (Tr E2)}{mm:List (Tr bH)}(hm:MR ρ B m mm){x:Cell}{a:AV}{e:Option Ty}{K:SL->Option α}(h:oW m x e K=some r)(hx:RC ρ B m x a)(hne:∀b,x≠.str b):∃els,dG mm a=some els:=by
 unfold oW at h;split at h;.exact⟨_,(iW hx).1⟩
 .exact⟨_,(hU hx).1⟩
 .obtain⟨r',hr,h⟩:=aB h;exact⟨_,mK hm hx hr⟩
 .obtain⟨r',hr,h⟩:=aB h;have q:=cx h;obtain⟨hl,h⟩:=q;exact⟨_,j3 hm hx hr (dv hl)⟩
 .grind
 grind
variable(hm:MR ρ B s2.mem s.mem)(ht:TR ρ B s2.aK s.aK)(cj:va ρ B s2.mem s2.slots s.slots)(hB:B<=nx)(fU:ρ nx=some p)(hinj:∀v v' u,ρ v=some u->ρ v'=some u->v=v')
include hm ht hB fU
omit ht in theorem oA.Cf{t:Ty}{l:List t.den}{els:List (List D)}{R4 rd:List (Nat×Nat×Nat)}{tp2 tp:List (Nat×Bool)}(he:els=bx t l)(hr:aW ρ R4 rd)(htp:TR ρ (nx+1) (eu s2.aK tp2) (eu s.aK tp))(hw:aW ρ (tp2.map λu=>kH u.1) (tp.map λu=>kH u.1)):oA ρ B (nx+1) s2 s {val:=.c (.sl t l (.app nx)),di:=[],cK:=tp2,rd:=R4} {val:=.own els (.cK p t.size),di:=[],cK:=tp,rd:=rd}:=by subst he;exact⟨⟨by omega,.inr ⟨p,fU,rfl⟩⟩,hm.mono (by omega),htp,fA.refl _ _,hr,by simpa[ID.wr,fT.wr]using hw⟩
theorem oA.qZ{t:Ty}{l:List t.den}{els:List (List D)}{n lv sl:Nat}{ks:List (Nat×Nat)}{R4 rd:List (Nat×Nat×Nat)}(he:els=bx t l)(hn:n=l.length)(hr:aW ρ R4 rd):oA ρ B (nx+1) s2 s {val:=.c (.ref lv sl nx t),di:=kT ks++[(lv,sl,some (.row nx t l))],cK:=[],rd:=R4} {val:=.ref lv sl p 0 n t.size,di:=ew s.mem ks++[(lv,sl,some (.row p els))],cK:=[],rd:=rd}:=by
 subst he hn;refine .gD hm ht (by omega) (e8 (.inl hB)) (jt.append (e9 ⟨by omega,p,fU,rfl⟩)) ⟨by omega,p,l.length,fU,rfl,λr' hr'=>?_⟩ hr;rw[o6]at hr';simp[gr]at hr';have:=cJ hr';rw[kF]at this;split at this;.grind
 .have h1:=mX (gJ.2 this);obtain⟨e,_,hlt,_⟩:=hm.fZ _ _ _ (cJ h1)<;>omega
include hinj in theorem GL{ab0:Bool}{lv sl sz bytes:Nat}{x y:Cell}{a b:AV}{e:Option Ty}(h:OW s2 ab0 lv sl nx sz bytes x y e K=some r)(hx:RC ρ B s2.mem x a)(hy:RC ρ B s2.mem y b):∃E e,dP s ab0 lv sl p sz bytes a b=some e/\oA ρ B (nx+1) s2 s E e/\K (.ck E)=some r:=by
 unfold OW at h;have QO:=ue hy;split at h
 .obtain⟨n,hn,h⟩:=kU hm h hy;split at h
  .rename_i hz;have hz:=aw hz;have q:=cx h;obtain⟨hr,h⟩:=q;have hr:=lV hr;cases hx;split at h;.refine⟨_,_,?_,.Cf hm hB fU (l:=n.l) (els:=[]++bx n.t n.l) rfl QO (ht.fresh hB fU) (aW.Ce fU aW.nil),h⟩;simp only[dP,<-hz,hn,gK,ii,tx,lL,ma,bw];rw[bb ⟨trivial,hr.1,hr.2⟩]
   .refine⟨_,_,?_,.qZ hm ht hB fU (ks:=[]) (els:=[]++bx n.t n.l) rfl rfl QO,h⟩;simp only[dP,<-hz,hn,gK,ii,tx,lL,ma,bw];rw[bb ⟨trivial,hr.1,hr.2⟩];simp[ew]
  .cases h
 .rename_i t l;have q:=kU hm h hy;obtain⟨n,hn,h⟩:=q;split at h
  .rename_i news hz hc;have hz:=aw hz;obtain⟨hc,_⟩:=fc hc;rw[hc]at hn;have q:=cx h;obtain⟨hr,h⟩:=q;have hr:=lV hr;cases hx;split at h;.refine⟨_,_,?_,.Cf hm hB fU (l:=l++news) (els:=bx t l++bx t news) (mW ..).symm QO (ht.fresh hB fU) (aW.Ce fU aW.nil),h⟩;simp only[dP,<-hz,hn,gK,ii,bw];rw[bb ⟨trivial,hr.1,hr.2⟩]
   .obtain⟨hne,h⟩:=cx h;refine⟨_,_,?_,.qZ hm ht hB fU (ks:=[]) (l:=l++news) (n:=l.length+news.length) (els:=bx t l++bx t news) (mW ..).symm (by simp) QO,h⟩;simp only[dP,<-hz,hn,gK,ii,bw];rw[bb ⟨trivial,hr.1,hr.2⟩,be (by
    intro hc;have h1:l.isEmpty=false:=by simpa[bx]using hc.1
    have h2:news.isEmpty=true:=by simpa[bx]using hc.2
    rw[h1,h2]at hne;cases hne)];simp[ew]
  .cases h
 .rename_i t l v;have q:=kU hm h hy;obtain⟨n,hn,h⟩:=q;cases hz:Nat.beq t.size sz with|false=>simp[hz]at h|true=>cases hc:jS n.t t n.l with|none=>simp[hz,hc]at h|some news=>cases ab0 with|true=>simp[hz,hc]at h|false=>cases htip:s2.aK.get? v with|none=>simp[hz,hc,htip]at h|some un=>
  simp[hz,hc,htip]at h
  .have hz:=aw hz;obtain⟨hc,_⟩:=fc hc;rw[hc]at hn;have q:=cx h;obtain⟨hr,h⟩:=q;have hr:=lV hr;rcases hx with⟨hv,⟨hu,rfl⟩|⟨u,hu,rfl⟩⟩;.refine⟨_,_,?_,.Cf hm hB fU (l:=l++news) (els:=bx t l++bx t news) (tp2:=[(v,false),(nx,true)]) (tp:=[(p,true)]) (mW ..).symm QO.skip (TR.fresh (ht.agf v) hB fU) (aW.skip (aW.Ce fU aW.nil)),h⟩;simp only[dP,<-hz,hn,gK,ii,bw];rw[bb ⟨trivial,hr.1,hr.2⟩]
   .refine⟨_,_,?_,.Cf hm hB fU (l:=l++news) (els:=bx t l++bx t news) (tp2:=[(v,false),(nx,true)]) (tp:=[(u,false),(p,true)]) (mW ..).symm (aW.Ce hu QO) (TR.fresh (ht.drop hinj hu) hB fU) (aW.Ce hu (aW.Ce fU aW.nil)),h⟩;have:=(ht v htip).2 u hu;simp only[dP,<-hz,hn,gK,ii,bw];rw[bb ⟨trivial,hr.1,hr.2,by rw[this];rfl⟩]
 .rename_i cM cZ au t;have q:=aB h;obtain⟨r',hr',h⟩:=q;have q:=kU hm h hy;obtain⟨n,hn,h⟩:=q;split at h;.rename_i l news hz hc1 hc;have hz:=aw hz;obtain⟨hc,_⟩:=fc hc;obtain⟨hc1,pY⟩:=fc hc1;rw[hc]at hn;have q:=cx h;obtain⟨hr,h⟩:=q;have hr:=lV hr;obtain⟨hv,u,n',hu,rfl,hn'⟩:=hx;have hn':=hn' _ hr';rw[pY]at hn';subst hn';have hrow:=(jq hm hr' hu).2;rw[hc1]at hrow;refine⟨_,_,?_,.qZ hm ht hB fU (ks:=[]) (l:=l++news) (n:=l.length+news.length) (els:=bx t l++bx t news) (mW ..).symm (by simp) (aW.jT cM cZ QO),h⟩;simp only[dP,<-hz,hn,gK,ii,hrow,bw];rw[bb ⟨trivial,by omega,hr.1,hr.2⟩];simp[ew,fg,bw]
  .cases h
 .rename_i cM cZ au t off len;have q:=aB h;obtain⟨r',hr',h⟩:=q;have q:=kU hm h hy;obtain⟨n,hn,h⟩:=q;split at h;.rename_i l news hz hc1 hc;have hz:=aw hz;obtain⟨hc,_⟩:=fc hc;obtain⟨hc1,pY⟩:=fc hc1;rw[hc]at hn;have q:=cx h;obtain⟨hr,h⟩:=q;rw[am]at hr;have hl:=dv hr.1;have hr:=lV hr.2;obtain⟨hv,u,hu,rfl,_⟩:=hx;have hrow:=(jq hm hr' hu).2;rw[hc1]at hrow;refine⟨_,_,?_,.qZ hm ht hB fU (ks:=[]) (l:=(l.drop off).take len++news) (n:=len+news.length) (els:=((bx t l).drop off).take len++bx t news) (by simp[bx,ra,sm]) (by simp;omega) (aW.jT cM cZ QO),h⟩;simp only[dP,<-hz,hn,gK,ii,hrow,bw];rw[bb ⟨trivial,hl,hr.1,hr.2⟩];simp[ew]
  .cases h
 .cases h
theorem XV{sz:Nat}{x:Cell}{a:AV}{lo hi:Option Nat}(h:abL s2.mem sz nx x lo hi K=some r)(hx:RC ρ B s2.mem x a)(l h':Nat)(hl:l=lo.getD 0)(hh:∀n,hi=some n->h'=n):∃E e,HX s p sz a l (hi.map λ_=>h')=some e/\oA ρ B (nx+1) s2 s E e/\K (.ck E)=some r:=by
 have ehi:hi.map (λ_=>h')=hi:=by cases hi with|none=>rfl|some n=>grind
 rw[ehi];subst hl;unfold abL at h;split at h
 .rename_i lv sl au t;have q:=aB h;obtain⟨r',hr',h⟩:=q;split at h
  .rename_i l' hz hc1;have hz:=aw hz;obtain⟨hc1,pY⟩:=fc hc1;have q:=cx h;obtain⟨hp,h⟩:=q;have AF:=js hp;obtain⟨hv,u,n',hu,rfl,hn'⟩:=hx;have hn':=hn' _ hr';rw[pY]at hn';subst hn';have hrow:=(jq hm hr' hu).2;rw[hc1]at hrow;have he:=xV (t:=t) hp;rw[bw]at he;refine⟨_,_,?_,.qZ hm ht hB fU (ks:=[]) (l:=oX l' lo hi) (n:=hi.getD l'.length-lo.getD 0) (els:=((bx t l').drop (lo.getD 0)).take (hi.getD l'.length-lo.getD 0)) he.symm ?_ (aW.jT lv sl aW.nil),h⟩;.simp only[HX,hrow,<-hz];rw[bb ⟨trivial,AF.1,AF.2,by rw[bw];omega⟩];simp[ew]
   .rw[Cd hp,lr,ui];omega
  grind
 grind
omit hm ht hB fU in theorem RC.nL{m:List (Tr E2)}{c:Cell}{a:AV}(h:RC ρ B m c a):bM.nL a=c.nL:=by cases c with
 |nil f=>cases f with|false=>rcases h with rfl|⟨_,_,rfl⟩<;>rfl|true=>cases h;rfl
 |sl t l o=>cases o with|d=>rcases h with rfl|⟨_,_,rfl⟩<;>rfl|bC=>rcases h with rfl|⟨_,rfl⟩<;>rfl|full=>cases h;rfl|app v=>rcases h.2with⟨_,rfl⟩|⟨_,_,rfl⟩<;>rfl
 |ref=>obtain⟨_,_,_,_,rfl,_⟩:=h;rfl|j0=>obtain⟨_,_,_,rfl,_⟩:=h;rfl|ptr=>obtain⟨_,_,_,rfl⟩:=h;rfl|fF=>obtain⟨_,_,_,rfl⟩:=h;rfl|mp=>obtain⟨_,_,_,rfl⟩:=h;rfl|int=>cases h;rfl|bool=>cases h;rfl|er=>cases h;rfl|str=>cases h;rfl|raw=>cases h;rfl|fW=>cases h;rfl
include cj in theorem LD{sz:Nat}{x:cc}{lo hi mx:Option cc}(h:cY E wk ctx s2 row dst nx (.slice sz x lo hi mx) K=some r):dX ρ B (nx+1) s2 s (.slice sz x lo hi mx) row dst p K r:=by
 have q:=cD h;obtain⟨c,hx,h⟩:=q;have q:=ql cj h;obtain⟨l,el,il,h⟩:=q;have q:=ql cj h;obtain⟨h',eh,ih,h⟩:=q;have q:=ql cj h;obtain⟨k,ek,ik,h⟩:=q;have e1:hi.map (λ_=>h'.getD 0)=h'.map λ_=>h'.getD 0:=by cases hi<;>cases h'<;>simp_all
 have e2:mx.map (λ_=>k.getD 0)=k.map λ_=>k.getD 0:=by cases mx<;>cases k<;>simp_all
 have hir:=RC.nL (bt cj hx);split at h;.rename_i hq;rw[<-hir]at hq;obtain⟨E',e,g1,g2,g3⟩:=XV hm ht hB fU h (bt cj hx) (l.getD 0) (h'.getD 0) rfl (λn e=>by rw[e];rfl);exact⟨E',e,λ_ _=>by simp only[ct.run,el,eh,ek,hq,e1,g1,ca],g2,g3⟩
 .rename_i hq;rw[<-hir]at hq;obtain⟨a',c',g1,g2,g3⟩:=O4 h (bt cj hx) (l.getD 0) (h'.getD 0) (k.getD 0) rfl (λn e=>by rw[e];rfl) (λn e=>by rw[e];rfl);refine .pure hm ht (by omega) (a:=a') (λ_ _=>?_) (v:=.c c') g2 g3;simp[ct.run,el,eh,ek,hq,e1,e2,g1,ae]
include hinj cj in theorem I6{sz bytes:Nat}{x y:cc}(h:cY E wk ctx s2 row dst nx (.append sz bytes x y) K=some r):dX ρ B (nx+1) s2 s (.append sz bytes x y) row dst p K r:=by have q:=cD h;obtain⟨a,ha,h⟩:=q;have q:=cD h;obtain⟨b,hb,h⟩:=q;rw[hm.len]at h;obtain⟨E',e,h1,h2,h3⟩:=GL hm ht hB fU hinj h (bt cj ha) (bt cj hb);exact⟨E',e,λ_ _=>by simp only[ct.run,h1,ca],h2,h3⟩
include hinj cj in theorem GM{sz bytes:Nat}{z:List D}{x n:cc}(h:cY E wk ctx s2 row dst nx (.oP sz bytes z x n) K=some r):dX ρ B (nx+1) s2 s (.oP sz bytes z x n) row dst p K r:=by
 have q:=cD h;obtain⟨a,ha,h⟩:=q;have q:=lU h;obtain⟨kl,l',hl,hl0,h⟩:=q;have q:=aB h;obtain⟨t,_,h⟩:=q;have q:=aB h;obtain⟨z',KO,h⟩:=q;obtain⟨zc,QN,hz2⟩:=aV KO;have hze:=qj hz2 (qk QN);split at h;.rename_i hb;simp only[am]at hb;have h2:=aw hb.2;have q:=cx h;obtain⟨hr,h⟩:=q;have hr:=lV hr;rw[hm.len]at h;have hb:RC ρ B s2.mem (.sl t (List.replicate l'.toNat z') .d) (.d (.sl (List.replicate l'.toNat z))):=.inl (by simp[bx,hze]);obtain⟨E',e,h3,h4,h5⟩:=GL hm ht hB fU hinj h (bt cj ha) hb;exact⟨E',e,λ_ _=>by simp only[ct.run,jr (bt cj hl) hl0,ae];rw[bb ⟨h2,hr.1,hr.2⟩,h3,ca],h4,h5⟩
 grind
include hinj cj in theorem LF{sz bytes:Nat}{x:cc}(h:cY E wk ctx s2 row dst nx (.clone sz bytes x) K=some r):dX ρ B (nx+1) s2 s (.clone sz bytes x) row dst p K r:=by
 have q:=cD h;obtain⟨b,hb,h⟩:=q;have hb:=bt cj hb;split at h;.cases h
 .rename_i hne;rw[hm.len]at h;have he:∃els,dG s.mem (x.ev s.slots)=some els:=by unfold OW at h;exact E4 hm h hb (λb' e=>hne b' e)
  obtain⟨els,he⟩:=he;obtain⟨E',e,h1,h2,h3⟩:=GL hm ht hB fU hinj h (show RC ρ B s2.mem (.nil true) (.own [] .full)from rfl) hb;exact⟨E',e,λ_ _=>by simp only[ct.run,he,h1,ca],h2,h3⟩
omit fU hm ht hB in theorem E5{t:Ty}:∀l:List t.den,aE (RC ρ B s2.mem) (l.flatMap (jl t)) (((l.map (fy t)).flatten).map .d)|[]=>trivial|x::l=>by simp only[d7,fj,nf,fw];exact(lT t x).append (E5 l)
omit fU in include cj in theorem Pc{sz:Nat}{x y:cc}(h:cY E wk ctx s2 row dst nx (.copy sz x y) K=some r):dX ρ B (nx+1) s2 s (.copy sz x y) row dst p K r:=by
 have q:=cD h;clear h;obtain⟨a,ha,h⟩:=q;have q:=cD h;clear h;obtain⟨b,hb,h⟩:=q;have ha:=bt cj ha;have hb:=bt cj hb;have QO:=ue hb;split at h
 .rename_i lv sl au t _;have q:=aB h;obtain⟨r',hr',h⟩:=q;have q:=kU hm h hb;obtain⟨n,hn,h⟩:=q;split at h;.rename_i l news hz hc1 hc;have hz:=aw hz;obtain⟨hc,_⟩:=fc hc;obtain⟨hc1,pY⟩:=fc hc1;rw[hc]at hn;obtain⟨hv,u,n',hu,ea,hn'⟩:=ha;have hn':=hn' _ hr';rw[pY]at hn';subst hn';have hrow:=(jq hm hr' hu).2;rw[hc1]at hrow;have hst:fA B s2.mem (gr s2.mem [(lv,sl,some (.row au t (BQ news l)))]):=e8 (ks:=[]) (.inr ⟨_,hr',by simp[BQ,pY];omega⟩);refine⟨_,_,λ_ _=>?_,.gD hm ht (by omega) hst (e9 (e:=.row u (bx t (BQ news l))) ⟨by omega,u,hu,rfl⟩) (v:=.c (.int .i64 ((min news.length l.length:Nat):Int))) (a:=p4 (min news.length l.length)) (show _=_ from rfl) (aW.jT lv sl QO),h⟩;simp[ct.run,<-hz,ea,hn,hrow,gK,bw];simp[BQ,bM.splice,bx,ra,sm]
  grind
 .rename_i lv sl au t off len _;have q:=aB h;obtain⟨r',hr',h⟩:=q;have q:=kU hm h hb;obtain⟨n,hn,h⟩:=q;split at h;.rename_i l news hz hc1 hc;have hz:=aw hz;obtain⟨hc,_⟩:=fc hc;obtain⟨hc1,pY⟩:=fc hc1;rw[hc]at hn;have q:=cx h;obtain⟨hl,h⟩:=q;have hl:=dv hl;obtain⟨hv,u,hu,ea⟩:=ha;have hrow:=(jq hm hr' hu).2;rw[hc1]at hrow;have hst:fA B s2.mem (gr s2.mem [(lv,sl,some (.row au t (l.take off++(news.take (min news.length len)++l.drop (off+(news.take (min news.length len)).length)))))]):=e8 (ks:=[]) (.inr ⟨_,hr',by simp[pY];omega⟩);refine⟨_,_,λ_ _=>?_,.gD hm ht (by omega) hst (e9 (e:=.row u (bx t (l.take off++(news.take (min news.length len)++l.drop (off+(news.take (min news.length len)).length))))) ⟨by omega,u,hu,rfl⟩) (v:=.c (.int .i64 ((min news.length len:Nat):Int))) (a:=p4 (min news.length len)) (show _=_ from rfl) (aW.jT lv sl QO),h⟩;simp only[ct.run,<-hz,ea,hn,hrow,gK,bw];rw[bb ⟨trivial,hl,trivial⟩];simp[bM.splice,bx,ra,sm]
  grind
 .rename_i lv sl au off n sz' _;obtain⟨DP,u,hu,ea⟩:=ha;split at h
  .rename_i v cs he;have q:=kU hm h hb;clear h;obtain⟨nw,hn,h⟩:=q;split at h
   .rename_i hq;simp only[am]at hq;obtain⟨⟨⟨I5,QN⟩,hl⟩,hz⟩:=hq;have I5:=aw I5;have QN:=aw QN;have hl:=f1 hl;have hz:=aw hz;subst I5 QN;obtain⟨e,g1,_,u',bs,g2,rfl,g3⟩:=hm.fZ _ _ _ he;rw[hu]at g2;cases g2;have hst:fA B s2.mem (gr s2.mem [(lv,sl,some (.box v (bM.splice cs off ((nw.l.take (min nw.l.length n)).flatMap (jl nw.t)))))]):=e8 (ks:=[]) (e:=.box _ _) trivial;have Bj:aE (RC ρ B s2.mem) ((nw.l.take (min nw.l.length n)).flatMap (jl nw.t)) ((((bx nw.t nw.l).take (min (bx nw.t nw.l).length n)).flatten).map .d):=by rw[bw];unfold bx;rw[<-ra];exact E5 _
    refine⟨_,_,λ_ _=>?_,.gD hm ht (B':=nx+1) (by omega) hst (e9 (e:=.box u (bM.splice bs off ((((bx nw.t nw.l).take (min (bx nw.t nw.l).length n)).flatten).map .d))) ⟨by omega,u,_,hu,rfl,(xU g3 Bj off).mono λ_ _=>RC.move hst (by omega) λ_ _=>rfl⟩) (v:=.c (.int .i64 ((min nw.l.length n:Nat):Int))) (a:=p4 (min nw.l.length n)) (show _=_ from rfl) (aW.jT lv sl QO),h⟩;have amY:bM.oQ s.mem lv sl u=some bs:=by simp[bM.oQ,g1,sM]
    simp only[ct.run,ea,hn,amY];rw[bb ⟨trivial,by rw[<-g3.length];exact hl,by rw[<-hz];exact gK _ _⟩,bw]
   grind
  grind
 grind
include cj in theorem Cg{sz bytes:Nat}{z:List D}{l c:cc}(h:cY E wk ctx s2 row dst nx (.makeSlice sz bytes z l c) K=some r):dX ρ B (nx+1) s2 s (.makeSlice sz bytes z l c) row dst p K r:=by
 simp[cY]at h;have q:=lU h;clear h;obtain⟨kl,l',hl,hl0,h⟩:=q;have q:=lU h;clear h;obtain⟨kc,c',hc,hc0,h⟩:=q;have q:=aB h;clear h;obtain⟨t,_,h⟩:=q;have q:=aB h;clear h;obtain⟨z',KO,h⟩:=q;obtain⟨zc,QN,hz2⟩:=aV KO;have hze:=qj hz2 (qk QN);split at h;.rename_i hb;simp only[am]at hb;have h1:=aw hb.1;have h2:=aw hb.2;subst h1;have q:=cx h;obtain⟨hr,h⟩:=q;rw[am]at hr;have hle:=dv hr.1;have hr:=lV hr.2;rw[hm.len]at h;refine⟨_,_,λ_ _=>?_,.qZ hm ht hB fU (ks:=[]) (l:=List.replicate l'.toNat z') (n:=l'.toNat) (els:=List.replicate l'.toNat z) (by simp[bx,hze]) (by simp) aW.nil,h⟩;simp only[ct.run,jr (bt cj hl) hl0,jr (bt cj hc) hc0];rw[bb ⟨hle,by rw[xc];exact hr.2,hr.1,h2⟩];simp[ew]
 grind
omit fU in include cj in theorem LG{sz:Nat}{z:List D}{x:cc}(h:cY E wk ctx s2 row dst nx (.clear sz z x) K=some r):dX ρ B (nx+1) s2 s (.clear sz z x) row dst p K r:=by
 have q:=cD h;obtain⟨a,ha,h⟩:=q;have ha:=bt cj ha;split at h
 .rename_i lv sl au t _;have q:=aB h;obtain⟨r',hr',h⟩:=q;have q:=aB h;obtain⟨z',KO,h⟩:=q;obtain⟨zc,QN,hz2⟩:=aV KO;have hze:=qj hz2 (qk QN);split at h;.rename_i l hb hc1;simp only[am]at hb;have h1:=aw hb.1;have h2:=aw hb.2;obtain⟨hc1,pY⟩:=fc hc1;obtain⟨hv,u,n',hu,ea,hn'⟩:=ha;have hn':=hn' _ hr';rw[pY]at hn';subst hn';have hrow:=(jq hm hr' hu).2;rw[hc1]at hrow;have hst:fA B s2.mem (gr s2.mem [(lv,sl,some (.row au t (List.replicate l.length z')))]):=e8 (ks:=[]) (.inr ⟨_,hr',by simp[pY]⟩);refine⟨_,_,λ_ _=>?_,.gD hm ht (by omega) hst (e9 (e:=.row u (bx t (List.replicate l.length z'))) ⟨by omega,u,hu,rfl⟩) mY (aW.jT lv sl aW.nil),h⟩;simp only[ct.run,<-h1,ea,hrow,bw];rw[bb ⟨trivial,by omega,by rw[h2,h1]⟩];simp[bM.splice,bx,hze]
  grind
 .rename_i lv sl au t off len _;have q:=aB h;obtain⟨r',hr',h⟩:=q;have q:=aB h;obtain⟨z',KO,h⟩:=q;obtain⟨zc,QN,hz2⟩:=aV KO;have hze:=qj hz2 (qk QN);split at h;.rename_i l hb hc1;simp only[am]at hb;have h1:=aw hb.1;have h2:=aw hb.2;obtain⟨hc1,pY⟩:=fc hc1;have q:=cx h;obtain⟨hd,h⟩:=q;have hd:=dv hd;obtain⟨hv,u,hu,ea,_⟩:=ha;have hrow:=(jq hm hr' hu).2;rw[hc1]at hrow;have hst:fA B s2.mem (gr s2.mem [(lv,sl,some (.row au t (l.take off++List.replicate len z'++l.drop (off+len))))]):=e8 (ks:=[]) (.inr ⟨_,hr',by simp[pY];omega⟩);refine⟨_,_,λ_ _=>?_,.gD hm ht (by omega) hst (e9 (e:=.row u (bx t (l.take off++List.replicate len z'++l.drop (off+len)))) ⟨by omega,u,hu,rfl⟩) mY (aW.jT lv sl aW.nil),h⟩;simp only[ct.run,<-h1,ea,hrow,bw];rw[bb ⟨trivial,hd,by rw[h2,h1]⟩];simp[bM.splice,bx,hze,ra,sm]
  grind
 grind
omit hm ht hB fU in theorem q8:∀l:List Int,sn (iX l)=some l|[]=>rfl|z::l=>by show(sn (iX l)).map (z::·)=_;rw[q8 l];rfl
omit hm ht hB fU in theorem RV.nL{m:List (Tr E2)}{v:V2}{a:AV}(h:RV ρ B m v a):bM.nL a=v.nL:=by cases v with|c c=>exact RC.nL h|agg=>obtain⟨_,rfl,_⟩:=h;rfl|fk=>obtain⟨_,rfl,_⟩:=h;rfl|jF=>obtain⟨_,rfl,_⟩:=h;rfl
omit hm ht hB fU in theorem Pd{m:List (Tr E2)}{row lv d aT:Nat}{v:V2}{a:AV}(h:RV ρ B m v a)(h1:∀f,v≠.c (.nil f))(h2:∀t l o,v≠.c (.sl t l o)):Ao row lv d aT a={val:=a,di:=[],cK:=[],rd:=[]}:=by
 unfold Ao;split;.cases v with
  |c x=>cases x with|nil f=>grind|sl t l o=>grind|ref=>obtain⟨_,_,_,_,e,_⟩:=h<;>grind|j0=>obtain⟨_,_,_,e,_⟩:=h<;>grind|ptr=>obtain⟨_,_,_,e⟩:=h<;>grind|fF=>obtain⟨_,_,_,e⟩:=h<;>grind|mp=>obtain⟨_,_,_,e⟩:=h<;>grind|int=>cases h|bool=>cases h|er=>cases h|str=>cases h|raw=>cases h|fW=>cases h
  |agg=>obtain⟨_,e,_⟩:=h<;>grind|fk=>obtain⟨_,e,_⟩:=h<;>grind|jF=>obtain⟨_,e,_⟩:=h<;>grind
 .rfl
include cj in theorem Sc{x:cc}(h:cY E wk ctx s2 row dst nx (.HS x) K=some r):dX ρ B (nx+1) s2 s (.HS x) row dst p K r:=by
 have q:=aB h;obtain⟨v,hv,h⟩:=q;have hv:=bt cj hv;have hir:=RV.nL hv;split at h
 .rename_i hq;rw[<-hir]at hq;split at h
  .rename_i lv sl au t _;have q:=aB h;obtain⟨r',hr',h⟩:=q;have q:=aB h;obtain⟨l,hl,h⟩:=q;obtain⟨hc1,pY⟩:=fc hl;obtain⟨DP,u,n',hu,ea,hn'⟩:=hv;have hn':=hn' _ hr';rw[pY]at hn';subst hn';have hrow:=(jq hm hr' hu).2;rw[hc1]at hrow;rw[hm.len]at h;have hst:fA B s2.mem (gr s2.mem [(lv,sl,none),(s.mem.length-1,dst,some (.row nx t l))]):=e8 (ks:=[(lv,sl)]) (e:=.row nx t l) (.inl hB);refine⟨_,_,λ_ _=>?_,.gD hm ht (B':=nx+1) (GI:=[(lv,sl,none),(s.mem.length-1,dst,some (.row nx t l))]) (us:=[(lv,sl,none),(s.mem.length-1,dst,some (.row p (bx t l)))]) (by omega) hst ⟨⟨rfl,rfl,λ_ h=>by cases h⟩,e9 ⟨ub _,p,fU,rfl⟩⟩ (v:=.c (.ref (s.mem.length-1) dst nx t)) (a:=.ref (s.mem.length-1) dst p 0 l.length t.size) (show RC _ _ _ (.ref (s.mem.length-1) dst nx t) _ from⟨ub _,p,l.length,fU,rfl,λr hr=>?_⟩) (aW.jT lv sl aW.nil),h⟩;.rw[ea]at hq;simp only[ct.run,hq,ea,HY,hrow,ma,bw,List.drop_zero];rw[show Nat.ble l.length l.length=true from pp (bc _),<-bw (t:=t) (l:=l),fi];simp[bw]
   .have this:=cJ hr;simp[gr]at this;rw[kF]at this;split at this;.injection this with this;injection this with _ h1 h2;obtain⟨t',l'⟩:=r;simp only at h1 h2;subst h1;cases h2;rfl
    .have h1:=rT (gJ.2 this);obtain⟨e,_,hlt,_⟩:=hm.fZ _ _ _ (cJ h1);omega
  grind
 rename_i hq;rw[<-hir]at hq;split at h;.rename_i hq4;refine .pure hm ht (by omega) (λ_ _=>?_) hv h;simp[ct.run,hq,Ao,hq4];rfl
 .rename_i hq4;split at h
  .have e:x.ev s.slots=.own [] .full:=hv;have q:=aB h;obtain⟨t,_,h⟩:=q;split at h;.rename_i hsz;have hsz:=aw hsz;rw[hm.len]at h;refine⟨_,_,λ_ _=>?_,.qZ hm ht hB fU (ks:=[]) (l:=([]:List t.den)) (n:=0) (els:=[]) rfl rfl aW.nil,h⟩;rw[e]at hq;simp[ct.run,Ao,hq,hq4,e,hsz];rfl
   grind
  .cases h
  .cases h
  .rename_i h1 h2 h3;refine .pure hm ht (by omega) (λ_ _=>?_) hv h;simp[ct.run,hq];rw[Pd hv (λf hf=>h2 f hf) (λt l o hf=>h3 t l o hf)];rfl
include cj in theorem GN{x:cc}(h:cY E wk ctx s2 row dst nx (.compact x) K=some r):dX ρ B (nx+1) s2 s (.compact x) row dst p K r:=by
 have q:=cD h;obtain⟨a,ha,h⟩:=q;have ha:=bt cj ha;split at h;.have e:x.ev s.slots=.own [] .full:=ha;refine .pure hm ht (by omega) (a:=.own [] .full) (λ_ _=>?_) (v:=.c (.nil true)) rfl h;simp[ct.run,mO,e,ca];rfl
 .rename_i lv sl au t _;have q:=aB h;obtain⟨r',hr',h⟩:=q;split at h;.rename_i l hb hc1;have h1:=aw hb;obtain⟨hc1,pY⟩:=fc hc1;have q:=cx h;obtain⟨hd,h⟩:=q;obtain⟨hv,u,n',hu,ea,hn'⟩:=ha;have hn':=hn' _ hr';rw[pY]at hn';subst hn';have hrow:=(jq hm hr' hu).2;rw[hc1]at hrow;refine⟨_,_,λ_ _=>?_,.qZ hm ht hB fU (ks:=[]) (t:=.int .i64) (l:=jR l) (n:=(jR l).length) (els:=bx (.int .i64) (jR l)) rfl rfl (aW.jT lv sl aW.nil),h⟩;have he:bx (.int .i64) l=iX l:=rfl;simp only[ct.run,mO,ea,hrow,he,q8,ae,h1];rw[bb ⟨trivial,by simp[iX],trivial,by simpa[iX]using hd⟩];rfl
  grind
 grind
omit fU in include cj in theorem Pe{x:cc}(h:cY E wk ctx s2 row dst nx (.sort x) K=some r):dX ρ B (nx+1) s2 s (.sort x) row dst p K r:=by
 have q:=cD h;obtain⟨a,ha,h⟩:=q;have ha:=bt cj ha;split at h;.have e:x.ev s.slots=.own [] .full:=ha;exact⟨_,_,λ_ _=>by simp only[ct.run,yT,e,ca],.gD (GI:=[]) (us:=[]) hm ht (by omega) (fA.refl _ _) trivial mY aW.nil,h⟩
 .rename_i lv sl au t _;have q:=aB h;obtain⟨r',hr',h⟩:=q;split at h;.rename_i l hb hc1;have h1:=aw hb;obtain⟨hc1,pY⟩:=fc hc1;have q:=cx h;obtain⟨hd,h⟩:=q;obtain⟨hv,u,n',hu,ea,hn'⟩:=ha;have hn':=hn' _ hr';rw[pY]at hn';subst hn';have hrow:=(jq hm hr' hu).2;rw[hc1]at hrow;have hst:fA B s2.mem (gr s2.mem [(lv,sl,some (.row au (.int .i64) (jQ l)))]):=e8 (ks:=[]) (.inr ⟨_,hr',by rw[pY];exact(nT l).symm⟩);refine⟨_,_,λ_ _=>?_,.gD hm ht (by omega) hst (e9 (e:=.row u (bx (.int .i64) (jQ l))) ⟨by omega,u,hu,rfl⟩) mY (aW.jT lv sl aW.nil),h⟩;have he:bx (.int .i64) l=iX l:=rfl;simp only[ct.run,yT,ea,hrow,he,q8,ae,h1];rw[bb ⟨trivial,by simp[iX],trivial,by simpa[iX]using hd⟩];rfl
  grind
 grind
include cj in theorem Pf{sz:Nat}{x n:cc}(h:cY E wk ctx s2 row dst nx (.grow sz x n) K=some r):dX ρ B (nx+1) s2 s (.grow sz x n) row dst p K r:=by
 have q:=cD h;obtain⟨a,ha,h⟩:=q;have q:=lU h;clear h;obtain⟨kn,n',hn,hn0,h⟩:=q;have ha:=bt cj ha;split at h
 .rename_i t DK _;split at h;.rename_i hz;have hz:=aw hz;have ea:x.ev s.slots=_:=ha;refine⟨_,_,λ_ _=>?_,.Cf hm hB fU (l:=([]:List t.den)) (els:=[]) rfl aW.nil (ht.fresh hB fU) (aW.Ce fU aW.nil),h⟩;simp[ct.run,ea,jr (bt cj hn) hn0,hz]
  grind
 grind
omit ht hB fU in include cj in theorem I7{sz:Nat}:∀{ps:List (Nat×cc)}{xI Nx:List (List Cell)}{els:List (List D)}{ks:List (Nat×Nat)},BR s2 sz xI ps=some (Nx,ks)->aE (λc d=>cv c=some d) xI els->∃els',p6 s.mem s.slots sz els ps=some (els',ks)/\aE (λc d=>cv c=some d) Nx els'
 |[],xI,Nx,els,ks,h,ha=>by cases h;exact⟨els,rfl,ha⟩|(i,x)::ps,xI,Nx,els,ks,h,ha=>by
  simp[BR]at h;split at h
  .rename_i e k hn;obtain⟨cs,h1,h2⟩:=aV hn;obtain⟨v,hv,h3⟩:=aV h1;obtain⟨aO,g1,g2⟩:=wK h3 (bt cj hv);obtain⟨ds,g3,g4⟩:=Lu hm h2 g2;split at h
   .rename_i hb;rw[am]at hb;have hz:=aw hb.1;have hi:i<xI.length:=by simp_all
    split at h
    .rename_i els' ks' h4;cases h;have ha':aE (λc d=>cv c=some d) (xI.set i e) (els.set i ds):=by
      refine .uO (by simp[ha.length]) λj c d hc hd=>?_;rw[mr]at hc hd;by_cases hij:i=j;.grind
      .rw[be hij]at hc hd;obtain⟨d',g5,g6⟩:=ha.get j c hc<;>grind
     obtain⟨abl,g5,g6⟩:=I7 h4 ha';refine⟨abl,?_,g6⟩;simp only[p6,Ea,g1,ae,g3];rw[bb ⟨by rw[pS g4];exact hz,by rw[<-ha.length];exact hi⟩,g5]
    grind
   grind
  grind
omit hm ht hB fU in theorem xX{t:Ty}:∀{xI:List (List Cell)}{els:List (List D)}{l:List t.den},BS t xI=some l->aE (λc d=>cv c=some d) xI els->els=bx t l
 |[],[],l,h,_=>by cases h;rfl|c::r,d::ds,l,h,ha=>by
  simp[BS]at h;split at h;.rename_i x xs h1 h2;cases h;rw[qj h1 ha.1,xX h2 ha.2];rfl
  grind|[],_::_,_,_,h=>h.elim|_::_,[],_,_,h=>h.elim
omit hm ht hB fU in theorem sR{β γ:Type}{R:β->γ->Prop}{x:β}{y:γ}(h:R x y):∀n,aE R (List.replicate n x) (List.replicate n y)|0=>trivial|n+1=>⟨h,sR h n⟩
include cj in theorem Ax{sz n:Nat}{z:List D}{ps:List (Nat×cc)}(h:cY E wk ctx s2 row dst nx (.buildSlice sz n z ps) K=some r):dX ρ B (nx+1) s2 s (.buildSlice sz n z ps) row dst p K r:=by simp[cY]at h;cases pP:Nat.beq row 2with|true=>
  rw[pP]at h;simp at h;split at h;.cases h
  rename_i hn;obtain⟨cs,hcs,h⟩:=aB h;obtain⟨zc,Xo,hcs⟩:=aV hcs;have uR:∀k:Nat,aE (RC ρ B s2.mem) (List.replicate k zc).flatten ((List.replicate k z).flatten.map .d):=by intro k;induction k with|zero=>trivial|succ k ih=>simp only[pb,nf,fw];exact(IV Xo).append ih
  obtain⟨aO,g1,g2⟩:=Ca cj hcs (uR n);have hst:fA B s2.mem (gr s2.mem [(s2.mem.length-1,dst,some (.box nx cs))]):=e8 (ks:=[]) (e:=.box nx cs) trivial;refine⟨_,_,λ_ _=>?_,.gD hm ht (B':=nx+1) (by omega) hst (e9 (e:=.box p aO) ⟨by omega,p,aO,fU,rfl,g2.mono λ_ _=>RC.move hst (by omega) λ_ _=>rfl⟩) (v:=.c (.fF (s2.mem.length-1) dst nx 0 n sz)) (a:=.fF (s2.mem.length-1) dst p 0 n sz) ⟨by omega,p,fU,rfl⟩ aW.nil,h⟩;simp only[ct.run,pP,hn,g1,hm.len,ca]|false=>
 rw[pP]at h;have q:=aB h;obtain⟨t,_,h⟩:=q;have q:=aB h;obtain⟨zc,Xo,h⟩:=q;have q:=aB h;obtain⟨⟨xI,ks⟩,hf,h⟩:=q;obtain⟨els,g1,g2⟩:=I7 hm cj hf (sR (R:=λc d=>cv c=some d) (qk Xo) n);split at h
 .rename_i l hz hp;have hz:=aw hz;have he:=xX hp g2;have hlen:n=l.length:=by
   have h1:=g2.length;have h2:∀{ps:List (Nat×cc)}{a b:List (List Cell)}{ks:List (Nat×Nat)},BR s2 sz a ps=some (b,ks)->b.length=a.length:=by intro ps;induction ps with|nil=>intro a b ks h;simp[BR,eI,eb]at h;rw[h.1]|cons q ps ih=>intro a b ks h;simp[BR]at h<;>grind
   have:=h2 hf;simp at this;rw[<-this,h1,he,bw]
  split at h;.rename_i hrow;refine⟨_,_,λ_ _=>?_,.gD hm ht (by omega) (qY (ks:=ks)) (jt (m:=s.mem)) (v:=.c (.sl t l .full)) (a:=.own els .full) (show _=_ by rw[he]) (aW.jg ks),h⟩;simp[ct.run,pP,g1,hrow]
  .rename_i hrow;split at h;.cases h
   .rename_i hk;rw[hm.len]at h hk;refine⟨_,_,λ_ _=>?_,.qZ hm ht hB fU (ks:=ks) (l:=l) (n:=n) (els:=els) he hlen (aW.jg ks),h⟩;simp only[ct.run,pP,g1,hrow];rw[be (wM hk),hz]
 grind
end
end Go.Sym
