/- The machine over typed data: states at places where ways meet. -/
import Derived.Test.YtkdilffhbejjaaaGreatSymG
set_option linter.unusedVariables false
set_option linter.unusedSimpArgs false
namespace Go.Sym
open Go Go.bM
structure qm(rn:Ren)(ρ ρ':bD)(B':Nat)(m m':List (Tr E2)):Prop where
 au:∀p∈rn,ρ' p.1=p.2.bind ρ/\p.1<B'
 row:∀v w,(v,some w)∈rn->∀lv sl r,rowOf m' lv sl v=some r->rowOf m lv sl w=some r
theorem qm.left{rn ZS:Ren}{ρ ρ':bD}{B':Nat}{m m':List (Tr E2)}(h:qm (rn++ZS) ρ ρ' B' m m'):qm rn ρ ρ' B' m m':=⟨λp hp=>h.au p (dp _ hp),λv w hp=>h.row v w (dp _ hp)⟩
theorem qm.right{rn ZS:Ren}{ρ ρ':bD}{B':Nat}{m m':List (Tr E2)}(h:qm (rn++ZS) ρ ρ' B' m m'):qm ZS ρ ρ' B' m m':=⟨λp hp=>h.au p (dq _ hp),λv w hp=>h.row v w (dq _ hp)⟩
theorem qm.tail{q:Nat×Option Nat}{rn:Ren}{ρ ρ':bD}{B':Nat}{m m':List (Tr E2)}(h:qm (q::rn) ρ ρ' B' m m'):qm rn ρ ρ' B' m m':=qm.right (rn:=[q]) h
def XX(rn:Ren)(x x':Cell):Prop:=∀ρ B m a ρ' B' m',qm rn ρ ρ' B' m m'->RC ρ B m x a->RC ρ' B' m' x' a
theorem Sd{c:gZ}{x:Cell}{d:List fS}{rn:Ren}(h:c.get x=some (d,rn)):∃x',(∀rest,c.fill (d++rest)=some (x',rest))/\XX rn x x':=by
  unfold gZ.get at h;split at h
  . split at h;.cases h;exact⟨_,λ_=>rfl,λ_ _ _ _ _ _ _ _ h=>h⟩
    .cases h
  .cases h;exact⟨_,λ_=>rfl,λ_ _ _ _ _ _ _ _ h=>h⟩
  .cases h;exact⟨_,λ_=>rfl,λ_ _ _ _ _ _ _ _ h=>h⟩
  .cases h;exact⟨_,λ_=>rfl,λ_ _ _ _ _ _ _ _ h=>h⟩
  . split at h
    . cases h;refine⟨_,λ_=>rfl,λρ B m a ρ' B' m' _ h=>?_⟩;rcases(hU (m:=[]) h).2with rfl|⟨o',ho,rfl⟩;.exact .inl rfl
      .exact .inr ⟨o',ho,rfl⟩
    . cases h;refine⟨_,λ_=>rfl,λρ B m a ρ' B' m' _ h=>?_⟩;rcases(hU (m:=[]) h).2with rfl|⟨o',ho,rfl⟩;.exact .inl rfl
      .exact .inr ⟨o',rfl⟩
    .cases h;exact⟨_,λ_=>rfl,λρ B m a ρ' B' m' _ h=>h⟩
    .cases h;refine⟨_,λ_=>rfl,λρ B m a ρ' B' m' hb h=>?_⟩;have:=hb.au _ cb;exact⟨this.2,.inl ⟨this.1,h⟩⟩
    .cases h
  . split at h;.cases h;refine⟨_,λ_=>rfl,λρ B m a ρ' B' m' _ h=>?_⟩;exact(iW (m:=[]) h).2.1
    .cases h
    .rename_i hne;cases h;refine⟨_,λ_=>rfl,λρ B m a ρ' B' m' _ h=>?_⟩;exact(iW (m:=[]) h).2.2 λe=>hne e
    .cases h;exact⟨_,λ_=>rfl,λρ B m a ρ' B' m' _ h=>h⟩
    .cases h;refine⟨_,λ_=>rfl,λρ B m a ρ' B' m' hb h=>?_⟩;have:=hb.au _ cb;exact⟨this.2,.inl ⟨this.1,h⟩⟩
    . cases h;refine⟨_,λ_=>rfl,λρ B m a ρ' B' m' hb h=>?_⟩;have:=hb.au _ cb;refine⟨this.2,?_⟩;rcases h with⟨_,⟨hu,rfl⟩|⟨u,hu,rfl⟩⟩;.exact .inl ⟨by rw[this.1];exact hu,rfl⟩
      .exact .inr ⟨u,by rw[this.1];exact hu,rfl⟩
    .cases h
  .cases h;exact⟨_,λ_=>rfl,λρ B m a ρ' B' m' _ h=>h⟩
  .cases h;exact⟨_,λ_=>rfl,λρ B m a ρ' B' m' _ h=>(hU (m:=[]) h).2⟩
  . split at h;.rename_i e hb _;rw[am]at hb;have e1:=aw hb.1;have e2:=aw hb.2;subst e e1 e2;cases h;refine⟨_,λ_=>rfl,λρ B m a ρ' B' m' hb h=>?_⟩;have hv:=hb.au _ cb;obtain⟨_,u,n,hu,rfl,hn⟩:=h;exact⟨hv.2,u,n,by rw[hv.1];exact hu,rfl,λr hr=>hn r (hb.row _ _ cb _ _ _ hr)⟩
    .cases h
  . split at h;.rename_i hb;simp only[am]at hb;have e1:=aw hb.1.1.1;have e2:=aw hb.1.1.2;have e3:=aw hb.1.2;have e4:=aw hb.2;subst e1 e2 e3 e4;cases h;refine⟨_,λ_=>rfl,λρ B m a ρ' B' m' hb h=>?_⟩;have hv:=hb.au _ cb;obtain⟨_,u,hu,rfl⟩:=h;exact⟨hv.2,u,by rw[hv.1];exact hu,rfl⟩
    .cases h
  . split at h;.rename_i hb;have e:=aw hb;subst e;cases h;exact⟨_,λ_=>rfl,λρ B m a ρ' B' m' _ h=>h⟩
    .cases h
  . split at h;.rename_i hb;simp only[am]at hb;have e1:=aw hb.1;have e2:=aw hb.2;subst e1 e2;cases h;refine⟨_,λ_=>rfl,λρ B m a ρ' B' m' hb h=>?_⟩;have hv:=hb.au _ cb;obtain⟨_,u,hu,rfl⟩:=h;exact⟨hv.2,u,by rw[hv.1];exact hu,rfl⟩
    .cases h
  .cases h
theorem wN:∀{cs:List gZ}{xs:List Cell}{d:List fS}{rn:Ren},zw cs xs=some (d,rn)->∃xs',(∀rest,dx cs (d++rest)=some (xs',rest))/\∀ρ B m aO ρ' B' m',qm rn ρ ρ' B' m m'->aE (RC ρ B m) xs aO->aE (RC ρ' B' m') xs' aO
 |[],[],d,rn,h=>by cases h;exact⟨[],λ_=>rfl,λ_ _ _ _ _ _ _ _ h=>by cases‹List AV›<;>exact h⟩|c::cs,x::xs,d,rn,h=>by
    simp[zw]at h;split at h
    . rename_i d1 r1 d2 r2 h1 h2;cases h;obtain⟨x',g1,g2⟩:=Sd h1;obtain⟨xs',g3,g4⟩:=wN h2;refine⟨x'::xs',λrest=>?_,λρ B m aO ρ' B' m' hb ha=>?_⟩;.simp[dx,bi,g1,g3]
      .match aO,ha with|a::aO,ha=>exact⟨g2 _ _ _ _ _ _ _ hb.left ha.1,g4 _ _ _ _ _ _ _ hb.right ha.2⟩
    grind|[],_::_,_,_,h=>by simp[zw]at h|_::_,[],_,_,h=>by simp[zw]at h
theorem XY{v:tZ}{x:V2}{d:List fS}{rn:Ren}(h:v.get x=some (d,rn)):∃x',(∀rest,v.fill (d++rest)=some (x',rest))/\∀ρ B m a ρ' B' m',qm rn ρ ρ' B' m m'->RV ρ B m x a->RV ρ' B' m' x' a:=by
  unfold tZ.get at h;split at h;.obtain⟨x',g1,g2⟩:=Sd h;exact⟨.c x',λrest=>by simp only[tZ.fill,g1],λρ B m a ρ' B' m' hb ha=>g2 _ _ _ _ _ _ _ hb ha⟩
  .obtain⟨xs',g1,g2⟩:=wN h;refine⟨.agg xs',λrest=>by simp only[tZ.fill,g1],λρ B m a ρ' B' m' hb ha=>?_⟩;obtain⟨aO,rfl,ha⟩:=ha;exact⟨aO,rfl,g2 _ _ _ _ _ _ _ hb ha⟩
  . rename_i f l f' cs;split at h;.rename_i hf;have e:=aw hf;subst e;obtain⟨xs',g1,g2⟩:=wN h;refine⟨.fk f xs',λrest=>by simp only[tZ.fill,g1],λρ B m a ρ' B' m' hb ha=>?_⟩;obtain⟨aO,rfl,ha⟩:=ha;exact⟨aO,rfl,g2 _ _ _ _ _ _ _ hb ha⟩
    grind
  grind
theorem sS{s:Tr V2}:∀{l:List (Nat×tZ)}{d:List fS}{rn:Ren},qc s l=some (d,rn)->∀t0:Tr V2,∃t,(∀rest,n5 l (d++rest) t0=some (t,rest))/\∀ρ B m o ρ' B' m',qm rn ρ ρ' B' m m'->va ρ B m s o->va ρ' B' m' t0 o->va ρ' B' m' t o
 |[],d,rn,h,t0=>by simp_all[qc,Ren,va,bD,n5]|(k,v)::l,d,rn,h,t0=>by
    simp[qc]at h;split at h
    . rename_i d1 r1 d2 r2 h1 h2;cases h;obtain⟨x,hx,h1⟩:=aV h1;obtain⟨x',g1,g2⟩:=XY h1;obtain⟨t,g3,g4⟩:=sS h2 (t0.set k (some x'));refine⟨t,λrest=>?_,λρ B m o ρ' B' m' hb hs h0=>g4 _ _ _ _ _ _ _ hb.right hs ?_⟩;.simp[n5,bi,g1,g3]
      . intro k' v' hk';rw[Tr.cy]at hk';split at hk';.rename_i e;subst e;simp_all;exact g2 _ _ _ _ _ _ _ hb.left (hs k x hx)
        .exact h0 k' v' hk'
    grind
theorem zG:∀{ts:List (Tr V2)}{l:List (List (Nat×tZ))}{d:List fS}{rn:Ren},qd ts l=some (d,rn)->∃ts',(∀rest,ua l (d++rest)=some (ts',rest))/\∀ρ B m os ρ' B' m',qm rn ρ ρ' B' m m'->aE (va ρ B m) ts os->aE (va ρ' B' m') ts' os
 |[],[],d,rn,h=>by cases h;exact⟨[],λ_=>rfl,λ_ _ _ os _ _ _ _ h=>by cases os<;>exact h⟩|t::ts,x::xs,d,rn,h=>by
  simp[qd]at h;split at h;.rename_i d1 r1 d2 r2 h1 h2;cases h;obtain⟨t',g1,g2⟩:=sS h1 .lf;obtain⟨ts',g3,g4⟩:=zG h2;refine⟨t'::ts',λrest=>by simp only[ua,bi,g1,g3],λρ B m os ρ' B' m' hb ha=>?_⟩;match os,ha with|o::os,ha=>exact⟨g2 _ _ _ _ _ _ _ hb.left ha.1 (λk v hk=>by simp at hk),g4 _ _ _ _ _ _ _ hb.right ha.2⟩
  grind|[],_::_,_,_,h=>by simp[qd]at h|_::_,[],_,_,h=>by simp[qd]at h
def sU(rn:Ren)(e e':E2):Prop:=(∀v t l,e'=.row v t l->∃w,e=.row w t l/\(v,some w)∈rn)/\∀ρ B m a ρ' B' m',qm rn ρ ρ' B' m m'->RE ρ B m e a->RE ρ' B' m' e' a
theorem XZ{sh:Nh}{e:E2}{d:List fS}{rn:Ren}(h:sh.get e=some (d,rn)):∃e',(∀rest,sh.fill (d++rest)=some (e',rest))/\sU rn e e':=by
  unfold Nh.get at h;split at h
  . cases h;refine⟨_,λ_=>rfl,λv t l he=>?_,λρ B m a ρ' B' m' hb ha=>?_⟩;.grind
    .have hv:=hb.au _ cb<;>simp_all[bD,Ty.den,bx,RE]
  . rename_i au l gF cs;split at h;.rename_i d1 r1 h1;cases h;obtain⟨xs',g1,g2⟩:=wN h1;refine⟨.box au xs',λrest=>by simp only[Nh.fill,g1],λv t l he=>(by cases he),λρ B m a ρ' B' m' hb ha=>?_⟩;obtain⟨_,u,aO,hu,rfl,ha⟩:=ha;have hv:=hb.au _ cb;exact⟨hv.2,u,aO,by rw[hv.1];exact hu,rfl,g2 _ _ _ _ _ _ _ hb.tail ha⟩
    grind
  .cases h;refine⟨_,λ_=>rfl,λv t l he=>(by cases he),λρ B m a ρ' B' m' hb ha=>?_⟩;have hv:=hb.au _ cb<;>simp_all[bD,RE]
  grind
def GO(rn:Ren)(m m':List (Tr E2)):Prop:=∀lv sl e',jO m' lv sl=some e'->∃e,jO m lv sl=some e/\sU rn e e'
theorem sU.mono{rn ZS:Ren}{e e':E2}(hs:∀p∈rn,p∈ZS)(h:sU rn e e'):sU ZS e e':=⟨λv t l he=>by obtain⟨w,h1,h2⟩:=h.1 v t l he<;>grind,λρ B m a ρ' B' m' hb ha=>h.2 ρ B m a ρ' B' m' ⟨λp hp=>hb.au p (hs p hp),λv w hp=>hb.row v w (hs _ hp)⟩ ha⟩
theorem E6{m:List (Tr E2)}:∀{l:List (Nat×Nat×Nh)}{d:List fS}{rn:Ren},BV m l=some (d,rn)->∀(m0:List (Tr E2))(rn0:Ren),GO rn0 m m0->(∀p∈rn,p∈rn0)->∃m',(∀rest,wE l (d++rest) m0=some (m',rest))/\GO rn0 m m'/\m'.length=m0.length
 |[],d,rn,h,m0,rn0,hg,_=>by simp_all[BV,Ren,GO,wE]|(lv,sl,sh)::l,d,rn,h,m0,rn0,hg,hs=>by
  simp[BV]at h
  split at h;.rename_i d1 r1 d2 r2 h1 h2;cases h;obtain⟨e,he,h1⟩:=aV h1;obtain⟨e',g1,g2⟩:=XZ h1;obtain⟨m',g3,g4,g5⟩:=E6 h2 (BO m0 lv sl (some e')) rn0 (by
   intro cM cZ x hx;rw[kF]at hx;split at hx;.rename_i hc;obtain⟨rfl,rfl,_⟩:=hc;injection hx with hx;subst hx;exact⟨e,he,g2.mono λp hp=>hs p (dp _ hp)⟩
   .exact hg cM cZ x hx) (λp hp=>hs p (dq _ hp));exact⟨m',λrest=>by simp only[wE,bi,g1,g3],g4,by rw[g5,sL]⟩
  grind
theorem sV(n lv sl:Nat):jO (List.replicate n .lf) lv sl=none:=by unfold jO;grind[Tr.get?]
theorem Ch:∀{l:List Nat}{t:Tr Unit}{v:Nat},(GC l t).get? v=some ()->v∈l\/t.get? v=some ()
 |[],_,_,h=>.inr h|a::r,t,v,h=>by
  rcases Ch (l:=r) (t:=t.set a (some ())) h with h|h;.grind
  .rw[Tr.cy]at h<;>grind
theorem ug{nv:Nat}{σ:Ren}{t:Tr Unit}:∀{l:List Nat},GD nv σ t l=true->∀v∈l,v<nv/\∀w,uC σ v=some w->t.get? w=some ()
 |[],_,_,hv=>by cases hv|a::r,h,v,hv=>by
  simp[GD,am]at h;rcases dk.1 hv with rfl|hv;.refine⟨by simpa using h.1.1,λw hw=>?_⟩;have h1:=h.1.2;rw[hw]at h1;simp[Option.isSome_iff_exists]at h1<;>grind
  .exact ug h.2 v hv
theorem Se{a b:Option Nat}:oeq a b=true↔a=b:=by cases a<;>cases b<;>simp[oeq]
structure am0(nv snv:Nat)(σ:Ren):Prop where
 lt:∀p∈σ,p.1<nv
 at_:∀p∈σ,uC σ p.1=p.2slt:∀p∈σ,∀w,p.2=some w->w<snv
 inj:∀p∈σ,∀q∈σ,∀w,p.2=some w->q.2=some w->q.1=p.1
theorem Sf{nv snv:Nat}{σ:Ren}(h:RL nv snv σ=true):am0 nv snv σ:=by
 unfold RL at h;rw[km]at h;refine⟨λp hp=>?_,λp hp=>?_,λp hp w hw=>?_,λp hp q hq w hw M5=>?_⟩;all_goals have:=h p hp;simp only[am]at this
 .simp_all
 .exact Se.1 this.1.2
 .simp_all
 .have:=this.2;rw[hw]at this;simp only[am,km]at this;have:=this.2 q hq<;>simp_all[uC,oeq,Ren]
theorem n6{σ:Ren}{v w:Nat}(h:uC σ v=some w):(v,some w)∈σ:=by induction σ with|nil=>cases h|cons q r ih=>obtain⟨a,b⟩:=q;simp[uC]at h;split at h<;>simp_all
def Fr(ρ:bD)(n2 n:Nat)(ρ':bD)(n2':Nat):Prop:=∀v u,v<n2'->ρ' v=some u->(∃w,w<n2/\ρ w=some u)\/n<=u
theorem Fr.refl(ρ:bD)(n2 n:Nat):Fr ρ n2 n ρ n2:=λv _ hv hu=>.inl ⟨v,hv,hu⟩
theorem Fr.trans{ρ ρ' E7:bD}{n2 n2' agi n n':Nat}(h:Fr ρ n2 n ρ' n2')(k:Fr ρ' n2' n' E7 agi)(hn:n<=n'):Fr ρ n2 n E7 agi:=by
 intro v u hv hu;rcases k v u hv hu with⟨w,hw,lF⟩|h';.exact h w u hw lF
 omega
abbrev AM(ρ:bD)(os:List (Tr AV))(s2:S2)(s:St):Prop:=SR ρ s2.nv os s2 s
theorem AN{T:bq}{s2:S2}{ds:List fS}{ρ:bD}{os:List (Tr AV)}{s:St}(h:T.get s2=some ds)(hs:AM ρ os s2 s):∃s2' ρ',T.st ds=some s2'/\AM ρ' os s2' s/\Fr ρ s2.nv s.nv ρ' s2'.nv:=by
  unfold bq.get at h;split at h
  . rename_i d r d' r' d'' r'' h1 h2 h3;split at h
    . rename_i hb;simp only[am]at hb;obtain⟨⟨hl,hr⟩,ht⟩:=hb;have hl:=aw hl;have hr:=Sf hr;obtain⟨t,g1,g2⟩:=sS h1 .lf;obtain⟨ts,g3,g4⟩:=zG h2;let σ:=r++(r'++r'');obtain⟨m',g5,g6,g7⟩:=E6 h3 (List.replicate T.lvs .lf) σ (λlv sl e he=>by rw[sV]at he;cases he) (λp hp=>dq _ (dq _ hp));let ρ':bD:=λv=>if v<T.nv then(uC σ v).bind ρ else some (s.nv+(v-T.nv));have hρ':∀v,ρ' v=if v<T.nv then(uC σ v).bind ρ else some (s.nv+(v-T.nv)):=λ_=>rfl;have Sh:qm σ ρ ρ' T.nv s2.mem m':=by
        refine⟨λp hp=>⟨?_,hr.lt p hp⟩,λv w hp lv sl rr hrow=>?_⟩;.rw[hρ',bb (hr.lt p hp),hr.at_ p hp]
        .obtain⟨e,he,hc⟩:=g6 _ _ _ (cJ hrow);obtain⟨w',e1,e2⟩:=hc.1 _ _ _ rfl;have h1:=hr.at_ _ hp;have h2:=hr.at_ _ e2;rw[h1]at h2;cases h2;exact gJ.2 (he.trans (by rw[e1]))
      have hb0:qm (r'++r'') ρ ρ' T.nv s2.mem m':=qm.right (rn:=r) Sh;refine⟨{slots:=t,outer:=ts,mem:=m',aK:=GC T.aK .lf,nv:=T.nv},ρ',?_,⟨?_,?_,?_,?_,?_,bc _⟩,?_⟩;.have e3:=g5 [];unfold bq.st<;>grind
      .exact g2 _ _ _ _ _ _ _ (qm.left (ZS:=r'++r'') Sh) hs.slots (λk v hk=>by simp at hk)
      .exact g4 _ _ _ _ _ _ _ hb0.left hs.outer
      .refine⟨by rw[g7,jn,hl];exact hs.mem.len,λlv sl e' he'=>?_⟩;obtain⟨e,he,hc⟩:=g6 lv sl e' he';obtain⟨x,h4,h5⟩:=hs.mem.fZ lv sl e he;exact⟨x,h4,hc.2 _ _ _ _ _ _ _ Sh h5⟩
      . intro v hv;rcases Ch hv with hv|hv
        . refine⟨(ug ht v hv).1,λu hu=>?_⟩;rw[hρ']at hu;split at hu;.obtain⟨w,hw,hu⟩:=aV hu;exact(hs.aK w ((ug ht v hv).2 w hw)).2 u hu
          .exact absurd (ug ht v hv).1 (by assumption)
        simp_all
      . refine⟨λv _ hv hu=>?_,λv hv=>?_,λv v' u hu lF=>?_⟩;.rw[hρ',bb hv]at hu;obtain⟨w,hw,hu⟩:=aV hu;exact hs.au.low w _ (hr.slt _ (n6 hw) w rfl) hu
        .grind
        . rw[hρ']at hu lF;split at hu
          . obtain⟨w,hw,hu⟩:=aV hu;have hw2:=hr.slt _ (n6 hw) w rfl;split at lF;.obtain⟨w',M5,lF⟩:=aV lF;have:=hs.au.inj _ _ _ hu lF;subst this;exact(hr.inj _ (n6 M5) _ (n6 hw) w rfl rfl)
            .simp_all;have:=hs.au.low w u hw2 hu;omega
          . simp_all;split at lF;.obtain⟨w',M5,lF⟩:=aV lF;have:=hs.au.low w' u (hr.slt _ (n6 M5) w' rfl) lF<;>omega
            grind
      .intro v u hv hu;rw[hρ',bb hv]at hu;obtain⟨w,hw,hu⟩:=aV hu;exact .inl ⟨w,hr.slt _ (n6 hw) w rfl,hu⟩
    grind
  grind
end Go.Sym
