/- Parts of the proof. -/
import Derived.Test.YtclkonemhghbkaaGreatSymGM
set_option linter.unusedVariables false
set_option linter.unusedSimpArgs false
set_option linter.defProp false
namespace Go.Sym
open Go Go.bK
structure rj(rn:Ren)(ρ ρ':bH)(B':Nat)(m m':List (Tr E2)):Prop where
 ak:∀p∈rn,ρ' p.1=p.2.bind ρ/\p.1<B'
 row:∀v w,(v,some w)∈rn->∀lv sl r,rowOf m' lv sl v=some r->rowOf m lv sl w=some r
def rj.left{rn rn':Ren}{ρ ρ':bH}{B':Nat}{m m':List (Tr E2)}(h:rj (rn++rn') ρ ρ' B' m m'):rj rn ρ ρ' B' m m':=⟨λp hp=>h.ak p (dk _ hp),λv w hp=>h.row v w (dk _ hp)⟩
def rj.right{rn rn':Ren}{ρ ρ':bH}{B':Nat}{m m':List (Tr E2)}(h:rj (rn++rn') ρ ρ' B' m m'):rj rn' ρ ρ' B' m m':=⟨λp hp=>h.ak p (dt _ hp),λv w hp=>h.row v w (dt _ hp)⟩
def rj.tail{q:Nat×Option Nat}{rn:Ren}{ρ ρ':bH}{B':Nat}{m m':List (Tr E2)}(h:rj (q::rn) ρ ρ' B' m m'):rj rn ρ ρ' B' m m':=rj.right (rn:=[q]) h
def aaT(rn:Ren)(x x':Cell):Prop:=∀ρ B m a ρ' B' m',rj rn ρ ρ' B' m m'->RC ρ B m x a->RC ρ' B' m' x' a
def UM{c:ig}{x:Cell}{d:List fS}{rn:Ren}(h:c.get x=some (d,rn)):∃x',(∀rest,c.fill (d++rest)=some (x',rest))/\aaT rn x x':=by
  unfold ig.get at h;split at h
  . split at h;.cases h;exact⟨_,λ_=>rfl,λ_ _ _ _ _ _ _ _ h=>h⟩
    .cases h
  .cases h;exact⟨_,λ_=>rfl,λ_ _ _ _ _ _ _ _ h=>h⟩
  .cases h;exact⟨_,λ_=>rfl,λ_ _ _ _ _ _ _ _ h=>h⟩
  .cases h;exact⟨_,λ_=>rfl,λ_ _ _ _ _ _ _ _ h=>h⟩
  . split at h
    . cases h;refine⟨_,λ_=>rfl,λρ B m a ρ' B' m' _ h=>?_⟩;rcases(iL (m:=[]) h).2with rfl|⟨o',ho,rfl⟩;.exact .inl rfl
      .exact .inr ⟨o',ho,rfl⟩
    . cases h;refine⟨_,λ_=>rfl,λρ B m a ρ' B' m' _ h=>?_⟩;rcases(iL (m:=[]) h).2with rfl|⟨o',ho,rfl⟩;.exact .inl rfl
      .exact .inr ⟨o',rfl⟩
    .cases h;exact⟨_,λ_=>rfl,λρ B m a ρ' B' m' _ h=>h⟩
    .cases h;refine⟨_,λ_=>rfl,λρ B m a ρ' B' m' hb h=>?_⟩;have:=hb.ak _ ca;exact⟨this.2,.inl ⟨this.1,h⟩⟩
    .cases h
  . split at h;.cases h;refine⟨_,λ_=>rfl,λρ B m a ρ' B' m' _ h=>?_⟩;exact(jo (m:=[]) h).2.1
    .cases h
    .rename_i hne;cases h;refine⟨_,λ_=>rfl,λρ B m a ρ' B' m' _ h=>?_⟩;exact(jo (m:=[]) h).2.2 λe=>hne e
    .cases h;exact⟨_,λ_=>rfl,λρ B m a ρ' B' m' _ h=>h⟩
    .cases h;refine⟨_,λ_=>rfl,λρ B m a ρ' B' m' hb h=>?_⟩;have:=hb.ak _ ca;exact⟨this.2,.inl ⟨this.1,h⟩⟩
    . cases h;refine⟨_,λ_=>rfl,λρ B m a ρ' B' m' hb h=>?_⟩;have:=hb.ak _ ca;refine⟨this.2,?_⟩;rcases h with⟨_,⟨hu,rfl⟩|⟨u,hu,rfl⟩⟩;.exact .inl ⟨by rw[this.1];exact hu,rfl⟩
      .exact .inr ⟨u,by rw[this.1];exact hu,rfl⟩
    .cases h
  .cases h;exact⟨_,λ_=>rfl,λρ B m a ρ' B' m' _ h=>h⟩
  .cases h;exact⟨_,λ_=>rfl,λρ B m a ρ' B' m' _ h=>(iL (m:=[]) h).2⟩
  . split at h;.rename_i e hb _;rw[al]at hb;have e1:=am hb.1;have e2:=am hb.2;subst e e1 e2;cases h;refine⟨_,λ_=>rfl,λρ B m a ρ' B' m' hb h=>?_⟩;have hv:=hb.ak _ ca;obtain⟨_,u,n,hu,rfl,hn⟩:=h;exact⟨hv.2,u,n,by rw[hv.1];exact hu,rfl,λr hr=>hn r (hb.row _ _ ca _ _ _ hr)⟩
    .cases h
  . split at h;.rename_i hb;simp only[al]at hb;have e1:=am hb.1.1.1;have e2:=am hb.1.1.2;have e3:=am hb.1.2;have e4:=am hb.2;subst e1 e2 e3 e4;cases h;refine⟨_,λ_=>rfl,λρ B m a ρ' B' m' hb h=>?_⟩;have hv:=hb.ak _ ca;obtain⟨_,u,hu,rfl⟩:=h;exact⟨hv.2,u,by rw[hv.1];exact hu,rfl⟩
    .cases h
  . split at h;.rename_i hb;have e:=am hb;subst e;cases h;exact⟨_,λ_=>rfl,λρ B m a ρ' B' m' _ h=>h⟩
    .cases h
  . split at h;.rename_i hb;simp only[al]at hb;have e1:=am hb.1;have e2:=am hb.2;subst e1 e2;cases h;refine⟨_,λ_=>rfl,λρ B m a ρ' B' m' hb h=>?_⟩;have hv:=hb.ak _ ca;obtain⟨_,u,hu,rfl⟩:=h;exact⟨hv.2,u,by rw[hv.1];exact hu,rfl⟩
    .cases h
  .cases h
def yt:∀{cs:List ig}{xs:List Cell}{d:List fS}{rn:Ren},AY cs xs=some (d,rn)->∃xs',(∀rest,dH cs (d++rest)=some (xs',rest))/\∀ρ B m aK ρ' B' m',rj rn ρ ρ' B' m m'->aC (RC ρ B m) xs aK->aC (RC ρ' B' m') xs' aK
 |[],[],d,rn,h=>by cases h;exact⟨[],λ_=>rfl,λ_ _ _ _ _ _ _ _ h=>by cases‹List AV›<;>exact h⟩|c::cs,x::xs,d,rn,h=>by
    simp[AY]at h;split at h
    . rename_i d1 r1 d2 r2 h1 h2;cases h;obtain⟨x',g1,g2⟩:=UM h1;obtain⟨xs',g3,g4⟩:=yt h2;refine⟨x'::xs',λrest=>?_,λρ B m aK ρ' B' m' hb ha=>?_⟩;.simp[dH,bi,g1,g3]
      .match aK,ha with|a::aK,ha=>exact⟨g2 _ _ _ _ _ _ _ hb.left ha.1,g4 _ _ _ _ _ _ _ hb.right ha.2⟩
    grind|[],_::_,_,_,h=>by simp[AY]at h|_::_,[],_,_,h=>by simp[AY]at h
def aaU{v:tA}{x:V2}{d:List fS}{rn:Ren}(h:v.get x=some (d,rn)):∃x',(∀rest,v.fill (d++rest)=some (x',rest))/\∀ρ B m a ρ' B' m',rj rn ρ ρ' B' m m'->RV ρ B m x a->RV ρ' B' m' x' a:=by
  unfold tA.get at h;split at h;.obtain⟨x',g1,g2⟩:=UM h;exact⟨.c x',λrest=>by simp only[tA.fill,g1],λρ B m a ρ' B' m' hb ha=>g2 _ _ _ _ _ _ _ hb ha⟩
  .obtain⟨xs',g1,g2⟩:=yt h;refine⟨.agg xs',λrest=>by simp only[tA.fill,g1],λρ B m a ρ' B' m' hb ha=>?_⟩;obtain⟨aK,rfl,ha⟩:=ha;exact⟨aK,rfl,g2 _ _ _ _ _ _ _ hb ha⟩
  . rename_i f l f' cs;split at h;.rename_i hf;have e:=am hf;subst e;obtain⟨xs',g1,g2⟩:=yt h;refine⟨.fG f xs',λrest=>by simp only[tA.fill,g1],λρ B m a ρ' B' m' hb ha=>?_⟩;obtain⟨aK,rfl,ha⟩:=ha;exact⟨aK,rfl,g2 _ _ _ _ _ _ _ hb ha⟩
    grind
  grind
def uv{s:Tr V2}:∀{l:List (Nat×tA)}{d:List fS}{rn:Ren},qT s l=some (d,rn)->∀t0:Tr V2,∃t,(∀rest,oN l (d++rest) t0=some (t,rest))/\∀ρ B m o ρ' B' m',rj rn ρ ρ' B' m m'->wG ρ B m s o->wG ρ' B' m' t0 o->wG ρ' B' m' t o
 |[],d,rn,h,t0=>by simp_all[qT,Ren,wG,bH,oN]|(k,v)::l,d,rn,h,t0=>by
    simp[qT]at h;split at h
    . rename_i d1 r1 d2 r2 h1 h2;cases h;obtain⟨x,hx,h1⟩:=aV h1;obtain⟨x',g1,g2⟩:=aaU h1;obtain⟨t,g3,g4⟩:=uv h2 (t0.set k (some x'));refine⟨t,λrest=>?_,λρ B m o ρ' B' m' hb hs h0=>g4 _ _ _ _ _ _ _ hb.right hs ?_⟩;.simp[oN,bi,g1,g3]
      . intro k' v' hk';rw[Tr.cK]at hk';split at hk';.rename_i e;subst e;simp_all;exact g2 _ _ _ _ _ _ _ hb.left (hs k x hx)
        .exact h0 k' v' hk'
    grind
def Bb:∀{ts:List (Tr V2)}{l:List (List (Nat×tA))}{d:List fS}{rn:Ren},qU ts l=some (d,rn)->∃ts',(∀rest,vl l (d++rest)=some (ts',rest))/\∀ρ B m os ρ' B' m',rj rn ρ ρ' B' m m'->aC (wG ρ B m) ts os->aC (wG ρ' B' m') ts' os
 |[],[],d,rn,h=>by cases h;exact⟨[],λ_=>rfl,λ_ _ _ os _ _ _ _ h=>by cases os<;>exact h⟩|t::ts,x::xs,d,rn,h=>by
  simp[qU]at h;split at h;.rename_i d1 r1 d2 r2 h1 h2;cases h;obtain⟨t',g1,g2⟩:=uv h1 .lf;obtain⟨ts',g3,g4⟩:=Bb h2;refine⟨t'::ts',λrest=>by simp only[vl,bi,g1,g3],λρ B m os ρ' B' m' hb ha=>?_⟩;match os,ha with|o::os,ha=>exact⟨g2 _ _ _ _ _ _ _ hb.left ha.1 (λk v hk=>by simp at hk),g4 _ _ _ _ _ _ _ hb.right ha.2⟩
  grind|[],_::_,_,_,h=>by simp[qU]at h|_::_,[],_,_,h=>by simp[qU]at h
def uw(rn:Ren)(e e':E2):Prop:=(∀v t l,e'=.row v t l->∃w,e=.row w t l/\(v,some w)∈rn)/\∀ρ B m a ρ' B' m',rj rn ρ ρ' B' m m'->RE ρ B m e a->RE ρ' B' m' e' a
def aaV{sh:PJ}{e:E2}{d:List fS}{rn:Ren}(h:sh.get e=some (d,rn)):∃e',(∀rest,sh.fill (d++rest)=some (e',rest))/\uw rn e e':=by
  unfold PJ.get at h;split at h
  . cases h;refine⟨_,λ_=>rfl,λv t l he=>?_,λρ B m a ρ' B' m' hb ha=>?_⟩;.grind
    .have hv:=hb.ak _ ca<;>simp_all[bH,Ty.den,bD,RE]
  . rename_i ak l gA cs;split at h;.rename_i d1 r1 h1;cases h;obtain⟨xs',g1,g2⟩:=yt h1;refine⟨.box ak xs',λrest=>by simp only[PJ.fill,g1],λv t l he=>(by cases he),λρ B m a ρ' B' m' hb ha=>?_⟩;obtain⟨_,u,aK,hu,rfl,ha⟩:=ha;have hv:=hb.ak _ ca;exact⟨hv.2,u,aK,by rw[hv.1];exact hu,rfl,g2 _ _ _ _ _ _ _ hb.tail ha⟩
    grind
  .cases h;refine⟨_,λ_=>rfl,λv t l he=>(by cases he),λρ B m a ρ' B' m' hb ha=>?_⟩;have hv:=hb.ak _ ca<;>simp_all[bH,RE]
  grind
def IU(rn:Ren)(m m':List (Tr E2)):Prop:=∀lv sl e',jY m' lv sl=some e'->∃e,jY m lv sl=some e/\uw rn e e'
def uw.mono{rn rn':Ren}{e e':E2}(hs:∀p∈rn,p∈rn')(h:uw rn e e'):uw rn' e e':=⟨λv t l he=>by obtain⟨w,h1,h2⟩:=h.1 v t l he<;>grind,λρ B m a ρ' B' m' hb ha=>h.2 ρ B m a ρ' B' m' ⟨λp hp=>hb.ak p (hs p hp),λv w hp=>hb.row v w (hs _ hp)⟩ ha⟩
def GQ{m:List (Tr E2)}:∀{l:List (Nat×Nat×PJ)}{d:List fS}{rn:Ren},Di m l=some (d,rn)->∀(m0:List (Tr E2))(rn0:Ren),IU rn0 m m0->(∀p∈rn,p∈rn0)->∃m',(∀rest,yd l (d++rest) m0=some (m',rest))/\IU rn0 m m'/\m'.length=m0.length
 |[],d,rn,h,m0,rn0,hg,_=>by simp_all[Di,Ren,IU,yd]|(lv,sl,sh)::l,d,rn,h,m0,rn0,hg,hs=>by
  simp[Di]at h
  split at h;.rename_i d1 r1 d2 r2 h1 h2;cases h;obtain⟨e,he,h1⟩:=aV h1;obtain⟨e',g1,g2⟩:=aaV h1;obtain⟨m',g3,g4,g5⟩:=GQ h2 (Db m0 lv sl (some e')) rn0 (by
   intro cy cU x hx;rw[lC]at hx;split at hx;.rename_i hc;obtain⟨rfl,rfl,_⟩:=hc;injection hx with hx;subst hx;exact⟨e,he,g2.mono λp hp=>hs p (dk _ hp)⟩
   .exact hg cy cU x hx) (λp hp=>hs p (dt _ hp));exact⟨m',λrest=>by simp only[yd,bi,g1,g3],g4,by rw[g5,uj]⟩
  grind
def ux(n lv sl:Nat):jY (List.replicate n .lf) lv sl=none:=by unfold jY;grind[Tr.get?]
def DF:∀{l:List Nat}{t:Tr Unit}{v:Nat},(ID l t).get? v=some ()->v∈l\/t.get? v=some ()
 |[],_,_,h=>.inr h|a::r,t,v,h=>by
  rcases DF (l:=r) (t:=t.set a (some ())) h with h|h;.grind
  .rw[Tr.cK]at h<;>grind
def vt{nv:Nat}{σ:Ren}{t:Tr Unit}:∀{l:List Nat},IE nv σ t l=true->∀v∈l,v<nv/\∀w,vQ σ v=some w->t.get? w=some ()
 |[],_,_,hv=>by cases hv|a::r,h,v,hv=>by
  simp[IE,al]at h;rcases dj.1 hv with rfl|hv;.refine⟨by simpa using h.1.1,λw hw=>?_⟩;have h1:=h.1.2;rw[hw]at h1;simp[Option.isSome_iff_exists]at h1<;>grind
  .exact vt h.2 v hv
def UN{a b:Option Nat}:oeq a b=true↔a=b:=by cases a<;>cases b<;>simp[oeq]
structure asn(nv snv:Nat)(σ:Ren):Prop where
 lt:∀p∈σ,p.1<nv
 at_:∀p∈σ,vQ σ p.1=p.2slt:∀p∈σ,∀w,p.2=some w->w<snv
 inj:∀p∈σ,∀q∈σ,∀w,p.2=some w->q.2=some w->q.1=p.1
def UO{nv snv:Nat}{σ:Ren}(h:Um nv snv σ=true):asn nv snv σ:=by
 unfold Um at h;rw[eQ]at h;refine⟨λp hp=>?_,λp hp=>?_,λp hp w hw=>?_,λp hp q hq w hw Pu=>?_⟩;all_goals have:=h p hp;simp only[al]at this
 .simp_all
 .exact UN.1 this.1.2
 .simp_all
 .have:=this.2;rw[hw]at this;simp only[al,eQ]at this;have:=this.2 q hq<;>simp_all[vQ,oeq,Ren]
def oO{σ:Ren}{v w:Nat}(h:vQ σ v=some w):(v,some w)∈σ:=by induction σ with|nil=>cases h|cons q r ih=>obtain⟨a,b⟩:=q;simp[vQ]at h;split at h<;>simp_all
def Fr(ρ:bH)(n2 n:Nat)(ρ':bH)(n2':Nat):Prop:=∀v u,v<n2'->ρ' v=some u->(∃w,w<n2/\ρ w=some u)\/n<=u
def Fr.refl(ρ:bH)(n2 n:Nat):Fr ρ n2 n ρ n2:=λv _ hv hu=>.inl ⟨v,hv,hu⟩
def Fr.trans{ρ ρ' GR:bH}{n2 n2' aj7 n n':Nat}(h:Fr ρ n2 n ρ' n2')(k:Fr ρ' n2' n' GR aj7)(hn:n<=n'):Fr ρ n2 n GR aj7:=by
 intro v u hv hu;rcases k v u hv hu with⟨w,hw,lF⟩|h';.exact h w u hw lF
 omega
abbrev Ca(ρ:bH)(os:List (Tr AV))(s2:S2)(s:St):Prop:=SR ρ s2.nv os s2 s
def Cb{T:bw}{s2:S2}{ds:List fS}{ρ:bH}{os:List (Tr AV)}{s:St}(h:T.get s2=some ds)(hs:Ca ρ os s2 s):∃s2' ρ',T.st ds=some s2'/\Ca ρ' os s2' s/\Fr ρ s2.nv s.nv ρ' s2'.nv:=by
  unfold bw.get at h;split at h
  . rename_i d r d' r' d'' r'' h1 h2 h3;split at h
    . rename_i hb;simp only[al]at hb;obtain⟨⟨hl,hr⟩,ht⟩:=hb;have hl:=am hl;have hr:=UO hr;obtain⟨t,g1,g2⟩:=uv h1 .lf;obtain⟨ts,g3,g4⟩:=Bb h2;let σ:=r++(r'++r'');obtain⟨m',g5,g6,g7⟩:=GQ h3 (List.replicate T.lvs .lf) σ (λlv sl e he=>by rw[ux]at he;cases he) (λp hp=>dt _ (dt _ hp));let ρ':bH:=λv=>if v<T.nv then(vQ σ v).bind ρ else some (s.nv+(v-T.nv));have hρ':∀v,ρ' v=if v<T.nv then(vQ σ v).bind ρ else some (s.nv+(v-T.nv)):=λ_=>rfl;have UP:rj σ ρ ρ' T.nv s2.mem m':=by
        refine⟨λp hp=>⟨?_,hr.lt p hp⟩,λv w hp lv sl rr hrow=>?_⟩;.rw[hρ',ba (hr.lt p hp),hr.at_ p hp]
        .obtain⟨e,he,hc⟩:=g6 _ _ _ (cW hrow);obtain⟨w',e1,e2⟩:=hc.1 _ _ _ rfl;have h1:=hr.at_ _ hp;have h2:=hr.at_ _ e2;rw[h1]at h2;cases h2;exact ij.2 (he.trans (by rw[e1]))
      have hb0:rj (r'++r'') ρ ρ' T.nv s2.mem m':=rj.right (rn:=r) UP;refine⟨{slots:=t,outer:=ts,mem:=m',aI:=ID T.aI .lf,nv:=T.nv},ρ',?_,⟨?_,?_,?_,?_,?_,bc _⟩,?_⟩;.have e3:=g5 [];unfold bw.st<;>grind
      .exact g2 _ _ _ _ _ _ _ (rj.left (rn':=r'++r'') UP) hs.slots (λk v hk=>by simp at hk)
      .exact g4 _ _ _ _ _ _ _ hb0.left hs.outer
      .refine⟨by rw[g7,kb,hl];exact hs.mem.len,λlv sl e' he'=>?_⟩;obtain⟨e,he,hc⟩:=g6 lv sl e' he';obtain⟨x,h4,h5⟩:=hs.mem.fE lv sl e he;exact⟨x,h4,hc.2 _ _ _ _ _ _ _ UP h5⟩
      . intro v hv;rcases DF hv with hv|hv
        . refine⟨(vt ht v hv).1,λu hu=>?_⟩;rw[hρ']at hu;split at hu;.obtain⟨w,hw,hu⟩:=aV hu;exact(hs.aI w ((vt ht v hv).2 w hw)).2 u hu
          .exact absurd (vt ht v hv).1 (by assumption)
        simp_all
      . refine⟨λv _ hv hu=>?_,λv hv=>?_,λv v' u hu lF=>?_⟩;.rw[hρ',ba hv]at hu;obtain⟨w,hw,hu⟩:=aV hu;exact hs.ak.low w _ (hr.slt _ (oO hw) w rfl) hu
        .grind
        . rw[hρ']at hu lF;split at hu
          . obtain⟨w,hw,hu⟩:=aV hu;have hw2:=hr.slt _ (oO hw) w rfl;split at lF;.obtain⟨w',Pu,lF⟩:=aV lF;have:=hs.ak.inj _ _ _ hu lF;subst this;exact(hr.inj _ (oO Pu) _ (oO hw) w rfl rfl)
            .simp_all;have:=hs.ak.low w u hw2 hu;omega
          . simp_all;split at lF;.obtain⟨w',Pu,lF⟩:=aV lF;have:=hs.ak.low w' u (hr.slt _ (oO Pu) w' rfl) lF<;>omega
            grind
      .intro v u hv hu;rw[hρ',ba hv]at hu;obtain⟨w,hw,hu⟩:=aV hu;exact .inl ⟨w,hr.slt _ (oO hw) w rfl,hu⟩
    grind
  grind
def Bc{a b:Ty}{x:a.den}{y:b.den}(h:wA a b x=some y):(⟨b,y⟩:fS)=⟨a,x⟩:=by obtain⟨e,he⟩:=Rs h<;>grind
def dN:∀{ts:List Ty}{ds:List fS}{x:(sY ts).den},pack ts ds=some x->unpack ts x=ds
 |[],[],_,_=>rfl|[a],[d],x,h=>by have:=Bc h;simp[unpack]<;>omega|a::b::r,d::ds,x,h=>by
  simp[pack]at h;split at h;.rename_i y z h1 h2;cases h;simp only[unpack];rw[Bc h1,dN h2]
  grind|[],_::_,_,h=>by simp[pack]at h|[_],[],_,h=>by simp[pack]at h|[_],_::_::_,_,h=>by simp[pack]at h|_::_::_,[],_,h=>by simp[pack]at h
def GS{a b:AX}(h:aaF a b=true):a=b:=by unfold aaF at h;split at h<;>simp_all
def Cc{ρ:bH}{so:List (Tr AV)}{s2:S2}{s:St}{ax:AX}(hs:Ca ρ so s2 s):∀{os:bt}{y:(qa os).den},ov os ax s2=some y->∃s2' ρ',Ca ρ' so s2' s/\Fr ρ s2.nv s.nv ρ' s2'.nv/\∀{α:Type}(K:AX->S2->Option α),qV os y K=K ax s2'
 |[],_,h=>by simp[ov]at h|[x],y,h=>by
  simp[ov]at h;split at h;.rename_i he;obtain⟨ds,h1,h2⟩:=aD h;obtain⟨s2',ρ',g1,g2,g3⟩:=Cb h1 hs;refine⟨s2',ρ',g2,g3,λK=>?_⟩;simp[qV,dN h2,g1,cH,GS he]
  grind|x::z::r,y,h=>by
  simp[ov]at h;split at h;.rename_i he;obtain⟨y',h1,h2⟩:=aD h;cases h2;obtain⟨ds,h3,h4⟩:=aV h1;obtain⟨s2',ρ',g1,g2,g3⟩:=Cb h3 hs;refine⟨s2',ρ',g2,g3,λK=>?_⟩;simp[qV,dN h4,g1,cH,GS he]
  .obtain⟨y',h1,h2⟩:=aD h;cases h2;obtain⟨s2',ρ',g2,g3,g4⟩:=Cc hs h1;exact⟨s2',ρ',g2,g3,λK=>by simp only[qV,g4]⟩
def RC.still{ρ ρ':bH}{B B':Nat}{m m':List (Tr E2)}{c:Cell}{a:AV}(hc:c.still=true)(h:RC ρ B m c a):RC ρ' B' m' c a:=by cases c with
 |nil f=>cases f<;>exact h|sl t l o=>cases o with|app v=>cases hc|_=>exact h
 |ref=>cases hc|kj=>cases hc|ptr=>cases hc|dx=>cases hc|mp=>cases hc|_=>exact h
def RCs.still{ρ ρ':bH}{B B':Nat}{m m':List (Tr E2)}:∀{cs:List Cell}{aK:List AV},cs.all Cell.still=true->aC (RC ρ B m) cs aK->aC (RC ρ' B' m') cs aK|[],[],_,_=>trivial|c::cs,a::aK,hc,h=>by rw[dv,al]at hc;exact⟨h.1.still hc.1,RCs.still hc.2 h.2⟩|[],_::_,_,h=>h.elim|_::_,[],_,h=>h.elim
def RV.still{ρ ρ':bH}{B B':Nat}{m m':List (Tr E2)}{v:V2}{a:AV}(hv:v.still=true)(h:RV ρ B m v a):RV ρ' B' m' v a:=by cases v with|c c=>exact RC.still hv h|agg cs=>obtain⟨aK,h1,h2⟩:=h;exact⟨aK,h1,RCs.still hv h2⟩|fG f cs=>obtain⟨aK,h1,h2⟩:=h;exact⟨aK,h1,RCs.still hv h2⟩|fk vs=>obtain⟨aK,h1,h2⟩:=h;refine⟨aK,h1,?_⟩;clear h1;replace hv:vs.all (λv=>v.2.all Cell.still)=true:=hv;induction vs generalizing aK with|nil=>cases aK<;>exact h2|cons v vs ih=>cases aK with|nil=>exact h2.elim|cons a aK=>rw[dv,al]at hv;refine⟨?_,ih aK h2.2 hv.2⟩;obtain⟨b,cs⟩:=v;cases b with|true=>obtain⟨bs,h3,h4⟩:=h2.1;exact⟨bs,h3,RCs.still hv.1 h4⟩|false=>obtain⟨c,h3,h4⟩:=h2.1;refine⟨c,h3,h4.still ?_⟩;subst h3;simpa using hv.1
def Tr.IV{α:Type}(v:Option α)(l r:Tr α)(k:Nat):(Tr.nd v l r).get? k=if k=0then v else if k%2=1then l.get? (k/2)else r.get? (k/2-1):=by simp[Tr.get?];cases h0:Nat.beq k 0with|true=>simp_all|false=>have:=na h0;cases h1:Nat.beq (k%2) 1with|true=>simp_all|false=>simp[this,na h1]
def Tr.aaW{α:Type}(t:Tr α)(k:Nat):t.get? k=if k=0then t.top else if k%2=1then t.left.get? (k/2)else t.right.get? (k/2-1):=by cases t with|lf=>simp[Tr.get?,Tr.top,Tr.left,Tr.right]|nd v l r=>rw[Tr.IV];rfl
def zD:∀(t:Tr V2)(k:Nat)(v:V2),(loose t).get? k=some v->t.get? k=some v
 |.lf,_,_,h=>by simp[loose]at h|.nd x l r,k,v,h=>by
  simp[loose]at h;rw[Tr.IV]at h⊢;by_cases h0:k=0;.grind
  .rw[be h0]at h⊢;by_cases h1:k%2=1;.rw[ba h1]at h⊢;exact zD l _ v h
   .rw[be h1]at h⊢;exact zD r _ v h
def rq:∀(a b:Tr V2)(k:Nat)(v:V2),(merge a b).get? k=some v->(a.get? k=some v/\v.still=true)\/b.get? k=some v
 |.lf,_,_,_,h=>by simp[merge]at h|.nd x l r,b,k,v,h=>by
  simp[merge]at h;rw[Tr.IV]at h;rw[Tr.IV,Tr.aaW b];by_cases h0:k=0;.grind
  .rw[be h0]at h⊢;rw[be h0];by_cases h1:k%2=1;.rw[ba h1]at h⊢;rw[ba h1];exact rq l _ _ v h
   .rw[be h1]at h⊢;rw[be h1];exact rq r _ _ v h
def ρ0:bH:=λ_=>none
def UQ{m:List (Tr bq)}{els:List (List D)}{o:ZK}(h:o≠.bG):fo m (.own els o)=some (.d (.sl els),[]):=by cases o with|bG=>grind|_=>rfl
def UR{m:List (Tr bq)}{els:List (List D)}{o:ZK}(h:o≠.bG):dA m (.own els o)=some (.d (.sl els)):=by grind[dA]
def JD(agg:Bool)(m:List (Tr bq))(a a':AV)(k:List (Nat×Nat)):Prop:=(agg=true/\fo m a=some (a',k))\/(agg=false/\dA m a=some a'/\k=[])
def JD.data{agg:Bool}{m:List (Tr bq)}{a:AV}{y:D}(e:a=.d y):JD agg m a (.d y) []:=by
 subst e;cases agg;.exact .inr ⟨rfl,rfl,rfl⟩
 .exact .inl ⟨rfl,rfl⟩
def JD.afh{agg:Bool}{m:List (Tr bq)}{a:AV}{els:List (List D)}{o:ZK}(ho:o≠.bG)(e:a=.own els o):JD agg m a (.d (.sl els)) []:=by
 subst e;cases agg;.exact .inr ⟨rfl,UR ho,rfl⟩
 .exact .inl ⟨rfl,UQ ho⟩
def JD.aso{agg:Bool}{m:List (Tr bq)}{a:AV}{els:List (List D)}(e:a=.own els .bG):JD agg m a (.own els .bG) []:=by
 subst e;cases agg;.exact .inr ⟨rfl,rfl,rfl⟩
 .exact .inl ⟨rfl,rfl⟩
section
variable{ρ:bH}{B:Nat}{m2:List (Tr E2)}{m:List (Tr bq)}(hm:MR ρ B m2 m)
include hm
theorem IW{agg:Bool}{c:ig}{x:Cell}{a:AV}{d:List fS}{k:List (Nat×Nat)}{b:List Bool}(h:c.arg m2 agg x=some (d,k,b))(hx:RC ρ B m2 x a)(hb:∀t∈b,t=true):∃a' x',JD agg m a a' k/\(∀rest,c.fill (d++rest)=some (x',rest))/\RC ρ0 0 [] x' a':=by
 unfold ig.arg at h;split at h<;>(try dsimp only at h)
 .split at h;.cases h;exact⟨_,_,JD.data hx,λ_=>rfl,rfl⟩
  grind
 .cases h;exact⟨_,_,JD.data hx,λ_=>rfl,rfl⟩
 .cases h;exact⟨_,_,JD.data hx,λ_=>rfl,rfl⟩
 .rename_i t o f;have key:∃a',JD agg m a a' []/\a'=.d (.sl (bD t [])):=by
   rcases(iL (m:=m) hx).2with e|⟨o',ho,e⟩;.exact⟨_,JD.data e,rfl⟩
   .exact⟨_,JD.afh ho e,rfl⟩
  obtain⟨a',g1,g2⟩:=key;split at h;.cases h;exact⟨_,_,g1,λ_=>rfl,.inl g2⟩
  .cases h;exact⟨_,_,g1,λ_=>rfl,.inl g2⟩
  grind
 .split at h
  .cases h;rcases(jo (m:=m) hx).2.1with e|⟨o2,e⟩;.exact⟨_,_,JD.data e,λ_=>rfl,.inl rfl⟩
   .by_cases ho:o2=.bG;.subst ho;exact⟨_,_,JD.aso e,λ_=>rfl,.inr ⟨_,rfl⟩⟩
    .exact⟨_,_,JD.afh ho e,λ_=>rfl,.inl rfl⟩
  .cases h
  .rename_i hne;cases h;rcases(jo (m:=m) hx).2.2 (λe=>hne e)with e|⟨o2,ho,e⟩;.exact⟨_,_,JD.data e,λ_=>rfl,.inl rfl⟩
   .exact⟨_,_,JD.afh ho e,λ_=>rfl,.inl rfl⟩
  .cases h
 .rename_i t0 o lv sq ak t;cases hr:rowOf m2 lv sq ak with|none=>grind|some r=>
  simp[hr]at h;have he:=nA hm hx hr;obtain⟨_,u,n,hu,rfl,hn⟩:=hx;have hg:fo m (.ref lv sq u 0 n t.size)=some (.d (.sl (bD r.t r.l)),[(lv,sq)]):=by simp[fo,BO,he,cf]
  have hl:dA m (.ref lv sq u 0 n t.size)=some (.own (bD r.t r.l) .bG):=by simp[dA,he,cf]
  cases o with
  |bG=>cases agg with|false=>cases h;exact⟨_,_,.inr ⟨rfl,hl,rfl⟩,λ_=>rfl,.inr ⟨_,rfl⟩⟩|true=>cases h;exact⟨_,_,.inl ⟨rfl,hg⟩,λ_=>rfl,.inl rfl⟩
  |d=>cases agg with|false=>simp at h|true=>cases h;exact⟨_,_,.inl ⟨rfl,hg⟩,λ_=>rfl,.inl rfl⟩
  |full=>grind|app v=>grind
 .rename_i t0 o lv sq ak t off len;cases hr:rowOf m2 lv sq ak with|none=>grind|some r=>simp[hr]at h;cases o with
  |bG=>cases agg with|false=>cases h;have he:=kE hm hx hr (du (hb _ ca));obtain⟨_,u,hu,rfl,_⟩:=hx;refine⟨.own (bD r.t ((r.l.drop off).take len)) .bG,_,.inr ⟨rfl,?_,rfl⟩,λ_=>rfl,.inr ⟨_,rfl⟩⟩;simp[dA,he,cf]|true=>simp at h
  |d=>grind|full=>grind|app v=>grind
 grind
theorem DG:∀{cs:List ig}{xs:List Cell}{aK:List AV}{d:List fS}{k:List (Nat×Nat)}{b:List Bool},Dj m2 cs xs=some (d,k,b)->aC (RC ρ B m2) xs aK->(∀t∈b,t=true)->∃as' xs',gh m aK=some (as',k)/\(∀rest,dH cs (d++rest)=some (xs',rest))/\aC (RC ρ0 0 []) xs' as'
 |[],[],aK,d,k,b,h,ha,_=>by cases h;match aK,ha with|[],_=>exact⟨[],[],rfl,λ_=>rfl,trivial⟩
 |c::cs,x::xs,aK,d,k,b,h,ha,hb=>by
  simp[Dj]at h;split at h;.rename_i d1 k1 b1 d2 k2 b2 h1 h2;cases h;match aK,ha with
   |a::aK,ha=>
    obtain⟨a',x',g1,g2,g3⟩:=IW hm h1 ha.1 (λt ht=>hb t (dk _ ht));have g1:fo m a=some (a',k1):=by rcases g1 with⟨_,g⟩|⟨g,_⟩<;>grind
    obtain⟨as',xs',g4,g5,g6⟩:=DG h2 ha.2 (λt ht=>hb t (dt _ ht));exact⟨a'::as',x'::xs',by simp only[gh,g1,g4],λrest=>by simp only[dH,bi,g2,g5],g3,g6⟩
  grind|[],_::_,_,_,_,_,h,_,_=>by simp[Dj]at h|_::_,[],_,_,_,_,h,_,_=>by simp[Dj]at h
omit hm in theorem RS{a:AV}(h0:cellsOf a=some [a])(h1:jS a=true):y9 m a=(dA m a).map λy=>(y,[]):=by cases a<;>first|rfl|cases h1
omit hm in theorem RT{a:AV}(h1:jS a=true):za m a=fo m a:=by cases a<;>first|rfl|cases h1
theorem K2:∀{ps:List vm}{vs:List V2}{aK:List AV}{d:List fS}{k:List (Nat×Nat)}{b:List Bool},GC m2 ps vs=some (d,k,b)->aC (RV ρ B m2) vs aK->(∀t∈b,t=true)->∃as' vs',sU m aK=some (as',k)/\(∀rest,dQ ps (d++rest)=some (vs',rest))/\aC (RV ρ0 0 []) vs' as'
 |[],[],aK,d,k,b,h,ha,_=>by cases h;match aK,ha with|[],_=>simp_all[bH,ρ0,RV,aC,dQ,sU]
 |p::ps,v::vs,aK,d,k,b,h,ha,hb=>by
  simp[GC]at h;split at h;.rename_i d1 k1 b1 d2 k2 b2 h1 h2;cases h;match aK,ha with
   |a::aK,ha=>
    obtain⟨as',vs',g4,g5,g6⟩:=K2 h2 ha.2 (λt ht=>hb t (dt _ ht));have pV:∀t∈b1,t=true:=λt ht=>hb t (dk _ ht);have one:∃a' v',za m a=some (a',k1)/\(∀rest,dQ (p::ps) (d1++rest)=(match dQ ps rest with|some (xs,r'')=>some (v'::xs,r'')|none=>none))/\RV ρ0 0 [] v' a':=by
     unfold vm.ajQ at h1;split at h1
     .obtain⟨a',x',q0,q2,q3⟩:=IW hm h1 ha.1 pV;have q1:fo m a=some (a',k1):=by rcases q0 with⟨_,g⟩|⟨g,_⟩<;>grind
      have hc:=RC.cell ha.1;exact⟨a',.c x',by rw[RT hc.2.1,q1],λrest=>by simp only[dQ,tA.fill,q2];rfl,q3⟩
     .obtain⟨bs,e,hc⟩:=ha.1;subst e;obtain⟨M1,xs1,q1,q2,q3⟩:=DG hm h1 hc pV;exact⟨.agg M1,.agg xs1,by simp only[za,q1,cf],λrest=>by simp only[dQ,tA.fill,q2];rfl,M1,rfl,q3⟩
     grind
    obtain⟨a',v',g1,g2,g3⟩:=one;exact⟨a'::as',v'::vs',by simp only[sU,g1,g4],λrest=>by rw[bi,g2,g5],g3,g6⟩
  grind|[],_::_,_,_,_,_,h,_,_=>by simp[GC]at h|_::_,[],_,_,_,_,h,_,_=>by simp[GC]at h
theorem K9{c:ig}{x:Cell}{a:AV}{d:List fS}{b:List Bool}(h:c.arg m2 false x=some (d,[],b))(hx:RC ρ B m2 x a)(hb:∀t∈b,t=true):∃a' x',dA m a=some a'/\(∀rest,c.fill (d++rest)=some (x',rest))/\RC ρ0 0 [] x' a':=by
 obtain⟨a',x',g,g2,g3⟩:=IW hm h hx hb;rcases g with⟨g,_⟩|⟨_,g,_⟩;.cases g
 .exact⟨a',x',g,g2,g3⟩
theorem GU:∀{l:List ig}{cs:List Cell}{aK:List AV}{d:List fS}{b:List Bool},zp m2 l cs=some (d,b)->aC (RC ρ B m2) cs aK->(∀t∈b,t=true)->∃as' xs',qv m aK=some as'/\(∀rest,dH l (d++rest)=some (xs',rest))/\aC (RC ρ0 0 []) xs' as'
 |[],[],aK,d,b,h,ha,_=>by cases h;match aK,ha with|[],_=>exact⟨[],[],rfl,λ_=>rfl,trivial⟩
 |c::cs,x::xs,aK,d,b,h,ha,hb=>by
  simp only[zp]at h;split at h;.rename_i d1 b1 d2 b2 h1 h2;cases h;match aK,ha with|a::aK,ha=>obtain⟨a',x',g1,g2,g3⟩:=K9 hm h1 ha.1 (λt ht=>hb t (dk _ ht));obtain⟨as',xs',g4,g5,g6⟩:=GU h2 ha.2 (λt ht=>hb t (dt _ ht));exact⟨a'::as',x'::xs',by simp only[qv,g1,g4],λrest=>by simp only[dH,bi,g2,g5],g3,g6⟩
  .cases h|[],_::_,_,_,_,h,_,_=>by simp[zp]at h|_::_,[],_,_,_,h,_,_=>by simp[zp]at h
omit hm in theorem N3{a:AV}(h1:jS a=true):sW m a=dA m a:=by cases a<;>first|rfl|cases h1
theorem La:∀{ps:List vm}{vs:List V2}{aK:List AV}{d:List fS}{b:List Bool},GD m2 ps vs=some (d,b)->aC (RV ρ B m2) vs aK->(∀t∈b,t=true)->∃as' vs',rN m aK=some as'/\(∀rest,dQ ps (d++rest)=some (vs',rest))/\aC (RV ρ0 0 []) vs' as'
 |[],[],aK,d,b,h,ha,_=>by cases h;match aK,ha with|[],_=>exact⟨[],[],rfl,λ_=>rfl,trivial⟩
 |p::ps,v::vs,aK,d,b,h,ha,hb=>by
  simp only[GD]at h;split at h;.rename_i d1 b1 d2 b2 h1 h2;cases h;match aK,ha with
   |a::aK,ha=>
    obtain⟨as',vs',g4,g5,g6⟩:=La h2 ha.2 (λt ht=>hb t (dt _ ht));have pV:∀t∈b1,t=true:=λt ht=>hb t (dk _ ht);have one:∃a' v',sW m a=some a'/\(∀rest,dQ (p::ps) (d1++rest)=(match dQ ps rest with|some (xs,r'')=>some (v'::xs,r'')|none=>none))/\RV ρ0 0 [] v' a':=by
     unfold vm.ajR at h1;split at h1
     .split at h1;.rename_i hx;cases h1;obtain⟨a',x',q1,q2,q3⟩:=K9 hm hx ha.1 pV;have hc:=RC.cell ha.1;exact⟨a',.c x',by rw[N3 hc.2.1,q1],λrest=>by simp only[dQ,tA.fill,q2];rfl,q3⟩
      .cases h1
     .obtain⟨bs,e,hc⟩:=ha.1;subst e;obtain⟨M1,xs1,q1,q2,q3⟩:=GU hm h1 hc pV;exact⟨.agg M1,.agg xs1,by simp only[sW,q1,cf],λrest=>by simp only[dQ,tA.fill,q2];rfl,M1,rfl,q3⟩
     .cases h1
    obtain⟨a',v',g1,g2,g3⟩:=one;exact⟨a'::as',v'::vs',by simp only[rN,g1,g4],λrest=>by rw[bi,g2,g5],g3,g6⟩
  .cases h|[],_::_,_,_,_,h,_,_=>by simp[GD]at h|_::_,[],_,_,_,h,_,_=>by simp[GD]at h
theorem Lb:∀{ps:List vm}{vs:List V2}{aK:List AV}{d:List fS}{k:List (Nat×Nat)}{b:List Bool},Gv m2 ps vs=some (d,k,b)->aC (RV ρ B m2) vs aK->(∀t∈b,t=true)->∃as' vs',sS m aK=some (as',k)/\(∀rest,dQ ps (d++rest)=some (vs',rest))/\aC (RV ρ0 0 []) vs' as'
 |[],[],aK,d,k,b,h,ha,_=>by cases h;match aK,ha with|[],_=>simp_all[bH,ρ0,RV,aC,dQ,sS]
 |p::ps,v::vs,aK,d,k,b,h,ha,hb=>by
  simp[Gv]at h;split at h;.rename_i d1 k1 b1 d2 k2 b2 h1 h2;cases h;match aK,ha with
   |a::aK,ha=>
    obtain⟨as',vs',g4,g5,g6⟩:=Lb h2 ha.2 (λt ht=>hb t (dt _ ht));have pV:∀t∈b1,t=true:=λt ht=>hb t (dk _ ht);have one:∃a' v',y9 m a=some (a',k1)/\(∀rest,dQ (p::ps) (d1++rest)=(match dQ ps rest with|some (xs,r'')=>some (v'::xs,r'')|none=>none))/\RV ρ0 0 [] v' a':=by
     unfold vm.arg at h1;split at h1
     .obtain⟨a',x',q0,q2,q3⟩:=IW hm h1 ha.1 pV;have q1:dA m a=some a'/\k1=[]:=by rcases q0 with⟨g,_⟩|⟨_,g⟩<;>grind
      obtain⟨q1,rfl⟩:=q1;have hc:=RC.cell ha.1;exact⟨a',.c x',by rw[RS hc.1 hc.2.1,q1];rfl,λrest=>by simp only[dQ,tA.fill,q2];rfl,q3⟩
     .obtain⟨bs,e,hc⟩:=ha.1;subst e;obtain⟨M1,xs1,q1,q2,q3⟩:=DG hm h1 hc pV;exact⟨.agg M1,.agg xs1,by simp only[y9,q1,cf],λrest=>by simp only[dQ,tA.fill,q2];rfl,M1,rfl,q3⟩
     .split at h1;.rename_i f f' hf;have e:=am hf;subst e;cases h1;obtain⟨bs,e,hc⟩:=ha.1;subst e;match bs,hc with|[],_=>exact⟨.fG _ [],.fG _ [],rfl,λrest=>by simp only[dQ,ii];rfl,[],rfl,trivial⟩
      grind
     grind
    obtain⟨a',v',g1,g2,g3⟩:=one;exact⟨a'::as',v'::vs',by simp only[sS,g1,g4],λrest=>by rw[bi,g2,g5],g3,g6⟩
  grind|[],_::_,_,_,_,_,h,_,_=>by simp[Gv]at h|_::_,[],_,_,_,_,h,_,_=>by simp[Gv]at h
end
def yu{sz:Nat}:∀(n:Nat){l:List Cell}{ds:List D},cI l=some ds->aC (λc d=>cI c=some d) (bK.chunk sz n l) (bK.chunk sz n ds)|0,_,_,_=>trivial|n+1,_,_,h=>⟨uq sz h,yu n (ur sz h)⟩
def IX{c:ig}{x':Cell}{d:List fS}{y:D}(hd:vn c x'=some d)(hy:pq x'=some y):∃x2,(∀rest,c.fill (d++rest)=some (x2,rest))/\∀(ρ:bH)(B:Nat)(m:List (Tr E2)),RC ρ B m x2 (.d y):=by
 unfold vn at hd;split at hd
 .split at hd;.cases hd;cases hy;exact⟨_,λ_=>rfl,λ_ _ _=>rfl⟩
  .cases hd
 .cases hd;cases hy;exact⟨_,λ_=>rfl,λ_ _ _=>rfl⟩
 .cases hd;cases hy;exact⟨_,λ_=>rfl,λ_ _ _=>rfl⟩
 .cases hd;cases hy;exact⟨_,λ_=>rfl,λ_ _ _=>.inl rfl⟩
 .cases hd;cases hy;exact⟨_,λ_=>rfl,λ_ _ _=>.inl rfl⟩
 .cases hd
def uy(m:List (Tr bq)):List AV->Option (List D)|[]=>some []|x::r=>match jh m x,uy m r with|some y,some ys=>some (y::ys)|_,_=>none
def zE{m:List (Tr bq)}{a:AV}{y:D}(h:jh m a=some y)(k:Nat):lI m k a=some y/\qx m k a=cV a:=by cases k with|zero=>exact⟨h,rfl⟩|succ k=>cases a<;>first|exact⟨h,rfl⟩|cases h
def qd{m:List (Tr bq)}(k:Nat):∀{aK:List AV}{ys:List D},uy m aK=some ys->kQ (lI m k) aK=some ys/\aK.flatMap (qx m k)=aK.flatMap cV
 |[],_,h=>⟨h,rfl⟩|x::r,ys,h=>by
  simp only[uy]at h;split at h;.rename_i y ys' h1 h2;cases h;obtain⟨g1,g2⟩:=zE h1 k;obtain⟨g3,g4⟩:=qd k h2;exact⟨by simp only[kQ,g1,g3],by simp only[eb,g2,g4]⟩
  .cases h
def afi{ρ:bH}{B:Nat}{m2:List (Tr E2)}{m:List (Tr bq)}{x:Cell}{a:AV}(h:RC ρ B m2 x a)(hn:x.nb=true)(k:Nat):qx m k a=cV a:=by cases k with|zero=>rfl|succ k=>cases a with
 |dx lv sl ak off n sz=>exfalso;cases x with
  |nil b=>cases b with|true=>cases h|false=>rcases h with h|⟨_,_,h⟩<;>cases h
  |sl t l o=>cases o with|d=>rcases h with h|⟨_,_,h⟩<;>cases h|bG=>rcases h with h|⟨_,h⟩<;>cases h|full=>cases h|app v=>obtain⟨_,⟨_,h⟩|⟨_,_,h⟩⟩:=h<;>cases h
  |ref=>obtain⟨_,_,_,_,h,_⟩:=h;cases h|kj=>obtain⟨_,_,_,h,_⟩:=h;cases h|ptr=>obtain⟨_,_,_,h⟩:=h;cases h|mp=>obtain⟨_,_,_,h⟩:=h;cases h|dx=>cases hn|_=>cases h
 |_=>rfl
def P4{ρ:bH}{B:Nat}{m2:List (Tr E2)}{m:List (Tr bq)}(k:Nat):∀{xs:List Cell}{aK:List AV},aC (RC ρ B m2) xs aK->xs.all Cell.nb=true->aK.flatMap (qx m k)=aK.flatMap cV|[],[],_,_=>rfl|x::xs,a::aK,h,hn=>by simp only[dv,al]at hn;simp only[eb,afi h.1 hn.1,P4 k h.2 hn.2]|[],_::_,h,_=>h.elim|_::_,[],h,_=>h.elim
section
variable{ρ:bH}{B:Nat}{m2:List (Tr E2)}{m:List (Tr bq)}(hm:MR ρ B m2 m)
include hm
theorem aaY{x x':Cell}{a:AV}(h:aeY m2 x=some x')(hx:RC ρ B m2 x a):∃y,jh m a=some y/\pq x'=some y:=by
 unfold aeY at h;split at h;.cases h;cases hx;exact⟨_,rfl,rfl⟩
 .cases h;cases hx;exact⟨_,rfl,rfl⟩
 .cases h;cases hx;exact⟨_,rfl,rfl⟩
 .cases h;cases hx;exact⟨_,rfl,rfl⟩
 .cases h;rcases(iL (m:=m) hx).2with rfl|⟨o,ho,rfl⟩<;>exact⟨_,rfl,rfl⟩
 .cases h;rcases(jo (m:=m) hx).2.1with rfl|⟨o,rfl⟩<;>exact⟨_,rfl,rfl⟩
 .split at h;.rename_i r hr;cases h;have he:=nA hm hx hr;obtain⟨_,u,n,hu,rfl,hn⟩:=hx;exact⟨_,by simp only[jh,he,cf],rfl⟩
  grind
 .split at h;.rename_i r hr;cases h;have he:=kE hm hx hr (hx.2.choose_spec.2.2 r hr);obtain⟨_,u,hu,rfl,_⟩:=hx;exact⟨_,by simp only[jh,he,cf],rfl⟩
  grind
 grind
theorem P5:∀{xs xs':List Cell}{aK:List AV},aaC m2 xs=some xs'->aC (RC ρ B m2) xs aK->∃ds,uy m aK=some ds/\cI xs'=some ds
 |[],xs',[],h,_=>by cases h;exact⟨[],rfl,rfl⟩|x::xs,xs',a::aK,h,ha=>by
  simp[aaC]at h;split at h;.rename_i y ys h1 h2;cases h;obtain⟨d,g1,g2⟩:=aaY hm h1 ha.1;obtain⟨ds,g3,g4⟩:=P5 h2 ha.2;exact⟨d::ds,by simp only[uy,g1,g3],by simp only[cI,g2,g4]⟩
  grind|[],_,_::_,_,ha=>ha.elim|_::_,_,[],_,ha=>ha.elim
omit hm in theorem RU{a:AV}{y:D}(h:jh m a=some y):kz m a=some (.d y):=by cases a<;>first|(simp only[kz,(zE h 2).1];rfl)|cases h
omit hm in theorem RW{a:AV}{y:D}(h:jh m a=some y):nE m a=fH a:=by cases a<;>first|(simp only[nE,(zE h 2).2];rfl)|cases h
theorem Lc{agg:Bool}{c:ig}{x:Cell}{a:AV}{d:List fS}{b:List Bool}(h:c.kz m2 agg x=some (d,b))(hx:RC ρ B m2 x a)(hb:∀t∈b,t=true):∃y x',(agg=true->jh m a=some y)/\(agg=false->kz m a=some (.d y)/\aX ρ (AZ m2 (.c x)) (nE m a))/\(∀rest,c.fill (d++rest)=some (x',rest))/\RC ρ0 0 [] x' (.d y):=by
 have one:∀{y:D}{x':Cell},AZ m2 (.c x)=Iz (.c x)->jh m a=some y->(∀rest,c.fill (d++rest)=some (x',rest))->RC ρ0 0 [] x' (.d y)->∃y x',(agg=true->jh m a=some y)/\(agg=false->kz m a=some (.d y)/\aX ρ (AZ m2 (.c x)) (nE m a))/\(∀rest,c.fill (d++rest)=some (x',rest))/\RC ρ0 0 [] x' (.d y):=λhk h1 h2 h3=>⟨_,_,λ_=>h1,λ_=>⟨RU h1,by rw[hk,RW h1];exact P0 (v:=.c x) hx⟩,h2,h3⟩;unfold ig.kz at h;split at h<;>(try dsimp only at h)
 .split at h;.cases h;cases hx;exact one rfl rfl (λ_=>rfl) rfl
  grind
 .cases h;cases hx;exact one rfl rfl (λ_=>rfl) rfl
 .cases h;cases hx;exact one rfl rfl (λ_=>rfl) rfl
 .rename_i t o f;have key:jh m a=some (.sl (bD t [])):=by rcases(iL (m:=m) hx).2with rfl|⟨o',ho,rfl⟩<;>rfl
  split at h;.cases h;exact one rfl key (λ_=>rfl) (.inl rfl)
  .cases h;exact one rfl key (λ_=>rfl) (.inl rfl)
  grind
 .rename_i t0 o t l o';have key:jh m a=some (.sl (bD t l)):=by rcases(jo (m:=m) hx).2.1with rfl|⟨o',rfl⟩<;>rfl
  split at h;.cases h;exact one rfl key (λ_=>rfl) (.inl rfl)
  .cases h;exact one rfl key (λ_=>rfl) (.inl rfl)
  grind
 .rename_i t0 o lv sq ak t;cases hr:rowOf m2 lv sq ak with|none=>grind|some r=>
  simp[hr]at h;have he:=nA hm hx hr;obtain⟨_,u,n,hu,rfl,hn⟩:=hx;have key:jh m (.ref lv sq u 0 n t.size)=some (.sl (bD r.t r.l)):=by simp[jh,he,cf]
  cases o with|d=>cases h;exact one rfl key (λ_=>rfl) (.inl rfl)|bG=>cases h;exact one rfl key (λ_=>rfl) (.inl rfl)|full=>simp at h|app v=>simp at h
 .rename_i t0 o lv sq ak t off len;cases hr:rowOf m2 lv sq ak with|none=>grind|some r=>
  simp[hr]at h;have fin:b=[decide (off+len<=r.l.length)]->jh m a=some (.sl (bD r.t ((r.l.drop off).take len))):=by intro hb';have hle:=du (hb (decide (off+len<=r.l.length)) (by rw[hb'];exact bv.2 rfl));have he:=kE hm hx hr hle;obtain⟨_,u,hu,rfl,_⟩:=hx;simp[jh,he,cf]
  cases o with|d=>cases h;exact one rfl (fin rfl) (λ_=>rfl) (.inl rfl)|bG=>cases h;exact one rfl (fin rfl) (λ_=>rfl) (.inl rfl)|full=>simp at h|app v=>simp at h
 .rename_i t o lv sq ak off n sz;split at h
  .rename_i v cs hg;split at h
   .rename_i l hc hp;rw[al]at hc;have hv:=am hc.1;subst hv;rw[al]at hc;have hle:=fr hc.2.1;obtain⟨dcs,hd,hp⟩:=aV hp;obtain⟨_,u,hu,rfl⟩:=hx;obtain⟨e,g1,g2⟩:=hm.fE _ _ _ hg;obtain⟨_,u',aK,g3,rfl,g4⟩:=g2;rw[hu]at g3;obtain⟨ds,q1,q2⟩:=P5 hm hd ((g4.drop off).take (n*sz));have hl:=zC hp (yu n q2);have hbx:j3 m lv sq u=some aK:=by unfold j3<;>simp_all
    have key:kz m (.dx lv sq u off n sz)=some (.d (.sl (bD t l))):=by
     have e:lI m 2 (.dx lv sq u off n sz)=some (.sl (bD t l)):=by rw[lI];simp only[hbx];rw[ba (by rw[<-g4.length];exact hle),(qd 1 q1).1]<;>grind
     simp only[kz,e,cf]
    have hkeys:aX ρ (AZ m2 (.c (.dx lv sq v off n sz))) (nE m (.dx lv sq u off n sz)):=by
     have e:qx m 2 (.dx lv sq u off n sz)=bU lv sq::aK.flatMap cV:=by rw[qx];simp only[hbx,P4 1 g4 hc.2.2]
     simp only[AZ,hg,nE,e];exact aX.j7 lv sq (yp g4)
    split at h;.cases h;exact⟨_,_,λh=>(by cases h),λ_=>⟨key,hkeys⟩,λ_=>rfl,.inl rfl⟩
    .cases h;exact⟨_,_,λh=>(by cases h),λ_=>⟨key,hkeys⟩,λ_=>rfl,.inl rfl⟩
    grind
   grind
  grind
 grind
theorem GV:∀{cs:List ig}{xs:List Cell}{aK:List AV}{d:List fS}{b:List Bool},zn m2 cs xs=some (d,b)->aC (RC ρ B m2) xs aK->(∀t∈b,t=true)->∃ys xs',uy m aK=some ys/\(∀rest,dH cs (d++rest)=some (xs',rest))/\aC (RC ρ0 0 []) xs' (ys.map .d)
 |[],[],aK,d,b,h,ha,_=>by cases h;match aK,ha with|[],_=>simp_all[bH,ρ0,RC,aC,dH,uy]
 |c::cs,x::xs,aK,d,b,h,ha,hb=>by
  simp[zn]at h;split at h;.rename_i d1 b1 d2 b2 h1 h2;cases h;match aK,ha with|a::aK,ha=>obtain⟨y,x',g1,_,g2,g3⟩:=Lc hm h1 ha.1 (λt ht=>hb t (dk _ ht));obtain⟨ys,xs',g4,g5,g6⟩:=GV h2 ha.2 (λt ht=>hb t (dt _ ht));exact⟨y::ys,x'::xs',by simp only[uy,g1 rfl,g4],λrest=>by simp only[dH,bi,g2,g5],g3,g6⟩
  grind|[],_::_,_,_,_,h,_,_=>by simp[zn]at h|_::_,[],_,_,_,h,_,_=>by simp[zn]at h
theorem GW:∀{ps:List vm}{vs:List V2}{aK:List AV}{d:List fS}{b:List Bool},zo m2 ps vs=some (d,b)->aC (RV ρ B m2) vs aK->(∀t∈b,t=true)->∃as' vs',xl m aK=some as'/\aX ρ (vs.flatMap (AZ m2)) (aK.flatMap (nE m))/\(∀rest,dQ ps (d++rest)=some (vs',rest))/\aC (RV ρ0 0 []) vs' as'
 |[],[],aK,d,b,h,ha,_=>by cases h;match aK,ha with|[],_=>exact⟨[],[],rfl,aX.nil,λ_=>rfl,trivial⟩
 |p::ps,v::vs,aK,d,b,h,ha,hb=>by
  simp[zo]at h;split at h;.rename_i d1 b1 d2 b2 h1 h2;cases h;match aK,ha with
   |a::aK,ha=>
    obtain⟨as',vs',g4,g7,g5,g6⟩:=GW h2 ha.2 (λt ht=>hb t (dt _ ht));have pV:∀t∈b1,t=true:=λt ht=>hb t (dk _ ht);have one:∃a' v',kz m a=some a'/\aX ρ (AZ m2 v) (nE m a)/\(∀rest,dQ (p::ps) (d1++rest)=(match dQ ps rest with|some (xs,r'')=>some (v'::xs,r'')|none=>none))/\RV ρ0 0 [] v' a':=by
     unfold vm.kz at h1;split at h1;.obtain⟨y,x',_,q1,q2,q3⟩:=Lc hm h1 ha.1 pV;exact⟨_,.c x',(q1 rfl).1,(q1 rfl).2,λrest=>by simp only[dQ,tA.fill,q2];rfl,q3⟩
     .obtain⟨bs,e,hc⟩:=ha.1;subst e;obtain⟨ys,xs1,q1,q2,q3⟩:=GV hm h1 hc pV;exact⟨.agg (ys.map .d),.agg xs1,by simp only[kz,(qd 2 q1).1,cf],by simp only[nE,(qd 2 q1).2];exact yp hc,λrest=>by simp only[dQ,tA.fill,q2];rfl,_,rfl,q3⟩
     .split at h1;.rename_i f f' hf;have e:=am hf;subst e;cases h1;obtain⟨bs,e,hc⟩:=ha.1;subst e;match bs,hc with|[],_=>exact⟨.fG _ [],.fG _ [],rfl,aX.nil,λrest=>by simp only[dQ,ii];rfl,[],rfl,trivial⟩
      grind
     grind
    obtain⟨a',v',g1,g8,g2,g3⟩:=one;exact⟨a'::as',v'::vs',by simp only[xl,g1,g4],(by simp only[eb];exact g8.append g7),λrest=>by rw[bi,g2,g5],g3,g6⟩
  grind|[],_::_,_,_,_,h,_,_=>by simp[zo]at h|_::_,[],_,_,_,h,_,_=>by simp[zo]at h
end
def qe{α:Type}{l:List Bool}{k:Option α}{r:α}(h:wC l k=some r):(∀t∈l,t=true)/\k=some r:=by induction l with|nil=>grind[wC]|cons b l ih=>obtain⟨h1,h2⟩:=cJ h<;>grind
section
variable{α:Type}{ρ:bH}{B:Nat}{s2:S2}{s:St}{r:α}(hm:MR ρ B s2.mem s.mem)(cv:wG ρ B s2.mem s2.slots s.slots)
include hm cv
theorem aaZ{ar:BN}{K:Bool->List Cell->Option α}(h:ae0 s2 ar K=some r):∃a cs v,JP s ar=some v/\R1 ρ B s2.mem (a,cs) v/\K a cs=some r:=by
 unfold ae0 at h;split at h
 .split at h;.rename_i x hx;have hv:=cv _ _ hx;refine⟨false,[x],_,?_,⟨x,rfl,hv⟩,h⟩;simp[JP,(RC.cell hv).2.2]
  .rename_i cs hx;obtain⟨aK,e,hv⟩:=cv _ _ hx;refine⟨true,cs,.agg aK,?_,⟨aK,rfl,hv⟩,h⟩;simp[JP,e,fU]
  grind
 .obtain⟨p,hp,h⟩:=cP h;obtain⟨cs,aK,h1,h2,h3⟩:=KX hm h (cv _ _ hp);split at h3;.refine⟨true,cs,.agg aK,?_,⟨aK,rfl,h2⟩,h3⟩;simp[JP,h1,ae,iI]
  .rename_i x _;match aK,h2 with|[a],h2=>refine⟨false,[x],a,?_,⟨x,rfl,h2.1⟩,h3⟩;simp[JP,h1,ae,iI]
  grind
theorem DH:∀{l:List BN}{K:List (Bool×List Cell)->Option α},GA s2 l K=some r->∃vs aK,kf s l=some aK/\aC (R1 ρ B s2.mem) vs aK/\K vs=some r|[],K,h=>⟨[],[],rfl,trivial,h⟩|x::l,K,h=>by obtain⟨a,cs,v,h1,h2,h⟩:=aaZ hm cv h;obtain⟨vs,aK,h3,h4,h⟩:=DH h;exact⟨(a,cs)::vs,v::aK,by simp only[kf,h1,h3],⟨h2,h4⟩,h⟩
end
def yw{cm:List (Tr bq)}{top k lv sl ak:Nat}{els:List (List D)}{o:ZK}(h:o≠.bG):bE cm top 0 k lv sl ak (.own els o)=some (.d (.sl els),[]):=by cases o with|bG=>grind|_=>rfl
section
variable{ρ:bH}{B:Nat}{m2:List (Tr E2)}{m:List (Tr bq)}(hm:MR ρ B m2 m)
include hm
theorem P6{top k lv sl ak:Nat}{x y:Cell}{a:AV}(h:Uo m2 top x=some y)(hx:RC ρ B m2 x a):∃a',bE m top 0 k lv sl ak a=some (a',[])/\RC ρ B (m2.take top) y a':=by
 unfold Uo at h;split at h;.cases h;cases hx;exact⟨_,rfl,rfl⟩
 .cases h;cases hx;exact⟨_,rfl,rfl⟩
 .cases h;cases hx;exact⟨_,rfl,rfl⟩
 .cases h;cases hx;exact⟨_,rfl,rfl⟩
 .cases h;rcases(iL (m:=m) hx).2with e|⟨o',ho,e⟩;.subst e;exact⟨_,rfl,.inl rfl⟩
  .subst e;exact⟨_,yw ho,.inl rfl⟩
 .cases h
 .rename_i t l o hne;cases h;rcases(jo (m:=m) hx).2.2 (λe=>hne e)with e|⟨o2,ho,e⟩;.subst e;exact⟨_,rfl,.inl rfl⟩
  .subst e;exact⟨_,yw ho,.inl rfl⟩
 .split at h
  .rename_i hb;cases h;obtain⟨hv,u,n,hu,rfl,hn⟩:=hx;refine⟨_,by simp only[bE,hb],hv,u,n,hu,rfl,λr hr=>hn r ?_⟩;have h1:=cW hr;refine ij.2 ?_;unfold jY at h1⊢;rw[fa]at h1;split at h1;.exact h1
   .cases h1
  .rename_i hb;split at h;.rename_i r hr;cases h;have he:=nA hm hx hr;obtain⟨hv,u,n,hu,rfl,hn⟩:=hx;refine⟨.d (.sl (bD r.t r.l)),?_,.inl rfl⟩;simp[bE,hb,he]
   .cases h
 .rename_i cy cU gA t off len;split at h
  .rename_i hb;cases h;obtain⟨hv,u,hu,rfl,hn⟩:=hx;refine⟨_,by simp only[bE,hb],hv,u,hu,rfl,λr hr=>hn r ?_⟩;have h1:=cW hr;refine ij.2 ?_;unfold jY at h1⊢;rw[fa]at h1;split at h1;.exact h1
   .cases h1
  .rename_i hb;split at h;.rename_i r hr;cases h;have he:=kE hm hx hr (hx.2.choose_spec.2.2 r hr);obtain⟨hv,u,hu,rfl,hn⟩:=hx;refine⟨.d (.sl (bD r.t ((r.l.drop off).take len))),?_,.inl rfl⟩;simp[bE,hb,he]
   .cases h
 .split at h;.rename_i hb;cases h;obtain⟨hv,u,hu,rfl⟩:=hx;exact⟨_,by simp only[bE,hb],hv,u,hu,rfl⟩
  .cases h
 .cases h
theorem Ld{top lv sl ak:Nat}:∀{k:Nat}{xs ys:List Cell}{aK:List AV},Dk m2 top xs=some ys->aC (RC ρ B m2) xs aK->∃as',dM m top 0 lv sl ak k aK=some (as',[])/\aC (RC ρ B (m2.take top)) ys as'
 |k,[],ys,aK,h,ha=>by cases h;match aK,ha with|[],_=>exact⟨[],rfl,trivial⟩
 |k,x::xs,ys,aK,h,ha=>by
  simp[Dk]at h;split at h;.rename_i y ys' h1 h2;cases h;match aK,ha with|a::aK,ha=>obtain⟨a',g1,g2⟩:=P6 hm (k:=k) (lv:=lv) (sl:=sl) (ak:=ak) h1 ha.1;obtain⟨as',g3,g4⟩:=Ld (lv:=lv) (sl:=sl) (ak:=ak) (k:=k+1) h2 ha.2;exact⟨a'::as',by simp only[dM,g1,g3,dq],g2,g4⟩
  grind
theorem P7{top lv sl ak k:Nat}{b:Bool}{xs ys:List Cell}{a:AV}(h:Dk m2 top xs=some ys)(ha:R1 ρ B m2 (b,xs) a):∃a',lH m top 0 lv sl ak k a=some (a',[])/\R1 ρ B (m2.take top) (b,ys) a':=by cases b with|true=>obtain⟨aK,rfl,ha⟩:=ha;obtain⟨as',g1,g2⟩:=Ld hm (k:=k) (lv:=lv) (sl:=sl) (ak:=ak) h ha<;>simp_all[RC,aC,Dk,bH,R1,lH]|false=>
 obtain⟨c,rfl,ha⟩:=ha;simp[Dk]at h;split at h;.rename_i y ys' h1 h2;simp_all;subst h;obtain⟨a',g1,g2⟩:=P6 hm (k:=k) (lv:=lv) (sl:=sl) (ak:=ak) h1 ha;refine⟨a',?_,y,rfl,g2⟩;have hc:=RC.cell ha;cases a<;>first|exact g1|cases hc.2.1
 grind
theorem GX{top lv sl ak:Nat}:∀{k:Nat}{vs ws:List (Bool×List Cell)}{aK:List AV},A0 m2 top vs=some ws->aC (R1 ρ B m2) vs aK->∃as',fT m top 0 lv sl ak k aK=some (as',[])/\aC (R1 ρ B (m2.take top)) ws as'
 |k,[],ws,aK,h,ha=>by cases h;match aK,ha with|[],_=>exact⟨[],rfl,trivial⟩
 |k,(b,x)::xs,ws,aK,h,ha=>by
  simp[A0]at h;split at h;.rename_i y ys' h1 h2;cases h;match aK,ha with|a::aK,ha=>obtain⟨a',g1,g2⟩:=P7 hm (k:=k) (lv:=lv) (sl:=sl) (ak:=ak) h1 ha.1;obtain⟨as',g3,g4⟩:=GX (lv:=lv) (sl:=sl) (ak:=ak) (k:=k+64) h2 ha.2;exact⟨a'::as',by simp only[fT,g1,g3,dq],g2,g4⟩
  grind
omit hm in theorem R1.fU{b:Bool}{cs:List Cell}{a:AV}(h:R1 ρ B m2 (b,cs) a):bK.fU a=true:=by cases b with|true=>obtain⟨aK,rfl,_⟩:=h;rfl|false=>obtain⟨c,_,h⟩:=h;exact(RC.cell h).2.2
theorem aa0{top lv sl ak:Nat}{vs ws:List (Bool×List Cell)}{w:V2}{aK:List AV}(h:A0 m2 top vs=some ws)(ht:qC ws=some w)(ha:aC (R1 ρ B m2) vs aK):∃a',gU m top 0 lv sl ak (jt aK)=some (a',[])/\RV ρ B (m2.take top) w a':=by match vs,aK,ha with
 |[],[],ha=>cases h;cases ht;exact⟨.fk [],rfl,[],rfl,trivial⟩|[(b,x)],[a],ha=>
  simp[A0]at h;split at h
  .rename_i y ys' h1 h2;simp_all;subst h;obtain⟨a',g1,g2⟩:=P7 hm (k:=1) (lv:=lv) (sl:=sl) (ak:=ak) h1 ha.1;refine⟨a',?_,?_⟩;.have hn:=R1.fU ha.1;cases a<;>first|exact g1|cases hn
   .cases b with|true=>obtain⟨as',rfl,g3⟩:=g2;cases ht;exact⟨as',rfl,g3⟩|false=>obtain⟨c,rfl,g3⟩:=g2;cases ht;exact g3
  grind|v::v'::vs,a::a'::aK,ha=>
  obtain⟨as',g1,g2⟩:=GX hm (k:=1) (lv:=lv) (sl:=sl) (ak:=ak) h ha;refine⟨.fk as',?_,?_⟩;.simp[jt,gU,g1,cf]
  .have:∃x y zs,ws=x::y::zs:=by simp[A0]at h<;>grind
   obtain⟨x,y,zs,rfl⟩:=this;cases ht;exact⟨as',rfl,g2⟩
end
def Cd(Fs:Nat->Option qu):Nat->Bool:=λg=>((Fs g).map (·.sh)).getD false
def Ev(Fs:Tb)(c:AC)(s:St)(x:AX×St):Prop:=∃n0,∀k n,n0<=k->n0<=n->exec (fX Fs k) (Cd Fs) n c s=some x
def N4(Fs:Tb)(wk:Wk):Prop:=∀(α:Type)(ctx i:Nat)(c:AC)(s2:S2)(K:AX->S2->Option α)(r:α),wk α ctx i c s2 K=some r->∀(ρ:bH)(os:List (Tr AV))(s:St),Ca ρ os s2 s->∃ax s2' ρ' s',Ev Fs c s (ax,s')/\Ca ρ' os s2' s'/\Fr ρ s2.nv s.nv ρ' s2'.nv/\s.nv<=s'.nv/\K ax s2'=some r
def lW(ρ:bH)(B:Nat)(m:List (Tr E2))(lv sl ak p:Nat)(us:List SL):Prop:=ak<B/\ρ ak=some p/\∀u∈us,∀r,rowOf m lv sl ak=some r->r.l.length=u.l.length
def afj(Fs:Tb)(f:Nat)(c:Callee):Prop:=∀a y,c.F a=some y->∃vs,dQ c.args (unpack c.ta a)=some (vs,[])/\∀aK,aC (RV ρ0 0 []) vs aK->∃n0 rv cm ts nv,(∀n,n0<=n->fX Fs n f aK [.lf] .lf 0=some (rv,cm,ts,nv))/\∀ws,nR c.res (unpack c.tr y)=some (ws,[])->(c.rk≠65535->∀w,qC ws=some w->∀lv sl aP,∃a',gU cm 0 0 lv sl aP rv=some (a',[])/\∀ρ B m,RV ρ B m w a')/\∀row lv sl ak p Ff us w,c.rk≠0->row%65536=c.rk->row/65536≠0->Gy c.rk lv sl ak 1 ws=some (Ff,us)->(∀u∈us,row/65536=u.t.size)->qC Ff=some w->∃a',gU cm 0 row lv sl p rv=some (a',us.map λu=>bD u.t u.l)/\∀ρ B m,lW ρ B m lv sl ak p us->RV ρ B m w a'
def ru(Fs:Tb)(f:Nat)(c:Callee):Prop:=afj Fs f c
def N5{Fs:Tb}{f:Nat}{c:Callee}(h:∀a,c.F a=none):ru Fs f c:=λa y hy=>by grind
def US(Fs:Tb)(c:AC)(L:Ku):Prop:=∀x y,L.F x=some y->∀s2,L.T.st (unpack L.T.tys x)=some s2->∀ρ os s,Ca ρ os s2 s->∃ax s2' ρ' s',Ev Fs (.loop c) s (ax,s')/\Ca ρ' os s2' s'/\Fr ρ s2.nv s.nv ρ' s2'.nv/\s.nv<=s'.nv/\∀{α:Type}(K:AX->S2->Option α),qV L.outs y K=K ax s2'
structure az(Fs:Tb)(E:ah):Prop where
 fns:E.fns=Fs
 ye:∀f c,E.ye f=some c->ru Fs f c
 loops:∀ctx i c L,E.loops ctx i c=some L->US Fs c L
structure RI(ρ:bH)(nx rem:Nat)(os:List (Tr AV))(s2:S2)(s:St)(p:Nat):Prop where
 slots:wG ρ nx s2.mem s2.slots s.slots
 outer:aC (wG ρ nx s2.mem) s2.outer os
 mem:MR ρ nx s2.mem s.mem
 aI:TR ρ nx s2.aI s.aI
 ak:VOK ρ s2.nv s.nv
 BX:∀j,j<rem->ρ (nx+j)=some (p+j)nv:nx+rem=s2.nv
 pn:p+rem<=s.nv
def pF(ρ:bH)(nx:Nat)(os:List (Tr AV))(s2:S2)(s:St):iJ->hU->Prop|.bT E,.bT e=>pE ρ nx (nx+1) s2 s E e|.all v s2',.all a m t n [] []=>∃ρ',Ca ρ' os s2' {slots:=s.slots,mem:=m,aI:=t,nv:=n}/\RV ρ' s2'.nv s2'.mem v a/\Fr ρ (nx+1) s.nv ρ' s2'.nv/\s.nv<=n|_,_=>False
section
variable{Fs:Tb}{E:ah}{wk:Wk}{α:Type}{ρ:bH}{nx rem p:Nat}{os:List (Tr AV)}{s2:S2}{s:St}{ctx row d:Nat}{K:iJ->Option α}{r:α}
def vR:∀(l:List V2)(i:Nat)(t:Tr V2)(k:Nat),(lB i l t).get? k=if h:i<=k/\k<i+l.length then some (l[k-i]'(by omega))else t.get? k
 |[],i,t,k=>by rw[xf (by simp)];rfl|x::r,i,t,k=>by
  rw[lB,vR r (i+1)];by_cases h1:i+1<=k/\k<i+1+r.length;.grind
  .rw[xf h1];by_cases h2:k=i;.subst h2;simp[Tr.cK]
   .rw[xf (by simp;omega)];rw[Tr.cK,be (pv h2)]
def yy{B:Nat}{m:List (Tr E2)}{vs:List V2}{aK:List AV}(h:aC (RV ρ B m) vs aK):wG ρ B m (lB 0 vs .lf) (eA 0 aK .lf):=by
 intro k v hk;rw[vR]at hk;rw[r6];split at hk;.subst_vars;obtain⟨b,hb,hr⟩:=h.get (k-0) _ (aw (by omega))<;>grind
 simp_all
def GY{m:List (Tr E2)}{lv sl:Nat}:jY (m++[.lf]) lv sl=jY m lv sl:=by unfold jY;grind[Tr.get?]
def Le{m:List (Tr bq)}{lv sl:Nat}:aH (m++[.lf]) lv sl=aH m lv sl:=by unfold aH;grind[Tr.get?]
def N6{m:List (Tr E2)}{lv sl ak:Nat}:rowOf (m++[.lf]) lv sl ak=rowOf m lv sl ak:=by unfold rowOf;rw[GY]
def vu{B:Nat}{m:List (Tr E2)}:fW B m (m++[.lf]):=λ_ _ _ r _ h=>⟨r,by rw[N6]at h;exact h,rfl⟩
def GZ{m:List (Tr E2)}{k lv sl:Nat}{e:E2}(h:jY (m.take k) lv sl=some e):lv<k/\jY m lv sl=some e:=by grind[jY]
def nM{m:List (Tr bq)}{k lv sl:Nat}(h:lv<k):aH (m.take k) lv sl=aH m lv sl:=by grind[aH]
def mM{B k:Nat}{m:List (Tr E2)}:fW B m (m.take k):=λ_ _ _ r _ h=>⟨r,ij.2 (GZ (cW h)).2,rfl⟩
def MR.take{B k:Nat}{m2:List (Tr E2)}{m:List (Tr bq)}(h:MR ρ B m2 m):MR ρ B (m2.take k) (m.take k):=by refine⟨by simp[h.len],λlv sl e2 he=>?_⟩;obtain⟨h1,h2⟩:=GZ he;obtain⟨e,h3,h4⟩:=h.fE lv sl e2 h2;exact⟨e,by rw[nM h1];exact h3,RE.mono (bc _) (λ_ _=>rfl) (λ_ _=>RC.move mM (bc _) λ_ _=>rfl) h4⟩
def MR.snoc{B:Nat}{m2:List (Tr E2)}{m:List (Tr bq)}(h:MR ρ B m2 m):MR ρ B (m2++[.lf]) (m++[.lf]):=by refine⟨by simp[h.len],λlv sl e2 he=>?_⟩;rw[GY]at he;obtain⟨e,h3,h4⟩:=h.fE lv sl e2 he;exact⟨e,by rw[Le];exact h3,RE.mono (bc _) (λ_ _=>rfl) (λ_ _=>RC.move vu (bc _) λ_ _=>rfl) h4⟩
def MR.ren{ρ':bH}{B:Nat}{m2:List (Tr E2)}{m:List (Tr bq)}(h:MR ρ B m2 m)(hρ:∀v,v<B->ρ' v=ρ v):MR ρ' B m2 m:=by refine⟨h.len,λlv sl e2 he=>?_⟩;obtain⟨e,h3,h4⟩:=h.fE lv sl e2 he;exact⟨e,h3,RE.mono (bc _) hρ (λ_ _=>RC.move (fW.refl _ _) (bc _) hρ) h4⟩
def DI{B:Nat}{m:List (Tr E2)}:∀{vs:List V2}{aK:List AV},vs.all V2.ac3=true->aC (RV ρ B m) vs aK->aK.all fU=true
 |[],[],_,_=>rfl|v::vs,a::aK,h,ha=>by rw[dv,al]at h;rw[dv,DI h.2 ha.2,lc];cases v with|c x=>exact(RC.cell ha.1).2.2|agg cs=>obtain⟨as',e,_⟩:=ha.1;rw[e];rfl|fG f cs=>obtain⟨as',e,_⟩:=ha.1;rw[e];rfl|fk vs=>cases h.1
 |[],_::_,_,h=>h.elim|_::_,[],_,h=>h.elim
def jl{ρ':bH}{B B':Nat}{m m':List (Tr E2)}(hs:fW B m m')(hB:B<=B')(hρ:∀v,v<B->ρ' v=ρ v){ts:List (Tr V2)}(h:aC (wG ρ B m) ts os):aC (wG ρ' B' m') ts os:=h.mono λ_ _=>wG.move hs hB hρ
section
variable{B:Nat}{m2:List (Tr E2)}{m:List (Tr bq)}(hm:MR ρ B m2 m)
def eD(ρ:bH)(B top:Nat)(m2:List (Tr E2))(lv sl ak p:Nat)(us:List SL)(Q:bH->Nat->List (Tr E2)->Prop):Prop:=∀ρ' B' m',lW ρ' B' m' lv sl ak p us->(∀v,v<B->ρ' v=ρ v)->B<=B'->fW B (m2.take top) m'->Q ρ' B' m'
theorem lW.left{ρ:bH}{B:Nat}{m:List (Tr E2)}{lv sl ak p:Nat}{us vs:List SL}(h:lW ρ B m lv sl ak p (us++vs)):lW ρ B m lv sl ak p us:=⟨h.1,h.2.1,λu hu=>h.2.2 u (dk _ hu)⟩
theorem lW.right{ρ:bH}{B:Nat}{m:List (Tr E2)}{lv sl ak p:Nat}{us vs:List SL}(h:lW ρ B m lv sl ak p (us++vs)):lW ρ B m lv sl ak p vs:=⟨h.1,h.2.1,λu hu=>h.2.2 u (dt _ hu)⟩
theorem Bd{top k lv sl ak:Nat}(hn:k≠row%65536){els:List (List D)}{o:ZK}(ho:o≠.bG):∃a',bE m top row k lv sl ak (.own els o)=some (a',[])/\(oC top row=true->a'=.own els o)/\(a'=.own els o\/a'=.d (.sl els)):=by have h0:Nat.beq k (row%65536)=false:=beq_false.2 hn;cases o with|bG=>grind|full=>grind[oC,bE]|cR=>simp[bE]<;>grind
theorem aa1{top k lv sl ak:Nat}{x y:Cell}{a:AV}(hr:row≠0)(hn:k≠row%65536)(h:ae1 m2 top x=some y)(hh:ac1 top x=false)(hx:RC ρ B m2 x a):∃a',bE m top row k lv sl ak a=some (a',[])/\RC ρ B (m2.take top) y a':=by
 have keep:∀{els:List (List D)}{o:ZK}{z:Cell},o≠.bG->RC ρ B (m2.take top) z (.own els o)->Nat.beq top 0=false->∃a',bE m top row k lv sl ak (.own els o)=some (a',[])/\RC ρ B (m2.take top) z a':=by intro els o z ho hz ht;obtain⟨a',h1,h2,_⟩:=Bd (m:=m) (top:=top) (lv:=lv) (sl:=sl) (ak:=ak) hn (els:=els) ho;rw[h2 (by simp only[oC,beq_false.2 hr,ht];rfl)]at h1;exact⟨_,h1,hz⟩
 have lose:∀{els:List (List D)}{o:ZK}{z:Cell},o≠.bG->(RC ρ B (m2.take top) z (.d (.sl els))/\RC ρ B (m2.take top) z (.own els o))->Nat.beq top 0=true->∃a',bE m top row k lv sl ak (.own els o)=some (a',[])/\RC ρ B (m2.take top) z a':=by
  intro els o z ho hz ht;obtain⟨a',h1,_,h2⟩:=Bd (m:=m) (top:=top) (lv:=lv) (sl:=sl) (ak:=ak) hn (els:=els) ho;refine⟨a',h1,?_⟩;rcases h2 with rfl|rfl;.exact hz.2
  .exact hz.1
 unfold ae1 at h;split at h
 .rename_i b;have hx':=(iL (m:=m) hx).2;split at h
  .rename_i ht;cases h;rcases hx' with rfl|⟨o,ho,rfl⟩;.exact⟨_,rfl,.inl rfl⟩
   .exact lose ho ⟨.inl rfl,.inr ⟨_,ho,rfl⟩⟩ ht
  .rename_i ht;cases h;rcases hx' with rfl|⟨o,ho,rfl⟩;.refine⟨_,rfl,?_⟩;cases b with|false=>exact .inl rfl|true=>cases hx
   .refine keep ho ?_ ht;cases b with|false=>exact .inr ⟨o,ho,rfl⟩|true=>exact hx
 .split at h
  .rename_i ht;cases h;obtain⟨h1,⟨h2,rfl⟩|⟨u,h2,rfl⟩⟩:=hx;.exact lose (λe=>by cases e) ⟨.inl rfl,.inr ⟨_,(λe=>by cases e),rfl⟩⟩ ht
   .exact lose (λe=>by cases e) ⟨.inl rfl,.inr ⟨_,(λe=>by cases e),rfl⟩⟩ ht
  .rename_i ht;cases h;obtain⟨h1,⟨h2,rfl⟩|⟨u,h2,rfl⟩⟩:=hx;.exact keep (λe=>by cases e) ⟨h1,.inl ⟨h2,rfl⟩⟩ ht
   .exact keep (λe=>by cases e) ⟨h1,.inr ⟨u,h2,rfl⟩⟩ ht
 .subst hx;split at h;.rename_i ht;cases h;exact lose (λe=>by cases e) ⟨.inl rfl,.inr ⟨_,(λe=>by cases e),rfl⟩⟩ ht
  .rename_i ht;cases h;exact keep (λe=>by cases e) rfl ht
 .rename_i hn1 hn2 hn3;unfold Uo at h;split at h;.cases h;cases hx;exact⟨_,rfl,rfl⟩
  .cases h;cases hx;exact⟨_,rfl,rfl⟩
  .cases h;cases hx;exact⟨_,rfl,rfl⟩
  .cases h;cases hx;exact⟨_,rfl,rfl⟩
  .exact absurd rfl (hn1 _)
  .cases h
  .rename_i t l o hne;cases h;have ho:o=.d:=by cases o with|d=>rfl|bG=>exact absurd rfl hne|full=>exact absurd rfl (hn3 _ _)|app v=>exact absurd rfl (hn2 _ _ _)
   subst ho;rcases hx with rfl|⟨o,ho,rfl⟩;.exact⟨_,rfl,.inl rfl⟩
   .cases ht:Nat.beq top 0with|true=>exact lose ho ⟨.inl rfl,.inr ⟨_,ho,rfl⟩⟩ ht|false=>exact keep ho (.inr ⟨o,ho,rfl⟩) ht
  .rename_i cy cU gA t;have hb:Nat.ble top cy=false:=hh;rw[hb]at h;cases h;obtain⟨hv,u,n,hu,rfl,hn⟩:=hx;refine⟨_,by simp only[bE,hb],hv,u,n,hu,rfl,λr hr=>hn r ?_⟩;have h1:=cW hr;refine ij.2 ?_;unfold jY at h1⊢;rw[fa]at h1;split at h1;.exact h1
   .cases h1
  .rename_i cy cU gA t off len;have hb:Nat.ble top cy=false:=hh;rw[hb]at h;cases h;obtain⟨hv,u,hu,rfl,hn⟩:=hx;refine⟨_,by simp only[bE,hb],hv,u,hu,rfl,λr hr=>hn r ?_⟩;have h1:=cW hr;refine ij.2 ?_;unfold jY at h1⊢;rw[fa]at h1;split at h1;.exact h1
   .cases h1
  .split at h;.rename_i hb;cases h;obtain⟨hv,u,hu,rfl⟩:=hx;exact⟨_,by simp only[bE,hb],hv,u,hu,rfl⟩
   .cases h
  .cases h
include hm
theorem Lg{top rk k lv sl ak p:Nat}{e:Option Ty}{x y:Cell}{us:List SL}{a:AV}(hr:row≠0)(BY:row%65536=rk)(h2:row/65536≠0)(h:Up m2 top rk lv sl ak e k x=some (y,us))(hx:RC ρ B m2 x a)(hu:∀u∈us,row/65536=u.t.size):∃a',bE m top row k lv sl p a=some (a',us.map λu=>bD u.t u.l)/\eD ρ B top m2 lv sl ak p us λρ' B' m'=>RC ρ' B' m' y a':=by
 have hrow:Nat.beq row 0=false:=beq_false.2 hr;unfold Up at h;split at h
 .rename_i hk;have hk:=beq_true.1 hk;subst hk;have hkk:Nat.beq k (row%65536)=true:=beq_true.2 BY.symm;have at_:∀{cy cU gA r u},rowOf m2 cy cU gA=some r->ρ gA=some u->bK.rowAt m cy cU u=some (bD r.t r.l):=by intro cy cU gA r u hr hu;obtain⟨e,g1,g2⟩:=hm.fE _ _ _ (cW hr);obtain⟨_,u',g3,rfl⟩:=g2;unfold bK.rowAt<;>simp_all
  split at h;.cases e with|none=>cases h|some t=>
    cases h;subst hx;have hs:(!Nat.beq (row/65536) 0)=true:=by rw[beq_false.2 h2];rfl
    have hu:=hu _ (bv.2 rfl);refine⟨.ref lv sl p 0 0 (row/65536),by simp only[bE,hs,hkk,lc];rfl,λρ' B' m' hf _ _ _=>⟨hf.1,p,0,hf.2.1,by rw[hu],λr hr=>?_⟩⟩;have:=hf.2.2 _ (bv.2 rfl) r hr<;>grind
  .rename_i cy cU gA t;split at h
   .rename_i r hb hr;split at h
    .rename_i hsz;have hsz:=beq_true.1 hsz;cases h;have he:=nA hm hx hr;obtain⟨hv,u,n,lF,rfl,hn⟩:=hx;refine⟨.ref lv sl p 0 n t.size,?_,λρ' B' m' hf _ _ _=>⟨hf.1,p,n,hf.2.1,by rw[hsz],λr' hr'=>?_⟩⟩;.simp only[bE,hb,he,hrow,hkk,at_ hr lF]<;>grind
     .rw[hf.2.2 _ (bv.2 rfl) r' hr']<;>grind
    grind
   grind
  .rename_i cy cU gA t off len;split at h
   .rename_i r hb hr;split at h
    .rename_i hsz;have hsz:=beq_true.1 hsz;cases h;have hle:=hx.2.choose_spec.2.2 r hr;have he:=kE hm hx hr hle;obtain⟨hv,u,lF,rfl,hn⟩:=hx;refine⟨.ref lv sl p 0 len t.size,?_,λρ' B' m' hf _ _ _=>⟨hf.1,p,len,hf.2.1,by rw[hsz],λr' hr'=>?_⟩⟩;.simp only[bE,hb,he,hrow,hkk,at_ hr lF]<;>grind
     .rw[hf.2.2 _ (bv.2 rfl) r' hr',ft,lw]<;>omega
    grind
   grind
  grind
 .rename_i hk;have hk:=beq_false.1 hk;split at h;.cases h
  .rename_i hh;obtain⟨y',h1,h⟩:=fb.1 h;cases h;obtain⟨a',g1,g2⟩:=aa1 (m:=m) (k:=k) (lv:=lv) (sl:=sl) (ak:=p) hr (by rw[BY];exact hk) h1 hh hx;exact⟨a',g1,λρ' B' m' _ hρ hB hs=>g2.move hs hB hρ⟩
theorem Lh{top rk lv sl ak p:Nat}{e:Option Ty}(hr:row≠0)(BY:row%65536=rk)(h2:row/65536≠0):∀{k:Nat}{xs ys:List Cell}{us:List SL}{aK:List AV},GB m2 top rk lv sl ak e k xs=some (ys,us)->aC (RC ρ B m2) xs aK->(∀u∈us,row/65536=u.t.size)->∃as',dM m top row lv sl p k aK=some (as',us.map λu=>bD u.t u.l)/\eD ρ B top m2 lv sl ak p us λρ' B' m'=>aC (RC ρ' B' m') ys as'
 |k,[],ys,us,aK,h,ha,_=>by cases h;match aK,ha with|[],_=>exact⟨[],rfl,λ_ _ _ _ _ _ _=>trivial⟩
 |k,x::xs,ys,us,aK,h,ha,hu=>by
  simp[GB]at h;split at h;.rename_i y u ys' us' h1 h3;cases h;match aK,ha with|a::aK,ha=>obtain⟨a',g1,g2⟩:=Lg hm (p:=p) hr BY h2 h1 ha.1 λv hv=>hu v (dk _ hv);obtain⟨as',g3,g4⟩:=Lh (p:=p) hr BY h2 h3 ha.2 λv hv=>hu v (dt _ hv);refine⟨a'::as',by simp only[dM,g1,g3,f9],λρ' B' m' hf h4 h5 h6=>⟨g2 ρ' B' m' hf.left h4 h5 h6,g4 ρ' B' m' hf.right h4 h5 h6⟩⟩
  grind
theorem G0{top rk k lv sl ak p:Nat}{e:Option Ty}(hr:row≠0)(BY:row%65536=rk)(h2:row/65536≠0){b:Bool}{xs ys:List Cell}{us:List SL}{a:AV}(h:GB m2 top rk lv sl ak e k xs=some (ys,us))(ha:R1 ρ B m2 (b,xs) a)(hu:∀u∈us,row/65536=u.t.size):∃a',lH m top row lv sl p k a=some (a',us.map λu=>bD u.t u.l)/\eD ρ B top m2 lv sl ak p us λρ' B' m'=>R1 ρ' B' m' (b,ys) a':=by cases b with|true=>obtain⟨aK,rfl,ha⟩:=ha;obtain⟨as',g1,g2⟩:=Lh hm (p:=p) hr BY h2 h ha hu;exact⟨.agg as',by simp only[lH,g1,cf],λρ' B' m' hf h4 h5 h6=>⟨as',rfl,g2 ρ' B' m' hf h4 h5 h6⟩⟩|false=>
 obtain⟨c,rfl,ha⟩:=ha;simp[GB]at h;split at h;.rename_i y u ys' us' h1 h3;cases h3;simp at h;obtain⟨rfl,rfl⟩:=h;obtain⟨a',g1,g2⟩:=Lg hm (p:=p) hr BY h2 h1 ha hu;refine⟨a',?_,λρ' B' m' hf h4 h5 h6=>⟨y,rfl,g2 ρ' B' m' hf h4 h5 h6⟩⟩;have hc:=RC.cell ha;cases a<;>first|exact g1|cases hc.2.1
 grind
theorem Li{top rk lv sl ak p:Nat}{e:Option Ty}(hr:row≠0)(BY:row%65536=rk)(h2:row/65536≠0):∀{k:Nat}{vs ws:List (Bool×List Cell)}{us:List SL}{aK:List AV},Dl m2 top rk lv sl ak e k vs=some (ws,us)->aC (R1 ρ B m2) vs aK->(∀u∈us,row/65536=u.t.size)->∃as',fT m top row lv sl p k aK=some (as',us.map λu=>bD u.t u.l)/\ws.length=vs.length/\eD ρ B top m2 lv sl ak p us λρ' B' m'=>aC (R1 ρ' B' m') ws as'
 |k,[],ws,us,aK,h,ha,_=>by cases h;match aK,ha with|[],_=>exact⟨[],rfl,rfl,λ_ _ _ _ _ _ _=>trivial⟩
 |k,(b,x)::xs,ws,us,aK,h,ha,hu=>by
  simp[Dl]at h;split at h;.rename_i y u ys' us' h1 h3;cases h;match aK,ha with|a::aK,ha=>obtain⟨a',g1,g2⟩:=G0 hm (p:=p) hr BY h2 h1 ha.1 λv hv=>hu v (dk _ hv);obtain⟨as',g3,gl,g4⟩:=Li (p:=p) hr BY h2 h3 ha.2 λv hv=>hu v (dt _ hv);refine⟨a'::as',by simp only[fT,g1,g3,f9],by rw[fd,fd,gl],λρ' B' m' hf h4 h5 h6=>⟨g2 ρ' B' m' hf.left h4 h5 h6,g4 ρ' B' m' hf.right h4 h5 h6⟩⟩
  grind
theorem Lj{top rk lv sl ak p:Nat}{e:Option Ty}(hr:row≠0)(BY:row%65536=rk)(h2:row/65536≠0){vs ws:List (Bool×List Cell)}{us:List SL}{w:V2}{aK:List AV}(h:Dl m2 top rk lv sl ak e 1 vs=some (ws,us))(ht:qC ws=some w)(ha:aC (R1 ρ B m2) vs aK)(hu:∀u∈us,row/65536=u.t.size):∃a',gU m top row lv sl p (jt aK)=some (a',us.map λu=>bD u.t u.l)/\eD ρ B top m2 lv sl ak p us λρ' B' m'=>RV ρ' B' m' w a':=by match vs,aK,ha with
 |[],[],ha=>cases h;cases ht;exact⟨.fk [],rfl,λ_ _ _ _ _ _ _=>⟨[],rfl,trivial⟩⟩|[(b,x)],[a],ha=>
  simp[Dl]at h;split at h
  .rename_i y u ys' us' h1 h3;cases h3;simp at h;obtain⟨rfl,rfl⟩:=h;obtain⟨a',g1,g2⟩:=G0 hm (p:=p) hr BY h2 h1 ha.1 hu;refine⟨a',?_,λρ' B' m' hf h4 h5 h6=>?_⟩;.have hn:=R1.fU ha.1;cases a<;>first|exact g1|cases hn
   .have g2:=g2 ρ' B' m' hf h4 h5 h6;cases b with|true=>obtain⟨as',rfl,g3⟩:=g2;cases ht;exact⟨as',rfl,g3⟩|false=>obtain⟨c,rfl,g3⟩:=g2;cases ht;exact g3
  grind|v::v'::vs,a::a'::aK,ha=>obtain⟨as',g1,gl,g2⟩:=Li hm (p:=p) hr BY h2 h ha hu;refine⟨.fk as',by simp only[jt,gU,g1,cf],λρ' B' m' hf h4 h5 h6=>?_⟩;match ws,gl,ht with|x::y::zs,_,ht=>cases ht;exact⟨as',rfl,g2 ρ' B' m' hf h4 h5 h6⟩
end
def ry{B:Nat}{m:List (Tr E2)}:∀{vs:List V2}{aK:List AV},aC (RV ρ B m) vs aK->aX ρ (vs.flatMap Iz) (aK.flatMap fH)|[],[],_=>aX.nil|_::_,_::_,h=>by exact(P0 h.1).append (ry h.2)|[],_::_,h=>h.elim|_::_,[],h=>h.elim
def Lk(hE:az Fs E)(hi:RI ρ nx rem os s2 s p)(N7:0<rem){f:Nat}{vs:List V2}{aK:List AV}(hsh:Cd Fs f=false)(h:Uq E s2 row d nx f vs K=some r)(has:aC (RV ρ nx s2.mem) vs aK):∃r2 e,(∃n0,∀n,n0<=n->gV (fX Fs n) (Cd Fs f) row s (gZ s.mem.length d) d p f aK=some e)/\pF ρ nx os s2 s r2 e/\K r2=some r:=by
 obtain⟨c,hc,h⟩:=aD h;obtain⟨⟨ds,ks,bs⟩,ha,h⟩:=aD h;obtain⟨x,hx,h⟩:=aD h;obtain⟨hb,h⟩:=qe h;obtain⟨y,hy,h⟩:=bind_some h;split at h
 .rename_i ws yj;obtain⟨as',vs',g1,g2,g3⟩:=Lb hi.mem ha has hb;obtain⟨vs1,g4,g5⟩:=hE.ye f c hc x y hy;rw[dN hx]at g4;have Fw:=g2 [];rw[dq,g4]at Fw;injection Fw with Fw;injection Fw with Fw _;subst Fw;obtain⟨n0,rv,cm,ts,nv,g6,g7⟩:=g5 as' g3;obtain⟨g7,g7'⟩:=g7 ws yj;split at h
  .rename_i hrow;have hrow:=am hrow;split at h;.cases h
   rename_i Be;obtain⟨w,hw,h⟩:=aD h;obtain⟨a',g8,g9⟩:=g7 (beq_false.1 Be) w hw (gZ s.mem.length d) d p;refine⟨_,.bT {val:=a',dn:=eW s.mem ks++[],cR:=[],rd:=aK.flatMap fH},⟨n0,λn hn=>?_⟩,?_,h⟩;.rw[hsh,hrow];simp only[gV,g1,g6 n hn,g8,j9]
   .rw[dq];exact .gX hi.mem hi.aI (by omega) (r9 (ks:=ks)) jI (g9 _ _ _) (ry has)
  .split at h
   .rename_i Ff hq hp;rw[al,al]at hq;obtain⟨⟨hq1,y8⟩,Tm⟩:=hq;have hq1:=am hq1;have y8:c.rk≠0:=by intro e;rw[e]at y8;cases y8
    have Tm:row/65536≠0:=by intro e;rw[e]at Tm;cases Tm
    obtain⟨w,hw,h⟩:=aD h;obtain⟨a',g8,g9⟩:=g7' row (gZ s2.mem.length d) d nx p Ff [] w y8 hq1 Tm hp (λv hv=>by cases hv) hw;rw[hi.mem.len]at g8;refine⟨_,.bT {val:=a',dn:=eW s.mem ks++[],cR:=[],rd:=aK.flatMap fH},⟨n0,λn hn=>?_⟩,?_,h⟩;.rw[hsh];simp only[gV,g1,g6 n hn,g8,j9,lA]
    .have gz:ρ nx=some p:=hi.BX 0 N7;rw[dq];exact .gX hi.mem hi.aI (B':=nx+1) (by omega) (r9 (ks:=ks)) jI (g9 _ _ _ ⟨by omega,gz,λv hv=>by cases hv⟩) (ry has)
   .rename_i Ff u hq hp;rw[al,al]at hq;obtain⟨⟨hq1,y8⟩,Tm⟩:=hq;have hq1:=am hq1;have y8:c.rk≠0:=by intro e;rw[e]at y8;cases y8
    have Tm:row/65536≠0:=by intro e;rw[e]at Tm;cases Tm
    split at h
    .rename_i hsz;have hsz:=am hsz;obtain⟨w,hw,h⟩:=aD h;obtain⟨a',g8,g9⟩:=g7' row (gZ s2.mem.length d) d nx p Ff [u] w y8 hq1 Tm hp (λv hv=>by rw[bv.1 hv];exact hsz) hw;rw[hi.mem.len]at g8;refine⟨_,.bT {val:=a',dn:=eW s.mem ks++[(gZ s.mem.length d,d,some (.row p (bD u.t u.l)))],cR:=[],rd:=aK.flatMap fH},⟨n0,λn hn=>?_⟩,?_,h⟩;.rw[hsh];simp only[gV,g1,g6 n hn,g8,j9,f1,lA]
     .have gz:ρ nx=some p:=hi.BX 0 N7;rw[<-hi.mem.len];refine .gX hi.mem hi.aI (B':=nx+1) (by omega) (fM (.inl (bc _))) (jI.append (fN ⟨by omega,p,gz,rfl⟩)) (g9 _ _ _ ⟨by omega,gz,λv hv r' hr'=>?_⟩) (ry has);rw[bv.1 hv];rw[qc]at hr';simp only[gK]at hr';have:=cW hr';rw[lC]at this;split at this;.injection this with this;injection this with _ h1 h2;obtain⟨t',l'⟩:=r';simp only at h1 h2;subst h1;cases h2;rfl
      .have h1:=nT (ij.2 this);obtain⟨e,_,hlt,_⟩:=hi.mem.fE _ _ _ (cW h1);omega
    .cases h
   .cases h
 .cases h
def UT(hE:az Fs E)(hi:RI ρ nx rem os s2 s p){f:Nat}{vs:List V2}{aK:List AV}(h:ac4 E s2 f vs K=some r)(has:aC (RV ρ nx s2.mem) vs aK):∃r2 e,(∃n0,∀n,n0<=n->oT (fX Fs n) s p f aK=some e)/\pF ρ nx os s2 s r2 e/\K r2=some r:=by
 obtain⟨c,hc,h⟩:=aD h;split at h
 .rename_i Be;simp at Be;obtain⟨⟨ds,ks,bs⟩,ha,h⟩:=aD h;obtain⟨x,hx,h⟩:=aD h;obtain⟨hb,h⟩:=qe h;obtain⟨y,hy,h⟩:=bind_some h;split at h
  .rename_i ws yj;obtain⟨as',vs',g1,g2,g3⟩:=K2 hi.mem ha has hb;obtain⟨vs1,g4,g5⟩:=hE.ye f c hc x y hy;rw[dN hx]at g4;have Fw:=g2 [];rw[dq,g4]at Fw;cases Fw;obtain⟨n0,rv,cm,ts,nv,g6,g7⟩:=g5 as' g3;obtain⟨w,hw,h⟩:=aD h;obtain⟨a',g8,g9⟩:=(g7 ws yj).1 (λe=>by rw[e]at Be;cases Be) w hw 0 0 p;refine⟨_,.bT {val:=a',dn:=eW s.mem ks,cR:=[],rd:=aK.flatMap fH},⟨n0,λn hn=>?_⟩,?_,h⟩;.simp[oT,g1,g6 n hn,g8]
   .exact .gX hi.mem hi.aI (by omega) (r9 (ks:=ks)) jI (g9 _ _ _) (ry has)
  grind
 grind
def UU(hE:az Fs E)(hi:RI ρ nx rem os s2 s p){f:Nat}{vs:List V2}{aK:List AV}(h:ac5 E s2 f vs K=some r)(has:aC (RV ρ nx s2.mem) vs aK):∃r2 e,(∃n0,∀n,n0<=n->oU (fX Fs n) s p f aK=some e)/\pF ρ nx os s2 s r2 e/\K r2=some r:=by
 obtain⟨c,hc,h⟩:=aD h;split at h
 .rename_i Be;simp at Be;obtain⟨⟨ds,bs⟩,ha,h⟩:=aD h;obtain⟨x,hx,h⟩:=aD h;obtain⟨hb,h⟩:=qe h;obtain⟨y,hy,h⟩:=bind_some h;split at h
  .rename_i ws yj;obtain⟨as',vs',g1,g2,g3⟩:=La hi.mem ha has hb;obtain⟨vs1,g4,g5⟩:=hE.ye f c hc x y hy;rw[dN hx]at g4;have Fw:=g2 [];rw[dq,g4]at Fw;cases Fw;obtain⟨n0,rv,cm,ts,nv,g6,g7⟩:=g5 as' g3;obtain⟨w,hw,h⟩:=aD h;obtain⟨a',g8,g9⟩:=(g7 ws yj).1 (λe=>by rw[e]at Be;cases Be) w hw 0 0 p;refine⟨_,.bT {val:=a',dn:=[],cR:=[],rd:=aK.flatMap fH},⟨n0,λn hn=>?_⟩,?_,h⟩;.simp[oU,g1,g6 n hn,g8]
   .exact .gX (IM:=[]) (us:=[]) hi.mem hi.aI (by omega) (fW.refl _ _) trivial (g9 _ _ _) (ry has)
  grind
 grind
def DJ(hwk:N4 Fs wk)(hE:az Fs E)(hi:RI ρ nx rem os s2 s p)(N7:0<rem){f:Nat}{vs:List V2}{aK:List AV}(h:Kw E wk ctx s2 row d nx f vs K=some r)(has:aC (RV ρ nx s2.mem) vs aK):∃r2 e,(∃n0,∀n,n0<=n->gV (fX Fs n) (Cd Fs f) row s (gZ s.mem.length d) d p f aK=some e)/\pF ρ nx os s2 s r2 e/\K r2=some r:=by
 unfold Kw at h;split at h
 .rename_i fn hf;rw[hE.fns]at hf;have hsh:Cd Fs f=fn.sh:=by simp[Cd,hf]
  split at h;.rename_i hfs;rw[hfs]at hsh;exact Lk hE hi N7 hsh h has
  .rename_i hfs;rw[hfs]at hsh;split at h;.cases h
   .rename_i hnp;rw[al]at hnp;obtain⟨hnp,hnt⟩:=hnp;have hnt:=DI hnt has;let ρc:bH:=λv=>if v<nx then ρ v else some (s.nv+(v-nx));have UW:∀v,v<nx->ρc v=ρ v:=λv hv=>ba hv;have hle:nx<=s2.nv:=by have:=hi.nv;omega
    have start:Ca ρc (s.slots::os) {slots:=lB 0 vs .lf,outer:=loose s2.slots::s2.outer,mem:=s2.mem++[.lf],aI:=s2.aI,nv:=nx} {slots:=eA 0 aK .lf,mem:=s.mem++[.lf],aI:=s.aI,nv:=s.nv}:=by
     refine⟨?_,⟨?_,?_⟩,?_,?_,?_,bc _⟩;.exact yy (has.mono λ_ _=>RV.move vu (bc _) UW)
     .exactλk v hk=>(hi.slots k v (zD _ _ _ hk)).move vu (bc _) UW
     .exact jl vu (bc _) UW hi.outer
     .exact(hi.mem.ren UW).snoc
     .intro v hv;obtain⟨h1,h2⟩:=hi.aI v hv;exact⟨h1,λu hu=>h2 u (by rw[<-UW v h1];exact hu)⟩
     .refine⟨λv u hv hu=>?_,λv hv=>?_,λv v' u hu lF=>?_⟩;.have hv:v<nx:=hv;rw[UW v hv]at hu;exact hi.ak.low v u (by omega) hu
      .have hv:nx<=v:=hv;simp only[ρc];rw[be (by omega)]
      .simp[ρc]at hu lF;split at hu
       .split at lF;.exact hi.ak.inj v v' u hu lF
        .simp_all;have:=hi.ak.low v u (by omega) hu;omega
       .simp_all;split at lF;.have:=hi.ak.low v' u (by omega) lF;omega
        .simp_all;omega
    have fin:∀(ax:AX)(t2:S2)(ρ':bH)(t:St),(∀id,ax≠.exit id)->Ev Fs fn.body {slots:=eA 0 aK .lf,mem:=s.mem++[.lf],aI:=s.aI,nv:=s.nv} (ax,t)->Ca ρ' (s.slots::os) t2 t->Fr ρc nx s.nv ρ' t2.nv->s.nv<=t.nv->(match t2.outer with
      |o::os'=>GA t2 fn.res λvs=>match Nat.beq row 0with|true=>cH (A0 t2.mem s2.mem.length vs) λvs=>cH (qC vs) λv=>K (.all v {slots:=merge s2.slots o,outer:=os',mem:=t2.mem.take s2.mem.length,aI:=t2.aI,nv:=t2.nv})|false=>match !Nat.beq (row%65536) 0&&!Nat.beq (row/65536) 0,Dl t2.mem s2.mem.length (row%65536) (gZ s2.mem.length d) d t2.nv (E.PK ctx d) 1 vs with
        |true,some (vs,[u])=>match Nat.beq (row/65536) u.t.size with|true=>cH (qC vs) λv=>K (.all v {slots:=merge s2.slots o,outer:=os',mem:=gK (t2.mem.take s2.mem.length) [(gZ s2.mem.length d,d,some (.row t2.nv u.t u.l))],aI:=t2.aI,nv:=t2.nv+1})|false=>none
        |true,some (vs,[])=>cH (qC vs) λv=>K (.all v {slots:=merge s2.slots o,outer:=os',mem:=t2.mem.take s2.mem.length,aI:=t2.aI,nv:=t2.nv+1})|_,_=>none
      |[]=>none)=some r->∃r2 e,(∃n0,∀n,n0<=n->gV (fX Fs n) (Cd Fs f) row s (gZ s.mem.length d) d p f aK=some e)/\pF ρ nx os s2 s r2 e/\K r2=some r:=by
     intro ax t2 ρ' t Ux qI zF hfr xL hk;have hout:=zF.outer;split at hk
     .rename_i o os' ho;rw[ho]at hout;obtain⟨vs1,M1,q1,q2,hk'⟩:=DH zF.mem zF.slots hk;clear hk;have hk:=hk';obtain⟨n0,qI⟩:=qI;have hrun:∀n,n0+1<=n->fX Fs n f aK (s.mem++[.lf]) s.aI s.nv=some (jt M1,t.mem,t.aI,t.nv):=by intro n hn;obtain⟨n,rfl⟩:∃k,n=k+1:=⟨n-1,by omega⟩;simp[fX,hf];rw[<-has.length];simp[hnp];have:=qI n n (by omega) (by omega);unfold Cd at this;rw[this];cases ax with|normal=>simp[q1,cf]|ret=>simp[q1,cf]|exit id=>exact absurd rfl (Ux id)
      split at hk
      .rename_i hrow;have hrow:=am hrow;subst hrow;obtain⟨vs2,q3,hk⟩:=aD hk;obtain⟨v,q4,hk⟩:=aD hk;obtain⟨a',q5,q6⟩:=aa0 zF.mem (lv:=gZ s.mem.length d) (sl:=d) (ak:=p) q3 q4 q2;refine⟨_,.all a' (aT (t.mem.take s.mem.length) []) t.aI t.nv [] [],⟨n0+1,λn hn=>?_⟩,?_,hk⟩;.rw[hsh];simp[gV,hnt,hrun n hn];rw[hi.mem.len]at q5;rw[q5];simp[j9]
       .refine⟨ρ',⟨?_,?_,?_,?_,zF.ak,bc _⟩,?_,?_,xL⟩
        .intro k v hk;rcases rq _ _ _ _ hk with⟨h1,h2⟩|h1;.exact(hi.slots k v h1).still h2
         .exact(hout.1 k v h1).move mM (bc _) λ_ _=>rfl
        .exact jl mM (bc _) (λ_ _=>rfl) hout.2
        .have:=zF.mem.take (k:=s2.mem.length);rw[hi.mem.len]at this⊢;exact this
        .exact zF.aI
        .exact q6
        .intro v u hv hu;rcases hfr v u hv hu with⟨w,hw,IY⟩|h';.exact .inl ⟨w,by omega,by rw[<-UW w hw];exact IY⟩
         .exact .inr h'
      .rename_i hrow;have hrow:row≠0:=beq_false.1 hrow;split at hk
       .rename_i vs2 u hq q3;rw[al]at hq;have y8:row/65536≠0:=by intro e;rw[e]at hq;cases hq.2
        split at hk
        .rename_i hsz;have hsz:=am hsz;obtain⟨v,q4,hk⟩:=aD hk;obtain⟨a',q5,q6⟩:=Lj zF.mem (p:=p) hrow rfl y8 q3 q4 q2 (λv hv=>by rw[bv.1 hv];exact hsz);have gz:ρ nx=some p:=hi.BX 0 N7;have hps:p<s.nv:=by have:=hi.pn;omega
         let GR:bH:=λv=>if v<t2.nv then ρ' v else if v=t2.nv then some p else some (t.nv+(v-(t2.nv+1)));have e1:∀v,v<t2.nv->GR v=ρ' v:=λv h=>ba h;have e2:GR t2.nv=some p:=by show(if _ then _ else _)=_;rw[be (by omega),ba rfl]
         have e3:∀v,t2.nv+1<=v->GR v=some (t.nv+(v-(t2.nv+1))):=λv h=>by show(if _ then _ else _)=_;rw[be (by omega),be (by omega)]
         have fresh:∀v,v<t2.nv->ρ' v≠some p:=by
          intro v hv hu;rcases hfr v p hv hu with⟨w,hw,IY⟩|h';.rw[UW w hw]at IY;have:=hi.ak.inj _ _ _ IY gz;omega
          .omega
         have hst:fW t2.nv (t2.mem.take s2.mem.length) (gK (t2.mem.take s2.mem.length) [(gZ s2.mem.length d,d,some (.row t2.nv u.t u.l))]):=by have:=fM (B:=t2.nv) (m:=t2.mem.take s2.mem.length) (ks:=[]) (lv:=gZ s2.mem.length d) (sl:=d) (e:=.row t2.nv u.t u.l) (.inl (bc _));simpa[lT,lA,ii]using this
         have hmt:=(zF.mem.take (k:=s2.mem.length)).ren e1;have hmu:MR GR (t2.nv+1) (gK (t2.mem.take s2.mem.length) [(gZ s2.mem.length d,d,some (.row t2.nv u.t u.l))]) (aT (t.mem.take s2.mem.length) [(gZ s2.mem.length d,d,some (.row p (bD u.t u.l)))]):=hmt.dn (pu _) hst (fN ⟨by omega,p,e2,rfl⟩);refine⟨_,.all a' (aT (t.mem.take s.mem.length) [(gZ s.mem.length d,d,some (.row p (bD u.t u.l)))]) t.aI t.nv [] [],⟨n0+1,λn hn=>?_⟩,?_,hk⟩;.rw[hsh];simp[gV,hnt,hrun n hn];rw[hi.mem.len]at q5;rw[q5];simp[f1,lA,j9]
         .refine⟨GR,⟨?_,?_,?_,?_,⟨?_,e3,?_⟩,bc _⟩,?_,?_,xL⟩
          .intro k v hk;rcases rq _ _ _ _ hk with⟨h1,h2⟩|h1;.exact(hi.slots k v h1).still h2
           .exact(hout.1 k v h1).move (mM.trans hst) (pu _) e1
          .exact jl (mM.trans hst) (pu _) e1 hout.2
          .rw[<-hi.mem.len];exact hmu
          .intro v hv;obtain⟨h1,h2⟩:=zF.aI v hv;exact⟨Nat.lt_succ_of_lt h1,λu hu=>h2 u (by rw[<-e1 v h1];exact hu)⟩
          .intro v u' hv hu;have hv:v<t2.nv+1:=hv;show u'<t.nv;rcases im v t2.nv with h1|h1;.rw[e1 v h1]at hu;exact zF.ak.low v u' h1 hu
           .have:v=t2.nv:=by omega
            subst this;rw[e2]at hu;cases hu;omega
          .intro v v' u' hu lF;have mD:∀v,v<t2.nv->∀u',GR v=some u'->u'<t.nv/\u'≠p:=by intro v hv u' hu;rw[e1 v hv]at hu;exact⟨zF.ak.low v u' hv hu,λe=>fresh v hv (by rw[hu,e])⟩
           rcases m6 v t2.nv with h1|h1|h1
           .obtain⟨l1,l2⟩:=mD v h1 u' hu;rcases m6 v' t2.nv with h3|h3|h3;.rw[e1 v h1]at hu;rw[e1 v' h3]at lF;exact zF.ak.inj v v' u' hu lF
            .subst h3;rw[e2]at lF;simp_all
            .rw[e3 v' h3]at lF;simp_all;omega
           .subst h1;rw[e2]at hu;injection hu with hu;rcases m6 v' t2.nv with h3|h3|h3;.obtain⟨l1,l2⟩:=mD v' h3 u' lF;omega
            .exact h3.symm
            .rw[e3 v' h3]at lF;simp_all;omega
           .rw[e3 v h1]at hu;injection hu with hu;rcases m6 v' t2.nv with h3|h3|h3;.obtain⟨l1,l2⟩:=mD v' h3 u' lF;omega
            .subst h3;rw[e2]at lF;simp_all;omega
            .rw[e3 v' h3]at lF;simp_all;omega
          .refine q6 GR (t2.nv+1) _ ⟨by omega,e2,λv hv r' hr'=>?_⟩ e1 (pu _) hst;rw[bv.1 hv];simp[gK]at hr';have:=cW hr';rw[lC]at this;split at this;.injection this with this;injection this with _ h1 h2;obtain⟨t',l'⟩:=r';simp only at h1 h2;subst h1;cases h2;rfl
           .obtain⟨e,_,hlt,_⟩:=hmt.fE _ _ _ this;omega
          .intro v u' hv hu;have hv:v<t2.nv+1:=hv;rcases im v t2.nv with h1|h1
           .rw[e1 v h1]at hu;rcases hfr v u' h1 hu with⟨w,hw,IY⟩|h';.exact .inl ⟨w,by omega,by rw[<-UW w hw];exact IY⟩
            .exact .inr h'
           .have:v=t2.nv:=by omega
            subst this;rw[e2]at hu;exact .inl ⟨nx,by omega,by rw[gz];exact hu⟩
        .cases hk
       .rename_i vs2 hq q3;simp at hq;have y8:row/65536≠0:=by intro e;rw[e]at hq;cases hq.2
        obtain⟨v,q4,hk⟩:=aD hk;obtain⟨a',q5,q6⟩:=Lj zF.mem (p:=p) hrow rfl y8 q3 q4 q2 (λv hv=>(by cases hv));have gz:ρ nx=some p:=hi.BX 0 N7;have hps:p<s.nv:=by have:=hi.pn;omega
        let GR:bH:=λv=>if v<t2.nv then ρ' v else if v=t2.nv then some p else some (t.nv+(v-(t2.nv+1)));have e1:∀v,v<t2.nv->GR v=ρ' v:=λv h=>ba h;have e2:GR t2.nv=some p:=by show(if _ then _ else _)=_;rw[be (by omega),ba rfl]
        have e3:∀v,t2.nv+1<=v->GR v=some (t.nv+(v-(t2.nv+1))):=λv h=>by show(if _ then _ else _)=_;rw[be (by omega),be (by omega)]
        have fresh:∀v,v<t2.nv->ρ' v≠some p:=by
         intro v hv hu;rcases hfr v p hv hu with⟨w,hw,IY⟩|h';.rw[UW w hw]at IY;have:=hi.ak.inj _ _ _ IY gz;omega
         .omega
        have hst:fW t2.nv (t2.mem.take s2.mem.length) (t2.mem.take s2.mem.length):=fW.refl _ _;have hmt:=(zF.mem.take (k:=s2.mem.length)).ren e1;have hmu:MR GR (t2.nv+1) (t2.mem.take s2.mem.length) (t.mem.take s2.mem.length):=hmt.mono (pu _);refine⟨_,.all a' (aT (t.mem.take s.mem.length) []) t.aI t.nv [] [],⟨n0+1,λn hn=>?_⟩,?_,hk⟩;.rw[hsh];simp[gV,hnt,hrun n hn];rw[hi.mem.len]at q5;rw[q5];simp[lA,j9]
        .refine⟨GR,⟨?_,?_,?_,?_,⟨?_,e3,?_⟩,bc _⟩,?_,?_,xL⟩
         .intro k v hk;rcases rq _ _ _ _ hk with⟨h1,h2⟩|h1;.exact(hi.slots k v h1).still h2
          .exact(hout.1 k v h1).move (mM.trans hst) (pu _) e1
         .exact jl (mM.trans hst) (pu _) e1 hout.2
         .rw[<-hi.mem.len];exact hmu
         .intro v hv;obtain⟨h1,h2⟩:=zF.aI v hv;exact⟨Nat.lt_succ_of_lt h1,λu hu=>h2 u (by rw[<-e1 v h1];exact hu)⟩
         .intro v u' hv hu;have hv:v<t2.nv+1:=hv;show u'<t.nv;rcases im v t2.nv with h1|h1;.rw[e1 v h1]at hu;exact zF.ak.low v u' h1 hu
          .have:v=t2.nv:=by omega
           subst this;rw[e2]at hu;cases hu;omega
         .intro v v' u' hu lF;have mD:∀v,v<t2.nv->∀u',GR v=some u'->u'<t.nv/\u'≠p:=by intro v hv u' hu;rw[e1 v hv]at hu;exact⟨zF.ak.low v u' hv hu,λe=>fresh v hv (by rw[hu,e])⟩
          rcases m6 v t2.nv with h1|h1|h1
          .obtain⟨l1,l2⟩:=mD v h1 u' hu;rcases m6 v' t2.nv with h3|h3|h3;.rw[e1 v h1]at hu;rw[e1 v' h3]at lF;exact zF.ak.inj v v' u' hu lF
           .subst h3;rw[e2]at lF;simp_all
           .rw[e3 v' h3]at lF;simp_all;omega
          .subst h1;rw[e2]at hu;injection hu with hu;rcases m6 v' t2.nv with h3|h3|h3;.obtain⟨l1,l2⟩:=mD v' h3 u' lF;omega
           .exact h3.symm
           .rw[e3 v' h3]at lF;simp_all;omega
          .rw[e3 v h1]at hu;injection hu with hu;rcases m6 v' t2.nv with h3|h3|h3;.obtain⟨l1,l2⟩:=mD v' h3 u' lF;omega
           .subst h3;rw[e2]at lF;simp_all;omega
           .rw[e3 v' h3]at lF;simp_all;omega
         .exact q6 GR (t2.nv+1) _ ⟨by omega,e2,λv hv=>(by cases hv)⟩ e1 (pu _) hst
         .intro v u' hv hu;have hv:v<t2.nv+1:=hv;rcases im v t2.nv with h1|h1
          .rw[e1 v h1]at hu;rcases hfr v u' h1 hu with⟨w,hw,IY⟩|h';.exact .inl ⟨w,by omega,by rw[<-UW w hw];exact IY⟩
           .exact .inr h'
          .have:v=t2.nv:=by omega
           subst this;rw[e2]at hu;exact .inl ⟨nx,by omega,by rw[gz];exact hu⟩
       .cases hk
     .cases hk
    dsimp at h;split at h;.obtain⟨ax,t2,ρ',t,g1,g2,g3,g4,g5⟩:=hwk _ _ _ _ _ _ _ h _ _ _ start;cases ax with|exit id=>cases g5|normal=>exact fin .normal t2 ρ' t (λ_ h=>by cases h) g1 g2 g3 g4 g5|ret=>exact fin .ret t2 ρ' t (λ_ h=>by cases h) g1 g2 g3 g4 g5
    .rename_i outs ho;obtain⟨y,hy,h⟩:=bind_some h;obtain⟨ax,t2,ρ',t,g1,g2,g3,g4,g5⟩:=hwk _ _ _ _ _ _ _ hy _ _ _ start;have Ux:∀id,ax≠.exit id:=by intro id e;subst e;cases g5
     have g5:ov outs .ret t2=some y:=by cases ax with|exit id=>cases g5|normal=>exact g5|ret=>exact g5
     obtain⟨t3,GR,g6,g7,g8⟩:=Cc g2 g5;rw[g8]at h;exact fin ax t3 GR t Ux g1 g6 (g3.trans g7 g4) g4 h
 .rename_i hf;exact Lk hE hi N7 (by simp[Cd,<-hE.fns,hf]) h has
def wH{ρ:bH}{B:Nat}{m:List (Tr E2)}:∀{l:List ig}{d d':List fS}{cs:List Cell}{aK:List AV},l.all ig.flat=true->dH l d=some (cs,d')->aC (RC ρ B m) cs aK->aK.all Cw=true
 |[],_,_,_,aK,_,h,ha=>by cases h;match aK,ha with|[],_=>rfl
 |c::l,d,d',cs,aK,hl,h,ha=>by
  rw[dv,al]at hl;simp[dH]at h;split at h
  .rename_i x r' h1;split at h;.rename_i xs r'' h2;cases h;match aK,ha with
    |a::aK,ha=>
     have hx:Cw a=true:=by have hf:=hl.1;unfold ig.fill at h1;split at h1<;>first|(simp only[dT,eJ]at h1;obtain⟨rfl,rfl⟩:=h1;first|(cases ha.1;rfl)|cases hf)|cases h1
     rw[dv,hx,wH hl.2 h2 ha.2]<;>grind
   grind
  grind
def aa2{ρ:bH}{B:Nat}{m:List (Tr E2)}{b:Bool}{l:List ig}{d d':List fS}{cs:List Cell}{a:AV}(hl:l.all ig.flat=true)(h:dH l d=some (cs,d'))(ha:R1 ρ B m (b,cs) a):FJ a=true:=by cases b with|true=>obtain⟨aK,rfl,ha⟩:=ha;exact wH hl h ha|false=>obtain⟨c,rfl,ha⟩:=ha;have:=wH (aK:=[a]) hl h ⟨ha,trivial⟩;simp at this;cases a<;>first|exact this|cases this
def zG{ρ:bH}{B:Nat}{m:List (Tr E2)}:∀{res:List (Bool×List ig)}{d d':List fS}{ws:List (Bool×List Cell)}{aK:List AV},B7 res=true->nR res d=some (ws,d')->aC (R1 ρ B m) ws aK->aK.all FJ=true
 |[],_,_,_,aK,_,h,ha=>by cases h;match aK,ha with|[],_=>rfl
 |(b,l)::res,d,d',ws,aK,hl,h,ha=>by
  unfold B7 at hl;rw[dv,al]at hl;simp[nR]at h;split at h
  .rename_i x r' h1;split at h;.rename_i xs r'' h2;cases h;match aK,ha with|a::aK,ha=>rw[dv,aa2 hl.1 h1 ha.1,zG (res:=res) hl.2 h2 ha.2]<;>grind
   grind
  grind
def UX{ρ:bH}{B:Nat}{m:List (Tr E2)}{res:List (Bool×List ig)}{d d':List fS}{ws:List (Bool×List Cell)}{w:V2}{a:AV}(hl:B7 res=true)(h:nR res d=some (ws,d'))(ht:qC ws=some w)(ha:RV ρ B m w a):TB a=true:=by
 unfold qC at ht;split at ht
 .rename_i b cs;have hr:R1 ρ B m (b,cs) a:=by cases b with|true=>cases ht;exact ha|false=>match cs,ht with|[c],ht=>cases ht;exact⟨c,rfl,ha⟩
  have:=zG (aK:=[a]) hl h ⟨hr,trivial⟩;simp at this;cases a<;>first|exact this|cases this
 .cases ht;obtain⟨aK,rfl,ha⟩:=ha;exact zG hl h ha
def RX(hE:az Fs E)(hi:RI ρ nx rem os s2 s p){f:Nat}{vs:List V2}{aK:List AV}(h:Ur E s2 f vs K=some r)(has:aC (RV ρ nx s2.mem) vs aK):∃r2 e,(∃n0,∀n,n0<=n->lJ (fX Fs n) s f aK=some e)/\pF ρ nx os s2 s r2 e/\K r2=some r:=by
 obtain⟨c,hc,h⟩:=aD h;split at h
 .rename_i hfl;obtain⟨⟨ds,bs⟩,ha,h⟩:=aD h;obtain⟨x,hx,h⟩:=aD h;obtain⟨hb,h⟩:=qe h;obtain⟨y,hy,h⟩:=bind_some h;split at h
  .rename_i ws yj;obtain⟨w,hw,h⟩:=aD h;obtain⟨as',vs',g1,gk,g2,g3⟩:=GW hi.mem ha has hb;simp at hfl;obtain⟨hfl,Be⟩:=hfl;obtain⟨vs1,g4,g5⟩:=hE.ye f c hc x y hy;rw[dN hx]at g4;have Fw:=g2 [];rw[dq,g4]at Fw;cases Fw;obtain⟨n0,rv,cm,ts,nv,g6,g7⟩:=g5 as' g3;obtain⟨a',g8,g9⟩:=(g7 ws yj).1 (λe=>by rw[e]at Be;cases Be) w hw 0 0 0;have hfa:=UX hfl yj hw (g9 ρ0 0 []);refine⟨_,.bT {val:=a',dn:=[],cR:=[],rd:=aK.flatMap (nE s.mem)},⟨n0,λn hn=>?_⟩,?_,h⟩;.simp[lJ,g1,g6 n hn,g8,hfa]
   .exact .zy hi.mem hi.aI (by omega) (g9 _ _ _) gk
  grind
 grind
end
section
variable{Fs:Tb}{E:ah}{wk:Wk}{α:Type}{ρ:bH}{nx rem p:Nat}{os:List (Tr AV)}{s2:S2}{s:St}{ctx row d:Nat}{K:iJ->Option α}{r:α}
def RY{row d aP:Nat}(h:Nat.ble 4294967296 row=false):aek row=row/\ael row d aP=d/\Nat.ble 1099511627776 row=false:=by
 have h:¬4294967296<=row:=λq=>by rw[ml q]at h;cases h
 have h1:Nat.ble 4294967296 (row%1099511627776)=false:=by rw[pA];intro q;have:=fr q;omega
 have h2:Nat.ble 1099511627776 row=false:=by rw[pA];intro q;have:=fr q;omega
 refine⟨by unfold aek;omega,?_,h2⟩;unfold ael;rw[h1]
def IZ(hwk:N4 Fs wk)(hE:az Fs E)(hi:RI ρ nx (rem+1) os s2 s p)(mD:Nat.ble 1099511627776 row=false){op:cF}(h:dm E wk ctx s2 row d nx op K=some r):∃r2 e,(∃n0,∀n,n0<=n->op.run (fX Fs n) (Cd Fs) s row d p=some e)/\pF ρ nx os s2 s r2 e/\K r2=some r:=by
 have gz:ρ nx=some p:=by simpa using hi.BX 0 (by omega)
 have hm:=hi.mem;have ht:=hi.aI;have cv:=hi.slots;have hB:nx<=nx:=bc _;have Bf:nx<=nx+1:=by omega
 have hinj:=hi.ak.inj;have conv:eE ρ nx (nx+1) s2 s op row d p K r->∃r2 e,(∃n0,∀n,n0<=n->op.run (fX Fs n) (Cd Fs) s row d p=some e)/\pF ρ nx os s2 s r2 e/\K r2=some r:=by rintro⟨E',e,h1,h2,h3⟩;exact⟨.bT E',.bT e,⟨0,λn _=>h1 _ _⟩,h2,h3⟩
 cases op with
 |JI x=>exact conv (UI hm ht cv hB gz h)|compact x=>exact conv (IT hm ht cv hB gz h)|pick c a b=>exact conv (Ry hm ht cv Bf h)|alloc z=>exact conv (NX hm ht hB gz h)|box x=>exact conv (UH hm ht cv hB gz h)|build z ps=>exact conv (NS hm ht cv Bf h)|buildSlice sz n z ps=>exact conv (BW hm ht cv hB gz h)|load sz agg x=>exact conv (RK hm ht cv hB h)|store sz x v=>exact conv (NY hm ht cv hB h)|nilCheck x=>exact conv (Fq hm ht cv Bf h)|bin op x y=>exact conv (UD hm ht cv Bf h)|ZZ neg x y=>exact conv (UE hm ht cv Bf h)|QV neg sz l x y=>exact conv (UF hm ht cv Bf h)|un op x=>exact conv (aaR hm ht cv Bf h)|conv k x=>exact conv (RA hm ht cv Bf h)|field off sz agg x=>exact conv (NW hm ht cv Bf h)|fieldAddr off x=>exact conv (Dz hm ht cv Bf h)|indexAddr sz x i=>exact conv (DA hm ht cv Bf h)|lG n sz x i=>exact conv (Ft hm ht cv Bf h)|rK n sz agg x i=>exact conv (KS hm ht cv Bf h)|rL x i=>exact conv (KU hm ht cv Bf h)|slice sz x lo hi mx=>exact conv (NZ hm ht cv hB gz h)|rM x lo hi=>exact conv (KV hm ht cv Bf h)|extract x i=>exact conv (IP hm ht cv Bf h)|len x=>exact conv (UG hm ht cv Bf h)|HK x=>exact conv (RF hm ht cv Bf h)|JJ x=>exact conv (RD hm ht cv Bf h)|Fg n=>exact conv (RG hm ht Bf h)|HL x y=>exact conv (RH hm ht cv Bf h)|HM x y=>exact conv (RJ hm ht cv Bf h)|append sz bytes x y=>exact conv (KZ hm ht cv hB gz hinj h)|pZ sz bytes z x n=>exact conv (IS hm ht cv hB gz hinj h)|clone sz bytes x=>exact conv (N0 hm ht cv hB gz hinj h)|sort x=>exact conv (RO hm ht cv hB h)|copy sz x y=>exact conv (RM hm ht cv hB h)|makeSlice sz bytes z l c=>exact conv (DE hm ht cv hB gz h)|makeFunc f cap=>exact conv (Fu hm ht cv Bf h)|clear sz z x=>exact conv (N1 hm ht cv hB h)|grow sz x n=>exact conv (RP hm ht cv hB gz h)|call f args=>
  simp[dm]at h;split at h;.rename_i h7 h8 h9 ZO;obtain⟨vs,hv,h⟩:=aD h;obtain⟨r2,e,⟨n0,h1⟩,h2,h3⟩:=DJ hwk hE hi (by omega) h (qb cv hv);exact⟨r2,e,⟨n0,λn hn=>by simp only[cF.run,mD,h7,h8,h9,ZO];exact h1 n hn⟩,h2,h3⟩
  .rename_i h7 h8 h9;obtain⟨vs,hv,h⟩:=aD h;obtain⟨r2,e,⟨n0,h1⟩,h2,h3⟩:=UT hE hi h (qb cv hv);exact⟨r2,e,⟨n0,λn hn=>by simp only[cF.run,mD,h7,h8,h9];exact h1 n hn⟩,h2,h3⟩
  .rename_i h7 h8 h9 ZO;obtain⟨vs,hv,h⟩:=aD h;obtain⟨r2,e,⟨n0,h1⟩,h2,h3⟩:=UU hE hi h (qb cv hv);exact⟨r2,e,⟨n0,λn hn=>by simp only[cF.run,mD,h7,h8,h9,ZO];exact h1 n hn⟩,h2,h3⟩
  grind|xk f args=>
  obtain⟨vs,hv,h⟩:=aD h;have hse:E.sh f=Cd Fs f:=by simp[ah.sh,Cd,hE.fns]
  rw[hse]at h;cases hsf:Cd Fs f with|true=>rw[hsf]at h;obtain⟨r2,e,⟨n0,h1⟩,h2,h3⟩:=DJ hwk hE hi (by omega) h (qb cv hv);refine⟨r2,e,⟨n0,λn hn=>?_⟩,h2,h3⟩;have:=h1 n hn;rw[hsf]at this;simp[cF.run,mD,hsf,this]|false=>rw[hsf]at h;obtain⟨r2,e,⟨n0,h1⟩,h2,h3⟩:=RX hE hi h (qb cv hv);exact⟨r2,e,⟨n0,λn hn=>by simp only[cF.run,mD,hsf,h1 n hn]⟩,h2,h3⟩
 |Ar x args=>
  simp[dm]at h;split at h
  .rename_i f cap hx;obtain⟨vs,hv,h⟩:=aD h;obtain⟨aK,he,hc⟩:=bx cv hx;have hc:aC (RV ρ nx s2.mem) (cap.map .c) aK:=by
    have:∀{cs:List Cell}{aK:List AV},aC (RC ρ nx s2.mem) cs aK->aC (RV ρ nx s2.mem) (cs.map .c) aK:=by intro cs;induction cs with
     |nil=>intro aK h;match aK,h with|[],_=>trivial
     |cons c cs ih=>intro aK h;match aK,h with|a::aK,h=>exact⟨h.1,ih h.2⟩
    grind
   obtain⟨r2,e,⟨n0,h1⟩,h2,h3⟩:=DJ hwk hE hi (by omega) h ((qb cv hv).append hc);exact⟨r2,e,⟨n0,λn hn=>by simp only[cF.run,he];exact h1 n hn⟩,h2,h3⟩
  grind|sliceB n sz x=>exact conv (KW hm ht cv Bf h)|b2s x=>exact conv (UK hm ht cv hB h)|s2b x=>exact conv (UL hm ht cv hB h)|mkSet=>exact conv (N2 hm ht hB gz h)|JK x y=>exact conv (RQ hm ht cv hB h)|JL x y=>exact conv (RR hm ht cv hB h)|Aq neg x=>exact conv (NV hm ht cv Bf h)|tC lo n sz x=>exact conv (KQ hm ht cv Bf h)|bad=>simp[dm]at h
def RI.UY(hi:RI ρ nx rem os s2 s p){g:Nat}{t:Bool}(hg:dV s.slots g=.d (.sc (.bool t))):RI ρ nx rem os {s2 with slots:=s2.slots.set g (some (.c (.bool t)))} s p:=by
 refine⟨λk v hk=>?_,hi.outer,hi.mem,hi.aI,hi.ak,hi.BX,hi.nv,hi.pn⟩;rw[Tr.cK]at hk;split at hk;.subst_vars;cases hk;exact hg
 .exact hi.slots k v hk
def Ll(hwk:N4 Fs wk)(hE:az Fs E)(hi:RI ρ nx (rem+1) os s2 s p){o:bI}{K:S2->iJ->Option α}(h:PL E wk ctx s2 nx o K=some r):∃s2' r2 e,(∃n0,∀n,n0<=n->o.step (fX Fs n) (Cd Fs) s p=some e)/\RI ρ nx (rem+1) os s2' s p/\pF ρ nx os s2' s r2 e/\K s2' r2=some r:=by
 have skip:∀{s2'},RI ρ nx (rem+1) os s2' s p->pF ρ nx os s2' s (lS (.fk [])) (.bT {val:=kP,dn:=[],cR:=[],rd:=[]}):=λhi'=>pE.zy hi'.mem hi'.aI (by omega) nU aX.nil;unfold PL at h;split at h;.cases h
 rename_i mD;obtain⟨q1,q2,q3⟩:=RY (d:=o.dst.getD 0) (aP:=p) mD;split at h;.rename_i hg;obtain⟨r2,e,⟨n0,h1⟩,h2,h3⟩:=IZ hwk hE hi q3 h;refine⟨s2,r2,e,⟨n0,λn hn=>?_⟩,hi,h2,h3⟩;simp[bI.step,js,hg,q1,q2]<;>grind
 .rename_i g b hg;split at h;.rename_i t ht;have hv:dV s.slots g=.d (.sc (.bool t)):=hi.slots g _ ht;have hi':=hi.UY hv;cases t with
   |true=>cases b with|true=>obtain⟨r2,e,⟨n0,h1⟩,h2,h3⟩:=IZ hwk hE hi' q3 h;refine⟨_,r2,e,⟨n0,λn hn=>?_⟩,hi',h2,h3⟩;simp[bI.step,js,hg,hv,q1,q2,ll]<;>grind|false=>refine⟨_,_,_,⟨0,λn _=>?_⟩,hi',skip hi',h⟩;simp[bI.step,js,hg,hv];rfl
   |false=>cases b with|true=>refine⟨_,_,_,⟨0,λn _=>?_⟩,hi',skip hi',h⟩;simp[bI.step,js,hg,hv];rfl|false=>obtain⟨r2,e,⟨n0,h1⟩,h2,h3⟩:=IZ hwk hE hi' q3 h;refine⟨_,r2,e,⟨n0,λn hn=>?_⟩,hi',h2,h3⟩;simp[bI.step,js,hg,hv,q1,q2,ll]<;>grind
  .rename_i ht;obtain⟨aK,hv,_⟩:=hi.slots g _ ht;refine⟨_,_,_,⟨0,λn _=>?_⟩,hi,skip hi,h⟩;simp[bI.step,js,hg,hv];rfl
  grind
def P8{B:Nat}{m:List (Tr E2)}{t:Tr V2}{o:Tr AV}(h:wG ρ B m t o){v:V2}{a:AV}(hv:RV ρ B m v a)(dst:Option Nat):wG ρ B m (aaB t dst v) (n9 o dst a):=by cases dst with|none=>exact h|some n=>
 intro k w hk;simp[aaB]at hk;simp[n9,dV];rw[Tr.cK]at hk⊢;split at hk;.grind
 .rename_i hne;rw[be hne];exact h k w hk
def RI.bT(hi:RI ρ nx (rem+1) os s2 s p){E':Kt}{e:fD}(h:pE ρ nx (nx+1) s2 s E' e)(dst:Option Nat):RI ρ (nx+1) rem os (s2.app dst (.bT E')) (s.app dst (.bT e)) (p+1):=by
 refine⟨?_,?_,h.mem,h.aI,hi.ak,λj hj=>?_,?_,?_⟩;.exact P8 (hi.slots.move h.aj3 (by omega) λ_ _=>rfl) h.val dst
 .exact jl h.aj3 (by omega) (λ_ _=>rfl) hi.outer
 .have:=hi.BX (j+1) (by omega)<;>grind
 .have:=hi.nv;show nx+1+rem=s2.nv;omega
 .have:=hi.pn;show p+1+rem<=s.nv;omega
def pF.all_nil{v:V2}{t2:S2}{a:AV}{m:List (Tr bq)}{t:Tr Unit}{n:Nat}{kp kr:List (Nat×Nat)}(h:pF ρ nx os s2 s (.all v t2) (.all a m t n kp kr)):kp=[]/\kr=[]:=by cases kp<;>cases kr<;>first|exact⟨rfl,rfl⟩|exact h.elim
def RI.all(hi:RI ρ nx (rem+1) os s2 s p){v:V2}{t2:S2}{a:AV}{m:List (Tr bq)}{t:Tr Unit}{n:Nat}(h:pF ρ nx os s2 s (.all v t2) (.all a m t n [] []))(dst:Option Nat):∃ρ',RI ρ' t2.nv rem os {t2.app dst (.all v t2)with nv:=t2.nv+rem} (s.app dst (.all a m t n [] [])) (p+1)/\Fr ρ (nx+1) s.nv ρ' t2.nv/\s.nv<=n:=by
 obtain⟨ρ1,hs,hv,hf,hn⟩:=h;have hpn:=hi.pn;let ρ':bH:=λv=>if v<t2.nv then ρ1 v else if v<t2.nv+rem then some (p+1+(v-t2.nv))else some (n+(v-(t2.nv+rem)));have e1:∀v,v<t2.nv->ρ' v=ρ1 v:=λv h=>ba h;have e3:∀v,t2.nv+rem<=v->ρ' v=some (n+(v-(t2.nv+rem))):=λv h=>by show(if v<t2.nv then _ else _)=_;rw[be (by omega),be (by omega)]
 have apart:∀v u,v<t2.nv->ρ1 v=some u->u<p+1\/p+1+rem<=u:=by
  intro v u hv hu;rcases hf v u hv hu with⟨w,hw,IY⟩|h'
  .rcases im u (p+1)with h1|h1;.grind
   .rcases im u (p+1+rem)with h2|h2;.have:=hi.BX (u-p) (by omega);rw[show p+(u-p)=u from by omega]at this;have:=hi.ak.inj _ _ _ IY this<;>omega
    omega
  omega
 refine⟨ρ',⟨?_,?_,?_,?_,?_,λj hj=>?_,rfl,?_⟩,?_,hn⟩;.exact P8 (hs.slots.move (fW.refl _ _) (bc _) e1) (hv.move (fW.refl _ _) (bc _) e1) dst
 .exact jl (fW.refl _ _) (bc _) e1 hs.outer
 .exact hs.mem.ren e1
 .intro v hv;obtain⟨h1,h2⟩:=hs.aI v hv;exact⟨h1,λu hu=>h2 u (by rw[<-e1 v h1];exact hu)⟩
 .refine⟨λv u hv hu=>?_,λv hv=>e3 v hv,λv v' u hu lF=>?_⟩
  .show u<n;rcases im v t2.nv with h1|h1;.rw[e1 v h1]at hu;exact hs.ak.low v u h1 hu
   grind
  .rcases im v t2.nv with h1|h1
   .rw[e1 v h1]at hu;have mD:=hs.ak.low v u h1 hu;rcases im v' t2.nv with h2|h2;.rw[e1 v' h2]at lF;exact hs.ak.inj v v' u hu lF
    grind
   .rcases im v (t2.nv+rem)with h3|h3;.grind
    .simp_all;rcases im v' t2.nv with h2|h2;.rw[e1 v' h2]at lF;have:u<n:=hs.ak.low v' u h2 lF<;>omega
     grind
 .grind
 .show p+1+rem<=n;omega
 .intro v u hv hu;rw[e1 v hv]at hu;exact hf v u hv hu
def RI.done(hi:RI ρ nx 0 os s2 s p):Ca ρ os s2 s:=by have:nx=s2.nv:=hi.nv;subst this;exact⟨hi.slots,hi.outer,hi.mem,hi.aI,hi.ak,bc _⟩
def UZ(ρ:bH)(nx:Nat)(os:List (Tr AV))(lo n:Nat)(K:S2->Option α)(r:α)(s':St):Prop:=∃ρ' s2',Ca ρ' os s2' s'/\Fr ρ nx lo ρ' s2'.nv/\n<=s'.nv/\K s2'=some r
def wI(hwk:N4 Fs wk)(hE:az Fs E){K:S2->Option α}{mC lo:Nat}:∀{ops:List bI}{i nx:Nat}{ρ:bH}{s2:S2}{s:St},B8 E wk ctx nx ops s2 K=some r->RI ρ nx ops.length os s2 s (mC+i)->lo<=mC->∃s',(∃n0,∀n,n0<=n->jA (fX Fs n) (Cd Fs) mC i ops s=some s')/\UZ ρ nx os lo s.nv K r s'|[],i,nx,ρ,s2,s,h,hi,_=>⟨s,⟨0,λ_ _=>rfl⟩,ρ,s2,hi.done,by have:nx=s2.nv:=hi.nv;subst this;exact Fr.refl _ _ _,bc _,h⟩|o::ops,i,nx,ρ,s2,s,h,hi,hlo=>by obtain⟨s2',r2,e,⟨n0,h1⟩,h2,h3,h4⟩:=Ll hwk hE hi h;cases r2 with
 |bT E'=>cases e with
  |bT e=>
    have hi':=h2.bT h3 o.dst;rw[eK]at hi';obtain⟨s',⟨n1,g1⟩,ρ',s3,g2,g3,g4,g5⟩:=wI hwk hE h4 hi' hlo;refine⟨s',⟨max n0 n1,λn hn=>?_⟩,ρ',s3,g2,λv u hv hu=>?_,g4,g5⟩;.simp[jA,h1 n (by omega)]<;>grind
    .rcases g3 v u hv hu with⟨w,hw,IY⟩|h'
     .by_cases hwn:w=nx;.have:=hi.BX 0 (by simp)<;>grind
      grind
     omega|all=>exact h3.elim
 |all v t2=>cases e with|bT e=>exact h3.elim|all a m t n' kp kr=>
    obtain⟨e1,e2⟩:=h3.all_nil;subst e1;subst e2;obtain⟨ρ1,hi',hf,hn'⟩:=h2.all h3 o.dst;rw[eK]at hi';obtain⟨s',⟨n1,g1⟩,ρ',s3,g2,g3,g4,g5⟩:=wI hwk hE h4 hi' hlo;have hsn:lo<=s.nv:=by have:=hi.pn;omega
    refine⟨s',⟨max n0 n1,λn hn=>?_⟩,ρ',s3,g2,λv u hv hu=>?_,nf hn' g4,g5⟩;.simp[jA,h1 n (by omega)]<;>grind
    .rcases g3 v u hv hu with⟨w,hw,IY⟩|h'
     .rcases hf w u hw IY with⟨w',Pu,asq⟩|h'
      .by_cases hwn:w'=nx;.have:=hi.BX 0 (by simp)<;>grind
       grind
      omega
     omega
def wJ(ρ:bH):iJ->hU->Prop|.bT E,.bT e=>aX ρ E.rd e.rd/\aX ρ E.wr e.wr|.all _ _,_=>True|_,_=>False
def P9(ρ:bH):List (Nat×iJ)->List (Nat×hU)->Prop:=aC λx y=>x.1=y.1/\wJ ρ x.2 y.2
def U0{a b:Nat×Nat×Nat}:keq a b=true↔a=b:=by obtain⟨a1,a2,a3⟩:=a;obtain⟨b1,b2,b3⟩:=b;simp[keq,and_assoc]
def KR.inj(hinj:∀v v' u,ρ v=some u->ρ v'=some u->v=v'){a b k:Nat×Nat×Nat}(ha:KR ρ a k)(hb:KR ρ b k):a=b:=by
 rcases ha with⟨rfl,h⟩|⟨v,u,rfl,rfl,hu⟩
 .rcases hb with⟨rfl,_⟩|⟨v',u',rfl,rfl,_⟩;.rfl
  .cases h
 .rcases hb with⟨rfl,h⟩|⟨v',u',rfl,h,lF⟩;.cases h
  .have:u=u':=by simpa[ku]using h
   grind
def DK(hinj:∀v v' u,ρ v=some u->ρ v'=some u->v=v'){a2 b2 a b:List (Nat×Nat×Nat)}(ha:aX ρ a2 a)(hb:aX ρ b2 b)(h:zq a2 b2=false):meets a b=false:=by
 rw[pA];intro hm;unfold meets at hm;rw[kx]at hm;obtain⟨k,hk,hc⟩:=hm;obtain⟨k2,h1,h2⟩:=ha k hk;obtain⟨k2',h3,h4⟩:=hb k (by simpa using hc);have:=KR.inj hinj h2 h4;subst this;have:zq a2 b2=true:=by unfold zq;rw[kx];exact⟨k2,h1,by rw[kx];exact⟨k2,h3,U0.2 rfl⟩⟩
 rw[h]at this;cases this
def keys_nil{l:List (Nat×Nat×Nat)}(h:aX ρ [] l):l=[]:=by cases l with|nil=>rfl|cons k l=>obtain⟨_,h1,_⟩:=h k ca<;>grind
def quiet{E':Kt}{e:fD}(h:qW (.bT E')=false)(hr:wJ ρ (.bT E') (.bT e)):e.rd=[]/\e.dn=[]/\e.cR=[]:=by
 simp[qW,lj,al,se]at h;obtain⟨⟨h1,h2⟩,h3⟩:=h;obtain⟨k1,k2⟩:=hr;rw[h1]at k1;have hw:E'.wr=[]:=by simp[Kt.wr,h2,h3]
 rw[hw]at k2;have:=keys_nil k2;simp[fD.wr,List.append_eq_nil_iff,List.map_eq_nil_iff]at this;exact⟨keys_nil k1,this.1,this.2⟩
def N8{e:fD}(h:e.rd=[]/\e.dn=[]/\e.cR=[]):xm (.bT e)=false:=by grind[xm]
def Bg{x:hU}{e:fD}(h:e.rd=[]/\e.dn=[]/\e.cR=[]):tG x (.bT e)=false/\tG (.bT e) x=false:=by
 have hl:=N8 h;obtain⟨h1,h2,h3⟩:=h;have hw:e.wr=[]:=by simp[fD.wr,h2,h3]
 cases x with|bT a=>simp[tG,h1,hw,meets]|all=>simp[tG,within,h1,hw]
def U1(hinj:∀v v' u,ρ v=some u->ρ v'=some u->v=v'){x2 r2:iJ}{x e:hU}(hx:wJ ρ x2 x)(he:wJ ρ r2 e)(hr:∀v t,r2=.all v t->∃a m tt n,e=.all a m tt n [] [])(h:zu x2 r2=false):tG x e=false:=by cases r2 with
 |bT E'=>cases e with|all=>exact he.elim|bT e=>cases x2 with
   |bT X=>cases x with|all=>exact hx.elim|bT x=>simp[zu,i9]at h;simp[tG,i9];exact⟨⟨DK hinj hx.1 he.2 h.1.1,DK hinj hx.2 he.1 h.1.2⟩,DK hinj hx.2 he.2 h.2⟩
   |all v t=>
    have:qW (.bT E')=false:=by simpa[zu,qW]using h
    exact(Bg (quiet this he)).1
 |all v t=>cases x2 with
  |bT X=>cases x with|all=>exact hx.elim|bT x=>
    have:qW (.bT X)=false:=by simpa[zu,qW]using h
    exact(Bg (quiet this hx)).2
  |all v' t'=>simp[zu,qW]at h
def xG(hinj:∀v v' u,ρ v=some u->ρ v'=some u->v=v'){oS:Nat}{r2:iJ}{e:hU}(he:wJ ρ r2 e)(hr:∀v t,r2=.all v t->∃a m tt n,e=.all a m tt n [] []):∀{A1:List (Nat×iJ)}{eR:List (Nat×hU)},P9 ρ A1 eR->IF oS r2 A1=true->clear oS e eR=true|[],[],_,_=>rfl|(i,x2)::r2',(j,x)::r',hp,h=>by obtain⟨⟨h1,h2⟩,h3⟩:=hp;subst h1;simp[IF,al,gc,d6]at h;simp[clear,al,gc,d6];exact⟨h.1.imp id (U1 hinj h2 he hr),xG hinj he hr h3 h.2⟩|[],_::_,h,_=>h.elim|_::_,[],h,_=>h.elim
def Lm{ρ':bH}:∀{l2:List (Nat×iJ)}{l:List (Nat×hU)},P9 ρ l2 l->P9 ρ' (A1 l2) l
 |[],[],_=>trivial|(i,x2)::r2',(j,x)::r',hp=>by obtain⟨⟨h1,h2⟩,h3⟩:=hp;refine⟨⟨h1,?_⟩,Lm h3⟩;show wJ ρ' (match qW x2 with|true=>_|false=>x2) x;cases hl:qW x2 with|true=>trivial|false=>cases x2 with|all=>simp[qW]at hl|bT X=>cases x with|all=>exact h2.elim|bT x=>
     obtain⟨q1,q2,q3⟩:=quiet hl h2;refine⟨?_,?_⟩;.rw[q1];exact aX.nil
     .have:x.wr=[]:=by simp[fD.wr,q2,q3]
      rw[this];exact aX.nil
 |[],_::_,h=>h.elim|_::_,[],h=>h.elim
def pF.key{r2:iJ}{e:hU}(h:pF ρ nx os s2 s r2 e):wJ ρ r2 e/\∀v t,r2=.all v t->∃a m tt n,e=.all a m tt n [] []:=by cases r2 with
 |bT E'=>cases e with|bT e=>exact⟨⟨h.rd,h.wr⟩,λ_ _ h=>by cases h⟩|all=>exact h.elim
 |all v t=>cases e with|bT e=>exact h.elim|all a m tt n kp kr=>obtain⟨e1,e2⟩:=h.all_nil;subst e1;subst e2;exact⟨trivial,λ_ _ _=>⟨a,m,tt,n,rfl⟩⟩
def wK(hwk:N4 Fs wk)(hE:az Fs E){K:S2->Option α}{mC lo:Nat}:∀{ops:List bI}{i nx:Nat}{ρ:bH}{s2:S2}{s:St}{A1:List (Nat×iJ)}{eR:List (Nat×hU)},B9 E wk ctx i nx ops A1 s2 K=some r->P9 ρ A1 eR->RI ρ nx ops.length os s2 s (mC+i)->lo<=mC->∃s',(∃n0,∀n,n0<=n->ke (fX Fs n) (Cd Fs) mC i ops eR s=some s')/\UZ ρ nx os lo s.nv K r s'
 |[],i,nx,ρ,s2,s,_,_,h,_,hi,_=>⟨s,⟨0,λ_ _=>rfl⟩,ρ,s2,hi.done,by have:nx=s2.nv:=hi.nv;subst this;exact Fr.refl _ _ _,bc _,h⟩|o::ops,i,nx,ρ,s2,s,pa2,eR,h,hp,hi,hlo=>by
  obtain⟨s2',r2,e,⟨n0,h1⟩,h2,h3,h4⟩:=Ll hwk hE hi h;split at h4;.rename_i lu;have hkey:=h3.key;have lu:=xG hi.ak.inj hkey.1 hkey.2 hp lu;cases r2 with
   |bT E'=>cases e with
    |bT e=>
     have hi':=h2.bT h3 o.dst;obtain⟨s',⟨n1,g1⟩,ρ',s3,g2,g3,g4,g5⟩:=wK hwk hE h4 (eR:=(i,.bT e)::eR) ⟨⟨rfl,hkey.1⟩,hp⟩ hi' hlo;refine⟨s',⟨max n0 n1,λn hn=>?_⟩,ρ',s3,g2,λv u hv hu=>?_,g4,g5⟩;.simp[ke,h1 n (by omega),lu]<;>grind
     .rcases g3 v u hv hu with⟨w,hw,IY⟩|h'
      .by_cases hwn:w=nx;.have:=hi.BX 0 (by simp)<;>grind
       grind
      omega|all=>exact h3.elim
   |all v t2=>cases e with|bT e=>grind|all a m t n' kp kr=>
     obtain⟨e1,e2⟩:=h3.all_nil;subst e1;subst e2;obtain⟨ρ1,hi',hf,hn'⟩:=h2.all h3 o.dst;obtain⟨s',⟨n1,g1⟩,ρ',s3,g2,g3,g4,g5⟩:=wK hwk hE h4 (eR:=(i,.all a m t n' [] [])::eR) ⟨⟨rfl,trivial⟩,Lm hp⟩ hi' hlo;have hsn:lo<=s.nv:=by have:=hi.pn;omega
     refine⟨s',⟨max n0 n1,λn hn=>?_⟩,ρ',s3,g2,λv u hv hu=>?_,nf hn' g4,g5⟩;.simp[ke,h1 n (by omega),lu]<;>grind
     .rcases g3 v u hv hu with⟨w,hw,IY⟩|h'
      .rcases hf w u hw IY with⟨w',Pu,asq⟩|h'
       .by_cases hwn:w'=nx;.have:=hi.BX 0 (by simp)<;>grind
        grind
       omega
      omega
  grind
def I0(hwk:N4 Fs wk)(hE:az Fs E){ops:List bI}{draw:Bool}{K:S2->Option α}(h:aaG E wk ctx ops draw s2 K=some r)(hs:Ca ρ os s2 s):∃s',Ev Fs (.region ops draw) s (.normal,s')/\UZ ρ s2.nv os s.nv s.nv K r s':=by
 have start:RI ρ s2.nv ops.length os {s2 with nv:=s2.nv+ops.length} {s with nv:=s.nv+ops.length} (s.nv+0):=by
  refine⟨hs.slots,hs.outer,hs.mem,hs.aI,⟨λv u hv hu=>?_,λv hv=>?_,hs.ak.inj⟩,λj hj=>?_,rfl,bc _⟩
  .show u<s.nv+ops.length;rcases im v s2.nv with h1|h1;.have:=hs.ak.low v u h1 hu;omega
   .rw[hs.ak.high v h1]at hu<;>grind
  .have hv:s2.nv+ops.length<=v:=hv;rw[hs.ak.high v (by omega)]<;>grind
  .rw[hs.ak.high _ (by omega)]<;>grind
 have lift:∀{s':St},UZ ρ s2.nv os s.nv (s.nv+ops.length) K r s'->UZ ρ s2.nv os s.nv s.nv K r s':=by rintro s'⟨ρ',s3,g2,g3,g4,g5⟩;exact⟨ρ',s3,g2,g3,by omega,g5⟩
 cases draw with|false=>obtain⟨s',⟨n0,h1⟩,g⟩:=wI hwk hE (lo:=s.nv) h start (bc _);refine⟨s',⟨n0+1,λk n hk hn=>?_⟩,lift g⟩;obtain⟨n,rfl⟩:∃q,n=q+1:=⟨n-1,by omega⟩;simp[exec,gi,h1 k (by omega),cf]|true=>obtain⟨s',⟨n0,h1⟩,g⟩:=wK hwk hE (lo:=s.nv) (eR:=[]) h trivial start (bc _);refine⟨s',⟨n0+1,λk n hk hn=>?_⟩,lift g⟩;obtain⟨n,rfl⟩:∃q,n=q+1:=⟨n-1,by omega⟩;simp[exec,gi,h1 k (by omega),cf]
end
section
variable{Fs:Tb}{E:ah}
def SR.wE{ρ:bH}{os:List (Tr AV)}{s2:S2}{s:St}{c:cu}{b:Bool}(hs:Ca ρ os s2 s)(hb:jq (c.ev s.slots)=some b):Ca ρ os (wE s2 c b) s:=by cases c with|c v=>exact hs|t n=>
 have he:dV s.slots n=.d (.sc (.bool b)):=by
  unfold jq at hb;split at hb;.rename_i b' e;simp_all;exact e
  .cases hb
 refine⟨λk v hk=>?_,hs.outer,hs.mem,hs.aI,hs.ak,hs.le⟩;simp[Go.Sym.wE]at hk;rw[Tr.cK]at hk;split at hk;.subst_vars;cases hk;exact he
 .exact hs.slots k v hk
def U2{call:bK.Call}{sh:Nat->Bool}{s:St}{dst aP:Nat}{op:cF}{e:hU}(hm:Us sh op=true)(h:op.run call sh s 0 dst aP=some e):∃v rd,e=.bT {val:=v,dn:=[],cR:=[],rd}:=by
 have pure:∀{v:AV},fD.pure v=some e->∃v rd,e=.bT {val:=v,dn:=[],cR:=[],rd}:=λh=>by injection h with h;exact⟨_,_,h.symm⟩
 have ade:∀{α:Type}{o:Option α}{k:α->Option hU},Option.bind o k=some e->∃x,k x=some e:=λ{α o k}h=>by cases o with|none=>cases h|some x=>exact⟨x,h⟩
 cases op with
 |JI x=>injection h with h;exact⟨_,_,h.symm⟩|load sz agg x=>obtain⟨cs,h⟩:=ade h;cases hw:iI agg cs with|none=>rw[hw]at h;cases h|some v=>simp_all;exact⟨_,_,h.symm⟩
 |xk f args=>
  simp[Us,d6]at hm;simp[cF.run,hm,lJ]at h;split at h;.cases h
  .split at h;.cases h
   .split at h
    .split at h;.simp_all;exact⟨_,_,h.symm⟩
     .cases h
    .cases h|slice sz x lo hi mx=>
  simp[cF.run]at h;split at h
  .split at h;.rename_i hz;simp at hz
   .obtain⟨v,h⟩:=ade h;exact pure h
  .cases h|_=>first|(cases hm;done)|(simp only[cF.run]at h;repeat'(first|split at h|(simp only[lr]at h;obtain⟨_,_,h⟩:=h)|(cases h;done)|exact pure h))
structure uz(l:List Nat)(s s':St):Prop where
 mem:s'.mem=s.mem
 aI:s'.aI=s.aI
 nv:s.nv<=s'.nv
 slots:∀k,¬k∈l->dV s'.slots k=dV s.slots k
def uz.refl(l:List Nat)(s:St):uz l s s:=⟨rfl,rfl,bc _,λ_ _=>rfl⟩
def uz.trans{l:List Nat}{s s' s'':St}(h:uz l s s')(k:uz l s' s''):uz l s s'':=⟨k.mem.trans h.mem,k.aI.trans h.aI,nf h.nv k.nv,λi hi=>(k.slots i hi).trans (h.slots i hi)⟩
def uz.mono{l l':List Nat}{s s':St}(h:uz l s s')(hl:∀k,k∈l->k∈l'):uz l' s s':=⟨h.mem,h.aI,h.nv,λk hk=>h.slots k λh'=>hk (hl k h')⟩
def G1{call:bK.Call}{sh:Nat->Bool}{s:St}{aP:Nat}{o:bI}{e:hU}(hm:GF sh o=true)(h:o.step call sh s aP=some e):uz o.dst.toList s (s.app o.dst e):=by
 simp only[GF,al]at hm;have hr:=am hm.1;have key:∃v rd,e=.bT {val:=v,dn:=[],cR:=[],rd}:=by
  simp[bI.step]at h;split at h;.cases h
  .rw[hr]at h;exact U2 hm.2 h
  .injection h with h;exact⟨_,_,h.symm⟩
 obtain⟨v,rd,rfl⟩:=key;refine⟨rfl,rfl,bc _,λk hk=>?_⟩;simp[St.app,n9];cases hd:o.dst with|none=>rfl|some n=>simp[dV,Tr.cK]<;>grind
def Ln{call:bK.Call}{sh:Nat->Bool}{mC:Nat}:∀{ops:List bI}{i:Nat}{s s':St},ops.all (GF sh)=true->jA call sh mC i ops s=some s'->uz (ops.flatMap λo=>o.dst.toList) s s'
 |[],_,s,s',_,h=>by cases h;exact uz.refl _ _|o::r,i,s,s',hm,h=>by
  simp only[dv,al]at hm;simp[jA]at h;split at h;.cases h
  .rename_i e he;exact((G1 hm.1 he).mono λk hk=>by simp only[eb,bj];exact .inl hk).trans ((Ln hm.2 h).mono λk hk=>by simp only[eb,bj];exact .inr hk)
def Lo{call:bK.Call}{sh:Nat->Bool}{mC:Nat}:∀{ops:List bI}{i:Nat}{eR:List (Nat×hU)}{s s':St},ops.all (GF sh)=true->ke call sh mC i ops eR s=some s'->uz (ops.flatMap λo=>o.dst.toList) s s'
 |[],_,_,s,s',_,h=>by cases h;exact uz.refl _ _|o::r,i,eR,s,s',hm,h=>by
  simp only[dv,al]at hm;simp[ke]at h;split at h;.cases h
  .rename_i e he;split at h;.exact((G1 hm.1 he).mono λk hk=>by simp only[eb,bj];exact .inl hk).trans ((Lo hm.2 h).mono λk hk=>by simp only[eb,bj];exact .inr hk)
   grind
def mN{call:bK.Call}{sh:Nat->Bool}:∀{n:Nat}{c:AC}{s s':St}{ax:AX},ug sh c=true->exec call sh n c s=some (ax,s')->uz (qX c) s s'|0,_,_,_,_,_,h=>by cases h|n+1,c,s,s',ax,hm,h=>by cases c with
 |skip=>cases h;exact uz.refl _ _|region ops draw=>simp only[exec]at h;cases hr:gi call sh ops draw s with|none=>grind|some t=>rw[hr]at h;cases h;cases draw with|false=>have g:=Ln hm hr;exact⟨g.mem,g.aI,by have:=g.nv;simp only at this;omega,g.slots⟩|true=>have g:=Lo hm hr;exact⟨g.mem,g.aI,by have:=g.nv;simp only at this;omega,g.slots⟩
 |seq a b=>
  simp[ug,al]at hm;simp[exec]at h;split at h;.rename_i t ht;exact((mN hm.1 ht).mono λk hk=>by simp only[qX,bj];exact .inl hk).trans ((mN hm.2 h).mono λk hk=>by simp only[qX,bj];exact .inr hk)
  .exact(mN hm.1 h).mono λk hk=>by simp only[qX,bj];exact .inl hk|cond c a b=>
  simp[ug,al]at hm;simp[exec]at h;split at h;.exact(mN hm.1 h).mono λk hk=>by simp only[qX,bj];exact .inl hk
  .exact(mN hm.2 h).mono λk hk=>by simp only[qX,bj];exact .inr hk
  grind|block=>cases hm|loop=>cases hm|exit=>cases hm|ret=>cases hm
def G2:∀(l:List Nat)(t:Tr V2)(k:Nat)(v:V2),(Kx l t).get? k=some v->¬k∈l/\t.get? k=some v|[],t,k,v,h=>⟨by simp,h⟩|n::r,t,k,v,h=>by obtain⟨h1,h2⟩:=G2 r _ k v h;rw[Tr.cK]at h2<;>grind
def Lp{ρ:bH}{B:Nat}{m:List (Tr E2)}{t:Ty}{c c':Cell}{x:t.den}{a:AV}(h:IG t c=some x)(h':NN t x=some c')(hc:RC ρ B m c a):∀{ρ':bH}{B':Nat}{m':List (Tr E2)},RC ρ' B' m' c' a:=by
 unfold IG at h;split at h
 .split at h;.rename_i e _;cases h;subst e;cases h';exact hc
  .cases h
 .cases h;cases h';exact hc
 .cases h;cases h';exact hc
 .cases h
def DL{t:Ty}{m:Nat}{ax:AX}{s2:S2}{x:t.den}(h:Ky t m ax s2=some x):ax=.normal/\∃c,s2.slots.get? m=some (.c c)/\IG t c=some x:=by unfold Ky at h<;>grind
def DM{ρ:bH}{os:List (Tr AV)}{s2:S2}{s t:St}{l:List Nat}{m:Nat}{y:Cell}(hs:Ca ρ os s2 s)(hm:uz l s t)(hy:∀{ρ':bH}{B':Nat}{m':List (Tr E2)},RC ρ' B' m' y (dV t.slots m)):∃ρ',Ca ρ' os {s2 with slots:=(Kx l s2.slots).set m (some (.c y))} t/\Fr ρ s2.nv s.nv ρ' s2.nv:=by
 let ρ':bH:=λv=>if v<s2.nv then ρ v else some (t.nv+(v-s2.nv));have hρ:∀v,v<s2.nv->ρ' v=ρ v:=λv hv=>ba hv;have hρ2:∀v,s2.nv<=v->ρ' v=some (t.nv+(v-s2.nv)):=λv hv=>be (by omega);have xL:=hm.nv;refine⟨ρ',⟨λk v hk=>?_,hs.outer.mono λ_ _ h=>h.move (fW.refl _ _) (bc _) hρ,?_,λv hv=>?_,⟨λv u hv hu=>?_,λv hv=>hρ2 v hv,λv v' u hu lF=>?_⟩,bc _⟩,λv u hv hu=>.inl ⟨v,hv,by rw[<-hρ v hv];exact hu⟩⟩
 .rw[Tr.cK]at hk;split at hk;.subst_vars;cases hk;exact hy
  .obtain⟨h1,h2⟩:=G2 _ _ _ _ hk;rw[hm.slots k h1];exact(hs.slots k v h2).move (fW.refl _ _) (bc _) hρ
 .rw[hm.mem];refine⟨hs.mem.len,λlv sl e2 he=>?_⟩;obtain⟨e,h1,h2⟩:=hs.mem.fE lv sl e2 he;exact⟨e,h1,RE.mono (bc _) hρ (λ_ _=>RC.move (fW.refl _ _) (bc _) hρ) h2⟩
 .rw[hm.aI];obtain⟨h1,h2⟩:=hs.aI v hv<;>grind
 .rw[hρ v hv]at hu;have:=hs.ak.low v u hv hu;omega
 .by_cases h1:v<s2.nv
  .rw[hρ v h1]at hu;by_cases h2:v'<s2.nv;.rw[hρ v' h2]at lF;exact hs.ak.inj _ _ _ hu lF
   .simp_all;have:=hs.ak.low v u h1 hu<;>omega
  .simp_all;by_cases h2:v'<s2.nv;.rw[hρ v' h2]at lF;have:=hs.ak.low v' u h2 lF<;>omega
   grind
def I1(hE:az Fs E):∀n,N4 Fs (walk E n)
 |0=>λ_ _ _ _ _ _ _ h=>by cases h|n+1=>by
  have ih:=I1 hE n;intro α ctx i c s2 K r h ρ os s hs;simp[walk]at h;have meet:∀{outs:bt}{y:(qa outs).den}{ax:AX}{t2:S2}{ρ':bH}{t:St},ov outs ax t2=some y->Ca ρ' os t2 t->Fr ρ s2.nv s.nv ρ' t2.nv->s.nv<=t.nv->qV outs y K=some r->∃t3 ρ3,Ca ρ3 os t3 t/\Fr ρ s2.nv s.nv ρ3 t3.nv/\K ax t3=some r:=by intro outs y ax t2 ρ' t hy zF hfr hn hk;obtain⟨t3,ρ3,g1,g2,g3⟩:=Cc zF hy;exact⟨t3,ρ3,g1,hfr.trans g2 hn,(g3 K).symm.trans hk⟩
  cases c with
  |skip=>exact⟨.normal,s2,ρ,s,⟨1,λk n _ hn=>by obtain⟨n,rfl⟩:∃q,n=q+1:=⟨n-1,by omega⟩;rfl⟩,hs,Fr.refl _ _ _,bc _,h⟩|exit id=>exact⟨.exit id,s2,ρ,s,⟨1,λk n _ hn=>by obtain⟨n,rfl⟩:∃q,n=q+1:=⟨n-1,by omega⟩;rfl⟩,hs,Fr.refl _ _ _,bc _,h⟩|ret=>exact⟨.ret,s2,ρ,s,⟨1,λk n _ hn=>by obtain⟨n,rfl⟩:∃q,n=q+1:=⟨n-1,by omega⟩;rfl⟩,hs,Fr.refl _ _ _,bc _,h⟩|region ops draw=>
   simp at h;split at h
   .rename_i m _;split at h
    .rename_i DN;have hsh:E.sh=Cd Fs:=by funext g;simp[ah.sh,Cd,hE.fns]
     rw[hsh]at DN;obtain⟨y,hy,h⟩:=bind_some h;obtain⟨s',⟨n0,qI⟩,ρ',s3,g2,g3,g4,g5⟩:=I0 ih hE hy hs;obtain⟨_,c',E9,g5⟩:=DL g5;obtain⟨y',hy',h⟩:=aD h;obtain⟨ρ3,q1,q2⟩:=DM hs (mN (c:=.region ops draw) DN (qI n0 n0 (bc _) (bc _))) (Lp g5 hy' (show RC _ _ _ c' _ from g2.slots m.1 _ E9));exact⟨.normal,_,ρ3,s',⟨n0,qI⟩,q1,q2,g4,h⟩
    grind
   split at h;.obtain⟨s',qI,ρ',s3,g2,g3,g4,g5⟩:=I0 ih hE h hs<;>grind
   .obtain⟨y,hy,h⟩:=bind_some h;obtain⟨s',qI,ρ',s3,g2,g3,g4,g5⟩:=I0 ih hE hy hs<;>grind|seq a b=>obtain⟨ax,t2,ρ',t,⟨n0,qI⟩,g2,g3,g4,g5⟩:=ih _ _ _ _ _ _ _ h _ _ _ hs;cases ax with|normal=>obtain⟨ax',t3,ρ3,t',⟨n1,aka⟩,q2,q3,q4,q5⟩:=ih _ _ _ _ _ _ _ g5 _ _ _ g2;refine⟨ax',t3,ρ3,t',⟨max n0 n1+1,λk m hk hm=>?_⟩,q2,g3.trans q3 g4,nf g4 q4,q5⟩;obtain⟨m,rfl⟩:∃q,m=q+1:=⟨m-1,by omega⟩;simp[exec,qI k m (by omega) (by omega)]<;>grind|exit id=>refine⟨.exit id,t2,ρ',t,⟨n0+1,λk m hk hm=>?_⟩,g2,g3,g4,g5⟩;obtain⟨m,rfl⟩:∃q,m=q+1:=⟨m-1,by omega⟩;simp[exec,qI k m (by omega) (by omega)]|ret=>refine⟨.ret,t2,ρ',t,⟨n0+1,λk m hk hm=>?_⟩,g2,g3,g4,g5⟩;obtain⟨m,rfl⟩:∃q,m=q+1:=⟨m-1,by omega⟩;simp[exec,qI k m (by omega) (by omega)]
  |cond c a b=>
   have way:∀{β:Type}{K':AX->S2->Option β}{r':β},(yc (jR s2 c) λt=>cond t (walk E n β ctx (i+1) a (wE s2 c true) K') (walk E n β ctx (i+1+wD a) b (wE s2 c false) K'))=some r'->
     ∃ax t2 ρ' t,Ev Fs (.cond c a b) s (ax,t)/\Ca ρ' os t2 t/\Fr ρ s2.nv s.nv ρ' t2.nv/\s.nv<=t.nv/\K' ax t2=some r':=by intro β K' r' h;obtain⟨t,ht,h⟩:=r7 h;have hb:=r8 (bx hs.slots ht);cases t with|true=>
     have xL:(wE s2 c true).nv=s2.nv:=by cases c<;>rfl
     obtain⟨ax,t2,ρ',t,⟨n0,qI⟩,g2,g3,g4,g5⟩:=ih _ _ _ _ _ _ _ h _ _ _ (hs.wE hb);rw[xL]at g3;refine⟨ax,t2,ρ',t,⟨n0+1,λk m hk hm=>?_⟩,g2,g3,g4,g5⟩;obtain⟨m,rfl⟩:∃q,m=q+1:=⟨m-1,by omega⟩;simp[exec,hb]<;>grind|false=>
     have xL:(wE s2 c false).nv=s2.nv:=by cases c<;>rfl
     obtain⟨ax,t2,ρ',t,⟨n0,qI⟩,g2,g3,g4,g5⟩:=ih _ _ _ _ _ _ _ h _ _ _ (hs.wE hb);rw[xL]at g3;refine⟨ax,t2,ρ',t,⟨n0+1,λk m hk hm=>?_⟩,g2,g3,g4,g5⟩;obtain⟨m,rfl⟩:∃q,m=q+1:=⟨m-1,by omega⟩;simp[exec,hb]<;>grind
   simp at h;split at h
   .rename_i m _;split at h
    .rename_i DN;simp at DN;have hsh:E.sh=Cd Fs:=by funext g;simp[ah.sh,Cd,hE.fns]
     rw[hsh]at DN;obtain⟨y,hy,h⟩:=bind_some h;obtain⟨ax,t2,ρ',t,⟨n0,qI⟩,g2,g3,g4,g5⟩:=way hy;obtain⟨rfl,c',E9,g5⟩:=DL g5;obtain⟨y',hy',h⟩:=aD h;have hmd:ug (Cd Fs) (.cond c a b)=true:=by simp[ug,DN.1,DN.2,lc]
     obtain⟨ρ3,q1,q2⟩:=DM hs (mN hmd (qI n0 n0 (bc _) (bc _))) (Lp g5 hy' (show RC _ _ _ c' _ from g2.slots m.1 _ E9));exact⟨.normal,_,ρ3,t,⟨n0,qI⟩,q1,q2,g4,h⟩
    grind
   .split at h;.exact way h
    .obtain⟨y,hy,h⟩:=bind_some h;obtain⟨ax,t2,ρ',t,qI,g2,g3,g4,g5⟩:=way hy<;>grind|block id c=>
   have way:∀{β:Type}{K':AX->S2->Option β}{r':β},(walk E n β ctx (i+1) c s2 λax s'=>match ax with
      |.exit id'=>match Nat.beq id' id with|true=>K' .normal s'|false=>K' (.exit id') s'
      |ax=>K' ax s')=some r'->∃ax t2 ρ' t,Ev Fs (.block id c) s (ax,t)/\Ca ρ' os t2 t/\Fr ρ s2.nv s.nv ρ' t2.nv/\s.nv<=t.nv/\K' ax t2=some r':=by intro β K' r' h;obtain⟨ax,t2,ρ',t,⟨n0,qI⟩,g2,g3,g4,g5⟩:=ih _ _ _ _ _ _ _ h _ _ _ hs;cases ax with|normal=>refine⟨.normal,t2,ρ',t,⟨n0+1,λk m hk hm=>?_⟩,g2,g3,g4,g5⟩;obtain⟨m,rfl⟩:∃q,m=q+1:=⟨m-1,by omega⟩;simp[exec,qI k m (by omega) (by omega)]|ret=>refine⟨.ret,t2,ρ',t,⟨n0+1,λk m hk hm=>?_⟩,g2,g3,g4,g5⟩;obtain⟨m,rfl⟩:∃q,m=q+1:=⟨m-1,by omega⟩;simp[exec,qI k m (by omega) (by omega)]|exit id'=>simp at g5;cases hb:Nat.beq id' id with|true=>rw[hb]at g5;refine⟨.normal,t2,ρ',t,⟨n0+1,λk m hk hm=>?_⟩,g2,g3,g4,g5⟩;obtain⟨m,rfl⟩:∃q,m=q+1:=⟨m-1,by omega⟩;simp[exec,qI k m (by omega) (by omega),hb]|false=>rw[hb]at g5;refine⟨.exit id',t2,ρ',t,⟨n0+1,λk m hk hm=>?_⟩,g2,g3,g4,g5⟩;obtain⟨m,rfl⟩:∃q,m=q+1:=⟨m-1,by omega⟩;simp[exec,qI k m (by omega) (by omega),hb]
   simp at h;split at h;.exact way h
   .obtain⟨y,hy,h⟩:=bind_some h;obtain⟨ax,t2,ρ',t,qI,g2,g3,g4,g5⟩:=way hy<;>grind|loop c=>
   simp at h;split at h;.obtain⟨ax,t2,ρ',t,⟨n0,qI⟩,g2,g3,g4,g5⟩:=ih _ _ _ _ _ _ _ h _ _ _ hs;cases ax with|normal=>obtain⟨ax',t3,ρ3,t',⟨n1,aka⟩,q2,q3,q4,q5⟩:=ih _ _ _ _ _ _ _ g5 _ _ _ g2;refine⟨ax',t3,ρ3,t',⟨max n0 n1+1,λk m hk hm=>?_⟩,q2,g3.trans q3 g4,nf g4 q4,q5⟩;obtain⟨m,rfl⟩:∃q,m=q+1:=⟨m-1,by omega⟩;simp[exec,qI k m (by omega) (by omega)]<;>grind|exit id=>refine⟨.exit id,t2,ρ',t,⟨n0+1,λk m hk hm=>?_⟩,g2,g3,g4,g5⟩;obtain⟨m,rfl⟩:∃q,m=q+1:=⟨m-1,by omega⟩;simp[exec,qI k m (by omega) (by omega)]|ret=>refine⟨.ret,t2,ρ',t,⟨n0+1,λk m hk hm=>?_⟩,g2,g3,g4,g5⟩;obtain⟨m,rfl⟩:∃q,m=q+1:=⟨m-1,by omega⟩;simp[exec,qI k m (by omega) (by omega)]
   obtain⟨L,hL,h⟩:=aD h;obtain⟨ds,hd,h⟩:=aD h;obtain⟨x,hx,h⟩:=aD h;obtain⟨y,hy,h⟩:=bind_some h;obtain⟨t2,ρ',g1,g2,g3⟩:=Cb hd hs;obtain⟨ax,t3,ρ3,t,q1,q2,q3,q4,q5⟩:=hE.loops ctx _ c L hL x y hy t2 (by rw[dN hx];exact g1) _ _ _ g2;exact⟨ax,t3,ρ3,t,q1,q2,g3.trans q3 (bc _),q4,(q5 K).symm.trans h⟩
def Qa(hE:az Fs E)(N ctx i:Nat)(body:AC)(T:bw)(outs:bt):∀k,US Fs body ⟨T,outs,PM (Dm E N ctx i body T outs) k⟩
 |0=>λx y h=>by cases h|k+1=>by
  have ih:=Qa hE N ctx i body T outs k;intro x y h s2 hst ρ os s hs;obtain⟨s2',akb,h⟩:=aD h;rw[hst]at akb;cases akb;obtain⟨ax,t2,ρ',t,⟨n0,qI⟩,g2,g3,g4,g5⟩:=I1 hE N _ _ _ _ _ _ _ h _ _ _ hs;have leave:∀{ax:AX},ax≠.normal->Ev Fs body s (ax,t)->ov outs ax t2=some y->∃ax s2' ρ' s',Ev Fs (.loop body) s (ax,s')/\Ca ρ' os s2' s'/\Fr ρ s2.nv s.nv ρ' s2'.nv/\s.nv<=s'.nv/\∀{α:Type}(K:AX->S2->Option α),qV outs y K=K ax s2':=by rintro ax Ux⟨n0,qI⟩hy;obtain⟨t3,ρ3,q1,q2,q3⟩:=Cc g2 hy;refine⟨ax,t3,ρ3,t,⟨n0+1,λk m hk hm=>?_⟩,q1,g3.trans q2 g4,g4,q3⟩;obtain⟨m,rfl⟩:∃q,m=q+1:=⟨m-1,by omega⟩;simp[exec,qI k m (by omega) (by omega)]<;>grind
  cases ax with|normal=>obtain⟨ds,hd,g5⟩:=aD g5;obtain⟨x',hx,g5⟩:=aD g5;obtain⟨t3,ρ3,q1,q2,q3⟩:=Cb hd g2;obtain⟨ax',t4,ρ4,t',⟨n1,aka⟩,w2,w3,w4,w5⟩:=ih x' y g5 t3 (by simp only;rw[dN hx];exact q1) _ _ _ q2;refine⟨ax',t4,ρ4,t',⟨max n0 n1+1,λk m hk hm=>?_⟩,w2,(g3.trans q3 g4).trans w3 g4,nf g4 w4,w5⟩;obtain⟨m,rfl⟩:∃q,m=q+1:=⟨m-1,by omega⟩;simp[exec,qI k m (by omega) (by omega)]<;>grind|exit id=>exact leave (λh=>by cases h) ⟨n0,qI⟩ g5|ret=>exact leave (λh=>by cases h) ⟨n0,qI⟩ g5
def hi0(x:Cell):hiC 0 x=true:=by cases x<;>first|rfl|exact Nat.ble_eq.2 (t6 _)
def aa3{ρ:bH}{B:Nat}{m2:List (Tr E2)}{m:List (Tr bq)}(hm:MR ρ B m2 m){top k lv sl ak:Nat}{c:ig}{x x':Cell}{ks:List (Nat×Nat)}{a:AV}{d:List fS}(hh:hiC top x=true)(h:NI m2 x=some (x',ks))(hd:vn c x'=some d)(hx:RC ρ B m2 x a):∃y x2,bE m top 0 k lv sl ak a=some (.d y,[])/\(∀rest,c.fill (d++rest)=some (x2,rest))/\∀(ρ:bH)(B:Nat)(m:List (Tr E2)),RC ρ B m x2 (.d y):=by
 have imp:∃y,pq x'=some y/\bE m top 0 k lv sl ak a=some (.d y,[]):=by
  unfold NI at h;split at h;.cases h;cases hx;exact⟨_,rfl,rfl⟩
  .cases h;cases hx;exact⟨_,rfl,rfl⟩
  .cases h;cases hx;exact⟨_,rfl,rfl⟩
  .cases h;cases hx;exact⟨_,rfl,rfl⟩
  .cases h;rcases(iL (m:=m) hx).2with rfl|⟨o,ho,rfl⟩;.exact⟨_,rfl,rfl⟩
   .exact⟨_,rfl,yw ho⟩
  .cases h
  .rename_i t l o hne;cases h;rcases(jo (m:=m) hx).2.2 (λe=>hne e)with rfl|⟨o',ho,rfl⟩;.exact⟨_,rfl,rfl⟩
   .exact⟨_,rfl,yw ho⟩
  .split at h;.rename_i r hr;cases h;have he:=nA hm hx hr;obtain⟨_,u,n,hu,rfl,hn⟩:=hx;refine⟨_,rfl,?_⟩;simp only[hiC]at hh;simp[bE,he,hh,beq_true.2 rfl]
   grind
  .split at h;.rename_i r hr;cases h;have he:=kE hm hx hr (hx.2.choose_spec.2.2 r hr);obtain⟨_,u,hu,rfl,hn⟩:=hx;refine⟨_,rfl,?_⟩;simp only[hiC]at hh;simp[bE,he,hh,beq_true.2 rfl]
   grind
  grind
 obtain⟨y,h1,h2⟩:=imp;obtain⟨x2,h3,h4⟩:=IX hd h1<;>simp_all
def DO{ρ:bH}{B:Nat}{m2:List (Tr E2)}{m:List (Tr bq)}(hm:MR ρ B m2 m){top lv sl ak:Nat}:∀{cs:List ig}{xs xs':List Cell}{ks:List (Nat×Nat)}{aK:List AV}{d:List fS}{k:Nat},(∀x∈xs,hiC top x=true)->nD m2 xs=some (xs',ks)->gL cs xs'=some d->aC (RC ρ B m2) xs aK->∃as' zH,dM m top 0 lv sl ak k aK=some (as',[])/\(∀rest,dH cs (d++rest)=some (zH,rest))/\as'.all Tz=true/\∀(ρ:bH)(B:Nat)(m:List (Tr E2)),aC (RC ρ B m) zH as'
 |cs,[],xs',ks,aK,d,k,_,h,hd,ha=>by cases h;match aK,ha with|[],_=>match cs,hd with|[],hd=>cases hd;exact⟨[],[],rfl,λ_=>rfl,rfl,λ_ _ _=>trivial⟩
 |cs,x::xs,xs',ks,aK,d,k,hh,h,hd,ha=>by
  simp[nD]at h;split at h;.rename_i y k1 ys k2 h1 h2;cases h;match aK,ha with|a::aK,ha=>match cs,hd with
   |[],hd=>simp[gL]at hd|c::cs,hd=>
    simp[gL]at hd;split at hd;.rename_i d1 d2 h5 h6;cases hd;obtain⟨a',x2,g1,g2,g3⟩:=aa3 hm (k:=k) (lv:=lv) (sl:=sl) (ak:=ak) (hh x ca) h1 h5 ha.1;obtain⟨as',zH,g4,g5,g7,g6⟩:=DO hm (lv:=lv) (sl:=sl) (ak:=ak) (k:=k+1) (λx hx=>hh x (ci _ hx)) h2 h6 ha.2;exact⟨.d a'::as',x2::zH,by simp only[dM,g1,g4,dq],λrest=>by simp only[dH,bi,g2,g5],by rw[dv,g7];rfl,λρ B m=>⟨g3 _ _ _,g6 _ _ _⟩⟩
    grind
  grind
def aa4{ρ:bH}{B:Nat}{m2:List (Tr E2)}{m:List (Tr bq)}(hm:MR ρ B m2 m){top lv sl ak k:Nat}{b:Bool}{cs:List ig}{xs xs':List Cell}{ks:List (Nat×Nat)}{a:AV}{d:List fS}(hh:∀x∈xs,hiC top x=true)(h:nD m2 xs=some (xs',ks))(hd:gL cs xs'=some d)(ha:R1 ρ B m2 (b,xs) a):∃a' zH,lH m top 0 lv sl ak k a=some (a',[])/\(∀rest,dH cs (d++rest)=some (zH,rest))/\HO a'=true/\∀(ρ:bH)(B:Nat)(m:List (Tr E2)),R1 ρ B m (b,zH) a':=by cases b with|true=>obtain⟨aK,rfl,ha⟩:=ha;obtain⟨as',zH,g1,g2,g4,g3⟩:=DO hm (k:=k) (lv:=lv) (sl:=sl) (ak:=ak) hh h hd ha;exact⟨.agg as',zH,by simp only[lH,g1,cf],g2,g4,λρ B m=>⟨as',rfl,g3 _ _ _⟩⟩|false=>
 obtain⟨c,rfl,ha⟩:=ha;obtain⟨as',zH,g1,g2,g0,g3⟩:=DO hm (k:=k) (lv:=lv) (sl:=sl) (ak:=ak) (aK:=[a]) hh h hd ⟨ha,trivial⟩;simp[dM]at g1;have hc:=RC.cell ha;split at g1;.rename_i y u ys us h1 h2;cases h2;injection g1 with g1;injection g1 with g4 g5;subst g4;simp at g5;subst g5;have hx:=g3 ρ B m2;match zH,hx with|[x2],_=>refine⟨y,[x2],?_,g2,(by cases y<;>first|rfl|cases g0),λρ B m=>⟨x2,rfl,(g3 ρ B m).1⟩⟩;cases a<;>first|exact h1|cases hc.2.1
 grind
def G9{ρ:bH}{B:Nat}{m2:List (Tr E2)}{m:List (Tr bq)}(hm:MR ρ B m2 m){top lv sl ak:Nat}:∀{res:List (Bool×List ig)}{vs:List (Bool×List Cell)}{aK:List AV}{ds:List fS}{k:Nat},(∀v∈vs,∀x∈v.2,hiC top x=true)->mH m2 res vs=some ds->aC (R1 ρ B m2) vs aK->∃as' ws,fT m top 0 lv sl ak k aK=some (as',[])/\(∀rest,nR res (ds++rest)=some (ws,rest))/\ws.length=aK.length/\as'.all HO=true/\∀(ρ:bH)(B:Nat)(m:List (Tr E2)),aC (R1 ρ B m) ws as'
 |[],[],aK,ds,k,_,h,ha=>by cases h;match aK,ha with|[],_=>exact⟨[],[],rfl,λ_=>rfl,rfl,rfl,λ_ _ _=>trivial⟩
 |(a,l)::ps,(b,cs)::vs,aK,ds,k,hh,h,ha=>by
  simp[mH]at h;split at h
  .rename_i cs' ks ds2 hab hf hr;obtain⟨d,hd,rfl⟩:=aJ h;have hab:a=b:=by grind
   subst hab;match aK,ha with|x::aK,ha=>obtain⟨a',zH,g1,g2,g8,g3⟩:=aa4 hm (k:=k) (lv:=lv) (sl:=sl) (ak:=ak) (hh _ ca) hf hd ha.1;obtain⟨as',ws,g4,g5,g6,g9,g7⟩:=G9 hm (lv:=lv) (sl:=sl) (ak:=ak) (k:=k+64) (λv hv=>hh v (ci _ hv)) hr ha.2;exact⟨a'::as',(a,zH)::ws,by simp only[fT,g1,g4,dq],λrest=>by simp only[nR,bi,g2,g5],by simp[g6],by rw[dv,g8,g9];rfl,λρ B m=>⟨g3 _ _ _,g7 _ _ _⟩⟩
  grind|[],_::_,_,_,_,_,h,_=>by simp[mH]at h|_::_,[],_,_,_,_,h,_=>by simp[mH]at h
def aa5{ρ:bH}{B:Nat}{m2:List (Tr E2)}{m:List (Tr bq)}(hm:MR ρ B m2 m){top lv sl ak:Nat}{res:List (Bool×List ig)}{vs:List (Bool×List Cell)}{aK:List AV}{ds:List fS}(hh:∀v∈vs,∀x∈v.2,hiC top x=true)(h:mH m2 res vs=some ds)(ha:aC (R1 ρ B m2) vs aK){ws:List (Bool×List Cell)}{w:V2}(hw:nR res ds=some (ws,[]))(ht:qC ws=some w):∃a',gU m top 0 lv sl ak (jt aK)=some (a',[])/\aei a'=true/\∀(ρ:bH)(B:Nat)(m:List (Tr E2)),RV ρ B m w a':=by obtain⟨as',Ff,g1,g2,g3,g0,g4⟩:=G9 hm (lv:=lv) (sl:=sl) (ak:=ak) (k:=1) hh h ha;have Fw:=g2 [];rw[dq,hw]at Fw;cases Fw;match aK,ha,g1,g3 with
 |[],_,g1,g3=>match ws,g3 with|[],_=>cases ht;exact⟨.fk [],rfl,rfl,λ_ _ _=>⟨[],rfl,trivial⟩⟩
 |[a],ha,g1,g3=>match ws,g3 with
  |[(b,cs)],_=>
   simp[fT]at g1;split at g1
   .rename_i y u ys us h1 h2;cases h2;injection g1 with g1;injection g1 with g5 g6;subst g5;simp at g6;subst g6;simp at g0;refine⟨y,?_,(by cases y<;>first|exact g0|cases g0),λρ B m=>?_⟩;.match vs,ha with|[(b',cs')],ha=>have hn:=R1.fU ha.1;cases a<;>first|exact h1|cases hn
    .have hx:=(g4 ρ B m).1;cases b with|true=>obtain⟨bs,rfl,g7⟩:=hx;cases ht;exact⟨bs,rfl,g7⟩|false=>obtain⟨c,rfl,g7⟩:=hx;cases ht;exact g7
   grind
 |a::b::aK,ha,g1,g3=>match ws,g3 with|x::y::ws,_=>cases ht;exact⟨.fk as',by simp only[jt,gU,g1,cf],g0,λρ B m=>⟨as',rfl,g4 _ _ _⟩⟩
def U3{ρ:bH}{B:Nat}{m2:List (Tr E2)}{m:List (Tr bq)}(hm:MR ρ B m2 m){k lv sl ak p row rk:Nat}(h0:rk≠0)(He:row%65536=rk)(qA:row/65536≠0)(Be:row%65536≠65535){c:ig}{x x':Cell}{ks:List (Nat×Nat)}{a:AV}{d:List fS}(hk:NM m2 rk k x=true)(h:NI m2 x=some (x',ks))(hd:vn c x'=some d)(hx:RC ρ B m2 x a):∃x2,(∀rest,c.fill (d++rest)=some (x2,rest))/\∀x3 us,Gx rk lv sl ak k x2=some (x3,us)->(∀u∈us,row/65536=u.t.size)->∃a',bE m 0 row k lv sl p a=some (a',us.map λu=>bD u.t u.l)/\∀(ρ:bH)(B:Nat)(m:List (Tr E2)),lW ρ B m lv sl ak p us->RC ρ B m x3 a':=by
 have hrow:Nat.beq row 0=false:=beq_false.2 (by intro e;subst e;simp at qA);have hsz:(!Nat.beq (row/65536) 0)=true:=by rw[beq_false.2 qA];rfl
 have fin:∀{y:D},pq x'=some y->∃x2,(∀rest,c.fill (d++rest)=some (x2,rest))/\∀(ρ:bH)(B:Nat)(m:List (Tr E2)),RC ρ B m x2 (.d y):=by
  intro y hy;unfold vn at hd;split at hd
  .split at hd;.cases hd;cases hy;exact⟨_,λ_=>rfl,λ_ _ _=>rfl⟩
   .cases hd
  .cases hd;cases hy;exact⟨_,λ_=>rfl,λ_ _ _=>rfl⟩
  .cases hd;cases hy;exact⟨_,λ_=>rfl,λ_ _ _=>rfl⟩
  .cases hd;cases hy;exact⟨_,λ_=>rfl,λ_ _ _=>.inl rfl⟩
  .cases hd;cases hy;exact⟨_,λ_=>rfl,λ_ _ _=>.inl rfl⟩
  .cases hd
 have off:k≠rk->(∃y,pq x'=some y/\bE m 0 row k lv sl p a=some (.d y,[]))->∃x2,(∀rest,c.fill (d++rest)=some (x2,rest))/\∀x3 us,Gx rk lv sl ak k x2=some (x3,us)->(∀u∈us,row/65536=u.t.size)->∃a',bE m 0 row k lv sl p a=some (a',us.map λu=>bD u.t u.l)/\∀(ρ:bH)(B:Nat)(m:List (Tr E2)),lW ρ B m lv sl ak p us->RC ρ B m x3 a':=by rintro hne⟨y,h1,h2⟩;obtain⟨x2,h3,h4⟩:=fin h1;refine⟨x2,h3,λx3 us hp _=>?_⟩;simp[Gx,beq_false.2 hne,dT,eJ]at hp;obtain⟨rfl,rfl⟩:=hp;exact⟨_,h2,λ_ _ _ _=>h4 _ _ _⟩
 have nk:(!Nat.beq k rk)=true->k≠rk:=by intro h e;rw[e,beq_true.2 rfl]at h;cases h
 have adf:oC 0 row=false:=by unfold oC;cases Nat.beq row 0<;>rfl
 have own:k≠rk->∀{els:List (List D)}{o:ZK},o≠.bG->bE m 0 row k lv sl p (.own els o)=some (.d (.sl els),[]):=by intro hne els o ho;cases o with|bG=>exact absurd rfl ho|cR=>simp[bE,adf]|full=>simp[bE,He,beq_false.2 hne,gg,adf,beq_false.2 (show rk≠65535by rw[<-He];exact Be),Do]
 unfold NI at h;split at h;.cases h;cases hx;exact off (nk hk) ⟨_,rfl,rfl⟩
 .cases h;cases hx;exact off (nk hk) ⟨_,rfl,rfl⟩
 .cases h;cases hx;exact off (nk hk) ⟨_,rfl,rfl⟩
 .cases h;cases hx;exact off (nk hk) ⟨_,rfl,rfl⟩
 .rename_i f;cases h;cases f with|false=>
   rcases(iL (m:=m) hx).2with rfl|⟨o,ho,rfl⟩;.exact off (nk hk) ⟨_,rfl,rfl⟩
   .exact off (nk hk) ⟨_,rfl,own (nk hk) ho⟩|true=>
   subst hx;by_cases hne:k=rk
   .subst hne;have hc:∃t,c=.sl t .d/\d=[⟨.sl t,[]⟩]:=by cases c with
     |sl t o=>cases o<;>first|(injection hd with hd;exact⟨t,rfl,hd.symm⟩)|cases hd
     |_=>cases hd
    obtain⟨t,rfl,rfl⟩:=hc
    .refine⟨.sl t [] .d,λ_=>rfl,λx3 us hp hu=>?_⟩;simp[Gx,beq_true.2 rfl,dT,eJ]at hp;obtain⟨rfl,rfl⟩:=hp;have hu:=hu _ (bv.2 rfl);refine⟨.ref lv sl p 0 0 (row/65536),?_,λρ B m hf=>⟨hf.1,p,0,hf.2.1,by rw[hu],λr hr=>?_⟩⟩;.simp[bE,He,hsz,beq_true.2 rfl,lc];rfl
     .have:=hf.2.2 _ (bv.2 rfl) r hr;simpa using this.symm
   .exact off hne ⟨_,rfl,own hne (λh=>by cases h)⟩
 .cases h
 .rename_i t l o hne;cases h;rcases(jo (m:=m) hx).2.2 (λe=>hne e)with rfl|⟨o',ho,rfl⟩;.exact off (nk hk) ⟨_,rfl,rfl⟩
  .exact off (nk hk) ⟨_,rfl,own (nk hk) ho⟩
 .rename_i cy cU gA t;split at h
  .rename_i r hr;cases h;have he:=nA hm hx hr;obtain⟨_,u,n,hu,rfl,hn⟩:=hx;simp only[NM,hr,al]at hk;obtain⟨hk1,hk2⟩:=hk;have hk1:=beq_true.1 hk1;have hk2:=beq_true.1 hk2;subst hk1;obtain⟨e,g1,g2⟩:=hm.fE _ _ _ (cW hr);obtain⟨_,u',g3,rfl⟩:=g2;rw[hu]at g3;cases g3;have hat:bK.rowAt m cy cU u=some (bD r.t r.l):=by unfold bK.rowAt;rw[g1];simp[beq_true.2 rfl]
   have hc:∃t0,c=.sl t0 .d/\d=[⟨.sl r.t,r.l⟩]:=by cases c with
    |sl t o=>cases o<;>first|(injection hd with hd;exact⟨t,rfl,hd.symm⟩)|cases hd
    |_=>cases hd
   obtain⟨t0,rfl,rfl⟩:=hc
   .refine⟨.sl r.t r.l .d,λ_=>rfl,λx3 us hp hu=>?_⟩;simp[Gx,beq_true.2 rfl,dT,eJ]at hp;obtain⟨rfl,rfl⟩:=hp;refine⟨.ref lv sl p 0 n t.size,?_,λρ B m hf=>⟨hf.1,p,n,hf.2.1,by rw[hk2],λr' hr'=>?_⟩⟩;.simp[bE,he,hrow,He,beq_true.2 rfl,hat];rfl
    .rw[hf.2.2 _ (bv.2 rfl) r' hr'];exact hn r hr
  .cases h
 .cases hk
 .cases h
def zI{ρ:bH}{B:Nat}{m2:List (Tr E2)}{m:List (Tr bq)}(hm:MR ρ B m2 m){lv sl ak p row rk:Nat}(h0:rk≠0)(He:row%65536=rk)(qA:row/65536≠0)(Be:row%65536≠65535):∀{cs:List ig}{xs xs':List Cell}{ks:List (Nat×Nat)}{aK:List AV}{d:List fS}{k:Nat},aaE m2 rk k xs=true->nD m2 xs=some (xs',ks)->gL cs xs'=some d->aC (RC ρ B m2) xs aK->∃zH,(∀rest,dH cs (d++rest)=some (zH,rest))/\∀JE us,uf rk lv sl ak k zH=some (JE,us)->(∀u∈us,row/65536=u.t.size)->∃as',dM m 0 row lv sl p k aK=some (as',us.map λu=>bD u.t u.l)/\∀(ρ:bH)(B:Nat)(m:List (Tr E2)),lW ρ B m lv sl ak p us->aC (RC ρ B m) JE as'
 |cs,[],xs',ks,aK,d,k,_,h,hd,ha=>by cases h;match aK,ha with|[],_=>match cs,hd with|[],hd=>cases hd;refine⟨[],λ_=>rfl,λJE us hp _=>?_⟩;cases hp;exact⟨[],rfl,λ_ _ _ _=>trivial⟩|_::_,hd=>simp[gL]at hd
 |cs,x::xs,xs',ks,aK,d,k,hk,h,hd,ha=>by
  simp[aaE,al]at hk;simp[nD]at h;split at h;.rename_i y k1 ys k2 h1 h2;cases h;match aK,ha with|a::aK,ha=>match cs,hd with
   |[],hd=>simp[gL]at hd|c::cs,hd=>
     simp[gL]at hd;split at hd
     .rename_i d1 d2 h5 h6;cases hd;obtain⟨x2,g2,g3⟩:=U3 hm (k:=k) (lv:=lv) (sl:=sl) (ak:=ak) (p:=p) h0 He qA Be hk.1 h1 h5 ha.1;obtain⟨zH,g5,g6⟩:=zI hm (lv:=lv) (sl:=sl) (ak:=ak) (p:=p) h0 He qA Be (k:=k+1) hk.2 h2 h6 ha.2;refine⟨x2::zH,λrest=>by simp only[dH,bi,g2,g5],λJE us hp hu=>?_⟩;simp[uf]at hp;split at hp;.rename_i z u1 zs u2 p1 p2;cases hp;obtain⟨a',q1,q2⟩:=g3 _ _ p1 (λu h=>hu u (dk _ h));obtain⟨as',q3,q4⟩:=g6 _ _ p2 (λu h=>hu u (dt _ h));exact⟨a'::as',by simp only[dM,q1,q3,f9],λρ B m hf=>⟨q2 _ _ _ ⟨hf.1,hf.2.1,λu h=>hf.2.2 u (dk _ h)⟩,q4 _ _ _ ⟨hf.1,hf.2.1,λu h=>hf.2.2 u (dt _ h)⟩⟩⟩
      grind
     grind
  grind
def RZ{m:List (Tr bq)}{row lv sl p k:Nat}{a:AV}(h:jS a=true)(h2:bK.fU a=true):lH m 0 row lv sl p k a=bE m 0 row k lv sl p a:=by cases a<;>first|rfl|cases h
def DP{ρ:bH}{B:Nat}{m2:List (Tr E2)}{m:List (Tr bq)}(hm:MR ρ B m2 m){lv sl ak p row rk:Nat}(h0:rk≠0)(He:row%65536=rk)(qA:row/65536≠0)(Be:row%65536≠65535):∀{res:List (Bool×List ig)}{vs:List (Bool×List Cell)}{aK:List AV}{ds:List fS}{k:Nat},Gw m2 rk k vs=true->mH m2 res vs=some ds->aC (R1 ρ B m2) vs aK->∃ws,(∀rest,nR res (ds++rest)=some (ws,rest))/\ws.length=aK.length/\∀Ff us,Gy rk lv sl ak k ws=some (Ff,us)->(∀u∈us,row/65536=u.t.size)->∃as',fT m 0 row lv sl p k aK=some (as',us.map λu=>bD u.t u.l)/\Ff.length=aK.length/\∀(ρ:bH)(B:Nat)(m:List (Tr E2)),lW ρ B m lv sl ak p us->aC (R1 ρ B m) Ff as'
 |[],[],aK,ds,k,_,h,ha=>by cases h;match aK,ha with|[],_=>refine⟨[],λ_=>rfl,rfl,λFf us hp _=>?_⟩;cases hp;exact⟨[],rfl,rfl,λ_ _ _ _=>trivial⟩
 |(a,l)::ps,(b,cs)::vs,aK,ds,k,hk,h,ha=>by
  simp[Gw,al]at hk;simp[mH]at h;split at h
  .rename_i cs' ks ds2 hab hf hr;obtain⟨d,hd,rfl⟩:=aJ h;have hab:a=b:=by grind
   subst hab;match aK,ha with
   |x::aK,ha=>
    obtain⟨ws,g5,g6,g7⟩:=DP hm (lv:=lv) (sl:=sl) (ak:=ak) (p:=p) h0 He qA Be (k:=k+64) hk.2 hr ha.2;have one:∃zH,(∀rest,dH l (d++rest)=some (zH,rest))/\∀JE us,uf rk lv sl ak k zH=some (JE,us)->(∀u∈us,row/65536=u.t.size)->∃a',lH m 0 row lv sl p k x=some (a',us.map λu=>bD u.t u.l)/\∀(ρ:bH)(B:Nat)(m:List (Tr E2)),lW ρ B m lv sl ak p us->R1 ρ B m (a,JE) a':=by cases a with|true=>obtain⟨as2,rfl,ha2⟩:=ha.1;obtain⟨zH,q1,q2⟩:=zI hm (k:=k) (lv:=lv) (sl:=sl) (ak:=ak) (p:=p) h0 He qA Be hk.1 hf hd ha2;refine⟨zH,q1,λJE us hp hu=>?_⟩;obtain⟨as',q3,q4⟩:=q2 JE us hp hu;exact⟨.agg as',by simp only[lH,q3,cf],λρ B m hf=>⟨as',rfl,q4 _ _ _ hf⟩⟩|false=>
      obtain⟨c,rfl,ha2⟩:=ha.1;obtain⟨zH,q1,q2⟩:=zI hm (k:=k) (lv:=lv) (sl:=sl) (ak:=ak) (p:=p) h0 He qA Be (aK:=[x]) hk.1 hf hd ⟨ha2,trivial⟩;refine⟨zH,q1,λJE us hp hu=>?_⟩;obtain⟨as',q3,q4⟩:=q2 JE us hp hu;have hc:=RC.cell ha2;simp[dM]at q3;split at q3
      .rename_i y u ys us' h1 h2;cases h2;simp at q3;obtain⟨rfl,rfl⟩:=q3;have hlen:∃x3,JE=[x3]:=by
        have hq:=q1 [];have h1:∀{l:List ig}{d:List fS}{xs:List Cell},dH l d=some (xs,[])->xs.length=l.length:=by intro l;induction l with|nil=>intro d xs h;cases h;rfl|cons c l ih=>intro d xs h;simp[dH]at h<;>grind
        have h2:∀{k:Nat}{xs JE:List Cell}{us:List SL},uf rk lv sl ak k xs=some (JE,us)->JE.length=xs.length:=by intro k xs;induction xs generalizing k with|nil=>intro JE us h;simp[uf,dT,eJ]at h<;>grind|cons c l ih=>intro JE us h;simp[uf]at h<;>grind
        have h3:l.length=1:=by
         have y8:∀{cs:List ig}{xs:List Cell}{d:List fS},gL cs xs=some d->cs.length=xs.length:=by intro cs;induction cs with
          |nil=>intro xs d h;cases xs with|nil=>rfl|cons _ _=>simp[gL]at h
          |cons c cs ih=>intro xs d h;cases xs with|nil=>simp[gL]at h|cons x xs=>simp[gL]at h<;>grind
         simp[nD]at hf<;>grind
        have:=h2 hp;rw[h1 hq,h3]at this;match JE,this with|[x3],_=>grind
       obtain⟨x3,rfl⟩:=hlen;exact⟨y,by rw[RZ hc.2.1 hc.2.2];exact h1,λρ B m hf=>⟨x3,rfl,(q4 _ _ _ hf).1⟩⟩
      grind
    obtain⟨zH,q1,q2⟩:=one;refine⟨(a,zH)::ws,λrest=>by simp only[nR,bi,q1,g5],by simp[g6],λFf us hp hu=>?_⟩;simp[Gy]at hp;split at hp;.rename_i z u1 zs u2 p1 p2;cases hp;obtain⟨a',q3,q4⟩:=q2 _ _ p1 (λu h=>hu u (dk _ h));obtain⟨as',q5,q6,q7⟩:=g7 _ _ p2 (λu h=>hu u (dt _ h));exact⟨a'::as',by simp only[fT,q3,q5,f9],by simp[q6],λρ B m hf=>⟨q4 _ _ _ ⟨hf.1,hf.2.1,λu h=>hf.2.2 u (dk _ h)⟩,q7 _ _ _ ⟨hf.1,hf.2.1,λu h=>hf.2.2 u (dt _ h)⟩⟩⟩
    grind
  grind|[],_::_,_,_,_,_,h,_=>by simp[mH]at h|_::_,[],_,_,_,_,h,_=>by simp[mH]at h
def U4{ρ:bH}{B:Nat}{m2:List (Tr E2)}{m:List (Tr bq)}(hm:MR ρ B m2 m){lv sl ak p row rk:Nat}(h0:rk≠0)(He:row%65536=rk)(qA:row/65536≠0)(Be:row%65536≠65535){res:List (Bool×List ig)}{vs ws Ff:List (Bool×List Cell)}{aK:List AV}{ds:List fS}{us:List SL}{w:V2}(hk:Gw m2 rk 1 vs=true)(h:mH m2 res vs=some ds)(ha:aC (R1 ρ B m2) vs aK)(hw:nR res ds=some (ws,[]))(hp:Gy rk lv sl ak 1 ws=some (Ff,us))(hu:∀u∈us,row/65536=u.t.size)(ht:qC Ff=some w):∃a',gU m 0 row lv sl p (jt aK)=some (a',us.map λu=>bD u.t u.l)/\∀(ρ:bH)(B:Nat)(m:List (Tr E2)),lW ρ B m lv sl ak p us->RV ρ B m w a':=by obtain⟨ws1,g2,g3,g4⟩:=DP hm (lv:=lv) (sl:=sl) (ak:=ak) (p:=p) h0 He qA Be (k:=1) hk h ha;have Fw:=g2 [];rw[dq,hw]at Fw;cases Fw;obtain⟨as',g1,g5,g6⟩:=g4 _ _ hp hu;match aK,ha,g1,g5 with
 |[],_,g1,g5=>match Ff,g5 with|[],_=>cases ht;simp only[fT,dT,eJ]at g1;obtain⟨rfl,g7⟩:=g1;exact⟨.fk [],by simp only[jt,gU,fT,cf];rw[<-g7],λ_ _ _ _=>⟨[],rfl,trivial⟩⟩
 |[a],ha,g1,g5=>match Ff,g5 with
  |[(b,cs)],_=>
   simp[fT]at g1;split at g1
   .rename_i y u ys us' h1 h2;cases h2;simp at g1;obtain⟨rfl,rfl⟩:=g1;refine⟨y,?_,λρ B m hf=>?_⟩;.match vs,ha with|[(b',cs')],ha=>have hn:=R1.fU ha.1;cases a<;>first|exact h1|cases hn
    .have hx:=(g6 ρ B m hf).1;cases b with|true=>obtain⟨bs,rfl,g7⟩:=hx;cases ht;exact⟨bs,rfl,g7⟩|false=>obtain⟨c,rfl,g7⟩:=hx;cases ht;exact g7
   grind
 |a::b::aK,ha,g1,g5=>match Ff,g5 with|x::y::Ff,_=>cases ht;exact⟨.fk as',by simp only[jt,gU,g1,cf],λρ B m hf=>⟨as',rfl,g6 _ _ _ hf⟩⟩
def aa6{f:Nat}{fn:qu}{aK:List AV}{M1:List AV}{mem:List (Tr bq)}{nv n0:Nat}{ax:AX}{t:St}(hf:Fs f=some fn)(hnp:Nat.beq aK.length fn.np=true)(Ux:∀id,ax≠.exit id)(q1:kf t fn.res=some M1)(qI:∀k n,n0<=k->n0<=n->exec (fX Fs k) (Cd Fs) n fn.body {slots:=eA 0 aK .lf,mem,aI:=.lf,nv}=some (ax,t)):∀n,n0+1<=n->fX Fs n f aK mem .lf nv=some (jt M1,t.mem,t.aI,t.nv):=by intro n hn;obtain⟨n,rfl⟩:∃k,n=k+1:=⟨n-1,by omega⟩;simp[fX,hf,hnp];have:=qI n n (by omega) (by omega);unfold Cd at this;cases ax with|normal=>grind|ret=>grind|exit id=>grind
def adg(hE:az Fs E)(N f:Nat)(args:List vm)(ta:List Ty)(res:List (Bool×List ig))(tr:List Ty)(rk:Nat):ru Fs f ⟨args,ta,res,tr,rk,ac6 E N f args ta res tr rk⟩:=by
 intro x y h;obtain⟨fn,hf,h⟩:=aD h;rw[hE.fns]at hf;split at h
 .rename_i vs hvs;split at h
  .rename_i hnp;refine⟨vs,hvs,λaK has=>?_⟩;let ρ:bH:=λv=>some v;have start:Ca ρ [] {slots:=lB 0 vs .lf,outer:=[],mem:=[.lf],aI:=.lf,nv:=0} {slots:=eA 0 aK .lf,mem:=[.lf],aI:=.lf,nv:=0}:=by
    refine⟨yy (has.mono λ_ _=>RV.move (λ_ _ _ _ h=>absurd h (by omega)) (bc _) λ_ h=>absurd h (by omega)),trivial,⟨rfl,λlv sl e he=>?_⟩,λv hv=>?_,⟨λv u hv=>?_,λv _=>?_,λv v' u h h'=>?_⟩,bc _⟩;.have:=ux 1 lv sl<;>grind
    .simp at hv
    .grind
    .grind
    grind
   obtain⟨ax,t2,ρ',t,⟨n0,qI⟩,g2,g3,g4,g5⟩:=I1 hE N _ _ _ _ _ _ _ h _ _ _ start;have Ux:∀id,ax≠.exit id:=by grind
   have g5:(GA t2 fn.res λvs=>match aeZ t2.mem rk vs&&!Nat.beq rk 65535with|true=>cH (mH t2.mem res vs) λds=>pack tr ds|false=>none)=some y:=by grind
   obtain⟨vs1,M1,q1,q2,g5⟩:=DH g2.mem g2.slots g5;split at g5;case h_2=>cases g5
   rename_i BY;simp at BY;obtain⟨BY,Be⟩:=BY;have Be:rk≠65535:=by intro e;simp_all
   obtain⟨ds,q3,q4⟩:=aD g5;refine⟨n0+1,jt M1,t.mem,t.aI,t.nv,λn hn=>?_,λws yj=>⟨λ_ w hw lv sl aP=>?_,λrow lv sl ak p Ff us w h0 He qA hp hu hw=>?_⟩⟩;.exact aa6 hf (by rw[<-has.length];exact hnp) Ux q1 qI n hn
   .rw[dN q4]at yj;obtain⟨a',p1,_,p2⟩:=aa5 (top:=0) g2.mem (λ_ _ _ _=>hi0 _) q3 q2 yj hw;exact⟨a',p1,p2⟩
   .rw[dN q4]at yj;have BY:Gw t2.mem rk 1 vs1=true:=by unfold aeZ at BY;rw[beq_false.2 h0]at BY<;>omega
    exact U4 g2.mem h0 He qA (by rw[He];exact Be) BY q3 q2 yj hp hu hw
  grind
 grind
end
end Go.Sym
