/- Parts of the proof. -/
import Derived.Test.YtgdkmdochlhhlaaGreatSymB
import Derived.Test.YtgdkmdochlhhlaaGreatSymI
import Derived.RowKit
import Derived.Carry
import Derived.ChangeOld
import Derived.Test.YtgdkmdochlhhlaaGreatEngQ
import Derived.Shelf.Sort.Plain
import Derived.Shelf.Slices.In.SortNone
import Derived.Shelf.Slices.CompactI
set_option linter.unusedVariables false
set_option linter.unusedSimpArgs false
set_option linter.defProp false
namespace Go.Sym
open Go Go.bL
def Ci(Fs:Nat->Option qA):Nat->Bool:=λg=>((Fs g).map (·.sh)).getD false
def Ev(Fs:Tb)(c:AC)(s:St)(x:AX×St):Prop:=∃n0,∀k n,n0<=k->n0<=n->exec (ga Fs k) (Ci Fs) n c s=some x
def Oh(Fs:Tb)(wk:Wk):Prop:=∀(α:Type)(ctx i:Nat)(c:AC)(s2:S2)(K:AX->S2->Option α)(r:α),wk α ctx i c s2 K=some r->∀(ρ:bH)(os:List (Tr AV))(s:St),Cf ρ os s2 s->∃ax s2' ρ' s',Ev Fs c s (ax,s')/\Cf ρ' os s2' s'/\Fr ρ s2.nv s.nv ρ' s2'.nv/\s.nv<=s'.nv/\K ax s2'=some r
def lX(ρ:bH)(B:Nat)(m:List (Tr E2))(lv sl aq p:Nat)(us:List SL):Prop:=aq<B/\ρ aq=some p/\∀u∈us,∀r,rowOf m lv sl aq=some r->r.l.length=u.l.length
def afH(Fs:Tb)(f:Nat)(c:Callee):Prop:=∀a y,c.F a=some y->∃vs,dO c.args (unpack c.ta a)=some (vs,[])/\∀aL,aD (RV ρ0 0 []) vs aL->∃n0 rv cm ts nv,(∀n,n0<=n->ga Fs n f aL [.lf] .lf 0=some (rv,cm,ts,nv))/\∀ws,nS c.res (unpack c.tr y)=some (ws,[])->(c.rk≠65535->∀w,qI ws=some w->∀lv sl aR,∃a',gY cm 0 0 lv sl aR rv=some (a',[])/\∀ρ B m,RV ρ B m w a')/\∀row lv sl aq p Fq us w,c.rk≠0->row%65536=c.rk->row/65536≠0->GN c.rk lv sl aq 1 ws=some (Fq,us)->(∀u∈us,row/65536=u.t.size)->qI Fq=some w->∃a',gY cm 0 row lv sl p rv=some (a',us.map λu=>bF u.t u.l)/\∀ρ B m,lX ρ B m lv sl aq p us->RV ρ B m w a'
def rD(Fs:Tb)(f:Nat)(c:Callee):Prop:=afH Fs f c
def Oi{Fs:Tb}{f:Nat}{c:Callee}(h:∀a,c.F a=none):rD Fs f c:=λa y hy=>by grind
def U6(Fs:Tb)(c:AC)(L:KO):Prop:=∀x y,L.F x=some y->∀s2,L.T.st (unpack L.T.tys x)=some s2->∀ρ os s,Cf ρ os s2 s->∃ax s2' ρ' s',Ev Fs (.loop c) s (ax,s')/\Cf ρ' os s2' s'/\Fr ρ s2.nv s.nv ρ' s2'.nv/\s.nv<=s'.nv/\∀{α:Type}(K:AX->S2->Option α),ri L.outs y K=K ax s2'
structure az(Fs:Tb)(E:ah):Prop where
 fns:E.fns=Fs
 ym:∀f c,E.ym f=some c->rD Fs f c
 loops:∀ctx i c L,E.loops ctx i c=some L->U6 Fs c L
structure RI(ρ:bH)(nx rem:Nat)(os:List (Tr AV))(s2:S2)(s:St)(p:Nat):Prop where
 slots:wJ ρ nx s2.mem s2.slots s.slots
 outer:aD (wJ ρ nx s2.mem) s2.outer os
 mem:MR ρ nx s2.mem s.mem
 aI:TR ρ nx s2.aI s.aI
 aq:VOK ρ s2.nv s.nv
 B1:∀j,j<rem->ρ (nx+j)=some (p+j)nv:nx+rem=s2.nv
 pn:p+rem<=s.nv
def pI(ρ:bH)(nx:Nat)(os:List (Tr AV))(s2:S2)(s:St):iL->iu->Prop|.bZ E,.bZ e=>pH ρ nx (nx+1) s2 s E e|.all v s2',.all a m t n [] []=>∃ρ',Cf ρ' os s2' {slots:=s.slots,mem:=m,aI:=t,nv:=n}/\RV ρ' s2'.nv s2'.mem v a/\Fr ρ (nx+1) s.nv ρ' s2'.nv/\s.nv<=n|_,_=>False
section
variable{Fs:Tb}{E:ah}{wk:Wk}{α:Type}{ρ:bH}{nx rem p:Nat}{os:List (Tr AV)}{s2:S2}{s:St}{ctx row d:Nat}{K:iL->Option α}{r:α}
def vU:∀(l:List V2)(i:Nat)(t:Tr V2)(k:Nat),(lB i l t).get? k=if h:i<=k/\k<i+l.length then some (l[k-i]'(by omega))else t.get? k
 |[],i,t,k=>by rw[xc (by simp)];rfl|x::r,i,t,k=>by
  rw[lB,vU r (i+1)];by_cases h1:i+1<=k/\k<i+1+r.length;.grind
  .rw[xc h1];by_cases h2:k=i;.subst h2;simp[Tr.cL]
   .rw[xc (by simp;omega)];rw[Tr.cL,bi (pw h2)]
def yD{B:Nat}{m:List (Tr E2)}{vs:List V2}{aL:List AV}(h:aD (RV ρ B m) vs aL):wJ ρ B m (lB 0 vs .lf) (eA 0 aL .lf):=by
 intro k v hk;rw[vU]at hk;rw[sk];split at hk;.subst_vars;obtain⟨b,hb,hr⟩:=h.get (k-0) _ (aw (by omega))<;>grind
 simp_all
def Hh{m:List (Tr E2)}{lv sl:Nat}:jZ (m++[.lf]) lv sl=jZ m lv sl:=by unfold jZ;grind[Tr.get?]
def Lm{m:List (Tr bu)}{lv sl:Nat}:aG (m++[.lf]) lv sl=aG m lv sl:=by unfold aG;grind[Tr.get?]
def Oj{m:List (Tr E2)}{lv sl aq:Nat}:rowOf (m++[.lf]) lv sl aq=rowOf m lv sl aq:=by unfold rowOf;rw[Hh]
def vw{B:Nat}{m:List (Tr E2)}:gh B m (m++[.lf]):=λ_ _ _ r _ h=>⟨r,by rw[Oj]at h;exact h,rfl⟩
def Hi{m:List (Tr E2)}{k lv sl:Nat}{e:E2}(h:jZ (m.take k) lv sl=some e):lv<k/\jZ m lv sl=some e:=by grind[jZ]
def nN{m:List (Tr bu)}{k lv sl:Nat}(h:lv<k):aG (m.take k) lv sl=aG m lv sl:=by grind[aG]
def mM{B k:Nat}{m:List (Tr E2)}:gh B m (m.take k):=λ_ _ _ r _ h=>⟨r,iz.2 (Hi (cY h)).2,rfl⟩
def MR.take{B k:Nat}{m2:List (Tr E2)}{m:List (Tr bu)}(h:MR ρ B m2 m):MR ρ B (m2.take k) (m.take k):=by refine⟨by simp[h.len],λlv sl e2 he=>?_⟩;obtain⟨h1,h2⟩:=Hi he;obtain⟨e,h3,h4⟩:=h.fI lv sl e2 h2;exact⟨e,by rw[nN h1];exact h3,RE.mono (bc _) (λ_ _=>rfl) (λ_ _=>RC.move mM (bc _) λ_ _=>rfl) h4⟩
def MR.snoc{B:Nat}{m2:List (Tr E2)}{m:List (Tr bu)}(h:MR ρ B m2 m):MR ρ B (m2++[.lf]) (m++[.lf]):=by refine⟨by simp[h.len],λlv sl e2 he=>?_⟩;rw[Hh]at he;obtain⟨e,h3,h4⟩:=h.fI lv sl e2 he;exact⟨e,by rw[Lm];exact h3,RE.mono (bc _) (λ_ _=>rfl) (λ_ _=>RC.move vw (bc _) λ_ _=>rfl) h4⟩
def MR.ren{ρ':bH}{B:Nat}{m2:List (Tr E2)}{m:List (Tr bu)}(h:MR ρ B m2 m)(hρ:∀v,v<B->ρ' v=ρ v):MR ρ' B m2 m:=by refine⟨h.len,λlv sl e2 he=>?_⟩;obtain⟨e,h3,h4⟩:=h.fI lv sl e2 he;exact⟨e,h3,RE.mono (bc _) hρ (λ_ _=>RC.move (gh.refl _ _) (bc _) hρ) h4⟩
def DL{B:Nat}{m:List (Tr E2)}:∀{vs:List V2}{aL:List AV},vs.all V2.adB=true->aD (RV ρ B m) vs aL->aL.all fY=true
 |[],[],_,_=>rfl|v::vs,a::aL,h,ha=>by rw[dC,al]at h;rw[dC,DL h.2 ha.2,la];cases v with|c x=>exact(RC.cell ha.1).2.2|agg cs=>obtain⟨as',e,_⟩:=ha.1;rw[e];rfl|fK f cs=>obtain⟨as',e,_⟩:=ha.1;rw[e];rfl|fu vs=>cases h.1
 |[],_::_,_,h=>h.elim|_::_,[],_,h=>h.elim
def jo{ρ':bH}{B B':Nat}{m m':List (Tr E2)}(hs:gh B m m')(hB:B<=B')(hρ:∀v,v<B->ρ' v=ρ v){ts:List (Tr V2)}(h:aD (wJ ρ B m) ts os):aD (wJ ρ' B' m') ts os:=h.mono λ_ _=>wJ.move hs hB hρ
section
variable{B:Nat}{m2:List (Tr E2)}{m:List (Tr bu)}(hm:MR ρ B m2 m)
def eD(ρ:bH)(B top:Nat)(m2:List (Tr E2))(lv sl aq p:Nat)(us:List SL)(Q:bH->Nat->List (Tr E2)->Prop):Prop:=∀ρ' B' m',lX ρ' B' m' lv sl aq p us->(∀v,v<B->ρ' v=ρ v)->B<=B'->gh B (m2.take top) m'->Q ρ' B' m'
theorem lX.left{ρ:bH}{B:Nat}{m:List (Tr E2)}{lv sl aq p:Nat}{us vs:List SL}(h:lX ρ B m lv sl aq p (us++vs)):lX ρ B m lv sl aq p us:=⟨h.1,h.2.1,λu hu=>h.2.2 u (dp _ hu)⟩
theorem lX.right{ρ:bH}{B:Nat}{m:List (Tr E2)}{lv sl aq p:Nat}{us vs:List SL}(h:lX ρ B m lv sl aq p (us++vs)):lX ρ B m lv sl aq p vs:=⟨h.1,h.2.1,λu hu=>h.2.2 u (du _ hu)⟩
theorem Bh{top k lv sl aq:Nat}(hn:k≠row%65536){els:List (List D)}{o:Own}(ho:o≠.bD):∃a',bG m top row k lv sl aq (.own els o)=some (a',[])/\(oE top row=true->a'=.own els o)/\(a'=.own els o\/a'=.d (.sl els)):=by have h0:Nat.beq k (row%65536)=false:=beq_false.2 hn;cases o with|bD=>grind|full=>grind[oE,bG]|cU=>simp[bG]<;>grind
theorem abt{top k lv sl aq:Nat}{x y:Cell}{a:AV}(hr:row≠0)(hn:k≠row%65536)(h:afy m2 top x=some y)(hh:adz top x=false)(hx:RC ρ B m2 x a):∃a',bG m top row k lv sl aq a=some (a',[])/\RC ρ B (m2.take top) y a':=by
 have keep:∀{els:List (List D)}{o:Own}{z:Cell},o≠.bD->RC ρ B (m2.take top) z (.own els o)->Nat.beq top 0=false->∃a',bG m top row k lv sl aq (.own els o)=some (a',[])/\RC ρ B (m2.take top) z a':=by intro els o z ho hz ht;obtain⟨a',h1,h2,_⟩:=Bh (m:=m) (top:=top) (lv:=lv) (sl:=sl) (aq:=aq) hn (els:=els) ho;rw[h2 (by simp only[oE,beq_false.2 hr,ht];rfl)]at h1;exact⟨_,h1,hz⟩
 have lose:∀{els:List (List D)}{o:Own}{z:Cell},o≠.bD->(RC ρ B (m2.take top) z (.d (.sl els))/\RC ρ B (m2.take top) z (.own els o))->Nat.beq top 0=true->∃a',bG m top row k lv sl aq (.own els o)=some (a',[])/\RC ρ B (m2.take top) z a':=by
  intro els o z ho hz ht;obtain⟨a',h1,_,h2⟩:=Bh (m:=m) (top:=top) (lv:=lv) (sl:=sl) (aq:=aq) hn (els:=els) ho;refine⟨a',h1,?_⟩;rcases h2 with rfl|rfl;.exact hz.2
  .exact hz.1
 unfold afy at h;split at h
 .rename_i b;have hx':=(iM (m:=m) hx).2;split at h
  .rename_i ht;cases h;rcases hx' with rfl|⟨o,ho,rfl⟩;.exact⟨_,rfl,.inl rfl⟩
   .exact lose ho ⟨.inl rfl,.inr ⟨_,ho,rfl⟩⟩ ht
  .rename_i ht;cases h;rcases hx' with rfl|⟨o,ho,rfl⟩;.refine⟨_,rfl,?_⟩;cases b with|false=>exact .inl rfl|true=>cases hx
   .refine keep ho ?_ ht;cases b with|false=>exact .inr ⟨o,ho,rfl⟩|true=>exact hx
 .split at h
  .rename_i ht;cases h;obtain⟨h1,⟨h2,rfl⟩|⟨u,h2,rfl⟩⟩:=hx;.exact lose (λe=>by cases e) ⟨.inl rfl,.inr ⟨_,(λe=>by cases e),rfl⟩⟩ ht
   .exact lose (λe=>by cases e) ⟨.inl rfl,.inr ⟨_,(λe=>by cases e),rfl⟩⟩ ht
  .rename_i ht;cases h;obtain⟨h1,⟨h2,rfl⟩|⟨u,h2,rfl⟩⟩:=hx;.exact keep (λe=>by cases e) ⟨h1,.inl ⟨h2,rfl⟩⟩ ht
   .exact keep (λe=>by cases e) ⟨h1,.inr ⟨u,h2,rfl⟩⟩ ht
 .subst hx;split at h;.rename_i ht;cases h;exact lose (λe=>by cases e) ⟨.inl rfl,.inr ⟨_,(λe=>by cases e),rfl⟩⟩ ht
  .rename_i ht;cases h;exact keep (λe=>by cases e) rfl ht
 .rename_i hn1 hn2 hn3;unfold UL at h;split at h;.cases h;cases hx;exact⟨_,rfl,rfl⟩
  .cases h;cases hx;exact⟨_,rfl,rfl⟩
  .cases h;cases hx;exact⟨_,rfl,rfl⟩
  .cases h;cases hx;exact⟨_,rfl,rfl⟩
  .exact absurd rfl (hn1 _)
  .cases h
  .rename_i t l o hne;cases h;have ho:o=.d:=by cases o with|d=>rfl|bD=>exact absurd rfl hne|full=>exact absurd rfl (hn3 _ _)|app v=>exact absurd rfl (hn2 _ _ _)
   subst ho;rcases hx with rfl|⟨o,ho,rfl⟩;.exact⟨_,rfl,.inl rfl⟩
   .cases ht:Nat.beq top 0with|true=>exact lose ho ⟨.inl rfl,.inr ⟨_,ho,rfl⟩⟩ ht|false=>exact keep ho (.inr ⟨o,ho,rfl⟩) ht
  .rename_i cC cW gD t;have hb:Nat.ble top cC=false:=hh;rw[hb]at h;cases h;obtain⟨hv,u,n,hu,rfl,hn⟩:=hx;refine⟨_,by simp only[bG,hb],hv,u,n,hu,rfl,λr hr=>hn r ?_⟩;have h1:=cY hr;refine iz.2 ?_;unfold jZ at h1⊢;rw[fx]at h1;split at h1;.exact h1
   .cases h1
  .rename_i cC cW gD t off len;have hb:Nat.ble top cC=false:=hh;rw[hb]at h;cases h;obtain⟨hv,u,hu,rfl,hn⟩:=hx;refine⟨_,by simp only[bG,hb],hv,u,hu,rfl,λr hr=>hn r ?_⟩;have h1:=cY hr;refine iz.2 ?_;unfold jZ at h1⊢;rw[fx]at h1;split at h1;.exact h1
   .cases h1
  .split at h;.rename_i hb;cases h;obtain⟨hv,u,hu,rfl⟩:=hx;exact⟨_,by simp only[bG,hb],hv,u,hu,rfl⟩
   .cases h
  .cases h
include hm
theorem Ln{top rk k lv sl aq p:Nat}{e:Option Ty}{x y:Cell}{us:List SL}{a:AV}(hr:row≠0)(B2:row%65536=rk)(h2:row/65536≠0)(h:UM m2 top rk lv sl aq e k x=some (y,us))(hx:RC ρ B m2 x a)(hu:∀u∈us,row/65536=u.t.size):∃a',bG m top row k lv sl p a=some (a',us.map λu=>bF u.t u.l)/\eD ρ B top m2 lv sl aq p us λρ' B' m'=>RC ρ' B' m' y a':=by
 have hrow:Nat.beq row 0=false:=beq_false.2 hr;unfold UM at h;split at h
 .rename_i hk;have hk:=beq_true.1 hk;subst hk;have hkk:Nat.beq k (row%65536)=true:=beq_true.2 B2.symm;have at_:∀{cC cW gD r u},rowOf m2 cC cW gD=some r->ρ gD=some u->bL.rowAt m cC cW u=some (bF r.t r.l):=by intro cC cW gD r u hr hu;obtain⟨e,g1,g2⟩:=hm.fI _ _ _ (cY hr);obtain⟨_,u',g3,rfl⟩:=g2;unfold bL.rowAt<;>simp_all
  split at h;.cases e with|none=>cases h|some t=>
    cases h;subst hx;have hs:(!Nat.beq (row/65536) 0)=true:=by rw[beq_false.2 h2];rfl
    have hu:=hu _ (ca.2 rfl);refine⟨.ref lv sl p 0 0 (row/65536),by simp only[bG,hs,hkk,la];rfl,λρ' B' m' hf _ _ _=>⟨hf.1,p,0,hf.2.1,by rw[hu],λr hr=>?_⟩⟩;have:=hf.2.2 _ (ca.2 rfl) r hr<;>grind
  .rename_i cC cW gD t;split at h
   .rename_i r hb hr;split at h
    .rename_i hsz;have hsz:=beq_true.1 hsz;cases h;have he:=nA hm hx hr;obtain⟨hv,u,n,mA,rfl,hn⟩:=hx;refine⟨.ref lv sl p 0 n t.size,?_,λρ' B' m' hf _ _ _=>⟨hf.1,p,n,hf.2.1,by rw[hsz],λr' hr'=>?_⟩⟩;.simp only[bG,hb,he,hrow,hkk,at_ hr mA]<;>grind
     .rw[hf.2.2 _ (ca.2 rfl) r' hr']<;>grind
    grind
   grind
  .rename_i cC cW gD t off len;split at h
   .rename_i r hb hr;split at h
    .rename_i hsz;have hsz:=beq_true.1 hsz;cases h;have hle:=hx.2.choose_spec.2.2 r hr;have he:=kD hm hx hr hle;obtain⟨hv,u,mA,rfl,hn⟩:=hx;refine⟨.ref lv sl p 0 len t.size,?_,λρ' B' m' hf _ _ _=>⟨hf.1,p,len,hf.2.1,by rw[hsz],λr' hr'=>?_⟩⟩;.simp only[bG,hb,he,hrow,hkk,at_ hr mA]<;>grind
     .rw[hf.2.2 _ (ca.2 rfl) r' hr',i7,oi]<;>omega
    grind
   grind
  grind
 .rename_i hk;have hk:=beq_false.1 hk;split at h;.cases h
  .rename_i hh;obtain⟨y',h1,h⟩:=fg.1 h;cases h;obtain⟨a',g1,g2⟩:=abt (m:=m) (k:=k) (lv:=lv) (sl:=sl) (aq:=p) hr (by rw[B2];exact hk) h1 hh hx;exact⟨a',g1,λρ' B' m' _ hρ hB hs=>g2.move hs hB hρ⟩
theorem Lo{top rk lv sl aq p:Nat}{e:Option Ty}(hr:row≠0)(B2:row%65536=rk)(h2:row/65536≠0):∀{k:Nat}{xs ys:List Cell}{us:List SL}{aL:List AV},GP m2 top rk lv sl aq e k xs=some (ys,us)->aD (RC ρ B m2) xs aL->(∀u∈us,row/65536=u.t.size)->∃as',dN m top row lv sl p k aL=some (as',us.map λu=>bF u.t u.l)/\eD ρ B top m2 lv sl aq p us λρ' B' m'=>aD (RC ρ' B' m') ys as'
 |k,[],ys,us,aL,h,ha,_=>by cases h;match aL,ha with|[],_=>exact⟨[],rfl,λ_ _ _ _ _ _ _=>trivial⟩
 |k,x::xs,ys,us,aL,h,ha,hu=>by
  simp[GP]at h;split at h;.rename_i y u ys' us' h1 h3;cases h;match aL,ha with|a::aL,ha=>obtain⟨a',g1,g2⟩:=Ln hm (p:=p) hr B2 h2 h1 ha.1 λv hv=>hu v (dp _ hv);obtain⟨as',g3,g4⟩:=Lo (p:=p) hr B2 h2 h3 ha.2 λv hv=>hu v (du _ hv);refine⟨a'::as',by simp only[dN,g1,g3,gc],λρ' B' m' hf h4 h5 h6=>⟨g2 ρ' B' m' hf.left h4 h5 h6,g4 ρ' B' m' hf.right h4 h5 h6⟩⟩
  grind
theorem Hj{top rk k lv sl aq p:Nat}{e:Option Ty}(hr:row≠0)(B2:row%65536=rk)(h2:row/65536≠0){b:Bool}{xs ys:List Cell}{us:List SL}{a:AV}(h:GP m2 top rk lv sl aq e k xs=some (ys,us))(ha:R1 ρ B m2 (b,xs) a)(hu:∀u∈us,row/65536=u.t.size):∃a',lH m top row lv sl p k a=some (a',us.map λu=>bF u.t u.l)/\eD ρ B top m2 lv sl aq p us λρ' B' m'=>R1 ρ' B' m' (b,ys) a':=by cases b with|true=>obtain⟨aL,rfl,ha⟩:=ha;obtain⟨as',g1,g2⟩:=Lo hm (p:=p) hr B2 h2 h ha hu;exact⟨.agg as',by simp only[lH,g1,cf],λρ' B' m' hf h4 h5 h6=>⟨as',rfl,g2 ρ' B' m' hf h4 h5 h6⟩⟩|false=>
 obtain⟨c,rfl,ha⟩:=ha;simp[GP]at h;split at h;.rename_i y u ys' us' h1 h3;cases h3;simp at h;obtain⟨rfl,rfl⟩:=h;obtain⟨a',g1,g2⟩:=Ln hm (p:=p) hr B2 h2 h1 ha hu;refine⟨a',?_,λρ' B' m' hf h4 h5 h6=>⟨y,rfl,g2 ρ' B' m' hf h4 h5 h6⟩⟩;have hc:=RC.cell ha;cases a<;>first|exact g1|cases hc.2.1
 grind
theorem Lp{top rk lv sl aq p:Nat}{e:Option Ty}(hr:row≠0)(B2:row%65536=rk)(h2:row/65536≠0):∀{k:Nat}{vs ws:List (Bool×List Cell)}{us:List SL}{aL:List AV},Du m2 top rk lv sl aq e k vs=some (ws,us)->aD (R1 ρ B m2) vs aL->(∀u∈us,row/65536=u.t.size)->∃as',fX m top row lv sl p k aL=some (as',us.map λu=>bF u.t u.l)/\ws.length=vs.length/\eD ρ B top m2 lv sl aq p us λρ' B' m'=>aD (R1 ρ' B' m') ws as'
 |k,[],ws,us,aL,h,ha,_=>by cases h;match aL,ha with|[],_=>exact⟨[],rfl,rfl,λ_ _ _ _ _ _ _=>trivial⟩
 |k,(b,x)::xs,ws,us,aL,h,ha,hu=>by
  simp[Du]at h;split at h;.rename_i y u ys' us' h1 h3;cases h;match aL,ha with|a::aL,ha=>obtain⟨a',g1,g2⟩:=Hj hm (p:=p) hr B2 h2 h1 ha.1 λv hv=>hu v (dp _ hv);obtain⟨as',g3,gl,g4⟩:=Lp (p:=p) hr B2 h2 h3 ha.2 λv hv=>hu v (du _ hv);refine⟨a'::as',by simp only[fX,g1,g3,gc],by rw[fa,fa,gl],λρ' B' m' hf h4 h5 h6=>⟨g2 ρ' B' m' hf.left h4 h5 h6,g4 ρ' B' m' hf.right h4 h5 h6⟩⟩
  grind
theorem Lq{top rk lv sl aq p:Nat}{e:Option Ty}(hr:row≠0)(B2:row%65536=rk)(h2:row/65536≠0){vs ws:List (Bool×List Cell)}{us:List SL}{w:V2}{aL:List AV}(h:Du m2 top rk lv sl aq e 1 vs=some (ws,us))(ht:qI ws=some w)(ha:aD (R1 ρ B m2) vs aL)(hu:∀u∈us,row/65536=u.t.size):∃a',gY m top row lv sl p (jv aL)=some (a',us.map λu=>bF u.t u.l)/\eD ρ B top m2 lv sl aq p us λρ' B' m'=>RV ρ' B' m' w a':=by match vs,aL,ha with
 |[],[],ha=>cases h;cases ht;exact⟨.fu [],rfl,λ_ _ _ _ _ _ _=>⟨[],rfl,trivial⟩⟩|[(b,x)],[a],ha=>
  simp[Du]at h;split at h
  .rename_i y u ys' us' h1 h3;cases h3;simp at h;obtain⟨rfl,rfl⟩:=h;obtain⟨a',g1,g2⟩:=Hj hm (p:=p) hr B2 h2 h1 ha.1 hu;refine⟨a',?_,λρ' B' m' hf h4 h5 h6=>?_⟩;.have hn:=R1.fY ha.1;cases a<;>first|exact g1|cases hn
   .have g2:=g2 ρ' B' m' hf h4 h5 h6;cases b with|true=>obtain⟨as',rfl,g3⟩:=g2;cases ht;exact⟨as',rfl,g3⟩|false=>obtain⟨c,rfl,g3⟩:=g2;cases ht;exact g3
  grind|v::v'::vs,a::a'::aL,ha=>obtain⟨as',g1,gl,g2⟩:=Lp hm (p:=p) hr B2 h2 h ha hu;refine⟨.fu as',by simp only[jv,gY,g1,cf],λρ' B' m' hf h4 h5 h6=>?_⟩;match ws,gl,ht with|x::y::zs,_,ht=>cases ht;exact⟨as',rfl,g2 ρ' B' m' hf h4 h5 h6⟩
end
def rE{B:Nat}{m:List (Tr E2)}:∀{vs:List V2}{aL:List AV},aD (RV ρ B m) vs aL->aY ρ (vs.flatMap IK) (aL.flatMap fL)|[],[],_=>aY.nil|_::_,_::_,h=>by exact(Qh h.1).append (rE h.2)|[],_::_,h=>h.elim|_::_,[],h=>h.elim
def Lr(hE:az Fs E)(hi:RI ρ nx rem os s2 s p)(Ol:0<rem){f:Nat}{vs:List V2}{aL:List AV}(hsh:Ci Fs f=false)(h:UN E s2 row d nx f vs K=some r)(has:aD (RV ρ nx s2.mem) vs aL):∃r2 e,(∃n0,∀n,n0<=n->gZ (ga Fs n) (Ci Fs f) row s (ij s.mem.length d) d p f aL=some e)/\pI ρ nx os s2 s r2 e/\K r2=some r:=by
 obtain⟨c,hc,h⟩:=aF h;obtain⟨⟨ds,ks,bs⟩,ha,h⟩:=aF h;obtain⟨x,hx,h⟩:=aF h;obtain⟨hb,h⟩:=qk h;obtain⟨y,hy,h⟩:=bind_some h;split at h
 .rename_i ws yo;obtain⟨as',vs',g1,g2,g3⟩:=Lj hi.mem ha has hb;obtain⟨vs1,g4,g5⟩:=hE.ym f c hc x y hy;rw[dP hx]at g4;have FG:=g2 [];rw[dt,g4]at FG;injection FG with FG;injection FG with FG _;subst FG;obtain⟨n0,rv,cm,ts,nv,g6,g7⟩:=g5 as' g3;obtain⟨g7,g7'⟩:=g7 ws yo;split at h
  .rename_i hrow;have hrow:=am hrow;split at h;.cases h
   rename_i Bi;obtain⟨w,hw,h⟩:=aF h;obtain⟨a',g8,g9⟩:=g7 (beq_false.1 Bi) w hw (ij s.mem.length d) d p;refine⟨_,.bZ {val:=a',dx:=eY s.mem ks++[],cU:=[],rd:=aL.flatMap fL},⟨n0,λn hn=>?_⟩,?_,h⟩;.rw[hsh,hrow];simp only[gZ,g1,g6 n hn,g8,kQ]
   .rw[dt];exact .hU hi.mem hi.aI (by omega) (su (ks:=ks)) jJ (g9 _ _ _) (rE has)
  .split at h
   .rename_i Fq hq hp;rw[al,al]at hq;obtain⟨⟨hq1,zg⟩,TG⟩:=hq;have hq1:=am hq1;have zg:c.rk≠0:=by intro e;rw[e]at zg;cases zg
    have TG:row/65536≠0:=by intro e;rw[e]at TG;cases TG
    obtain⟨w,hw,h⟩:=aF h;obtain⟨a',g8,g9⟩:=g7' row (ij s2.mem.length d) d nx p Fq [] w zg hq1 TG hp (λv hv=>by cases hv) hw;rw[hi.mem.len]at g8;refine⟨_,.bZ {val:=a',dx:=eY s.mem ks++[],cU:=[],rd:=aL.flatMap fL},⟨n0,λn hn=>?_⟩,?_,h⟩;.rw[hsh];simp only[gZ,g1,g6 n hn,g8,kQ,lx]
    .have gC:ρ nx=some p:=hi.B1 0 Ol;rw[dt];exact .hU hi.mem hi.aI (B':=nx+1) (by omega) (su (ks:=ks)) jJ (g9 _ _ _ ⟨by omega,gC,λv hv=>by cases hv⟩) (rE has)
   .rename_i Fq u hq hp;rw[al,al]at hq;obtain⟨⟨hq1,zg⟩,TG⟩:=hq;have hq1:=am hq1;have zg:c.rk≠0:=by intro e;rw[e]at zg;cases zg
    have TG:row/65536≠0:=by intro e;rw[e]at TG;cases TG
    split at h
    .rename_i hsz;have hsz:=am hsz;obtain⟨w,hw,h⟩:=aF h;obtain⟨a',g8,g9⟩:=g7' row (ij s2.mem.length d) d nx p Fq [u] w zg hq1 TG hp (λv hv=>by rw[ca.1 hv];exact hsz) hw;rw[hi.mem.len]at g8;refine⟨_,.bZ {val:=a',dx:=eY s.mem ks++[(ij s.mem.length d,d,some (.row p (bF u.t u.l)))],cU:=[],rd:=aL.flatMap fL},⟨n0,λn hn=>?_⟩,?_,h⟩;.rw[hsh];simp only[gZ,g1,g6 n hn,g8,kQ,f2,lx]
     .have gC:ρ nx=some p:=hi.B1 0 Ol;rw[<-hi.mem.len];refine .hU hi.mem hi.aI (B':=nx+1) (by omega) (fQ (.inl (bc _))) (jJ.append (fR ⟨by omega,p,gC,rfl⟩)) (g9 _ _ _ ⟨by omega,gC,λv hv r' hr'=>?_⟩) (rE has);rw[ca.1 hv];rw[qi]at hr';simp only[gN]at hr';have:=cY hr';rw[lC]at this;split at this;.injection this with this;injection this with _ h1 h2;obtain⟨t',l'⟩:=r';simp only at h1 h2;subst h1;cases h2;rfl
      .have h1:=nU (iz.2 this);obtain⟨e,_,hlt,_⟩:=hi.mem.fI _ _ _ (cY h1);omega
    .cases h
   .cases h
 .cases h
def U7(hE:az Fs E)(hi:RI ρ nx rem os s2 s p){f:Nat}{vs:List V2}{aL:List AV}(h:adC E s2 f vs K=some r)(has:aD (RV ρ nx s2.mem) vs aL):∃r2 e,(∃n0,∀n,n0<=n->oW (ga Fs n) s p f aL=some e)/\pI ρ nx os s2 s r2 e/\K r2=some r:=by
 obtain⟨c,hc,h⟩:=aF h;split at h
 .rename_i Bi;simp at Bi;obtain⟨⟨ds,ks,bs⟩,ha,h⟩:=aF h;obtain⟨x,hx,h⟩:=aF h;obtain⟨hb,h⟩:=qk h;obtain⟨y,hy,h⟩:=bind_some h;split at h
  .rename_i ws yo;obtain⟨as',vs',g1,g2,g3⟩:=Lg hi.mem ha has hb;obtain⟨vs1,g4,g5⟩:=hE.ym f c hc x y hy;rw[dP hx]at g4;have FG:=g2 [];rw[dt,g4]at FG;cases FG;obtain⟨n0,rv,cm,ts,nv,g6,g7⟩:=g5 as' g3;obtain⟨w,hw,h⟩:=aF h;obtain⟨a',g8,g9⟩:=(g7 ws yo).1 (λe=>by rw[e]at Bi;cases Bi) w hw 0 0 p;refine⟨_,.bZ {val:=a',dx:=eY s.mem ks,cU:=[],rd:=aL.flatMap fL},⟨n0,λn hn=>?_⟩,?_,h⟩;.simp[oW,g1,g6 n hn,g8]
   .exact .hU hi.mem hi.aI (by omega) (su (ks:=ks)) jJ (g9 _ _ _) (rE has)
  grind
 grind
def U8(hE:az Fs E)(hi:RI ρ nx rem os s2 s p){f:Nat}{vs:List V2}{aL:List AV}(h:adD E s2 f vs K=some r)(has:aD (RV ρ nx s2.mem) vs aL):∃r2 e,(∃n0,∀n,n0<=n->oX (ga Fs n) s p f aL=some e)/\pI ρ nx os s2 s r2 e/\K r2=some r:=by
 obtain⟨c,hc,h⟩:=aF h;split at h
 .rename_i Bi;simp at Bi;obtain⟨⟨ds,bs⟩,ha,h⟩:=aF h;obtain⟨x,hx,h⟩:=aF h;obtain⟨hb,h⟩:=qk h;obtain⟨y,hy,h⟩:=bind_some h;split at h
  .rename_i ws yo;obtain⟨as',vs',g1,g2,g3⟩:=Li hi.mem ha has hb;obtain⟨vs1,g4,g5⟩:=hE.ym f c hc x y hy;rw[dP hx]at g4;have FG:=g2 [];rw[dt,g4]at FG;cases FG;obtain⟨n0,rv,cm,ts,nv,g6,g7⟩:=g5 as' g3;obtain⟨w,hw,h⟩:=aF h;obtain⟨a',g8,g9⟩:=(g7 ws yo).1 (λe=>by rw[e]at Bi;cases Bi) w hw 0 0 p;refine⟨_,.bZ {val:=a',dx:=[],cU:=[],rd:=aL.flatMap fL},⟨n0,λn hn=>?_⟩,?_,h⟩;.simp[oX,g1,g6 n hn,g8]
   .exact .hU (IU:=[]) (us:=[]) hi.mem hi.aI (by omega) (gh.refl _ _) trivial (g9 _ _ _) (rE has)
  grind
 grind
def DM(hwk:Oh Fs wk)(hE:az Fs E)(hi:RI ρ nx rem os s2 s p)(Ol:0<rem){f:Nat}{vs:List V2}{aL:List AV}(h:KQ E wk ctx s2 row d nx f vs K=some r)(has:aD (RV ρ nx s2.mem) vs aL):∃r2 e,(∃n0,∀n,n0<=n->gZ (ga Fs n) (Ci Fs f) row s (ij s.mem.length d) d p f aL=some e)/\pI ρ nx os s2 s r2 e/\K r2=some r:=by
 unfold KQ at h;split at h
 .rename_i fn hf;rw[hE.fns]at hf;have hsh:Ci Fs f=fn.sh:=by simp[Ci,hf]
  split at h;.rename_i hfs;rw[hfs]at hsh;exact Lr hE hi Ol hsh h has
  .rename_i hfs;rw[hfs]at hsh;split at h;.cases h
   .rename_i hnp;rw[al]at hnp;obtain⟨hnp,hnt⟩:=hnp;have hnt:=DL hnt has;let ρc:bH:=λv=>if v<nx then ρ v else some (s.nv+(v-nx));have U9:∀v,v<nx->ρc v=ρ v:=λv hv=>ba hv;have hle:nx<=s2.nv:=by have:=hi.nv;omega
    have start:Cf ρc (s.slots::os) {slots:=lB 0 vs .lf,outer:=loose s2.slots::s2.outer,mem:=s2.mem++[.lf],aI:=s2.aI,nv:=nx} {slots:=eA 0 aL .lf,mem:=s.mem++[.lf],aI:=s.aI,nv:=s.nv}:=by
     refine⟨?_,⟨?_,?_⟩,?_,?_,?_,bc _⟩;.exact yD (has.mono λ_ _=>RV.move vw (bc _) U9)
     .exactλk v hk=>(hi.slots k v (zI _ _ _ hk)).move vw (bc _) U9
     .exact jo vw (bc _) U9 hi.outer
     .exact(hi.mem.ren U9).snoc
     .intro v hv;obtain⟨h1,h2⟩:=hi.aI v hv;exact⟨h1,λu hu=>h2 u (by rw[<-U9 v h1];exact hu)⟩
     .refine⟨λv u hv hu=>?_,λv hv=>?_,λv v' u hu mA=>?_⟩;.have hv:v<nx:=hv;rw[U9 v hv]at hu;exact hi.aq.low v u (by omega) hu
      .have hv:nx<=v:=hv;simp only[ρc];rw[bi (by omega)]
      .simp[ρc]at hu mA;split at hu
       .split at mA;.exact hi.aq.inj v v' u hu mA
        .simp_all;have:=hi.aq.low v u (by omega) hu;omega
       .simp_all;split at mA;.have:=hi.aq.low v' u (by omega) mA;omega
        .simp_all;omega
    have fin:∀(ax:AX)(t2:S2)(ρ':bH)(t:St),(∀id,ax≠.exit id)->Ev Fs fn.body {slots:=eA 0 aL .lf,mem:=s.mem++[.lf],aI:=s.aI,nv:=s.nv} (ax,t)->Cf ρ' (s.slots::os) t2 t->Fr ρc nx s.nv ρ' t2.nv->s.nv<=t.nv->(match t2.outer with
      |o::os'=>GO t2 fn.res λvs=>match Nat.beq row 0with|true=>cI (Bb t2.mem s2.mem.length vs) λvs=>cI (qI vs) λv=>K (.all v {slots:=merge s2.slots o,outer:=os',mem:=t2.mem.take s2.mem.length,aI:=t2.aI,nv:=t2.nv})|false=>match !Nat.beq (row%65536) 0&&!Nat.beq (row/65536) 0,Du t2.mem s2.mem.length (row%65536) (ij s2.mem.length d) d t2.nv (E.P9 ctx d) 1 vs with
        |true,some (vs,[u])=>match Nat.beq (row/65536) u.t.size with|true=>cI (qI vs) λv=>K (.all v {slots:=merge s2.slots o,outer:=os',mem:=gN (t2.mem.take s2.mem.length) [(ij s2.mem.length d,d,some (.row t2.nv u.t u.l))],aI:=t2.aI,nv:=t2.nv+1})|false=>none
        |true,some (vs,[])=>cI (qI vs) λv=>K (.all v {slots:=merge s2.slots o,outer:=os',mem:=t2.mem.take s2.mem.length,aI:=t2.aI,nv:=t2.nv+1})|_,_=>none
      |[]=>none)=some r->∃r2 e,(∃n0,∀n,n0<=n->gZ (ga Fs n) (Ci Fs f) row s (ij s.mem.length d) d p f aL=some e)/\pI ρ nx os s2 s r2 e/\K r2=some r:=by
     intro ax t2 ρ' t UF qP zK hfr xR hk;have hout:=zK.outer;split at hk
     .rename_i o os' ho;rw[ho]at hout;obtain⟨vs1,Nk,q1,q2,hk'⟩:=DK zK.mem zK.slots hk;clear hk;have hk:=hk';obtain⟨n0,qP⟩:=qP;have hrun:∀n,n0+1<=n->ga Fs n f aL (s.mem++[.lf]) s.aI s.nv=some (jv Nk,t.mem,t.aI,t.nv):=by intro n hn;obtain⟨n,rfl⟩:∃k,n=k+1:=⟨n-1,by omega⟩;simp[ga,hf];rw[<-has.length];simp[hnp];have:=qP n n (by omega) (by omega);unfold Ci at this;rw[this];cases ax with|normal=>simp[q1,cf]|ret=>simp[q1,cf]|exit id=>exact absurd rfl (UF id)
      split at hk
      .rename_i hrow;have hrow:=am hrow;subst hrow;obtain⟨vs2,q3,hk⟩:=aF hk;obtain⟨v,q4,hk⟩:=aF hk;obtain⟨a',q5,q6⟩:=abr zK.mem (lv:=ij s.mem.length d) (sl:=d) (aq:=p) q3 q4 q2;refine⟨_,.all a' (aU (t.mem.take s.mem.length) []) t.aI t.nv [] [],⟨n0+1,λn hn=>?_⟩,?_,hk⟩;.rw[hsh];simp[gZ,hnt,hrun n hn];rw[hi.mem.len]at q5;rw[q5];simp[kQ]
       .refine⟨ρ',⟨?_,?_,?_,?_,zK.aq,bc _⟩,?_,?_,xR⟩
        .intro k v hk;rcases rC _ _ _ _ hk with⟨h1,h2⟩|h1;.exact(hi.slots k v h1).still h2
         .exact(hout.1 k v h1).move mM (bc _) λ_ _=>rfl
        .exact jo mM (bc _) (λ_ _=>rfl) hout.2
        .have:=zK.mem.take (k:=s2.mem.length);rw[hi.mem.len]at this⊢;exact this
        .exact zK.aI
        .exact q6
        .intro v u hv hu;rcases hfr v u hv hu with⟨w,hw,I4⟩|h';.exact .inl ⟨w,by omega,by rw[<-U9 w hw];exact I4⟩
         .exact .inr h'
      .rename_i hrow;have hrow:row≠0:=beq_false.1 hrow;split at hk
       .rename_i vs2 u hq q3;rw[al]at hq;have zg:row/65536≠0:=by intro e;rw[e]at hq;cases hq.2
        split at hk
        .rename_i hsz;have hsz:=am hsz;obtain⟨v,q4,hk⟩:=aF hk;obtain⟨a',q5,q6⟩:=Lq zK.mem (p:=p) hrow rfl zg q3 q4 q2 (λv hv=>by rw[ca.1 hv];exact hsz);have gC:ρ nx=some p:=hi.B1 0 Ol;have hps:p<s.nv:=by have:=hi.pn;omega
         let G0:bH:=λv=>if v<t2.nv then ρ' v else if v=t2.nv then some p else some (t.nv+(v-(t2.nv+1)));have e1:∀v,v<t2.nv->G0 v=ρ' v:=λv h=>ba h;have e2:G0 t2.nv=some p:=by show(if _ then _ else _)=_;rw[bi (by omega),ba rfl]
         have e3:∀v,t2.nv+1<=v->G0 v=some (t.nv+(v-(t2.nv+1))):=λv h=>by show(if _ then _ else _)=_;rw[bi (by omega),bi (by omega)]
         have fresh:∀v,v<t2.nv->ρ' v≠some p:=by
          intro v hv hu;rcases hfr v p hv hu with⟨w,hw,I4⟩|h';.rw[U9 w hw]at I4;have:=hi.aq.inj _ _ _ I4 gC;omega
          .omega
         have hst:gh t2.nv (t2.mem.take s2.mem.length) (gN (t2.mem.take s2.mem.length) [(ij s2.mem.length d,d,some (.row t2.nv u.t u.l))]):=by have:=fQ (B:=t2.nv) (m:=t2.mem.take s2.mem.length) (ks:=[]) (lv:=ij s2.mem.length d) (sl:=d) (e:=.row t2.nv u.t u.l) (.inl (bc _));simpa[lV,lx,i6]using this
         have hmt:=(zK.mem.take (k:=s2.mem.length)).ren e1;have hmu:MR G0 (t2.nv+1) (gN (t2.mem.take s2.mem.length) [(ij s2.mem.length d,d,some (.row t2.nv u.t u.l))]) (aU (t.mem.take s2.mem.length) [(ij s2.mem.length d,d,some (.row p (bF u.t u.l)))]):=hmt.dx (pv _) hst (fR ⟨by omega,p,e2,rfl⟩);refine⟨_,.all a' (aU (t.mem.take s.mem.length) [(ij s.mem.length d,d,some (.row p (bF u.t u.l)))]) t.aI t.nv [] [],⟨n0+1,λn hn=>?_⟩,?_,hk⟩;.rw[hsh];simp[gZ,hnt,hrun n hn];rw[hi.mem.len]at q5;rw[q5];simp[f2,lx,kQ]
         .refine⟨G0,⟨?_,?_,?_,?_,⟨?_,e3,?_⟩,bc _⟩,?_,?_,xR⟩
          .intro k v hk;rcases rC _ _ _ _ hk with⟨h1,h2⟩|h1;.exact(hi.slots k v h1).still h2
           .exact(hout.1 k v h1).move (mM.trans hst) (pv _) e1
          .exact jo (mM.trans hst) (pv _) e1 hout.2
          .rw[<-hi.mem.len];exact hmu
          .intro v hv;obtain⟨h1,h2⟩:=zK.aI v hv;exact⟨Nat.lt_succ_of_lt h1,λu hu=>h2 u (by rw[<-e1 v h1];exact hu)⟩
          .intro v u' hv hu;have hv:v<t2.nv+1:=hv;show u'<t.nv;rcases ii v t2.nv with h1|h1;.rw[e1 v h1]at hu;exact zK.aq.low v u' h1 hu
           .have:v=t2.nv:=by omega
            subst this;rw[e2]at hu;cases hu;omega
          .intro v v' u' hu mA;have nI:∀v,v<t2.nv->∀u',G0 v=some u'->u'<t.nv/\u'≠p:=by intro v hv u' hu;rw[e1 v hv]at hu;exact⟨zK.aq.low v u' hv hu,λe=>fresh v hv (by rw[hu,e])⟩
           rcases mt v t2.nv with h1|h1|h1
           .obtain⟨l1,l2⟩:=nI v h1 u' hu;rcases mt v' t2.nv with h3|h3|h3;.rw[e1 v h1]at hu;rw[e1 v' h3]at mA;exact zK.aq.inj v v' u' hu mA
            .subst h3;rw[e2]at mA;simp_all
            .rw[e3 v' h3]at mA;simp_all;omega
           .subst h1;rw[e2]at hu;injection hu with hu;rcases mt v' t2.nv with h3|h3|h3;.obtain⟨l1,l2⟩:=nI v' h3 u' mA;omega
            .exact h3.symm
            .rw[e3 v' h3]at mA;simp_all;omega
           .rw[e3 v h1]at hu;injection hu with hu;rcases mt v' t2.nv with h3|h3|h3;.obtain⟨l1,l2⟩:=nI v' h3 u' mA;omega
            .subst h3;rw[e2]at mA;simp_all;omega
            .rw[e3 v' h3]at mA;simp_all;omega
          .refine q6 G0 (t2.nv+1) _ ⟨by omega,e2,λv hv r' hr'=>?_⟩ e1 (pv _) hst;rw[ca.1 hv];simp[gN]at hr';have:=cY hr';rw[lC]at this;split at this;.injection this with this;injection this with _ h1 h2;obtain⟨t',l'⟩:=r';simp only at h1 h2;subst h1;cases h2;rfl
           .obtain⟨e,_,hlt,_⟩:=hmt.fI _ _ _ this;omega
          .intro v u' hv hu;have hv:v<t2.nv+1:=hv;rcases ii v t2.nv with h1|h1
           .rw[e1 v h1]at hu;rcases hfr v u' h1 hu with⟨w,hw,I4⟩|h';.exact .inl ⟨w,by omega,by rw[<-U9 w hw];exact I4⟩
            .exact .inr h'
           .have:v=t2.nv:=by omega
            subst this;rw[e2]at hu;exact .inl ⟨nx,by omega,by rw[gC];exact hu⟩
        .cases hk
       .rename_i vs2 hq q3;simp at hq;have zg:row/65536≠0:=by intro e;rw[e]at hq;cases hq.2
        obtain⟨v,q4,hk⟩:=aF hk;obtain⟨a',q5,q6⟩:=Lq zK.mem (p:=p) hrow rfl zg q3 q4 q2 (λv hv=>(by cases hv));have gC:ρ nx=some p:=hi.B1 0 Ol;have hps:p<s.nv:=by have:=hi.pn;omega
        let G0:bH:=λv=>if v<t2.nv then ρ' v else if v=t2.nv then some p else some (t.nv+(v-(t2.nv+1)));have e1:∀v,v<t2.nv->G0 v=ρ' v:=λv h=>ba h;have e2:G0 t2.nv=some p:=by show(if _ then _ else _)=_;rw[bi (by omega),ba rfl]
        have e3:∀v,t2.nv+1<=v->G0 v=some (t.nv+(v-(t2.nv+1))):=λv h=>by show(if _ then _ else _)=_;rw[bi (by omega),bi (by omega)]
        have fresh:∀v,v<t2.nv->ρ' v≠some p:=by
         intro v hv hu;rcases hfr v p hv hu with⟨w,hw,I4⟩|h';.rw[U9 w hw]at I4;have:=hi.aq.inj _ _ _ I4 gC;omega
         .omega
        have hst:gh t2.nv (t2.mem.take s2.mem.length) (t2.mem.take s2.mem.length):=gh.refl _ _;have hmt:=(zK.mem.take (k:=s2.mem.length)).ren e1;have hmu:MR G0 (t2.nv+1) (t2.mem.take s2.mem.length) (t.mem.take s2.mem.length):=hmt.mono (pv _);refine⟨_,.all a' (aU (t.mem.take s.mem.length) []) t.aI t.nv [] [],⟨n0+1,λn hn=>?_⟩,?_,hk⟩;.rw[hsh];simp[gZ,hnt,hrun n hn];rw[hi.mem.len]at q5;rw[q5];simp[lx,kQ]
        .refine⟨G0,⟨?_,?_,?_,?_,⟨?_,e3,?_⟩,bc _⟩,?_,?_,xR⟩
         .intro k v hk;rcases rC _ _ _ _ hk with⟨h1,h2⟩|h1;.exact(hi.slots k v h1).still h2
          .exact(hout.1 k v h1).move (mM.trans hst) (pv _) e1
         .exact jo (mM.trans hst) (pv _) e1 hout.2
         .rw[<-hi.mem.len];exact hmu
         .intro v hv;obtain⟨h1,h2⟩:=zK.aI v hv;exact⟨Nat.lt_succ_of_lt h1,λu hu=>h2 u (by rw[<-e1 v h1];exact hu)⟩
         .intro v u' hv hu;have hv:v<t2.nv+1:=hv;show u'<t.nv;rcases ii v t2.nv with h1|h1;.rw[e1 v h1]at hu;exact zK.aq.low v u' h1 hu
          .have:v=t2.nv:=by omega
           subst this;rw[e2]at hu;cases hu;omega
         .intro v v' u' hu mA;have nI:∀v,v<t2.nv->∀u',G0 v=some u'->u'<t.nv/\u'≠p:=by intro v hv u' hu;rw[e1 v hv]at hu;exact⟨zK.aq.low v u' hv hu,λe=>fresh v hv (by rw[hu,e])⟩
          rcases mt v t2.nv with h1|h1|h1
          .obtain⟨l1,l2⟩:=nI v h1 u' hu;rcases mt v' t2.nv with h3|h3|h3;.rw[e1 v h1]at hu;rw[e1 v' h3]at mA;exact zK.aq.inj v v' u' hu mA
           .subst h3;rw[e2]at mA;simp_all
           .rw[e3 v' h3]at mA;simp_all;omega
          .subst h1;rw[e2]at hu;injection hu with hu;rcases mt v' t2.nv with h3|h3|h3;.obtain⟨l1,l2⟩:=nI v' h3 u' mA;omega
           .exact h3.symm
           .rw[e3 v' h3]at mA;simp_all;omega
          .rw[e3 v h1]at hu;injection hu with hu;rcases mt v' t2.nv with h3|h3|h3;.obtain⟨l1,l2⟩:=nI v' h3 u' mA;omega
           .subst h3;rw[e2]at mA;simp_all;omega
           .rw[e3 v' h3]at mA;simp_all;omega
         .exact q6 G0 (t2.nv+1) _ ⟨by omega,e2,λv hv=>(by cases hv)⟩ e1 (pv _) hst
         .intro v u' hv hu;have hv:v<t2.nv+1:=hv;rcases ii v t2.nv with h1|h1
          .rw[e1 v h1]at hu;rcases hfr v u' h1 hu with⟨w,hw,I4⟩|h';.exact .inl ⟨w,by omega,by rw[<-U9 w hw];exact I4⟩
           .exact .inr h'
          .have:v=t2.nv:=by omega
           subst this;rw[e2]at hu;exact .inl ⟨nx,by omega,by rw[gC];exact hu⟩
       .cases hk
     .cases hk
    dsimp at h;split at h;.obtain⟨ax,t2,ρ',t,g1,g2,g3,g4,g5⟩:=hwk _ _ _ _ _ _ _ h _ _ _ start;cases ax with|exit id=>cases g5|normal=>exact fin .normal t2 ρ' t (λ_ h=>by cases h) g1 g2 g3 g4 g5|ret=>exact fin .ret t2 ρ' t (λ_ h=>by cases h) g1 g2 g3 g4 g5
    .rename_i outs ho;obtain⟨y,hy,h⟩:=bind_some h;obtain⟨ax,t2,ρ',t,g1,g2,g3,g4,g5⟩:=hwk _ _ _ _ _ _ _ hy _ _ _ start;have UF:∀id,ax≠.exit id:=by intro id e;subst e;cases g5
     have g5:oA outs .ret t2=some y:=by cases ax with|exit id=>cases g5|normal=>exact g5|ret=>exact g5
     obtain⟨t3,G0,g6,g7,g8⟩:=Ch g2 g5;rw[g8]at h;exact fin ax t3 G0 t UF g1 g6 (g3.trans g7 g4) g4 h
 .rename_i hf;exact Lr hE hi Ol (by simp[Ci,<-hE.fns,hf]) h has
def wK{ρ:bH}{B:Nat}{m:List (Tr E2)}:∀{l:List ia}{d d':List fW}{cs:List Cell}{aL:List AV},l.all ia.flat=true->dF l d=some (cs,d')->aD (RC ρ B m) cs aL->aL.all CC=true
 |[],_,_,_,aL,_,h,ha=>by cases h;match aL,ha with|[],_=>rfl
 |c::l,d,d',cs,aL,hl,h,ha=>by
  rw[dC,al]at hl;simp[dF]at h;split at h
  .rename_i x r' h1;split at h;.rename_i xs r'' h2;cases h;match aL,ha with
    |a::aL,ha=>
     have hx:CC a=true:=by have hf:=hl.1;unfold ia.fill at h1;split at h1<;>first|(simp only[fw,eK]at h1;obtain⟨rfl,rfl⟩:=h1;first|(cases ha.1;rfl)|cases hf)|cases h1
     rw[dC,hx,wK hl.2 h2 ha.2]<;>grind
   grind
  grind
def abu{ρ:bH}{B:Nat}{m:List (Tr E2)}{b:Bool}{l:List ia}{d d':List fW}{cs:List Cell}{a:AV}(hl:l.all ia.flat=true)(h:dF l d=some (cs,d'))(ha:R1 ρ B m (b,cs) a):FT a=true:=by cases b with|true=>obtain⟨aL,rfl,ha⟩:=ha;exact wK hl h ha|false=>obtain⟨c,rfl,ha⟩:=ha;have:=wK (aL:=[a]) hl h ⟨ha,trivial⟩;simp at this;cases a<;>first|exact this|cases this
def zL{ρ:bH}{B:Nat}{m:List (Tr E2)}:∀{res:List (Bool×List ia)}{d d':List fW}{ws:List (Bool×List Cell)}{aL:List AV},Cc res=true->nS res d=some (ws,d')->aD (R1 ρ B m) ws aL->aL.all FT=true
 |[],_,_,_,aL,_,h,ha=>by cases h;match aL,ha with|[],_=>rfl
 |(b,l)::res,d,d',ws,aL,hl,h,ha=>by
  unfold Cc at hl;rw[dC,al]at hl;simp[nS]at h;split at h
  .rename_i x r' h1;split at h;.rename_i xs r'' h2;cases h;match aL,ha with|a::aL,ha=>rw[dC,abu hl.1 h1 ha.1,zL (res:=res) hl.2 h2 ha.2]<;>grind
   grind
  grind
def Va{ρ:bH}{B:Nat}{m:List (Tr E2)}{res:List (Bool×List ia)}{d d':List fW}{ws:List (Bool×List Cell)}{w:V2}{a:AV}(hl:Cc res=true)(h:nS res d=some (ws,d'))(ht:qI ws=some w)(ha:RV ρ B m w a):TV a=true:=by
 unfold qI at ht;split at ht
 .rename_i b cs;have hr:R1 ρ B m (b,cs) a:=by cases b with|true=>cases ht;exact ha|false=>match cs,ht with|[c],ht=>cases ht;exact⟨c,rfl,ha⟩
  have:=zL (aL:=[a]) hl h ⟨hr,trivial⟩;simp at this;cases a<;>first|exact this|cases this
 .cases ht;obtain⟨aL,rfl,ha⟩:=ha;exact zL hl h ha
def R8(hE:az Fs E)(hi:RI ρ nx rem os s2 s p){f:Nat}{vs:List V2}{aL:List AV}(h:UO E s2 f vs K=some r)(has:aD (RV ρ nx s2.mem) vs aL):∃r2 e,(∃n0,∀n,n0<=n->lK (ga Fs n) s f aL=some e)/\pI ρ nx os s2 s r2 e/\K r2=some r:=by
 obtain⟨c,hc,h⟩:=aF h;split at h
 .rename_i hfl;obtain⟨⟨ds,bs⟩,ha,h⟩:=aF h;obtain⟨x,hx,h⟩:=aF h;obtain⟨hb,h⟩:=qk h;obtain⟨y,hy,h⟩:=bind_some h;split at h
  .rename_i ws yo;obtain⟨w,hw,h⟩:=aF h;obtain⟨as',vs',g1,gk,g2,g3⟩:=Hf hi.mem ha has hb;simp at hfl;obtain⟨hfl,Bi⟩:=hfl;obtain⟨vs1,g4,g5⟩:=hE.ym f c hc x y hy;rw[dP hx]at g4;have FG:=g2 [];rw[dt,g4]at FG;cases FG;obtain⟨n0,rv,cm,ts,nv,g6,g7⟩:=g5 as' g3;obtain⟨a',g8,g9⟩:=(g7 ws yo).1 (λe=>by rw[e]at Bi;cases Bi) w hw 0 0 0;have hfa:=Va hfl yo hw (g9 ρ0 0 []);refine⟨_,.bZ {val:=a',dx:=[],cU:=[],rd:=aL.flatMap (nE s.mem)},⟨n0,λn hn=>?_⟩,?_,h⟩;.simp[lK,g1,g6 n hn,g8,hfa]
   .exact .zD hi.mem hi.aI (by omega) (g9 _ _ _) gk
  grind
 grind
end
section
variable{α:Type}{ρ:bH}{B B':Nat}{s2:S2}{s:St}{row dst p nx:Nat}{K:iL->Option α}{r:α}{E:ah}{wk:Wk}{ctx:Nat}
def Bj:∀l:List Int,bytesOf (bF (.int .u8) l)=some (l.map λn=>UInt8.ofNat n.toNat)|[]=>rfl|n::l=>by have ih:=Bj l;show(bytesOf (bF (.int .u8) l)).map _=_;grind
def Vb{m:List (Tr bu)}{a:AV}{x els:List (List D)}(h:hD m a=some x)(he:dJ m a=some els):x=els:=by unfold hD at h<;>grind[dJ,hD]
def Ls{m2:List (Tr E2)}{m:List (Tr bu)}(hm:MR ρ B m2 m){lv sl aq u:Nat}{l:List (List UInt8)}(h:P6 m2 lv sl aq=some l)(hu:ρ aq=some u):jZ m2 lv sl=some (.set aq l)/\setAt m lv sl u=some l:=by
 unfold P6 at h;split at h
 .rename_i v l' hg;split at h;.subst_vars;obtain⟨e,g1,_,u',g2,rfl⟩:=hm.fI _ _ _ hg<;>simp_all[bH,setAt,jZ]
  grind
 grind
variable(hm:MR ρ B s2.mem s.mem)(ht:TR ρ B s2.aI s.aI)(cy:wJ ρ B s2.mem s2.slots s.slots)(hB:B<=nx)(gC:ρ nx=some p)
include hm ht hB cy
theorem Vc{x:cx}(h:dw E wk ctx s2 row dst nx (.b2s x) K=some r):eE ρ B (nx+1) s2 s (.b2s x) row dst p K r:=by
 have q:=cR h;obtain⟨c,hc,h⟩:=q;have hc:=bz cy hc;split at h;.cases h
 .rename_i hne;obtain⟨els,he⟩:=GX hm h hc (λb' e=>hne b' e);obtain⟨n,h1,h⟩:=lW hm h hc;obtain⟨l,hl,h⟩:=aF h;have hx:=Vb h1 he;subst hx;obtain⟨t,l0⟩:=n;obtain⟨e1,e2⟩:=Dw hl;cases e1;subst e2;refine⟨_,_,λ_ _=>?_,.zD hm ht (by omega) (v:=.c (.str (l.map λ(n:Int)=>UInt8.ofNat n.toNat))) (a:=nC (.string (od (l.map λ(n:Int)=>UInt8.ofNat n.toNat)))) rfl (vr hc),h⟩;simp[cG.run,he,ae,Bj,cf]
theorem Vd{x:cx}(h:dw E wk ctx s2 row dst nx (.s2b x) K=some r):eE ρ B (nx+1) s2 s (.s2b x) row dst p K r:=by
 simp[dw]at h;split at h
 .rename_i b hx;have e:x.ev s.slots=_:=bz cy hx;refine .pure (a:=.d (.sl (b.map λ(c:UInt8)=>[.sc (.int .u8 (c.toNat:Int))]))) hm ht (by omega) (λ_ _=>?_) (v:=.c (.sl (.int .u8) (bP b) .d)) (show RC ρ B s2.mem (.sl (.int .u8) (bP b) .d) (.d (.sl (b.map λ(c:UInt8)=>[.sc (.int .u8 (c.toNat:Int))])))from .inl ?_) h;.simp[cG.run,e]
  .simp[bF,bP,fm,py,Function.comp_def]
 grind
include gC in omit cy in theorem Om(h:dw E wk ctx s2 row dst nx .mkSet K=some r):eE ρ B (nx+1) s2 s .mkSet row dst p K r:=by simp[dw]at h;rw[hm.len]at h;have hst:gh B s2.mem (gN s2.mem [(ij s.mem.length dst,dst,some (.set nx []))]):=fQ (ks:=[]) (e:=.set nx []) trivial;exact⟨_,_,λ_ _=>rfl,.hU hm ht (B':=nx+1) (by omega) hst (fR (e:=.mp p []) ⟨by omega,p,gC,rfl⟩) (v:=.c (.mp (ij s.mem.length dst) dst nx)) (a:=.mp (ij s.mem.length dst) dst p) (show RC ρ (nx+1) (gN s2.mem [(ij s.mem.length dst,dst,some (.set nx []))]) (.mp (ij s.mem.length dst) dst nx) _ from⟨wn _,p,gC,rfl⟩) aY.nil,h⟩
theorem R9{x y:cx}(h:dw E wk ctx s2 row dst nx (.JU x y) K=some r):eE ρ B (nx+1) s2 s (.JU x y) row dst p K r:=by
 simp[dw]at h;split at h;.rename_i lv sl aq b hx hy;obtain⟨l,hl,h⟩:=aF h;obtain⟨hv,u,hu,ex⟩:=bz cy hx;have ey:y.ev s.slots=_:=bz cy hy;obtain⟨_,g⟩:=Ls hm hl hu;refine⟨_,_,λ_ _=>?_,.zD hm ht (by omega) (v:=.c (.bool (hasB l b))) (a:=nC (.bool (hasB l b))) rfl (aY.j7 lv sl aY.nil),h⟩;simp[cG.run,ex,ey,g,cf]
 grind
theorem Sa{x y:cx}(h:dw E wk ctx s2 row dst nx (.JV x y) K=some r):eE ρ B (nx+1) s2 s (.JV x y) row dst p K r:=by
 simp[dw]at h;split at h;.rename_i lv sl aq b hx hy;obtain⟨l,hl,h⟩:=aF h;obtain⟨hv,u,hu,ex⟩:=bz cy hx;have ey:y.ev s.slots=_:=bz cy hy;obtain⟨_,g⟩:=Ls hm hl hu;have hst:gh B s2.mem (gN s2.mem [(lv,sl,some (.set aq (tI l b)))]):=fQ (ks:=[]) (e:=.set aq (tI l b)) trivial;refine⟨_,_,λ_ _=>?_,.hU hm ht (B':=nx+1) (by omega) hst (fR (e:=.mp u (tI l b)) ⟨by omega,u,hu,rfl⟩) nV (aY.j7 lv sl aY.nil),h⟩;simp[cG.run,ex,ey,g,cf]
 grind
end
section
variable{Fs:Tb}{E:ah}{wk:Wk}{α:Type}{ρ:bH}{nx rem p:Nat}{os:List (Tr AV)}{s2:S2}{s:St}{ctx row d:Nat}{K:iL->Option α}{r:α}
def Sb{row d aR:Nat}(h:Nat.ble 4294967296 row=false):aeJ row=row/\aeK row d aR=d/\Nat.ble 1099511627776 row=false:=by
 have h:¬4294967296<=row:=λq=>by rw[mi q]at h;cases h
 have h1:Nat.ble 4294967296 (row%1099511627776)=false:=by rw[pC];intro q;have:=ft q;omega
 have h2:Nat.ble 1099511627776 row=false:=by rw[pC];intro q;have:=ft q;omega
 refine⟨by unfold aeJ;omega,?_,h2⟩;unfold aeK;rw[h1]
def I5(hwk:Oh Fs wk)(hE:az Fs E)(hi:RI ρ nx (rem+1) os s2 s p)(nI:Nat.ble 1099511627776 row=false){op:cG}(h:dw E wk ctx s2 row d nx op K=some r):∃r2 e,(∃n0,∀n,n0<=n->op.run (ga Fs n) (Ci Fs) s row d p=some e)/\pI ρ nx os s2 s r2 e/\K r2=some r:=by
 have gC:ρ nx=some p:=by simpa using hi.B1 0 (by omega)
 have hm:=hi.mem;have ht:=hi.aI;have cy:=hi.slots;have hB:nx<=nx:=bc _;have Bk:nx<=nx+1:=by omega
 have hinj:=hi.aq.inj;have conv:eE ρ nx (nx+1) s2 s op row d p K r->∃r2 e,(∃n0,∀n,n0<=n->op.run (ga Fs n) (Ci Fs) s row d p=some e)/\pI ρ nx os s2 s r2 e/\K r2=some r:=by rintro⟨E',e,h1,h2,h3⟩;exact⟨.bZ E',.bZ e,⟨0,λn _=>h1 _ _⟩,h2,h3⟩
 cases op with
 |JS x=>exact conv (UZ hm ht cy hB gC h)|compact x=>exact conv (IZ hm ht cy hB gC h)|pick c a b=>exact conv (RN hm ht cy Bk h)|alloc z=>exact conv (Ob hm ht hB gC h)|box x=>exact conv (UY hm ht cy hB gC h)|build z ps=>exact conv (N7 hm ht cy Bk h)|buildSlice sz n z ps=>exact conv (B0 hm ht cy hB gC h)|load sz agg x=>exact conv (RX hm ht cy hB h)|store sz x v=>exact conv (Oc hm ht cy hB h)|nilCheck x=>exact conv (FC hm ht cy Bk h)|bin op x y=>exact conv (UT hm ht cy Bk h)|eqb neg x y=>exact conv (UU hm ht cy Bk h)|Q8 neg sz l x y=>exact conv (UW hm ht cy Bk h)|un op x=>exact conv (abi hm ht cy Bk h)|conv k x=>exact conv (RP hm ht cy Bk h)|field off sz agg x=>exact conv (Oa hm ht cy Bk h)|fieldAddr off x=>exact conv (DC hm ht cy Bk h)|indexAddr sz x i=>exact conv (DD hm ht cy Bk h)|lG n sz x i=>exact conv (FD hm ht cy Bk h)|rQ n sz agg x i=>exact conv (KZ hm ht cy Bk h)|rR x i=>exact conv (K1 hm ht cy Bk h)|slice sz x lo hi mx=>exact conv (Od hm ht cy hB gC h)|rS x lo hi=>exact conv (K2 hm ht cy Bk h)|extract x i=>exact conv (IW hm ht cy Bk h)|len x=>exact conv (UX hm ht cy Bk h)|HW x=>exact conv (RS hm ht cy Bk h)|JT x=>exact conv (RR hm ht cy Bk h)|Ft n=>exact conv (RT hm ht Bk h)|HX x y=>exact conv (RU hm ht cy Bk h)|HY x y=>exact conv (RW hm ht cy Bk h)|append sz bytes x y=>exact conv (Ld hm ht cy hB gC hinj h)|qa sz bytes z x n=>exact conv (IY hm ht cy hB gC hinj h)|clone sz bytes x=>exact conv (Oe hm ht cy hB gC hinj h)|sort x=>exact conv (R2 hm ht cy hB h)|copy sz x y=>exact conv (RZ hm ht cy hB h)|makeSlice sz bytes z l c=>exact conv (DH hm ht cy hB gC h)|makeFunc f cap=>exact conv (FE hm ht cy Bk h)|clear sz z x=>exact conv (Of hm ht cy hB h)|grow sz x n=>exact conv (R3 hm ht cy hB gC h)|call f args=>
  simp[dw]at h;split at h;.rename_i h7 h8 h9 h10;obtain⟨vs,hv,h⟩:=aF h;obtain⟨r2,e,⟨n0,h1⟩,h2,h3⟩:=DM hwk hE hi (by omega) h (qh cy hv);exact⟨r2,e,⟨n0,λn hn=>by simp only[cG.run,nI,h7,h8,h9,h10];exact h1 n hn⟩,h2,h3⟩
  .rename_i h7 h8 h9;obtain⟨vs,hv,h⟩:=aF h;obtain⟨r2,e,⟨n0,h1⟩,h2,h3⟩:=U7 hE hi h (qh cy hv);exact⟨r2,e,⟨n0,λn hn=>by simp only[cG.run,nI,h7,h8,h9];exact h1 n hn⟩,h2,h3⟩
  .rename_i h7 h8 h9 h10;obtain⟨vs,hv,h⟩:=aF h;obtain⟨r2,e,⟨n0,h1⟩,h2,h3⟩:=U8 hE hi h (qh cy hv);exact⟨r2,e,⟨n0,λn hn=>by simp only[cG.run,nI,h7,h8,h9,h10];exact h1 n hn⟩,h2,h3⟩
  grind|xu f args=>
  obtain⟨vs,hv,h⟩:=aF h;have hse:E.sh f=Ci Fs f:=by simp[ah.sh,Ci,hE.fns]
  rw[hse]at h;cases hsf:Ci Fs f with|true=>rw[hsf]at h;obtain⟨r2,e,⟨n0,h1⟩,h2,h3⟩:=DM hwk hE hi (by omega) h (qh cy hv);refine⟨r2,e,⟨n0,λn hn=>?_⟩,h2,h3⟩;have:=h1 n hn;rw[hsf]at this;simp[cG.run,nI,hsf,this]|false=>rw[hsf]at h;obtain⟨r2,e,⟨n0,h1⟩,h2,h3⟩:=R8 hE hi h (qh cy hv);exact⟨r2,e,⟨n0,λn hn=>by simp only[cG.run,nI,hsf,h1 n hn]⟩,h2,h3⟩
 |AA x args=>
  simp[dw]at h;split at h
  .rename_i f cap hx;obtain⟨vs,hv,h⟩:=aF h;obtain⟨aL,he,hc⟩:=bz cy hx;have hc:aD (RV ρ nx s2.mem) (cap.map .c) aL:=by
    have:∀{cs:List Cell}{aL:List AV},aD (RC ρ nx s2.mem) cs aL->aD (RV ρ nx s2.mem) (cs.map .c) aL:=by intro cs;induction cs with
     |nil=>intro aL h;match aL,h with|[],_=>trivial
     |cons c cs ih=>intro aL h;match aL,h with|a::aL,h=>exact⟨h.1,ih h.2⟩
    grind
   obtain⟨r2,e,⟨n0,h1⟩,h2,h3⟩:=DM hwk hE hi (by omega) h ((qh cy hv).append hc);exact⟨r2,e,⟨n0,λn hn=>by simp only[cG.run,he];exact h1 n hn⟩,h2,h3⟩
  grind|sliceB n sz x=>exact conv (La hm ht cy Bk h)|b2s x=>exact conv (Vc hm ht cy hB h)|s2b x=>exact conv (Vd hm ht cy hB h)|mkSet=>exact conv (Om hm ht hB gC h)|JU x y=>exact conv (R9 hm ht cy hB h)|JV x y=>exact conv (Sa hm ht cy hB h)|Az neg x=>exact conv (N9 hm ht cy Bk h)|tH lo n sz x=>exact conv (KY hm ht cy Bk h)|bad=>simp[dw]at h
def RI.Ve(hi:RI ρ nx rem os s2 s p){g:Nat}{t:Bool}(hg:dW s.slots g=.d (.sc (.bool t))):RI ρ nx rem os {s2 with slots:=s2.slots.set g (some (.c (.bool t)))} s p:=by
 refine⟨λk v hk=>?_,hi.outer,hi.mem,hi.aI,hi.aq,hi.B1,hi.nv,hi.pn⟩;rw[Tr.cL]at hk;split at hk;.subst_vars;cases hk;exact hg
 .exact hi.slots k v hk
def Lt(hwk:Oh Fs wk)(hE:az Fs E)(hi:RI ρ nx (rem+1) os s2 s p){o:bI}{K:S2->iL->Option α}(h:Qa E wk ctx s2 nx o K=some r):∃s2' r2 e,(∃n0,∀n,n0<=n->o.step (ga Fs n) (Ci Fs) s p=some e)/\RI ρ nx (rem+1) os s2' s p/\pI ρ nx os s2' s r2 e/\K s2' r2=some r:=by
 have skip:∀{s2'},RI ρ nx (rem+1) os s2' s p->pI ρ nx os s2' s (lU (.fu [])) (.bZ {val:=kP,dx:=[],cU:=[],rd:=[]}):=λhi'=>pH.zD hi'.mem hi'.aI (by omega) nV aY.nil;unfold Qa at h;split at h;.cases h
 rename_i nI;obtain⟨q1,q2,q3⟩:=Sb (d:=o.dst.getD 0) (aR:=p) nI;split at h;.rename_i hg;obtain⟨r2,e,⟨n0,h1⟩,h2,h3⟩:=I5 hwk hE hi q3 h;refine⟨s2,r2,e,⟨n0,λn hn=>?_⟩,hi,h2,h3⟩;simp[bI.step,ju,hg,q1,q2]<;>grind
 .rename_i g b hg;split at h;.rename_i t ht;have hv:dW s.slots g=.d (.sc (.bool t)):=hi.slots g _ ht;have hi':=hi.Ve hv;cases t with
   |true=>cases b with|true=>obtain⟨r2,e,⟨n0,h1⟩,h2,h3⟩:=I5 hwk hE hi' q3 h;refine⟨_,r2,e,⟨n0,λn hn=>?_⟩,hi',h2,h3⟩;simp[bI.step,ju,hg,hv,q1,q2,ib]<;>grind|false=>refine⟨_,_,_,⟨0,λn _=>?_⟩,hi',skip hi',h⟩;simp[bI.step,ju,hg,hv];rfl
   |false=>cases b with|true=>refine⟨_,_,_,⟨0,λn _=>?_⟩,hi',skip hi',h⟩;simp[bI.step,ju,hg,hv];rfl|false=>obtain⟨r2,e,⟨n0,h1⟩,h2,h3⟩:=I5 hwk hE hi' q3 h;refine⟨_,r2,e,⟨n0,λn hn=>?_⟩,hi',h2,h3⟩;simp[bI.step,ju,hg,hv,q1,q2,ib]<;>grind
  .rename_i ht;obtain⟨aL,hv,_⟩:=hi.slots g _ ht;refine⟨_,_,_,⟨0,λn _=>?_⟩,hi,skip hi,h⟩;simp[bI.step,ju,hg,hv];rfl
  grind
def Qn{B:Nat}{m:List (Tr E2)}{t:Tr V2}{o:Tr AV}(h:wJ ρ B m t o){v:V2}{a:AV}(hv:RV ρ B m v a)(dst:Option Nat):wJ ρ B m (aa6 t dst v) (n9 o dst a):=by cases dst with|none=>exact h|some n=>
 intro k w hk;simp[aa6]at hk;simp[n9,dW];rw[Tr.cL]at hk⊢;split at hk;.grind
 .rename_i hne;rw[bi hne];exact h k w hk
def RI.bZ(hi:RI ρ nx (rem+1) os s2 s p){E':KN}{e:fy}(h:pH ρ nx (nx+1) s2 s E' e)(dst:Option Nat):RI ρ (nx+1) rem os (s2.app dst (.bZ E')) (s.app dst (.bZ e)) (p+1):=by
 refine⟨?_,?_,h.mem,h.aI,hi.aq,λj hj=>?_,?_,?_⟩;.exact Qn (hi.slots.move h.akF (by omega) λ_ _=>rfl) h.val dst
 .exact jo h.akF (by omega) (λ_ _=>rfl) hi.outer
 .have:=hi.B1 (j+1) (by omega)<;>grind
 .have:=hi.nv;show nx+1+rem=s2.nv;omega
 .have:=hi.pn;show p+1+rem<=s.nv;omega
def pI.all_nil{v:V2}{t2:S2}{a:AV}{m:List (Tr bu)}{t:Tr Unit}{n:Nat}{kp kr:List (Nat×Nat)}(h:pI ρ nx os s2 s (.all v t2) (.all a m t n kp kr)):kp=[]/\kr=[]:=by cases kp<;>cases kr<;>first|exact⟨rfl,rfl⟩|exact h.elim
def RI.all(hi:RI ρ nx (rem+1) os s2 s p){v:V2}{t2:S2}{a:AV}{m:List (Tr bu)}{t:Tr Unit}{n:Nat}(h:pI ρ nx os s2 s (.all v t2) (.all a m t n [] []))(dst:Option Nat):∃ρ',RI ρ' t2.nv rem os {t2.app dst (.all v t2)with nv:=t2.nv+rem} (s.app dst (.all a m t n [] [])) (p+1)/\Fr ρ (nx+1) s.nv ρ' t2.nv/\s.nv<=n:=by
 obtain⟨ρ1,hs,hv,hf,hn⟩:=h;have hpn:=hi.pn;let ρ':bH:=λv=>if v<t2.nv then ρ1 v else if v<t2.nv+rem then some (p+1+(v-t2.nv))else some (n+(v-(t2.nv+rem)));have e1:∀v,v<t2.nv->ρ' v=ρ1 v:=λv h=>ba h;have e3:∀v,t2.nv+rem<=v->ρ' v=some (n+(v-(t2.nv+rem))):=λv h=>by show(if v<t2.nv then _ else _)=_;rw[bi (by omega),bi (by omega)]
 have apart:∀v u,v<t2.nv->ρ1 v=some u->u<p+1\/p+1+rem<=u:=by
  intro v u hv hu;rcases hf v u hv hu with⟨w,hw,I4⟩|h'
  .rcases ii u (p+1)with h1|h1;.grind
   .rcases ii u (p+1+rem)with h2|h2;.have:=hi.B1 (u-p) (by omega);rw[show p+(u-p)=u from by omega]at this;have:=hi.aq.inj _ _ _ I4 this<;>omega
    omega
  omega
 refine⟨ρ',⟨?_,?_,?_,?_,?_,λj hj=>?_,rfl,?_⟩,?_,hn⟩;.exact Qn (hs.slots.move (gh.refl _ _) (bc _) e1) (hv.move (gh.refl _ _) (bc _) e1) dst
 .exact jo (gh.refl _ _) (bc _) e1 hs.outer
 .exact hs.mem.ren e1
 .intro v hv;obtain⟨h1,h2⟩:=hs.aI v hv;exact⟨h1,λu hu=>h2 u (by rw[<-e1 v h1];exact hu)⟩
 .refine⟨λv u hv hu=>?_,λv hv=>e3 v hv,λv v' u hu mA=>?_⟩
  .show u<n;rcases ii v t2.nv with h1|h1;.rw[e1 v h1]at hu;exact hs.aq.low v u h1 hu
   grind
  .rcases ii v t2.nv with h1|h1
   .rw[e1 v h1]at hu;have nI:=hs.aq.low v u h1 hu;rcases ii v' t2.nv with h2|h2;.rw[e1 v' h2]at mA;exact hs.aq.inj v v' u hu mA
    grind
   .rcases ii v (t2.nv+rem)with h3|h3;.grind
    .simp_all;rcases ii v' t2.nv with h2|h2;.rw[e1 v' h2]at mA;have:u<n:=hs.aq.low v' u h2 mA<;>omega
     grind
 .grind
 .show p+1+rem<=n;omega
 .intro v u hv hu;rw[e1 v hv]at hu;exact hf v u hv hu
def RI.done(hi:RI ρ nx 0 os s2 s p):Cf ρ os s2 s:=by have:nx=s2.nv:=hi.nv;subst this;exact⟨hi.slots,hi.outer,hi.mem,hi.aI,hi.aq,bc _⟩
def Vf(ρ:bH)(nx:Nat)(os:List (Tr AV))(lo n:Nat)(K:S2->Option α)(r:α)(s':St):Prop:=∃ρ' s2',Cf ρ' os s2' s'/\Fr ρ nx lo ρ' s2'.nv/\n<=s'.nv/\K s2'=some r
def wL(hwk:Oh Fs wk)(hE:az Fs E){K:S2->Option α}{mE lo:Nat}:∀{ops:List bI}{i nx:Nat}{ρ:bH}{s2:S2}{s:St},Cd E wk ctx nx ops s2 K=some r->RI ρ nx ops.length os s2 s (mE+i)->lo<=mE->∃s',(∃n0,∀n,n0<=n->jB (ga Fs n) (Ci Fs) mE i ops s=some s')/\Vf ρ nx os lo s.nv K r s'|[],i,nx,ρ,s2,s,h,hi,_=>⟨s,⟨0,λ_ _=>rfl⟩,ρ,s2,hi.done,by have:nx=s2.nv:=hi.nv;subst this;exact Fr.refl _ _ _,bc _,h⟩|o::ops,i,nx,ρ,s2,s,h,hi,hlo=>by obtain⟨s2',r2,e,⟨n0,h1⟩,h2,h3,h4⟩:=Lt hwk hE hi h;cases r2 with
 |bZ E'=>cases e with
  |bZ e=>
    have hi':=h2.bZ h3 o.dst;rw[eJ]at hi';obtain⟨s',⟨n1,g1⟩,ρ',s3,g2,g3,g4,g5⟩:=wL hwk hE h4 hi' hlo;refine⟨s',⟨max n0 n1,λn hn=>?_⟩,ρ',s3,g2,λv u hv hu=>?_,g4,g5⟩;.simp[jB,h1 n (by omega)]<;>grind
    .rcases g3 v u hv hu with⟨w,hw,I4⟩|h'
     .by_cases hwn:w=nx;.have:=hi.B1 0 (by simp)<;>grind
      grind
     omega|all=>exact h3.elim
 |all v t2=>cases e with|bZ e=>exact h3.elim|all a m t n' kp kr=>
    obtain⟨e1,e2⟩:=h3.all_nil;subst e1;subst e2;obtain⟨ρ1,hi',hf,hn'⟩:=h2.all h3 o.dst;rw[eJ]at hi';obtain⟨s',⟨n1,g1⟩,ρ',s3,g2,g3,g4,g5⟩:=wL hwk hE h4 hi' hlo;have hsn:lo<=s.nv:=by have:=hi.pn;omega
    refine⟨s',⟨max n0 n1,λn hn=>?_⟩,ρ',s3,g2,λv u hv hu=>?_,m9 hn' g4,g5⟩;.simp[jB,h1 n (by omega)]<;>grind
    .rcases g3 v u hv hu with⟨w,hw,I4⟩|h'
     .rcases hf w u hw I4 with⟨w',PO,ata⟩|h'
      .by_cases hwn:w'=nx;.have:=hi.B1 0 (by simp)<;>grind
       grind
      omega
     omega
def wM(ρ:bH):iL->iu->Prop|.bZ E,.bZ e=>aY ρ E.rd e.rd/\aY ρ E.wr e.wr|.all _ _,_=>True|_,_=>False
def Qo(ρ:bH):List (Nat×iL)->List (Nat×iu)->Prop:=aD λx y=>x.1=y.1/\wM ρ x.2 y.2
def Vg{a b:Nat×Nat×Nat}:keq a b=true↔a=b:=by obtain⟨a1,a2,a3⟩:=a;obtain⟨b1,b2,b3⟩:=b;simp[keq,and_assoc]
def KR.inj(hinj:∀v v' u,ρ v=some u->ρ v'=some u->v=v'){a b k:Nat×Nat×Nat}(ha:KR ρ a k)(hb:KR ρ b k):a=b:=by
 rcases ha with⟨rfl,h⟩|⟨v,u,rfl,rfl,hu⟩
 .rcases hb with⟨rfl,_⟩|⟨v',u',rfl,rfl,_⟩;.rfl
  .cases h
 .rcases hb with⟨rfl,h⟩|⟨v',u',rfl,h,mA⟩;.cases h
  .have:u=u':=by simpa[kq]using h
   grind
def DN(hinj:∀v v' u,ρ v=some u->ρ v'=some u->v=v'){a2 b2 a b:List (Nat×Nat×Nat)}(ha:aY ρ a2 a)(hb:aY ρ b2 b)(h:zB a2 b2=false):meets a b=false:=by
 rw[pC];intro hm;unfold meets at hm;rw[ml]at hm;obtain⟨k,hk,hc⟩:=hm;obtain⟨k2,h1,h2⟩:=ha k hk;obtain⟨k2',h3,h4⟩:=hb k (by simpa using hc);have:=KR.inj hinj h2 h4;subst this;have:zB a2 b2=true:=by unfold zB;rw[ml];exact⟨k2,h1,by rw[ml];exact⟨k2,h3,Vg.2 rfl⟩⟩
 rw[h]at this;cases this
def keys_nil{l:List (Nat×Nat×Nat)}(h:aY ρ [] l):l=[]:=by cases l with|nil=>rfl|cons k l=>obtain⟨_,h1,_⟩:=h k cb<;>grind
def quiet{E':KN}{e:fy}(h:rj (.bZ E')=false)(hr:wM ρ (.bZ E') (.bZ e)):e.rd=[]/\e.dx=[]/\e.cU=[]:=by
 simp[rj,ll,al,sm]at h;obtain⟨⟨h1,h2⟩,h3⟩:=h;obtain⟨k1,k2⟩:=hr;rw[h1]at k1;have hw:E'.wr=[]:=by simp[KN.wr,h2,h3]
 rw[hw]at k2;have:=keys_nil k2;simp[fy.wr,List.append_eq_nil_iff,List.map_eq_nil_iff]at this;exact⟨keys_nil k1,this.1,this.2⟩
def On{e:fy}(h:e.rd=[]/\e.dx=[]/\e.cU=[]):xx (.bZ e)=false:=by grind[xx]
def Bl{x:iu}{e:fy}(h:e.rd=[]/\e.dx=[]/\e.cU=[]):tL x (.bZ e)=false/\tL (.bZ e) x=false:=by
 have hl:=On h;obtain⟨h1,h2,h3⟩:=h;have hw:e.wr=[]:=by simp[fy.wr,h2,h3]
 cases x with|bZ a=>simp[tL,h1,hw,meets]|all=>simp[tL,within,h1,hw]
def Vh(hinj:∀v v' u,ρ v=some u->ρ v'=some u->v=v'){x2 r2:iL}{x e:iu}(hx:wM ρ x2 x)(he:wM ρ r2 e)(hr:∀v t,r2=.all v t->∃a m tt n,e=.all a m tt n [] [])(h:zC x2 r2=false):tL x e=false:=by cases r2 with
 |bZ E'=>cases e with|all=>exact he.elim|bZ e=>cases x2 with
   |bZ X=>cases x with|all=>exact hx.elim|bZ x=>simp[zC,jp]at h;simp[tL,jp];exact⟨⟨DN hinj hx.1 he.2 h.1.1,DN hinj hx.2 he.1 h.1.2⟩,DN hinj hx.2 he.2 h.2⟩
   |all v t=>
    have:rj (.bZ E')=false:=by simpa[zC,rj]using h
    exact(Bl (quiet this he)).1
 |all v t=>cases x2 with
  |bZ X=>cases x with|all=>exact hx.elim|bZ x=>
    have:rj (.bZ X)=false:=by simpa[zC,rj]using h
    exact(Bl (quiet this hx)).2
  |all v' t'=>simp[zC,rj]at h
def xM(hinj:∀v v' u,ρ v=some u->ρ v'=some u->v=v'){oV:Nat}{r2:iL}{e:iu}(he:wM ρ r2 e)(hr:∀v t,r2=.all v t->∃a m tt n,e=.all a m tt n [] []):∀{Bc:List (Nat×iL)}{eT:List (Nat×iu)},Qo ρ Bc eT->IS oV r2 Bc=true->clear oV e eT=true|[],[],_,_=>rfl|(i,x2)::r2',(j,x)::r',hp,h=>by obtain⟨⟨h1,h2⟩,h3⟩:=hp;subst h1;simp[IS,al,ge,d7]at h;simp[clear,al,ge,d7];exact⟨h.1.imp id (Vh hinj h2 he hr),xM hinj he hr h3 h.2⟩|[],_::_,h,_=>h.elim|_::_,[],h,_=>h.elim
def Lu{ρ':bH}:∀{l2:List (Nat×iL)}{l:List (Nat×iu)},Qo ρ l2 l->Qo ρ' (Bc l2) l
 |[],[],_=>trivial|(i,x2)::r2',(j,x)::r',hp=>by obtain⟨⟨h1,h2⟩,h3⟩:=hp;refine⟨⟨h1,?_⟩,Lu h3⟩;show wM ρ' (match rj x2 with|true=>_|false=>x2) x;cases hl:rj x2 with|true=>trivial|false=>cases x2 with|all=>simp[rj]at hl|bZ X=>cases x with|all=>exact h2.elim|bZ x=>
     obtain⟨q1,q2,q3⟩:=quiet hl h2;refine⟨?_,?_⟩;.rw[q1];exact aY.nil
     .have:x.wr=[]:=by simp[fy.wr,q2,q3]
      rw[this];exact aY.nil
 |[],_::_,h=>h.elim|_::_,[],h=>h.elim
def pI.key{r2:iL}{e:iu}(h:pI ρ nx os s2 s r2 e):wM ρ r2 e/\∀v t,r2=.all v t->∃a m tt n,e=.all a m tt n [] []:=by cases r2 with
 |bZ E'=>cases e with|bZ e=>exact⟨⟨h.rd,h.wr⟩,λ_ _ h=>by cases h⟩|all=>exact h.elim
 |all v t=>cases e with|bZ e=>exact h.elim|all a m tt n kp kr=>obtain⟨e1,e2⟩:=h.all_nil;subst e1;subst e2;exact⟨trivial,λ_ _ _=>⟨a,m,tt,n,rfl⟩⟩
def wN(hwk:Oh Fs wk)(hE:az Fs E){K:S2->Option α}{mE lo:Nat}:∀{ops:List bI}{i nx:Nat}{ρ:bH}{s2:S2}{s:St}{Bc:List (Nat×iL)}{eT:List (Nat×iu)},Ce E wk ctx i nx ops Bc s2 K=some r->Qo ρ Bc eT->RI ρ nx ops.length os s2 s (mE+i)->lo<=mE->∃s',(∃n0,∀n,n0<=n->j9 (ga Fs n) (Ci Fs) mE i ops eT s=some s')/\Vf ρ nx os lo s.nv K r s'
 |[],i,nx,ρ,s2,s,_,_,h,_,hi,_=>⟨s,⟨0,λ_ _=>rfl⟩,ρ,s2,hi.done,by have:nx=s2.nv:=hi.nv;subst this;exact Fr.refl _ _ _,bc _,h⟩|o::ops,i,nx,ρ,s2,s,pa2,eT,h,hp,hi,hlo=>by
  obtain⟨s2',r2,e,⟨n0,h1⟩,h2,h3,h4⟩:=Lt hwk hE hi h;split at h4;.rename_i lu;have hkey:=h3.key;have lu:=xM hi.aq.inj hkey.1 hkey.2 hp lu;cases r2 with
   |bZ E'=>cases e with
    |bZ e=>
     have hi':=h2.bZ h3 o.dst;obtain⟨s',⟨n1,g1⟩,ρ',s3,g2,g3,g4,g5⟩:=wN hwk hE h4 (eT:=(i,.bZ e)::eT) ⟨⟨rfl,hkey.1⟩,hp⟩ hi' hlo;refine⟨s',⟨max n0 n1,λn hn=>?_⟩,ρ',s3,g2,λv u hv hu=>?_,g4,g5⟩;.simp[j9,h1 n (by omega),lu]<;>grind
     .rcases g3 v u hv hu with⟨w,hw,I4⟩|h'
      .by_cases hwn:w=nx;.have:=hi.B1 0 (by simp)<;>grind
       grind
      omega|all=>exact h3.elim
   |all v t2=>cases e with|bZ e=>grind|all a m t n' kp kr=>
     obtain⟨e1,e2⟩:=h3.all_nil;subst e1;subst e2;obtain⟨ρ1,hi',hf,hn'⟩:=h2.all h3 o.dst;obtain⟨s',⟨n1,g1⟩,ρ',s3,g2,g3,g4,g5⟩:=wN hwk hE h4 (eT:=(i,.all a m t n' [] [])::eT) ⟨⟨rfl,trivial⟩,Lu hp⟩ hi' hlo;have hsn:lo<=s.nv:=by have:=hi.pn;omega
     refine⟨s',⟨max n0 n1,λn hn=>?_⟩,ρ',s3,g2,λv u hv hu=>?_,m9 hn' g4,g5⟩;.simp[j9,h1 n (by omega),lu]<;>grind
     .rcases g3 v u hv hu with⟨w,hw,I4⟩|h'
      .rcases hf w u hw I4 with⟨w',PO,ata⟩|h'
       .by_cases hwn:w'=nx;.have:=hi.B1 0 (by simp)<;>grind
        grind
       omega
      omega
  grind
def I6(hwk:Oh Fs wk)(hE:az Fs E){ops:List bI}{draw:Bool}{K:S2->Option α}(h:abb E wk ctx ops draw s2 K=some r)(hs:Cf ρ os s2 s):∃s',Ev Fs (.region ops draw) s (.normal,s')/\Vf ρ s2.nv os s.nv s.nv K r s':=by
 have start:RI ρ s2.nv ops.length os {s2 with nv:=s2.nv+ops.length} {s with nv:=s.nv+ops.length} (s.nv+0):=by
  refine⟨hs.slots,hs.outer,hs.mem,hs.aI,⟨λv u hv hu=>?_,λv hv=>?_,hs.aq.inj⟩,λj hj=>?_,rfl,bc _⟩
  .show u<s.nv+ops.length;rcases ii v s2.nv with h1|h1;.have:=hs.aq.low v u h1 hu;omega
   .rw[hs.aq.high v h1]at hu<;>grind
  .have hv:s2.nv+ops.length<=v:=hv;rw[hs.aq.high v (by omega)]<;>grind
  .rw[hs.aq.high _ (by omega)]<;>grind
 have lift:∀{s':St},Vf ρ s2.nv os s.nv (s.nv+ops.length) K r s'->Vf ρ s2.nv os s.nv s.nv K r s':=by rintro s'⟨ρ',s3,g2,g3,g4,g5⟩;exact⟨ρ',s3,g2,g3,by omega,g5⟩
 cases draw with|false=>obtain⟨s',⟨n0,h1⟩,g⟩:=wL hwk hE (lo:=s.nv) h start (bc _);refine⟨s',⟨n0+1,λk n hk hn=>?_⟩,lift g⟩;obtain⟨n,rfl⟩:∃q,n=q+1:=⟨n-1,by omega⟩;simp[exec,gF,h1 k (by omega),cf]|true=>obtain⟨s',⟨n0,h1⟩,g⟩:=wN hwk hE (lo:=s.nv) (eT:=[]) h trivial start (bc _);refine⟨s',⟨n0+1,λk n hk hn=>?_⟩,lift g⟩;obtain⟨n,rfl⟩:∃q,n=q+1:=⟨n-1,by omega⟩;simp[exec,gF,h1 k (by omega),cf]
end
section
variable{Fs:Tb}{E:ah}
def SR.wI{ρ:bH}{os:List (Tr AV)}{s2:S2}{s:St}{c:cx}{b:Bool}(hs:Cf ρ os s2 s)(hb:jS (c.ev s.slots)=some b):Cf ρ os (wI s2 c b) s:=by cases c with|c v=>exact hs|t n=>
 have he:dW s.slots n=.d (.sc (.bool b)):=by
  unfold jS at hb;split at hb;.rename_i b' e;simp_all;exact e
  .cases hb
 refine⟨λk v hk=>?_,hs.outer,hs.mem,hs.aI,hs.aq,hs.le⟩;simp[Go.Sym.wI]at hk;rw[Tr.cL]at hk;split at hk;.subst_vars;cases hk;exact he
 .exact hs.slots k v hk
def Vi{call:bL.Call}{sh:Nat->Bool}{s:St}{dst aR:Nat}{op:cG}{e:iu}(hm:UP sh op=true)(h:op.run call sh s 0 dst aR=some e):∃v rd,e=.bZ {val:=v,dx:=[],cU:=[],rd}:=by
 have pure:∀{v:AV},fy.pure v=some e->∃v rd,e=.bZ {val:=v,dx:=[],cU:=[],rd}:=λh=>by injection h with h;exact⟨_,_,h.symm⟩
 have adG:∀{α:Type}{o:Option α}{k:α->Option iu},Option.bind o k=some e->∃x,k x=some e:=λ{α o k}h=>by cases o with|none=>cases h|some x=>exact⟨x,h⟩
 cases op with
 |JS x=>injection h with h;exact⟨_,_,h.symm⟩|load sz agg x=>obtain⟨cs,h⟩:=adG h;cases hw:iJ agg cs with|none=>rw[hw]at h;cases h|some v=>simp_all;exact⟨_,_,h.symm⟩
 |xu f args=>
  simp[UP,d7]at hm;simp[cG.run,hm,lK]at h;split at h;.cases h
  .split at h;.cases h
   .split at h
    .split at h;.simp_all;exact⟨_,_,h.symm⟩
     .cases h
    .cases h|slice sz x lo hi mx=>
  simp[cG.run]at h;split at h
  .split at h;.rename_i hz;simp at hz
   .obtain⟨v,h⟩:=adG h;exact pure h
  .cases h|_=>first|(cases hm;done)|(simp only[cG.run]at h;repeat'(first|split at h|(simp only[lr]at h;obtain⟨_,_,h⟩:=h)|(cases h;done)|exact pure h))
structure uD(l:List Nat)(s s':St):Prop where
 mem:s'.mem=s.mem
 aI:s'.aI=s.aI
 nv:s.nv<=s'.nv
 slots:∀k,¬k∈l->dW s'.slots k=dW s.slots k
def uD.refl(l:List Nat)(s:St):uD l s s:=⟨rfl,rfl,bc _,λ_ _=>rfl⟩
def uD.trans{l:List Nat}{s s' s'':St}(h:uD l s s')(k:uD l s' s''):uD l s s'':=⟨k.mem.trans h.mem,k.aI.trans h.aI,m9 h.nv k.nv,λi hi=>(k.slots i hi).trans (h.slots i hi)⟩
def uD.mono{l l':List Nat}{s s':St}(h:uD l s s')(hl:∀k,k∈l->k∈l'):uD l' s s':=⟨h.mem,h.aI,h.nv,λk hk=>h.slots k λh'=>hk (hl k h')⟩
def Hl{call:bL.Call}{sh:Nat->Bool}{s:St}{aR:Nat}{o:bI}{e:iu}(hm:GS sh o=true)(h:o.step call sh s aR=some e):uD o.dst.toList s (s.app o.dst e):=by
 simp only[GS,al]at hm;have hr:=am hm.1;have key:∃v rd,e=.bZ {val:=v,dx:=[],cU:=[],rd}:=by
  simp[bI.step]at h;split at h;.cases h
  .rw[hr]at h;exact Vi hm.2 h
  .injection h with h;exact⟨_,_,h.symm⟩
 obtain⟨v,rd,rfl⟩:=key;refine⟨rfl,rfl,bc _,λk hk=>?_⟩;simp[St.app,n9];cases hd:o.dst with|none=>rfl|some n=>simp[dW,Tr.cL]<;>grind
def Lw{call:bL.Call}{sh:Nat->Bool}{mE:Nat}:∀{ops:List bI}{i:Nat}{s s':St},ops.all (GS sh)=true->jB call sh mE i ops s=some s'->uD (ops.flatMap λo=>o.dst.toList) s s'
 |[],_,s,s',_,h=>by cases h;exact uD.refl _ _|o::r,i,s,s',hm,h=>by
  simp only[dC,al]at hm;simp[jB]at h;split at h;.cases h
  .rename_i e he;exact((Hl hm.1 he).mono λk hk=>by simp only[d8,bm];exact .inl hk).trans ((Lw hm.2 h).mono λk hk=>by simp only[d8,bm];exact .inr hk)
def Lx{call:bL.Call}{sh:Nat->Bool}{mE:Nat}:∀{ops:List bI}{i:Nat}{eT:List (Nat×iu)}{s s':St},ops.all (GS sh)=true->j9 call sh mE i ops eT s=some s'->uD (ops.flatMap λo=>o.dst.toList) s s'
 |[],_,_,s,s',_,h=>by cases h;exact uD.refl _ _|o::r,i,eT,s,s',hm,h=>by
  simp only[dC,al]at hm;simp[j9]at h;split at h;.cases h
  .rename_i e he;split at h;.exact((Hl hm.1 he).mono λk hk=>by simp only[d8,bm];exact .inl hk).trans ((Lx hm.2 h).mono λk hk=>by simp only[d8,bm];exact .inr hk)
   grind
def mN{call:bL.Call}{sh:Nat->Bool}:∀{n:Nat}{c:AC}{s s':St}{ax:AX},uo sh c=true->exec call sh n c s=some (ax,s')->uD (rq c) s s'|0,_,_,_,_,_,h=>by cases h|n+1,c,s,s',ax,hm,h=>by cases c with
 |skip=>cases h;exact uD.refl _ _|region ops draw=>simp only[exec]at h;cases hr:gF call sh ops draw s with|none=>grind|some t=>rw[hr]at h;cases h;cases draw with|false=>have g:=Lw hm hr;exact⟨g.mem,g.aI,by have:=g.nv;simp only at this;omega,g.slots⟩|true=>have g:=Lx hm hr;exact⟨g.mem,g.aI,by have:=g.nv;simp only at this;omega,g.slots⟩
 |seq a b=>
  simp[uo,al]at hm;simp[exec]at h;split at h;.rename_i t ht;exact((mN hm.1 ht).mono λk hk=>by simp only[rq,bm];exact .inl hk).trans ((mN hm.2 h).mono λk hk=>by simp only[rq,bm];exact .inr hk)
  .exact(mN hm.1 h).mono λk hk=>by simp only[rq,bm];exact .inl hk|cond c a b=>
  simp[uo,al]at hm;simp[exec]at h;split at h;.exact(mN hm.1 h).mono λk hk=>by simp only[rq,bm];exact .inl hk
  .exact(mN hm.2 h).mono λk hk=>by simp only[rq,bm];exact .inr hk
  grind|block=>cases hm|loop=>cases hm|exit=>cases hm|ret=>cases hm
def Ho:∀(l:List Nat)(t:Tr V2)(k:Nat)(v:V2),(KS l t).get? k=some v->¬k∈l/\t.get? k=some v|[],t,k,v,h=>⟨by simp,h⟩|n::r,t,k,v,h=>by obtain⟨h1,h2⟩:=Ho r _ k v h;rw[Tr.cL]at h2<;>grind
def Lz{ρ:bH}{B:Nat}{m:List (Tr E2)}{t:Ty}{c c':Cell}{x:t.den}{a:AV}(h:IT t c=some x)(h':N5 t x=some c')(hc:RC ρ B m c a):∀{ρ':bH}{B':Nat}{m':List (Tr E2)},RC ρ' B' m' c' a:=by
 unfold IT at h;split at h
 .split at h;.rename_i e _;cases h;subst e;cases h';exact hc
  .cases h
 .cases h;cases h';exact hc
 .cases h;cases h';exact hc
 .cases h
def DO{t:Ty}{m:Nat}{ax:AX}{s2:S2}{x:t.den}(h:KT t m ax s2=some x):ax=.normal/\∃c,s2.slots.get? m=some (.c c)/\IT t c=some x:=by unfold KT at h<;>grind
def DP{ρ:bH}{os:List (Tr AV)}{s2:S2}{s t:St}{l:List Nat}{m:Nat}{y:Cell}(hs:Cf ρ os s2 s)(hm:uD l s t)(hy:∀{ρ':bH}{B':Nat}{m':List (Tr E2)},RC ρ' B' m' y (dW t.slots m)):∃ρ',Cf ρ' os {s2 with slots:=(KS l s2.slots).set m (some (.c y))} t/\Fr ρ s2.nv s.nv ρ' s2.nv:=by
 let ρ':bH:=λv=>if v<s2.nv then ρ v else some (t.nv+(v-s2.nv));have hρ:∀v,v<s2.nv->ρ' v=ρ v:=λv hv=>ba hv;have hρ2:∀v,s2.nv<=v->ρ' v=some (t.nv+(v-s2.nv)):=λv hv=>bi (by omega);have xR:=hm.nv;refine⟨ρ',⟨λk v hk=>?_,hs.outer.mono λ_ _ h=>h.move (gh.refl _ _) (bc _) hρ,?_,λv hv=>?_,⟨λv u hv hu=>?_,λv hv=>hρ2 v hv,λv v' u hu mA=>?_⟩,bc _⟩,λv u hv hu=>.inl ⟨v,hv,by rw[<-hρ v hv];exact hu⟩⟩
 .rw[Tr.cL]at hk;split at hk;.subst_vars;cases hk;exact hy
  .obtain⟨h1,h2⟩:=Ho _ _ _ _ hk;rw[hm.slots k h1];exact(hs.slots k v h2).move (gh.refl _ _) (bc _) hρ
 .rw[hm.mem];refine⟨hs.mem.len,λlv sl e2 he=>?_⟩;obtain⟨e,h1,h2⟩:=hs.mem.fI lv sl e2 he;exact⟨e,h1,RE.mono (bc _) hρ (λ_ _=>RC.move (gh.refl _ _) (bc _) hρ) h2⟩
 .rw[hm.aI];obtain⟨h1,h2⟩:=hs.aI v hv<;>grind
 .rw[hρ v hv]at hu;have:=hs.aq.low v u hv hu;omega
 .by_cases h1:v<s2.nv
  .rw[hρ v h1]at hu;by_cases h2:v'<s2.nv;.rw[hρ v' h2]at mA;exact hs.aq.inj _ _ _ hu mA
   .simp_all;have:=hs.aq.low v u h1 hu<;>omega
  .simp_all;by_cases h2:v'<s2.nv;.rw[hρ v' h2]at mA;have:=hs.aq.low v' u h2 mA<;>omega
   grind
def I7(hE:az Fs E):∀n,Oh Fs (walk E n)
 |0=>λ_ _ _ _ _ _ _ h=>by cases h|n+1=>by
  have ih:=I7 hE n;intro α ctx i c s2 K r h ρ os s hs;simp[walk]at h;have meet:∀{outs:bn}{y:(qg outs).den}{ax:AX}{t2:S2}{ρ':bH}{t:St},oA outs ax t2=some y->Cf ρ' os t2 t->Fr ρ s2.nv s.nv ρ' t2.nv->s.nv<=t.nv->ri outs y K=some r->∃t3 ρ3,Cf ρ3 os t3 t/\Fr ρ s2.nv s.nv ρ3 t3.nv/\K ax t3=some r:=by intro outs y ax t2 ρ' t hy zK hfr hn hk;obtain⟨t3,ρ3,g1,g2,g3⟩:=Ch zK hy;exact⟨t3,ρ3,g1,hfr.trans g2 hn,(g3 K).symm.trans hk⟩
  cases c with
  |skip=>exact⟨.normal,s2,ρ,s,⟨1,λk n _ hn=>by obtain⟨n,rfl⟩:∃q,n=q+1:=⟨n-1,by omega⟩;rfl⟩,hs,Fr.refl _ _ _,bc _,h⟩|exit id=>exact⟨.exit id,s2,ρ,s,⟨1,λk n _ hn=>by obtain⟨n,rfl⟩:∃q,n=q+1:=⟨n-1,by omega⟩;rfl⟩,hs,Fr.refl _ _ _,bc _,h⟩|ret=>exact⟨.ret,s2,ρ,s,⟨1,λk n _ hn=>by obtain⟨n,rfl⟩:∃q,n=q+1:=⟨n-1,by omega⟩;rfl⟩,hs,Fr.refl _ _ _,bc _,h⟩|region ops draw=>
   simp at h;split at h
   .rename_i m _;split at h
    .rename_i DQ;have hsh:E.sh=Ci Fs:=by funext g;simp[ah.sh,Ci,hE.fns]
     rw[hsh]at DQ;obtain⟨y,hy,h⟩:=bind_some h;obtain⟨s',⟨n0,qP⟩,ρ',s3,g2,g3,g4,g5⟩:=I6 ih hE hy hs;obtain⟨_,c',Fl,g5⟩:=DO g5;obtain⟨y',hy',h⟩:=aF h;obtain⟨ρ3,q1,q2⟩:=DP hs (mN (c:=.region ops draw) DQ (qP n0 n0 (bc _) (bc _))) (Lz g5 hy' (show RC _ _ _ c' _ from g2.slots m.1 _ Fl));exact⟨.normal,_,ρ3,s',⟨n0,qP⟩,q1,q2,g4,h⟩
    grind
   split at h;.obtain⟨s',qP,ρ',s3,g2,g3,g4,g5⟩:=I6 ih hE h hs<;>grind
   .obtain⟨y,hy,h⟩:=bind_some h;obtain⟨s',qP,ρ',s3,g2,g3,g4,g5⟩:=I6 ih hE hy hs<;>grind|seq a b=>obtain⟨ax,t2,ρ',t,⟨n0,qP⟩,g2,g3,g4,g5⟩:=ih _ _ _ _ _ _ _ h _ _ _ hs;cases ax with|normal=>obtain⟨ax',t3,ρ3,t',⟨n1,akM⟩,q2,q3,q4,q5⟩:=ih _ _ _ _ _ _ _ g5 _ _ _ g2;refine⟨ax',t3,ρ3,t',⟨max n0 n1+1,λk m hk hm=>?_⟩,q2,g3.trans q3 g4,m9 g4 q4,q5⟩;obtain⟨m,rfl⟩:∃q,m=q+1:=⟨m-1,by omega⟩;simp[exec,qP k m (by omega) (by omega)]<;>grind|exit id=>refine⟨.exit id,t2,ρ',t,⟨n0+1,λk m hk hm=>?_⟩,g2,g3,g4,g5⟩;obtain⟨m,rfl⟩:∃q,m=q+1:=⟨m-1,by omega⟩;simp[exec,qP k m (by omega) (by omega)]|ret=>refine⟨.ret,t2,ρ',t,⟨n0+1,λk m hk hm=>?_⟩,g2,g3,g4,g5⟩;obtain⟨m,rfl⟩:∃q,m=q+1:=⟨m-1,by omega⟩;simp[exec,qP k m (by omega) (by omega)]
  |cond c a b=>
   have way:∀{β:Type}{K':AX->S2->Option β}{r':β},(yq (jR s2 c) λt=>cond t (walk E n β ctx (i+1) a (wI s2 c true) K') (walk E n β ctx (i+1+wH a) b (wI s2 c false) K'))=some r'->
     ∃ax t2 ρ' t,Ev Fs (.cond c a b) s (ax,t)/\Cf ρ' os t2 t/\Fr ρ s2.nv s.nv ρ' t2.nv/\s.nv<=t.nv/\K' ax t2=some r':=by intro β K' r' h;obtain⟨t,ht,h⟩:=sn h;have hb:=sr (bz hs.slots ht);cases t with|true=>
     have xR:(wI s2 c true).nv=s2.nv:=by cases c<;>rfl
     obtain⟨ax,t2,ρ',t,⟨n0,qP⟩,g2,g3,g4,g5⟩:=ih _ _ _ _ _ _ _ h _ _ _ (hs.wI hb);rw[xR]at g3;refine⟨ax,t2,ρ',t,⟨n0+1,λk m hk hm=>?_⟩,g2,g3,g4,g5⟩;obtain⟨m,rfl⟩:∃q,m=q+1:=⟨m-1,by omega⟩;simp[exec,hb]<;>grind|false=>
     have xR:(wI s2 c false).nv=s2.nv:=by cases c<;>rfl
     obtain⟨ax,t2,ρ',t,⟨n0,qP⟩,g2,g3,g4,g5⟩:=ih _ _ _ _ _ _ _ h _ _ _ (hs.wI hb);rw[xR]at g3;refine⟨ax,t2,ρ',t,⟨n0+1,λk m hk hm=>?_⟩,g2,g3,g4,g5⟩;obtain⟨m,rfl⟩:∃q,m=q+1:=⟨m-1,by omega⟩;simp[exec,hb]<;>grind
   simp at h;split at h
   .rename_i m _;split at h
    .rename_i DQ;simp at DQ;have hsh:E.sh=Ci Fs:=by funext g;simp[ah.sh,Ci,hE.fns]
     rw[hsh]at DQ;obtain⟨y,hy,h⟩:=bind_some h;obtain⟨ax,t2,ρ',t,⟨n0,qP⟩,g2,g3,g4,g5⟩:=way hy;obtain⟨rfl,c',Fl,g5⟩:=DO g5;obtain⟨y',hy',h⟩:=aF h;have hmd:uo (Ci Fs) (.cond c a b)=true:=by simp[uo,DQ.1,DQ.2,la]
     obtain⟨ρ3,q1,q2⟩:=DP hs (mN hmd (qP n0 n0 (bc _) (bc _))) (Lz g5 hy' (show RC _ _ _ c' _ from g2.slots m.1 _ Fl));exact⟨.normal,_,ρ3,t,⟨n0,qP⟩,q1,q2,g4,h⟩
    grind
   .split at h;.exact way h
    .obtain⟨y,hy,h⟩:=bind_some h;obtain⟨ax,t2,ρ',t,qP,g2,g3,g4,g5⟩:=way hy<;>grind|block id c=>
   have way:∀{β:Type}{K':AX->S2->Option β}{r':β},(walk E n β ctx (i+1) c s2 λax s'=>match ax with
      |.exit id'=>match Nat.beq id' id with|true=>K' .normal s'|false=>K' (.exit id') s'
      |ax=>K' ax s')=some r'->∃ax t2 ρ' t,Ev Fs (.block id c) s (ax,t)/\Cf ρ' os t2 t/\Fr ρ s2.nv s.nv ρ' t2.nv/\s.nv<=t.nv/\K' ax t2=some r':=by intro β K' r' h;obtain⟨ax,t2,ρ',t,⟨n0,qP⟩,g2,g3,g4,g5⟩:=ih _ _ _ _ _ _ _ h _ _ _ hs;cases ax with|normal=>refine⟨.normal,t2,ρ',t,⟨n0+1,λk m hk hm=>?_⟩,g2,g3,g4,g5⟩;obtain⟨m,rfl⟩:∃q,m=q+1:=⟨m-1,by omega⟩;simp[exec,qP k m (by omega) (by omega)]|ret=>refine⟨.ret,t2,ρ',t,⟨n0+1,λk m hk hm=>?_⟩,g2,g3,g4,g5⟩;obtain⟨m,rfl⟩:∃q,m=q+1:=⟨m-1,by omega⟩;simp[exec,qP k m (by omega) (by omega)]|exit id'=>simp at g5;cases hb:Nat.beq id' id with|true=>rw[hb]at g5;refine⟨.normal,t2,ρ',t,⟨n0+1,λk m hk hm=>?_⟩,g2,g3,g4,g5⟩;obtain⟨m,rfl⟩:∃q,m=q+1:=⟨m-1,by omega⟩;simp[exec,qP k m (by omega) (by omega),hb]|false=>rw[hb]at g5;refine⟨.exit id',t2,ρ',t,⟨n0+1,λk m hk hm=>?_⟩,g2,g3,g4,g5⟩;obtain⟨m,rfl⟩:∃q,m=q+1:=⟨m-1,by omega⟩;simp[exec,qP k m (by omega) (by omega),hb]
   simp at h;split at h;.exact way h
   .obtain⟨y,hy,h⟩:=bind_some h;obtain⟨ax,t2,ρ',t,qP,g2,g3,g4,g5⟩:=way hy<;>grind|loop c=>
   simp at h;split at h;.obtain⟨ax,t2,ρ',t,⟨n0,qP⟩,g2,g3,g4,g5⟩:=ih _ _ _ _ _ _ _ h _ _ _ hs;cases ax with|normal=>obtain⟨ax',t3,ρ3,t',⟨n1,akM⟩,q2,q3,q4,q5⟩:=ih _ _ _ _ _ _ _ g5 _ _ _ g2;refine⟨ax',t3,ρ3,t',⟨max n0 n1+1,λk m hk hm=>?_⟩,q2,g3.trans q3 g4,m9 g4 q4,q5⟩;obtain⟨m,rfl⟩:∃q,m=q+1:=⟨m-1,by omega⟩;simp[exec,qP k m (by omega) (by omega)]<;>grind|exit id=>refine⟨.exit id,t2,ρ',t,⟨n0+1,λk m hk hm=>?_⟩,g2,g3,g4,g5⟩;obtain⟨m,rfl⟩:∃q,m=q+1:=⟨m-1,by omega⟩;simp[exec,qP k m (by omega) (by omega)]|ret=>refine⟨.ret,t2,ρ',t,⟨n0+1,λk m hk hm=>?_⟩,g2,g3,g4,g5⟩;obtain⟨m,rfl⟩:∃q,m=q+1:=⟨m-1,by omega⟩;simp[exec,qP k m (by omega) (by omega)]
   obtain⟨L,hL,h⟩:=aF h;obtain⟨ds,hd,h⟩:=aF h;obtain⟨x,hx,h⟩:=aF h;obtain⟨y,hy,h⟩:=bind_some h;obtain⟨t2,ρ',g1,g2,g3⟩:=Cg hd hs;obtain⟨ax,t3,ρ3,t,q1,q2,q3,q4,q5⟩:=hE.loops ctx _ c L hL x y hy t2 (by rw[dP hx];exact g1) _ _ _ g2;exact⟨ax,t3,ρ3,t,q1,q2,g3.trans q3 (bc _),q4,(q5 K).symm.trans h⟩
def Qp(hE:az Fs E)(N ctx i:Nat)(body:AC)(T:bt)(outs:bn):∀k,U6 Fs body ⟨T,outs,Qb (Dv E N ctx i body T outs) k⟩
 |0=>λx y h=>by cases h|k+1=>by
  have ih:=Qp hE N ctx i body T outs k;intro x y h s2 hst ρ os s hs;obtain⟨s2',akN,h⟩:=aF h;rw[hst]at akN;cases akN;obtain⟨ax,t2,ρ',t,⟨n0,qP⟩,g2,g3,g4,g5⟩:=I7 hE N _ _ _ _ _ _ _ h _ _ _ hs;have leave:∀{ax:AX},ax≠.normal->Ev Fs body s (ax,t)->oA outs ax t2=some y->∃ax s2' ρ' s',Ev Fs (.loop body) s (ax,s')/\Cf ρ' os s2' s'/\Fr ρ s2.nv s.nv ρ' s2'.nv/\s.nv<=s'.nv/\∀{α:Type}(K:AX->S2->Option α),ri outs y K=K ax s2':=by rintro ax UF⟨n0,qP⟩hy;obtain⟨t3,ρ3,q1,q2,q3⟩:=Ch g2 hy;refine⟨ax,t3,ρ3,t,⟨n0+1,λk m hk hm=>?_⟩,q1,g3.trans q2 g4,g4,q3⟩;obtain⟨m,rfl⟩:∃q,m=q+1:=⟨m-1,by omega⟩;simp[exec,qP k m (by omega) (by omega)]<;>grind
  cases ax with|normal=>obtain⟨ds,hd,g5⟩:=aF g5;obtain⟨x',hx,g5⟩:=aF g5;obtain⟨t3,ρ3,q1,q2,q3⟩:=Cg hd g2;obtain⟨ax',t4,ρ4,t',⟨n1,akM⟩,w2,w3,w4,w5⟩:=ih x' y g5 t3 (by simp only;rw[dP hx];exact q1) _ _ _ q2;refine⟨ax',t4,ρ4,t',⟨max n0 n1+1,λk m hk hm=>?_⟩,w2,(g3.trans q3 g4).trans w3 g4,m9 g4 w4,w5⟩;obtain⟨m,rfl⟩:∃q,m=q+1:=⟨m-1,by omega⟩;simp[exec,qP k m (by omega) (by omega)]<;>grind|exit id=>exact leave (λh=>by cases h) ⟨n0,qP⟩ g5|ret=>exact leave (λh=>by cases h) ⟨n0,qP⟩ g5
def hi0(x:Cell):hiC 0 x=true:=by cases x<;>first|rfl|exact Nat.ble_eq.2 (ub _)
def abv{ρ:bH}{B:Nat}{m2:List (Tr E2)}{m:List (Tr bu)}(hm:MR ρ B m2 m){top k lv sl aq:Nat}{c:ia}{x x':Cell}{ks:List (Nat×Nat)}{a:AV}{d:List fW}(hh:hiC top x=true)(h:N0 m2 x=some (x',ks))(hd:vp c x'=some d)(hx:RC ρ B m2 x a):∃y x2,bG m top 0 k lv sl aq a=some (.d y,[])/\(∀rest,c.fill (d++rest)=some (x2,rest))/\∀(ρ:bH)(B:Nat)(m:List (Tr E2)),RC ρ B m x2 (.d y):=by
 have imp:∃y,pG x'=some y/\bG m top 0 k lv sl aq a=some (.d y,[]):=by
  unfold N0 at h;split at h;.cases h;cases hx;exact⟨_,rfl,rfl⟩
  .cases h;cases hx;exact⟨_,rfl,rfl⟩
  .cases h;cases hx;exact⟨_,rfl,rfl⟩
  .cases h;cases hx;exact⟨_,rfl,rfl⟩
  .cases h;rcases(iM (m:=m) hx).2with rfl|⟨o,ho,rfl⟩;.exact⟨_,rfl,rfl⟩
   .exact⟨_,rfl,yC ho⟩
  .cases h
  .rename_i t l o hne;cases h;rcases(js (m:=m) hx).2.2 (λe=>hne e)with rfl|⟨o',ho,rfl⟩;.exact⟨_,rfl,rfl⟩
   .exact⟨_,rfl,yC ho⟩
  .split at h;.rename_i r hr;cases h;have he:=nA hm hx hr;obtain⟨_,u,n,hu,rfl,hn⟩:=hx;refine⟨_,rfl,?_⟩;simp only[hiC]at hh;simp[bG,he,hh,beq_true.2 rfl]
   grind
  .split at h;.rename_i r hr;cases h;have he:=kD hm hx hr (hx.2.choose_spec.2.2 r hr);obtain⟨_,u,hu,rfl,hn⟩:=hx;refine⟨_,rfl,?_⟩;simp only[hiC]at hh;simp[bG,he,hh,beq_true.2 rfl]
   grind
  grind
 obtain⟨y,h1,h2⟩:=imp;obtain⟨x2,h3,h4⟩:=I3 hd h1<;>simp_all
def DS{ρ:bH}{B:Nat}{m2:List (Tr E2)}{m:List (Tr bu)}(hm:MR ρ B m2 m){top lv sl aq:Nat}:∀{cs:List ia}{xs xs':List Cell}{ks:List (Nat×Nat)}{aL:List AV}{d:List fW}{k:Nat},(∀x∈xs,hiC top x=true)->nD m2 xs=some (xs',ks)->gO cs xs'=some d->aD (RC ρ B m2) xs aL->∃as' zM,dN m top 0 lv sl aq k aL=some (as',[])/\(∀rest,dF cs (d++rest)=some (zM,rest))/\as'.all TT=true/\∀(ρ:bH)(B:Nat)(m:List (Tr E2)),aD (RC ρ B m) zM as'
 |cs,[],xs',ks,aL,d,k,_,h,hd,ha=>by cases h;match aL,ha with|[],_=>match cs,hd with|[],hd=>cases hd;exact⟨[],[],rfl,λ_=>rfl,rfl,λ_ _ _=>trivial⟩
 |cs,x::xs,xs',ks,aL,d,k,hh,h,hd,ha=>by
  simp[nD]at h;split at h;.rename_i y k1 ys k2 h1 h2;cases h;match aL,ha with|a::aL,ha=>match cs,hd with
   |[],hd=>simp[gO]at hd|c::cs,hd=>
    simp[gO]at hd;split at hd;.rename_i d1 d2 h5 h6;cases hd;obtain⟨a',x2,g1,g2,g3⟩:=abv hm (k:=k) (lv:=lv) (sl:=sl) (aq:=aq) (hh x cb) h1 h5 ha.1;obtain⟨as',zM,g4,g5,g7,g6⟩:=DS hm (lv:=lv) (sl:=sl) (aq:=aq) (k:=k+1) (λx hx=>hh x (db _ hx)) h2 h6 ha.2;exact⟨.d a'::as',x2::zM,by simp only[dN,g1,g4,dt],λrest=>by simp only[dF,bj,g2,g5],by rw[dC,g7];rfl,λρ B m=>⟨g3 _ _ _,g6 _ _ _⟩⟩
    grind
  grind
def abw{ρ:bH}{B:Nat}{m2:List (Tr E2)}{m:List (Tr bu)}(hm:MR ρ B m2 m){top lv sl aq k:Nat}{b:Bool}{cs:List ia}{xs xs':List Cell}{ks:List (Nat×Nat)}{a:AV}{d:List fW}(hh:∀x∈xs,hiC top x=true)(h:nD m2 xs=some (xs',ks))(hd:gO cs xs'=some d)(ha:R1 ρ B m2 (b,xs) a):∃a' zM,lH m top 0 lv sl aq k a=some (a',[])/\(∀rest,dF cs (d++rest)=some (zM,rest))/\H6 a'=true/\∀(ρ:bH)(B:Nat)(m:List (Tr E2)),R1 ρ B m (b,zM) a':=by cases b with|true=>obtain⟨aL,rfl,ha⟩:=ha;obtain⟨as',zM,g1,g2,g4,g3⟩:=DS hm (k:=k) (lv:=lv) (sl:=sl) (aq:=aq) hh h hd ha;exact⟨.agg as',zM,by simp only[lH,g1,cf],g2,g4,λρ B m=>⟨as',rfl,g3 _ _ _⟩⟩|false=>
 obtain⟨c,rfl,ha⟩:=ha;obtain⟨as',zM,g1,g2,g0,g3⟩:=DS hm (k:=k) (lv:=lv) (sl:=sl) (aq:=aq) (aL:=[a]) hh h hd ⟨ha,trivial⟩;simp[dN]at g1;have hc:=RC.cell ha;split at g1;.rename_i y u ys us h1 h2;cases h2;injection g1 with g1;injection g1 with g4 g5;subst g4;simp at g5;subst g5;have hx:=g3 ρ B m2;match zM,hx with|[x2],_=>refine⟨y,[x2],?_,g2,(by cases y<;>first|rfl|cases g0),λρ B m=>⟨x2,rfl,(g3 ρ B m).1⟩⟩;cases a<;>first|exact h1|cases hc.2.1
 grind
def Hp{ρ:bH}{B:Nat}{m2:List (Tr E2)}{m:List (Tr bu)}(hm:MR ρ B m2 m){top lv sl aq:Nat}:∀{res:List (Bool×List ia)}{vs:List (Bool×List Cell)}{aL:List AV}{ds:List fW}{k:Nat},(∀v∈vs,∀x∈v.2,hiC top x=true)->mI m2 res vs=some ds->aD (R1 ρ B m2) vs aL->∃as' ws,fX m top 0 lv sl aq k aL=some (as',[])/\(∀rest,nS res (ds++rest)=some (ws,rest))/\ws.length=aL.length/\as'.all H6=true/\∀(ρ:bH)(B:Nat)(m:List (Tr E2)),aD (R1 ρ B m) ws as'
 |[],[],aL,ds,k,_,h,ha=>by cases h;match aL,ha with|[],_=>exact⟨[],[],rfl,λ_=>rfl,rfl,rfl,λ_ _ _=>trivial⟩
 |(a,l)::ps,(b,cs)::vs,aL,ds,k,hh,h,ha=>by
  simp[mI]at h;split at h
  .rename_i cs' ks ds2 hab hf hr;obtain⟨d,hd,rfl⟩:=aJ h;have hab:a=b:=by grind
   subst hab;match aL,ha with|x::aL,ha=>obtain⟨a',zM,g1,g2,g8,g3⟩:=abw hm (k:=k) (lv:=lv) (sl:=sl) (aq:=aq) (hh _ cb) hf hd ha.1;obtain⟨as',ws,g4,g5,g6,g9,g7⟩:=Hp hm (lv:=lv) (sl:=sl) (aq:=aq) (k:=k+64) (λv hv=>hh v (db _ hv)) hr ha.2;exact⟨a'::as',(a,zM)::ws,by simp only[fX,g1,g4,dt],λrest=>by simp only[nS,bj,g2,g5],by simp[g6],by rw[dC,g8,g9];rfl,λρ B m=>⟨g3 _ _ _,g7 _ _ _⟩⟩
  grind|[],_::_,_,_,_,_,h,_=>by simp[mI]at h|_::_,[],_,_,_,_,h,_=>by simp[mI]at h
def abx{ρ:bH}{B:Nat}{m2:List (Tr E2)}{m:List (Tr bu)}(hm:MR ρ B m2 m){top lv sl aq:Nat}{res:List (Bool×List ia)}{vs:List (Bool×List Cell)}{aL:List AV}{ds:List fW}(hh:∀v∈vs,∀x∈v.2,hiC top x=true)(h:mI m2 res vs=some ds)(ha:aD (R1 ρ B m2) vs aL){ws:List (Bool×List Cell)}{w:V2}(hw:nS res ds=some (ws,[]))(ht:qI ws=some w):∃a',gY m top 0 lv sl aq (jv aL)=some (a',[])/\aeH a'=true/\∀(ρ:bH)(B:Nat)(m:List (Tr E2)),RV ρ B m w a':=by obtain⟨as',Fq,g1,g2,g3,g0,g4⟩:=Hp hm (lv:=lv) (sl:=sl) (aq:=aq) (k:=1) hh h ha;have FG:=g2 [];rw[dt,hw]at FG;cases FG;match aL,ha,g1,g3 with
 |[],_,g1,g3=>match ws,g3 with|[],_=>cases ht;exact⟨.fu [],rfl,rfl,λ_ _ _=>⟨[],rfl,trivial⟩⟩
 |[a],ha,g1,g3=>match ws,g3 with
  |[(b,cs)],_=>
   simp[fX]at g1;split at g1
   .rename_i y u ys us h1 h2;cases h2;injection g1 with g1;injection g1 with g5 g6;subst g5;simp at g6;subst g6;simp at g0;refine⟨y,?_,(by cases y<;>first|exact g0|cases g0),λρ B m=>?_⟩;.match vs,ha with|[(b',cs')],ha=>have hn:=R1.fY ha.1;cases a<;>first|exact h1|cases hn
    .have hx:=(g4 ρ B m).1;cases b with|true=>obtain⟨bs,rfl,g7⟩:=hx;cases ht;exact⟨bs,rfl,g7⟩|false=>obtain⟨c,rfl,g7⟩:=hx;cases ht;exact g7
   grind
 |a::b::aL,ha,g1,g3=>match ws,g3 with|x::y::ws,_=>cases ht;exact⟨.fu as',by simp only[jv,gY,g1,cf],g0,λρ B m=>⟨as',rfl,g4 _ _ _⟩⟩
def Vj{ρ:bH}{B:Nat}{m2:List (Tr E2)}{m:List (Tr bu)}(hm:MR ρ B m2 m){k lv sl aq p row rk:Nat}(h0:rk≠0)(Hq:row%65536=rk)(qF:row/65536≠0)(Bi:row%65536≠65535){c:ia}{x x':Cell}{ks:List (Nat×Nat)}{a:AV}{d:List fW}(hk:N4 m2 rk k x=true)(h:N0 m2 x=some (x',ks))(hd:vp c x'=some d)(hx:RC ρ B m2 x a):∃x2,(∀rest,c.fill (d++rest)=some (x2,rest))/\∀x3 us,GM rk lv sl aq k x2=some (x3,us)->(∀u∈us,row/65536=u.t.size)->∃a',bG m 0 row k lv sl p a=some (a',us.map λu=>bF u.t u.l)/\∀(ρ:bH)(B:Nat)(m:List (Tr E2)),lX ρ B m lv sl aq p us->RC ρ B m x3 a':=by
 have hrow:Nat.beq row 0=false:=beq_false.2 (by intro e;subst e;simp at qF);have hsz:(!Nat.beq (row/65536) 0)=true:=by rw[beq_false.2 qF];rfl
 have fin:∀{y:D},pG x'=some y->∃x2,(∀rest,c.fill (d++rest)=some (x2,rest))/\∀(ρ:bH)(B:Nat)(m:List (Tr E2)),RC ρ B m x2 (.d y):=by
  intro y hy;unfold vp at hd;split at hd
  .split at hd;.cases hd;cases hy;exact⟨_,λ_=>rfl,λ_ _ _=>rfl⟩
   .cases hd
  .cases hd;cases hy;exact⟨_,λ_=>rfl,λ_ _ _=>rfl⟩
  .cases hd;cases hy;exact⟨_,λ_=>rfl,λ_ _ _=>rfl⟩
  .cases hd;cases hy;exact⟨_,λ_=>rfl,λ_ _ _=>.inl rfl⟩
  .cases hd;cases hy;exact⟨_,λ_=>rfl,λ_ _ _=>.inl rfl⟩
  .cases hd
 have off:k≠rk->(∃y,pG x'=some y/\bG m 0 row k lv sl p a=some (.d y,[]))->∃x2,(∀rest,c.fill (d++rest)=some (x2,rest))/\∀x3 us,GM rk lv sl aq k x2=some (x3,us)->(∀u∈us,row/65536=u.t.size)->∃a',bG m 0 row k lv sl p a=some (a',us.map λu=>bF u.t u.l)/\∀(ρ:bH)(B:Nat)(m:List (Tr E2)),lX ρ B m lv sl aq p us->RC ρ B m x3 a':=by rintro hne⟨y,h1,h2⟩;obtain⟨x2,h3,h4⟩:=fin h1;refine⟨x2,h3,λx3 us hp _=>?_⟩;simp[GM,beq_false.2 hne,fw,eK]at hp;obtain⟨rfl,rfl⟩:=hp;exact⟨_,h2,λ_ _ _ _=>h4 _ _ _⟩
 have nk:(!Nat.beq k rk)=true->k≠rk:=by intro h e;rw[e,beq_true.2 rfl]at h;cases h
 have adH:oE 0 row=false:=by unfold oE;cases Nat.beq row 0<;>rfl
 have own:k≠rk->∀{els:List (List D)}{o:Own},o≠.bD->bG m 0 row k lv sl p (.own els o)=some (.d (.sl els),[]):=by intro hne els o ho;cases o with|bD=>exact absurd rfl ho|cU=>simp[bG,adH]|full=>simp[bG,Hq,beq_false.2 hne,io,adH,beq_false.2 (show rk≠65535by rw[<-Hq];exact Bi),At]
 unfold N0 at h;split at h;.cases h;cases hx;exact off (nk hk) ⟨_,rfl,rfl⟩
 .cases h;cases hx;exact off (nk hk) ⟨_,rfl,rfl⟩
 .cases h;cases hx;exact off (nk hk) ⟨_,rfl,rfl⟩
 .cases h;cases hx;exact off (nk hk) ⟨_,rfl,rfl⟩
 .rename_i f;cases h;cases f with|false=>
   rcases(iM (m:=m) hx).2with rfl|⟨o,ho,rfl⟩;.exact off (nk hk) ⟨_,rfl,rfl⟩
   .exact off (nk hk) ⟨_,rfl,own (nk hk) ho⟩|true=>
   subst hx;by_cases hne:k=rk
   .subst hne;have hc:∃t,c=.sl t .d/\d=[⟨.sl t,[]⟩]:=by cases c with
     |sl t o=>cases o<;>first|(injection hd with hd;exact⟨t,rfl,hd.symm⟩)|cases hd
     |_=>cases hd
    obtain⟨t,rfl,rfl⟩:=hc
    .refine⟨.sl t [] .d,λ_=>rfl,λx3 us hp hu=>?_⟩;simp[GM,beq_true.2 rfl,fw,eK]at hp;obtain⟨rfl,rfl⟩:=hp;have hu:=hu _ (ca.2 rfl);refine⟨.ref lv sl p 0 0 (row/65536),?_,λρ B m hf=>⟨hf.1,p,0,hf.2.1,by rw[hu],λr hr=>?_⟩⟩;.simp[bG,Hq,hsz,beq_true.2 rfl,la];rfl
     .have:=hf.2.2 _ (ca.2 rfl) r hr;simpa using this.symm
   .exact off hne ⟨_,rfl,own hne (λh=>by cases h)⟩
 .cases h
 .rename_i t l o hne;cases h;rcases(js (m:=m) hx).2.2 (λe=>hne e)with rfl|⟨o',ho,rfl⟩;.exact off (nk hk) ⟨_,rfl,rfl⟩
  .exact off (nk hk) ⟨_,rfl,own (nk hk) ho⟩
 .rename_i cC cW gD t;split at h
  .rename_i r hr;cases h;have he:=nA hm hx hr;obtain⟨_,u,n,hu,rfl,hn⟩:=hx;simp only[N4,hr,al]at hk;obtain⟨hk1,hk2⟩:=hk;have hk1:=beq_true.1 hk1;have hk2:=beq_true.1 hk2;subst hk1;obtain⟨e,g1,g2⟩:=hm.fI _ _ _ (cY hr);obtain⟨_,u',g3,rfl⟩:=g2;rw[hu]at g3;cases g3;have hat:bL.rowAt m cC cW u=some (bF r.t r.l):=by unfold bL.rowAt;rw[g1];simp[beq_true.2 rfl]
   have hc:∃t0,c=.sl t0 .d/\d=[⟨.sl r.t,r.l⟩]:=by cases c with
    |sl t o=>cases o<;>first|(injection hd with hd;exact⟨t,rfl,hd.symm⟩)|cases hd
    |_=>cases hd
   obtain⟨t0,rfl,rfl⟩:=hc
   .refine⟨.sl r.t r.l .d,λ_=>rfl,λx3 us hp hu=>?_⟩;simp[GM,beq_true.2 rfl,fw,eK]at hp;obtain⟨rfl,rfl⟩:=hp;refine⟨.ref lv sl p 0 n t.size,?_,λρ B m hf=>⟨hf.1,p,n,hf.2.1,by rw[hk2],λr' hr'=>?_⟩⟩;.simp[bG,he,hrow,Hq,beq_true.2 rfl,hat];rfl
    .rw[hf.2.2 _ (ca.2 rfl) r' hr'];exact hn r hr
  .cases h
 .cases hk
 .cases h
def zN{ρ:bH}{B:Nat}{m2:List (Tr E2)}{m:List (Tr bu)}(hm:MR ρ B m2 m){lv sl aq p row rk:Nat}(h0:rk≠0)(Hq:row%65536=rk)(qF:row/65536≠0)(Bi:row%65536≠65535):∀{cs:List ia}{xs xs':List Cell}{ks:List (Nat×Nat)}{aL:List AV}{d:List fW}{k:Nat},aa9 m2 rk k xs=true->nD m2 xs=some (xs',ks)->gO cs xs'=some d->aD (RC ρ B m2) xs aL->∃zM,(∀rest,dF cs (d++rest)=some (zM,rest))/\∀JO us,um rk lv sl aq k zM=some (JO,us)->(∀u∈us,row/65536=u.t.size)->∃as',dN m 0 row lv sl p k aL=some (as',us.map λu=>bF u.t u.l)/\∀(ρ:bH)(B:Nat)(m:List (Tr E2)),lX ρ B m lv sl aq p us->aD (RC ρ B m) JO as'
 |cs,[],xs',ks,aL,d,k,_,h,hd,ha=>by cases h;match aL,ha with|[],_=>match cs,hd with|[],hd=>cases hd;refine⟨[],λ_=>rfl,λJO us hp _=>?_⟩;cases hp;exact⟨[],rfl,λ_ _ _ _=>trivial⟩|_::_,hd=>simp[gO]at hd
 |cs,x::xs,xs',ks,aL,d,k,hk,h,hd,ha=>by
  simp[aa9,al]at hk;simp[nD]at h;split at h;.rename_i y k1 ys k2 h1 h2;cases h;match aL,ha with|a::aL,ha=>match cs,hd with
   |[],hd=>simp[gO]at hd|c::cs,hd=>
     simp[gO]at hd;split at hd
     .rename_i d1 d2 h5 h6;cases hd;obtain⟨x2,g2,g3⟩:=Vj hm (k:=k) (lv:=lv) (sl:=sl) (aq:=aq) (p:=p) h0 Hq qF Bi hk.1 h1 h5 ha.1;obtain⟨zM,g5,g6⟩:=zN hm (lv:=lv) (sl:=sl) (aq:=aq) (p:=p) h0 Hq qF Bi (k:=k+1) hk.2 h2 h6 ha.2;refine⟨x2::zM,λrest=>by simp only[dF,bj,g2,g5],λJO us hp hu=>?_⟩;simp[um]at hp;split at hp;.rename_i z u1 zs u2 p1 p2;cases hp;obtain⟨a',q1,q2⟩:=g3 _ _ p1 (λu h=>hu u (dp _ h));obtain⟨as',q3,q4⟩:=g6 _ _ p2 (λu h=>hu u (du _ h));exact⟨a'::as',by simp only[dN,q1,q3,gc],λρ B m hf=>⟨q2 _ _ _ ⟨hf.1,hf.2.1,λu h=>hf.2.2 u (dp _ h)⟩,q4 _ _ _ ⟨hf.1,hf.2.1,λu h=>hf.2.2 u (du _ h)⟩⟩⟩
      grind
     grind
  grind
def Sc{m:List (Tr bu)}{row lv sl p k:Nat}{a:AV}(h:jT a=true)(h2:bL.fY a=true):lH m 0 row lv sl p k a=bG m 0 row k lv sl p a:=by cases a<;>first|rfl|cases h
def DT{ρ:bH}{B:Nat}{m2:List (Tr E2)}{m:List (Tr bu)}(hm:MR ρ B m2 m){lv sl aq p row rk:Nat}(h0:rk≠0)(Hq:row%65536=rk)(qF:row/65536≠0)(Bi:row%65536≠65535):∀{res:List (Bool×List ia)}{vs:List (Bool×List Cell)}{aL:List AV}{ds:List fW}{k:Nat},GL m2 rk k vs=true->mI m2 res vs=some ds->aD (R1 ρ B m2) vs aL->∃ws,(∀rest,nS res (ds++rest)=some (ws,rest))/\ws.length=aL.length/\∀Fq us,GN rk lv sl aq k ws=some (Fq,us)->(∀u∈us,row/65536=u.t.size)->∃as',fX m 0 row lv sl p k aL=some (as',us.map λu=>bF u.t u.l)/\Fq.length=aL.length/\∀(ρ:bH)(B:Nat)(m:List (Tr E2)),lX ρ B m lv sl aq p us->aD (R1 ρ B m) Fq as'
 |[],[],aL,ds,k,_,h,ha=>by cases h;match aL,ha with|[],_=>refine⟨[],λ_=>rfl,rfl,λFq us hp _=>?_⟩;cases hp;exact⟨[],rfl,rfl,λ_ _ _ _=>trivial⟩
 |(a,l)::ps,(b,cs)::vs,aL,ds,k,hk,h,ha=>by
  simp[GL,al]at hk;simp[mI]at h;split at h
  .rename_i cs' ks ds2 hab hf hr;obtain⟨d,hd,rfl⟩:=aJ h;have hab:a=b:=by grind
   subst hab;match aL,ha with
   |x::aL,ha=>
    obtain⟨ws,g5,g6,g7⟩:=DT hm (lv:=lv) (sl:=sl) (aq:=aq) (p:=p) h0 Hq qF Bi (k:=k+64) hk.2 hr ha.2;have one:∃zM,(∀rest,dF l (d++rest)=some (zM,rest))/\∀JO us,um rk lv sl aq k zM=some (JO,us)->(∀u∈us,row/65536=u.t.size)->∃a',lH m 0 row lv sl p k x=some (a',us.map λu=>bF u.t u.l)/\∀(ρ:bH)(B:Nat)(m:List (Tr E2)),lX ρ B m lv sl aq p us->R1 ρ B m (a,JO) a':=by cases a with|true=>obtain⟨as2,rfl,ha2⟩:=ha.1;obtain⟨zM,q1,q2⟩:=zN hm (k:=k) (lv:=lv) (sl:=sl) (aq:=aq) (p:=p) h0 Hq qF Bi hk.1 hf hd ha2;refine⟨zM,q1,λJO us hp hu=>?_⟩;obtain⟨as',q3,q4⟩:=q2 JO us hp hu;exact⟨.agg as',by simp only[lH,q3,cf],λρ B m hf=>⟨as',rfl,q4 _ _ _ hf⟩⟩|false=>
      obtain⟨c,rfl,ha2⟩:=ha.1;obtain⟨zM,q1,q2⟩:=zN hm (k:=k) (lv:=lv) (sl:=sl) (aq:=aq) (p:=p) h0 Hq qF Bi (aL:=[x]) hk.1 hf hd ⟨ha2,trivial⟩;refine⟨zM,q1,λJO us hp hu=>?_⟩;obtain⟨as',q3,q4⟩:=q2 JO us hp hu;have hc:=RC.cell ha2;simp[dN]at q3;split at q3
      .rename_i y u ys us' h1 h2;cases h2;simp at q3;obtain⟨rfl,rfl⟩:=q3;have hlen:∃x3,JO=[x3]:=by
        have hq:=q1 [];have h1:∀{l:List ia}{d:List fW}{xs:List Cell},dF l d=some (xs,[])->xs.length=l.length:=by intro l;induction l with|nil=>intro d xs h;cases h;rfl|cons c l ih=>intro d xs h;simp[dF]at h<;>grind
        have h2:∀{k:Nat}{xs JO:List Cell}{us:List SL},um rk lv sl aq k xs=some (JO,us)->JO.length=xs.length:=by intro k xs;induction xs generalizing k with|nil=>intro JO us h;simp[um,fw,eK]at h<;>grind|cons c l ih=>intro JO us h;simp[um]at h<;>grind
        have h3:l.length=1:=by
         have zg:∀{cs:List ia}{xs:List Cell}{d:List fW},gO cs xs=some d->cs.length=xs.length:=by intro cs;induction cs with
          |nil=>intro xs d h;cases xs with|nil=>rfl|cons _ _=>simp[gO]at h
          |cons c cs ih=>intro xs d h;cases xs with|nil=>simp[gO]at h|cons x xs=>simp[gO]at h<;>grind
         simp[nD]at hf<;>grind
        have:=h2 hp;rw[h1 hq,h3]at this;match JO,this with|[x3],_=>grind
       obtain⟨x3,rfl⟩:=hlen;exact⟨y,by rw[Sc hc.2.1 hc.2.2];exact h1,λρ B m hf=>⟨x3,rfl,(q4 _ _ _ hf).1⟩⟩
      grind
    obtain⟨zM,q1,q2⟩:=one;refine⟨(a,zM)::ws,λrest=>by simp only[nS,bj,q1,g5],by simp[g6],λFq us hp hu=>?_⟩;simp[GN]at hp;split at hp;.rename_i z u1 zs u2 p1 p2;cases hp;obtain⟨a',q3,q4⟩:=q2 _ _ p1 (λu h=>hu u (dp _ h));obtain⟨as',q5,q6,q7⟩:=g7 _ _ p2 (λu h=>hu u (du _ h));exact⟨a'::as',by simp only[fX,q3,q5,gc],by simp[q6],λρ B m hf=>⟨q4 _ _ _ ⟨hf.1,hf.2.1,λu h=>hf.2.2 u (dp _ h)⟩,q7 _ _ _ ⟨hf.1,hf.2.1,λu h=>hf.2.2 u (du _ h)⟩⟩⟩
    grind
  grind|[],_::_,_,_,_,_,h,_=>by simp[mI]at h|_::_,[],_,_,_,_,h,_=>by simp[mI]at h
def Vk{ρ:bH}{B:Nat}{m2:List (Tr E2)}{m:List (Tr bu)}(hm:MR ρ B m2 m){lv sl aq p row rk:Nat}(h0:rk≠0)(Hq:row%65536=rk)(qF:row/65536≠0)(Bi:row%65536≠65535){res:List (Bool×List ia)}{vs ws Fq:List (Bool×List Cell)}{aL:List AV}{ds:List fW}{us:List SL}{w:V2}(hk:GL m2 rk 1 vs=true)(h:mI m2 res vs=some ds)(ha:aD (R1 ρ B m2) vs aL)(hw:nS res ds=some (ws,[]))(hp:GN rk lv sl aq 1 ws=some (Fq,us))(hu:∀u∈us,row/65536=u.t.size)(ht:qI Fq=some w):∃a',gY m 0 row lv sl p (jv aL)=some (a',us.map λu=>bF u.t u.l)/\∀(ρ:bH)(B:Nat)(m:List (Tr E2)),lX ρ B m lv sl aq p us->RV ρ B m w a':=by obtain⟨ws1,g2,g3,g4⟩:=DT hm (lv:=lv) (sl:=sl) (aq:=aq) (p:=p) h0 Hq qF Bi (k:=1) hk h ha;have FG:=g2 [];rw[dt,hw]at FG;cases FG;obtain⟨as',g1,g5,g6⟩:=g4 _ _ hp hu;match aL,ha,g1,g5 with
 |[],_,g1,g5=>match Fq,g5 with|[],_=>cases ht;simp only[fX,fw,eK]at g1;obtain⟨rfl,g7⟩:=g1;exact⟨.fu [],by simp only[jv,gY,fX,cf];rw[<-g7],λ_ _ _ _=>⟨[],rfl,trivial⟩⟩
 |[a],ha,g1,g5=>match Fq,g5 with
  |[(b,cs)],_=>
   simp[fX]at g1;split at g1
   .rename_i y u ys us' h1 h2;cases h2;simp at g1;obtain⟨rfl,rfl⟩:=g1;refine⟨y,?_,λρ B m hf=>?_⟩;.match vs,ha with|[(b',cs')],ha=>have hn:=R1.fY ha.1;cases a<;>first|exact h1|cases hn
    .have hx:=(g6 ρ B m hf).1;cases b with|true=>obtain⟨bs,rfl,g7⟩:=hx;cases ht;exact⟨bs,rfl,g7⟩|false=>obtain⟨c,rfl,g7⟩:=hx;cases ht;exact g7
   grind
 |a::b::aL,ha,g1,g5=>match Fq,g5 with|x::y::Fq,_=>cases ht;exact⟨.fu as',by simp only[jv,gY,g1,cf],λρ B m hf=>⟨as',rfl,g6 _ _ _ hf⟩⟩
def aby{f:Nat}{fn:qA}{aL:List AV}{Nk:List AV}{mem:List (Tr bu)}{nv n0:Nat}{ax:AX}{t:St}(hf:Fs f=some fn)(hnp:Nat.beq aL.length fn.np=true)(UF:∀id,ax≠.exit id)(q1:ke t fn.res=some Nk)(qP:∀k n,n0<=k->n0<=n->exec (ga Fs k) (Ci Fs) n fn.body {slots:=eA 0 aL .lf,mem,aI:=.lf,nv}=some (ax,t)):∀n,n0+1<=n->ga Fs n f aL mem .lf nv=some (jv Nk,t.mem,t.aI,t.nv):=by intro n hn;obtain⟨n,rfl⟩:∃k,n=k+1:=⟨n-1,by omega⟩;simp[ga,hf,hnp];have:=qP n n (by omega) (by omega);unfold Ci at this;cases ax with|normal=>grind|ret=>grind|exit id=>grind
def adI(hE:az Fs E)(N f:Nat)(args:List vo)(ta:List Ty)(res:List (Bool×List ia))(tr:List Ty)(rk:Nat):rD Fs f ⟨args,ta,res,tr,rk,adE E N f args ta res tr rk⟩:=by
 intro x y h;obtain⟨fn,hf,h⟩:=aF h;rw[hE.fns]at hf;split at h
 .rename_i vs hvs;split at h
  .rename_i hnp;refine⟨vs,hvs,λaL has=>?_⟩;let ρ:bH:=λv=>some v;have start:Cf ρ [] {slots:=lB 0 vs .lf,outer:=[],mem:=[.lf],aI:=.lf,nv:=0} {slots:=eA 0 aL .lf,mem:=[.lf],aI:=.lf,nv:=0}:=by
    refine⟨yD (has.mono λ_ _=>RV.move (λ_ _ _ _ h=>absurd h (by omega)) (bc _) λ_ h=>absurd h (by omega)),trivial,⟨rfl,λlv sl e he=>?_⟩,λv hv=>?_,⟨λv u hv=>?_,λv _=>?_,λv v' u h h'=>?_⟩,bc _⟩;.have:=uB 1 lv sl<;>grind
    .simp at hv
    .grind
    .grind
    grind
   obtain⟨ax,t2,ρ',t,⟨n0,qP⟩,g2,g3,g4,g5⟩:=I7 hE N _ _ _ _ _ _ _ h _ _ _ start;have UF:∀id,ax≠.exit id:=by grind
   have g5:(GO t2 fn.res λvs=>match afw t2.mem rk vs&&!Nat.beq rk 65535with|true=>cI (mI t2.mem res vs) λds=>pack tr ds|false=>none)=some y:=by grind
   obtain⟨vs1,Nk,q1,q2,g5⟩:=DK g2.mem g2.slots g5;split at g5;case h_2=>cases g5
   rename_i B2;simp at B2;obtain⟨B2,Bi⟩:=B2;have Bi:rk≠65535:=by intro e;simp_all
   obtain⟨ds,q3,q4⟩:=aF g5;refine⟨n0+1,jv Nk,t.mem,t.aI,t.nv,λn hn=>?_,λws yo=>⟨λ_ w hw lv sl aR=>?_,λrow lv sl aq p Fq us w h0 Hq qF hp hu hw=>?_⟩⟩;.exact aby hf (by rw[<-has.length];exact hnp) UF q1 qP n hn
   .rw[dP q4]at yo;obtain⟨a',p1,_,p2⟩:=abx (top:=0) g2.mem (λ_ _ _ _=>hi0 _) q3 q2 yo hw;exact⟨a',p1,p2⟩
   .rw[dP q4]at yo;have B2:GL t2.mem rk 1 vs1=true:=by unfold afw at B2;rw[beq_false.2 h0]at B2<;>omega
    exact Vk g2.mem h0 Hq qF (by rw[Hq];exact Bi) B2 q3 q2 yo hp hu hw
  grind
 grind
end
end Go.Sym
namespace Go.bL
open Go Go.RowKit
def cx0(w:World):Cx:={w,F:=λ_ _=>False,ρ:=λ_=>none,old:=λb=>b<w.heap.size}
def abz(w:World)(hg:(∀b,Nr b->b<w.heap.size)/\gok w)(m:List (Tr bu))(hm:∀lv sl,aG m lv sl=none):aH (cx0 w) m .lf where
 fI lv sl e he:=by rw[hm]at he;cases he
 aI v hv:=by simp at hv
 apart k k' v v' L L' a b:=by
  rcases a with⟨_,_,_,_,he,_⟩|⟨_,he⟩;.rw[hm]at he;cases he
  .simp at he
 nH b o h:=h.elim;p8:=⟨λ_ h=>h,hg.1,hg.2⟩
def zO(lv sl:Nat):aG [.lf] lv sl=none:=by unfold aG;cases lv<;>simp
def afJ{P:Program}{dy:Nat->Option TypeId}{md:Nat->Mode}{Fs:Nat->Option qA}{n f:Nat}(hm:P.follows .mixedOrders=true)(iy:∀f T,dy f=some T->kA P f T)(FB:∀f fn,Fs f=some fn->Q9 P dy md f=some fn)(h:(aat Fs n f [] [.lf] .lf 0).map (·.1)=some (.d (.sc (.bool true))))(w:World)(hg:(∀b,Nr b->b<w.heap.size)/\gok w):Calls P f #[] w λe w'=>e=.returned (.bool true)/\Below w.heap.size w w':=by obtain⟨⟨r,m,t,v⟩,hr,he⟩:=aJ h;obtain⟨_,hc⟩:=P3 hm iy FB n f [] [.lf] .lf 0 r m t v hr (cx0 w) #[] (abz w hg _ zO) (λ_ _=>rfl) trivial;refine hc.mono ?_;rintro e w'⟨Y,u,rfl,rfl,hx,hv,_⟩;subst he;cases hv;exact⟨rfl,hx.below.toBelow⟩
def DU:List (Nat×qA)->Nat->Option qA|[],_=>none|(g,fn)::r,f=>match Nat.beq g f with|true=>some fn|false=>DU r f
inductive yE(P:Program)(dy:Nat->Option TypeId)(md:Nat->Mode):List (Nat×qA)->Prop where|nil:yE P dy md []|cons{g:Nat}{fn:qA}{r:List (Nat×qA)}:Q9 P dy md g=some fn->yE P dy md r->yE P dy md ((g,fn)::r)
def Vl{P:Program}{dy:Nat->Option TypeId}{md:Nat->Mode}{l:List (Nat×qA)}(h:yE P dy md l):∀f fn,DU l f=some fn->Q9 P dy md f=some fn:=by induction h with|nil=>intro f fn h;cases h|@cons g fn' r h1 _ ih=>intro f fn h;simp[DU]at h;split at h<;>simp_all
end Go.bL
namespace Go.Sym
open Go Go.bL Go.RowKit
mutual def rP.ok:rP->Prop|.mk k i s l _=>(IntKind.u8.min<=k/\k<=IntKind.u8.max)/\(IntKind.i64.min<=i/\i<=IntKind.i64.max)/\s.length<=maxLen/\l.length<=maxLen/\rP.oks l def rP.oks:List rP->Prop|[]=>True|v::r=>rP.ok v/\rP.oks r end
def Ty.ok:(t:Ty)->t.den->Prop|.val,v=>rP.ok v|.int k,a=>k.min<=a/\a<=k.max|.bool,_=>True|.str,s=>s.length<=maxLen|.sl t,l=>l.length<=maxLen/\∀x∈l,Ty.ok t x|.unit,_=>True|.prod a b,x=>Ty.ok a x.1/\Ty.ok b x.2|.sum a b,x=>match x with|.inl y=>Ty.ok a y|.inr y=>Ty.ok b y
def rP.I8:∀{l:List rP},rP.oks l↔∀v∈l,rP.ok v|[]=>by simp[rP.oks]|v::r=>by simp[rP.oks,rP.I8 (l:=r)]
mutual def tyP(P:Program)(rv:Option TypeId):Nat->TypeId->Option Ty|0,_=>none|n+1,t=>if rv=some t then some .val else match P.underlying t with
 |some .bool=>some .bool|some (.int k)=>some (.int k)|some .string=>some .str|some (.slice e)=>match tyP P rv n e with|some T=>if 0<P.cellsOf e/\T.size=P.cellsOf e then some (.sl T)else none|none=>none
 |some (.struct fs)=>match tyF P rv n 0 fs.toList with|some (Ts,k)=>if k=P.cellsOf t then some (td Ts)else none|none=>none
 |some (.array m e)=>match tyP P rv n e with|some T=>if T.size=P.cellsOf e/\m*P.cellsOf e=P.cellsOf t then some (td (List.replicate m T))else none|none=>none
 |_=>none def tyF(P:Program)(rv:Option TypeId):Nat->Nat->List Field->Option (List Ty×Nat)|_,off,[]=>some ([],off)|0,_,_::_=>none|n+1,off,f::r=>match tyP P rv n f.type,tyF P rv n (off+P.cellsOf f.type) r with|some T,some (Ts,k)=>if f.offset=off/\T.size=P.cellsOf f.type then some (T::Ts,k)else none|_,_=>none end
def Sd(P:Program)(rv:Option TypeId):Prop:=∀t,rv=some t->∃fs n,P.underlying t=some (.struct fs)/\tyF P rv n 0 fs.toList=some ([.int .u8,.int .i64,.str,.sl .val,.bool],5)/\P.cellsOf t=5
section
variable{H:Type}{enc:TypeId×Value->H}{P:Program}{w:World}{base:Nat}{sp:Nat->Bool}{held:Bool}{rv:Option TypeId}
def I9(ps:List MemPlace):Nat->Nat->Prop:=λb o=>MemPlace.cell b o∈ps
def mapM_some{α β:Type}{f:α->Option β}:∀{l:List α}{r:List β},l.mapM f=some r->r.length=l.length/\∀(i:Nat)(x:α),l[i]?=some x->∃y,r[i]?=some y/\f x=some y|[],r,h=>by grind|a::l,r,h=>by simp at h;obtain⟨y,h1,h⟩:=aV h;obtain⟨ys,h2,h⟩:=aV h;obtain⟨h3,h4⟩:=mapM_some h2<;>grind
def Vm{a:Addr}{n:Nat}{v:Value}(h:w.cell? (a.add n)=some v):w.cell? ⟨a.block,a.off+n,none⟩=some v/\(n=0->a.spot=none):=by
 unfold Addr.add at h;split at h
 .have hs:a.spot=none:=by unfold World.cell? at h;split at h<;>simp_all
  obtain⟨b,o,sp⟩:=a<;>grind
 grind
def LA{α β:Type}{Q:Nat->α->β->Prop}:∀{l:List α},(∀(i:Nat)(x:α),l[i]?=some x->∃y,Q i x y)->∃r:List β,r.length=l.length/\∀(i:Nat)(x:α),l[i]?=some x->∃y,r[i]?=some y/\Q i x y:=by intro l h;classical have:∀i:Fin l.length,∃y,Q i l[i] y:=λi=>h i _ (aw i.2);let f:Fin l.length->β:=λi=>Classical.choose (this i);refine⟨List.ofFn f,by simp,λi x hi=>?_⟩<;>grind
def Vn(x:(td [.int .u8,.int .i64,.str,.sl .val,.bool]).den):fm .val (.mk x.1 x.2.1 x.2.2.1 x.2.2.2.1 x.2.2.2.2)=fm (td [.int .u8,.int .i64,.str,.sl .val,.bool]) x:=by simp[fm,NZ,ru]
def uE{α β:Type}{R:α->β->Prop}{l:List α}{m:List β}{n k:Nat}(h:aD R l ((m.drop n).take k)){l':List α}{j:Nat}(h':aD R l' ((m.drop (n+k)).take j)):aD R (l++l') ((m.drop n).take (k+j)):=by have:=h.append h';rw[List.take_add,List.drop_drop];exact this
def LB{T:Ty}{R:D->Value->Prop}{cs:List Value}{c:Nat}:∀(m off:Nat),(∀i,i<m->∃x:T.den,T.ok x/\aD R (fm T x) ((cs.drop (off+i*c)).take c))->∃x:(td (List.replicate m T)).den,(td (List.replicate m T)).ok x/\aD R (fm (td (List.replicate m T)) x) ((cs.drop off).take (m*c))
 |0,off,_=>⟨(),trivial,by simp[fm,aD]⟩|1,off,h=>by simp_all|m+2,off,h=>by
  obtain⟨x,ox,hx⟩:=h 0 (by omega);simp at hx;obtain⟨z,oz,hz⟩:=LB (m+1) (off+c) λi hi=>by have:=h (i+1) (by omega);rwa[show off+(i+1)*c=off+c+i*c by rw[d9,Do];omega]at this
  refine⟨(x,z),⟨ox,oz⟩,?_⟩;have hj:=uE hx hz;rw[show c+(m+1)*c=(m+2)*c by rw[d9,d9];omega]at hj;exact hj
def Hr(Qq:Sd P rv):∀(fuel:Nat)(t:TypeId)(cs:List Value)(d:DataW H)(ps:List MemPlace),DataW.trod enc P w base sp held fuel t cs=some (d,ps)->∀(k:Nat)(T:Ty),tyP P rv k t=some T->∃x:T.den,T.ok x/\aD (DR w (I9 ps)) (fm T x) cs
 |0,_,_,_,_,h=>by simp[DataW.trod]at h|fuel+1,t,cs,d,ps,h=>by
  have ih:=Hr Qq fuel;have fields:∀(l:List Field)(k off e:Nat)(Ts:List Ty)(xs:List (DataW H×List MemPlace)),tyF P rv k off l=some (Ts,e)->(l.mapM λf=>DataW.trod enc P w base sp held fuel f.type ((cs.drop f.offset).take (P.cellsOf f.type)))=some xs->(∀x∈xs,∀q∈x.2,q∈ps)->off<=e/\∃x:(td Ts).den,(td Ts).ok x/\aD (DR w (I9 ps)) (fm (td Ts) x) ((cs.drop off).take (e-off)):=by intro l;induction l with|nil=>intro k off e Ts xs hk hxs _;cases k<;>(simp only[tyF,fw,eK]at hk;obtain⟨rfl,rfl⟩:=hk;exact⟨bc _,(),trivial,by simp[fm,aD]⟩)|cons f l ihl=>intro k off e Ts xs hk hxs hps;cases k with|zero=>simp[tyF]at hk|succ k=>
     simp[tyF]at hk;split at hk
     .rename_i T Ts' e' h1 h2;split at hk;.rename_i hc;simp at hk;obtain⟨rfl,rfl⟩:=hk;obtain⟨rfl,hsz⟩:=hc;simp at hxs;obtain⟨y,g1,hxs⟩:=aV hxs;obtain⟨ys,g2,hxs⟩:=aV hxs;cases hxs;obtain⟨x,ox,hx⟩:=ih _ _ y.1 y.2 g1 _ _ h1;have hx:aD (DR w (I9 ps)) (fm T x) ((cs.drop f.offset).take (P.cellsOf f.type)):=hx.mono λ_ _=>DR.mono λb o hb=>hps y cb _ hb;obtain⟨hle,z,oz,hz⟩:=ihl _ _ _ _ _ h2 g2 λx hx=>hps x (db _ hx);refine⟨by omega,?_⟩;have hj:=uE hx hz;rw[show P.cellsOf f.type+(e'-(f.offset+P.cellsOf f.type))=e'-f.offset from by omega]at hj;cases Ts' with|nil=>refine⟨x,ox,?_⟩;simpa[fm]using hj|cons T2 Ts2=>exact⟨(x,z),⟨ox,oz⟩,hj⟩
      grind
     grind
  intro k T hT;cases k with|zero=>simp[tyP]at hT|succ k=>
  unfold DataW.trod at h;simp only[tyP]at hT;split at hT
  .rename_i hr;injection hT with hT;subst hT;obtain⟨fs,n,hu,hF,hc⟩:=Qq t hr;rw[hu]at h;simp only at h;split at h
   .rename_i hlen;obtain⟨xs,hxs,he⟩:=aJ h;simp only[eK]at he;obtain⟨_,rfl⟩:=he;obtain⟨_,x,ox,hx⟩:=fields _ _ _ _ _ _ hF hxs λx hx q hq=>na.2 ⟨x,hx,hq⟩;refine⟨.mk x.1 x.2.1 x.2.2.1 x.2.2.2.1 x.2.2.2.2,?_,?_⟩;.obtain⟨o1,o2,o3,o4,o5⟩:=ox;exact⟨o1,o2,o3,o4.1,rP.I8.2 o4.2⟩
    .rw[Vn];rw[hc]at hlen;simpa[f1,hlen]using hx
   .cases h
  .rename_i hr;cases hu:P.underlying t with|none=>rw[hu]at hT;cases hT|some desc=>rw[hu]at hT h;cases desc with
    |bool=>
     injection hT with hT;subst hT;simp only at h;split at h<;>first|(exfalso;have q:=‹some TypeDesc.bool=some _›;injection q with q;cases q;done)|cases h|skip
     rename_i b _;exact⟨b,trivial,.sc _ rfl,trivial⟩|int kd=>
     injection hT with hT;subst hT;simp only at h;split at h<;>first|(exfalso;have q:=‹some (TypeDesc.int kd)=some _›;injection q with q;cases q;done)|cases h|skip
     rename_i k k' n heq;injection heq with heq;injection heq with heq;subst heq;split at h;.rename_i hc;obtain⟨rfl,hw⟩:=hc;simp only[Lit.wf,al,dk]at hw;exact⟨n,hw,.sc _ rfl,trivial⟩
     .cases h|string=>
     injection hT with hT;subst hT;simp only at h;split at h<;>first|(exfalso;have q:=‹some TypeDesc.string=some _›;injection q with q;cases q;done)|cases h|skip
     rename_i s _;split at h;.rename_i hc;refine⟨s.data.toList,(by show s.data.toList.length<=maxLen;rw[f9];exact hc),?_,trivial⟩;exact .sc _ rfl
     .cases h|slice e=>
     simp only at hT h;split at hT
     .rename_i T' hT';split at hT
      .rename_i hc;injection hT with hT;subst hT;obtain⟨hpos,hsz⟩:=hc;split at h<;>first|(exfalso;have q:=‹some (TypeDesc.slice e)=some _›;injection q with q;cases q;done)|cases h|skip
       .refine⟨[],⟨by simp,λx hx=>by cases hx⟩,?_,trivial⟩;exact .sl [] none 0 0 0 0 0 (λ_ _=>.bool false) rfl (bc _) (λe h=>by cases h) (λh=>by cases h) (λi e j x h=>by simp at h) (λi e j x h=>by simp at h) (λi e j x h=>by simp at h)
       .rename_i e' a len cap heq;injection heq with heq;injection heq with heq;subst heq;split at h
        .rename_i hb;obtain⟨elems,hel,h⟩:=aV h;obtain⟨rest,Dg,he⟩:=aJ h;simp only[eK]at he;obtain⟨_,rfl⟩:=he;obtain⟨hlen,nK⟩:=mapM_some hel;rw[List.length_range]at hlen;have elem:∀i y,elems[i]?=some y->∃x:T'.den,T'.ok x/\∃csi,w.cells? base (a.add (i*P.cellsOf e)) (P.cellsOf e)=some csi/\aD (DR w (I9 (MemPlace.row a ((elems.length+rest.length)*P.cellsOf e)++(elems++rest).flatMap (·.2)))) (fm T' x) csi:=by
          intro i y hi;have AM:i<len:=by rw[<-hlen];exact(ci.1 hi).1
          obtain⟨y',hy',hf⟩:=nK i i (by simp[AM]);rw[hi]at hy';injection hy' with hy';subst hy';obtain⟨csi,h1,h2⟩:=aV hf;obtain⟨x,ox,hx⟩:=ih _ _ y.1 y.2 h2 _ _ hT';refine⟨x,ox,csi,h1,hx.mono λ_ _=>DR.mono λb o hb=>?_⟩;refine du _ (na.2 ⟨y,dp _ (eQ hi),hb⟩)
         obtain⟨xs,hxl,hxs⟩:=LA elem;have adJ:xs.length=len:=by rw[hxl,hlen]
         refine⟨xs,⟨by rw[adJ];omega,λx hx=>?_⟩,?_,trivial⟩
         .obtain⟨i,hi⟩:=List.getElem?_of_mem hx;have hi':i<elems.length:=by rw[<-hxl];exact(ci.1 hi).1
          obtain⟨y,hy,oy,_⟩:=hxs i _ (aw hi');rw[hi]at hy;injection hy with hy;subst hy;exact oy
         .have cell:∀i e' j x',(xs.map (fm T'))[i]?=some e'->e'[j]?=some x'->j<P.cellsOf e/\i<len/\∃v,w.cell? ⟨a.block,a.off+i*P.cellsOf e+j,none⟩=some v/\(i=0->j=0->a.spot=none)/\DR w (I9 (MemPlace.row a ((elems.length+rest.length)*P.cellsOf e)++(elems++rest).flatMap (·.2))) x' v:=by
           intro i e' j x' hi hj;rw[fi]at hi;obtain⟨x,hx,rfl⟩:=aJ hi;have hi':i<elems.length:=by rw[<-hxl];exact(ci.1 hx).1
           obtain⟨y,hy,oy,csi,h1,h2⟩:=hxs i _ (aw hi');rw[hx]at hy;injection hy with hy;subst hy;obtain⟨v,hv,hd⟩:=h2.get j x' hj;have hjl:j<P.cellsOf e:=by have:=(ci.1 hj).1;rw[fD,hsz]at this;exact this
           unfold World.cells? at h1;split at h1
           .obtain⟨_,hg⟩:=mapM_some h1;obtain⟨v',nh,hcell⟩:=hg j j (by simp[hjl]);rw[hv]at nh;injection nh with nh;subst nh;obtain⟨c1,c2⟩:=Vm hcell;have e1:(a.add (i*P.cellsOf e)).block=a.block/\(a.add (i*P.cellsOf e)).off=a.off+i*P.cellsOf e:=by
             unfold Addr.add;split;.rename_i h0;rw[h0];exact⟨rfl,rfl⟩
             .exact⟨rfl,rfl⟩
            rw[e1.1,e1.2]at c1;refine⟨hjl,by omega,v,c1,λh0 h0'=>?_,hd⟩;have:=c2 h0';subst h0;simpa[Addr.add]using this
           .cases h1
          have hl:eO w (I9 (MemPlace.row a ((elems.length+rest.length)*P.cellsOf e)++(elems++rest).flatMap (·.2))) (I9 (MemPlace.row a ((elems.length+rest.length)*P.cellsOf e)++(elems++rest).flatMap (·.2))) (xs.map (fm T')) a.block a.off (P.cellsOf e):=by
           refine⟨λe' he'=>?_,λi e' j x' hi hj=>?_⟩;.obtain⟨x,_,rfl⟩:=i5.1 he';rw[fD,hsz]
           .obtain⟨c1,c2,v,c3,_,c4⟩:=cell i e' j x' hi hj;refine⟨dp _ ?_,v,c3,c4⟩;unfold MemPlace.row;rw[i5];refine⟨i*P.cellsOf e+j,?_,by rw[eJ]⟩;rw[ul,hlen];have:(i+1)*P.cellsOf e<=(len+rest.length)*P.cellsOf e:=d6 _ (by omega);rw[d9,Do]at this;omega
          refine DR.gI hl (by simp[adJ]) hb.2.1 λhn=>?_;have hx0:0<xs.length:=by omega
          have h0:(xs.map (fm T'))[0]?=some (fm T' xs[0]):=by simp[hx0]
          have hs0:0<(fm T' xs[0]).length:=by rw[fD,hsz];exact hpos
          obtain⟨_,_,v,_,hsp,_⟩:=cell 0 _ 0 _ h0 (aw hs0);have:=hsp rfl rfl;obtain⟨ab,ao,asp⟩:=a;simp only at this;subst this;rfl
        .cases h
      .cases hT
     .cases hT|struct fs=>
     simp only at hT h;split at hT
     .rename_i Ts e hF;split at hT
      .rename_i hc;injection hT with hT;subst hT;split at h;.rename_i hlen;obtain⟨xs,hxs,he⟩:=aJ h;simp only[eK]at he;obtain⟨_,rfl⟩:=he;obtain⟨_,x,ox,hx⟩:=fields _ _ _ _ _ _ hF hxs λx hx q hq=>na.2 ⟨x,hx,hq⟩;refine⟨x,ox,?_⟩;rw[hc]at hx;simpa[f1,hlen]using hx
       .cases h
      .cases hT
     .cases hT|array m e=>
     simp only at hT h;split at hT
     .rename_i T' hT';split at hT
      .rename_i hc;injection hT with hT;subst hT;obtain⟨hsz,hm⟩:=hc;split at h
       .rename_i hlen;obtain⟨xs,hxs,he⟩:=aJ h;simp only[eK]at he;obtain⟨_,rfl⟩:=he;obtain⟨hl,nK⟩:=mapM_some hxs;obtain⟨x,ox,hx⟩:=LB (T:=T') (R:=DR w (I9 (xs.flatMap (·.2)))) (cs:=cs) (c:=P.cellsOf e) m 0 λi hi=>by obtain⟨y,hy,hf⟩:=nK i i (by simp[hi]);obtain⟨x,ox,hx⟩:=ih _ _ y.1 y.2 hf _ _ hT';refine⟨x,ox,?_⟩;rw[kb];exact hx.mono λ_ _=>DR.mono λb o hb=>na.2 ⟨y,eQ hy,hb⟩
        refine⟨x,ox,?_⟩;rw[hm]at hx;simpa[f1,hlen]using hx
       .cases h
      .cases hT
     .cases hT|_=>cases hT
end
def DV:Ty->List Ty|.val=>[.int .u8,.int .i64,.str,.sl .val,.bool]|.int k=>[.int k]|.bool=>[.bool]|.str=>[.str]|.sl t=>[.sl t]|.unit=>[]|.prod a b=>DV a++DV b|.sum _ _=>[]
def bg:Ty->List ia|.val=>[.int .u8,.int .i64,.str,.sl .val .d,.bool]|.int k=>[.int k]|.bool=>[.bool]|.str=>[.str]|.sl t=>[.sl t .d]|.unit=>[]|.prod a b=>bg a++bg b|.sum _ _=>[]
def flat:(T:Ty)->T.den->List fW|.val,v=>[⟨.int .u8,v.kind⟩,⟨.int .i64,v.int⟩,⟨.str,v.text⟩,⟨.sl .val,v.list⟩,⟨.bool,v.cut⟩]|.int k,a=>[⟨.int k,a⟩]|.bool,b=>[⟨.bool,b⟩]|.str,s=>[⟨.str,s⟩]|.sl t,l=>[⟨.sl t,l⟩]|.unit,_=>[]|.prod a b,x=>flat a x.1++flat b x.2|.sum _ _,_=>[]
def yF:∀(T:Ty)(x:T.den),(flat T x).map (·.t)=DV T|.val,_=>rfl|.int _,_=>rfl|.bool,_=>rfl|.str,_=>rfl|.sl _,_=>rfl|.unit,_=>rfl|.prod a b,x=>by simp[flat,DV,yF a,yF b]|.sum _ _,_=>rfl
def vV:∀{l l':List ia}{r r' r'':List fW}{xs ys:List Cell},dF l r=some (xs,r')->dF l' r'=some (ys,r'')->dF (l++l') r=some (xs++ys,r'')
 |[],l',r,r',r'',xs,ys,h,h'=>by cases h<;>grind|c::l,l',r,r',r'',xs,ys,h,h'=>by
  simp[dF]at h;split at h
  .rename_i x r1 h1;split at h;.rename_i xs1 r2 h2;cases h;simp[nf,dF,h1,vV h2 h']
   grind
  grind
def zP:∀(T:Ty)(x:T.den)(rest:List fW),dF (bg T) (flat T x++rest)=some (jE T x,rest)|.val,_,_=>rfl|.int _,_,_=>rfl|.bool,_,_=>rfl|.str,_,_=>rfl|.sl _,_,_=>rfl|.unit,_,_=>rfl|.prod a b,x,rest=>by simp[bg,flat,bj,jE];exact vV (zP a x.1 _) (zP b x.2 rest)|.sum _ _,_,_=>rfl
def okD(ds:List fW):Prop:=∀d∈ds,d.t.ok d.v
def Ja:∀(T:Ty)(x:T.den),T.ok x->okD (flat T x)
 |.val,v,h=>by
  cases v;obtain⟨h1,h2,h3,h4,h5⟩:=h;intro d hd;simp[flat,dl,dE,km]at hd;rcases hd with rfl|rfl|rfl|rfl|rfl;.exact h1
  .exact h2
  .exact h3
  .exact⟨h4,rP.I8.1 h5⟩
  .trivial|.int _,_,h=>λd hd=>by simp[flat]at hd<;>grind|.bool,_,h=>λd hd=>by simp[flat]at hd<;>grind|.str,_,h=>λd hd=>by simp[flat]at hd<;>grind|.sl _,_,h=>λd hd=>by simp[flat]at hd<;>grind|.unit,_,_=>λd hd=>by simp[flat]at hd|.prod a b,x,h=>λd hd=>by
  simp[flat,bm]at hd;rcases hd with hd|hd;.exact Ja a x.1 h.1 d hd
  .exact Ja b x.2 h.2 d hd|.sum _ _,_,_=>λd hd=>by simp[flat]at hd
def Bm(a:Ty)(x:a.den):wD a a x=some x:=by unfold wD;split<;>grind
def zQ:∀ds:List fW,∃x,pack (ds.map (·.t)) ds=some x|[]=>⟨(),rfl⟩|[d]=>⟨d.v,Bm _ _⟩|d::e::r=>by obtain⟨y,hy⟩:=zQ (e::r);refine⟨(d.v,y),?_⟩;have hy':pack (e.t::r.map (·.t)) (e::r)=some y:=hy;show pack (d.t::e.t::r.map (·.t)) (d::e::r)=some (d.v,y);simp[pack,Bm,hy']
abbrev Bn:=TypeId×Bool×Ty
def Bn.sh(p:Bn):vo:=match p.2.1,bg p.2.2with|false,[c]=>.c c|_,l=>.agg l
def kS(l:List Bn):List Ty:=l.flatMap λp=>DV p.2.2
def okL(ts:List Ty)(x:(td ts).den):Prop:=okD (unpack ts x)
def Vo(P:Program)(p:Bn):Bool:=match P.underlying p.1with|some (.struct _)=>p.2.1|some (.array _ _)=>p.2.1|some .bool|some (.int _)|some .string|some (.slice _)=>!p.2.1|_=>false
def LC(P:Program)(rv:Option TypeId)(k:Nat)(p:Bn):Prop:=tyP P rv k p.1=some p.2.2/\Vo P p=true
section
variable{H:Type}{enc:TypeId×Value->H}{P:Program}{w:World}{sp:Nat->Bool}{held:Bool}{rv:Option TypeId}
def Oo{t:TypeId}{v:Value}{b:Nat}{fs:Array Field}(h:Value.okWide P w .any b t v)(hu:P.underlying t=some (.struct fs)):∃cs,v=.agg cs:=by simp[Value.okWide,hu]at h<;>grind
def Oq{t:TypeId}{v:Value}{b n:Nat}{e:TypeId}(h:Value.okWide P w .any b t v)(hu:P.underlying t=some (.array n e)):∃cs,v=.agg cs:=by simp[Value.okWide,hu]at h<;>grind
def ql{t:TypeId}{v:Value}{b:Nat}{d:TypeDesc}(h:Value.okWide P w .any b t v)(hu:P.underlying t=some d)(hd:d=.bool\/(∃k,d=.int k)\/d=.string\/∃e,d=.slice e):v.cells=#[v]:=by rcases hd with rfl|⟨k,rfl⟩|rfl|⟨e,rfl⟩<;>cases v<;>first|rfl|(simp[Value.okWide,hu,Cell.okWide,Cell.ok]at h)
def abB(P:Program)(B:Nat)(t:TypeId):(T:Ty)->T.den->Prop|.sl _,l=>∀e,P.underlying t=some (.slice e)->l.length*P.bytesOf e<=B|.str,s=>P.underlying t=some .string->s.length<=B|_,_=>True
def afL{fuel:Nat}{t:TypeId}{cs:List Value}{d:DataW H}{ps:List MemPlace}(hf:DataW.trod enc P w 0 sp held fuel t cs=some (d,ps)){T:Ty}{x:T.den}{F:Nat->Nat->Prop}(hx:aD (DR w F) (fm T x) cs){B:Nat}(hw:(d.weights P t).all (λb=>decide (b<=B))=true):abB P B t T x:=by cases fuel with|zero=>simp[DataW.trod]at hf|succ fuel=>cases T with
 |sl T'=>intro e he;match cs,hx with|[c],hx=>have hd:DR w F (.sl (List.map (fm T') x)) c:=hx.1;cases hd with|sl els a n cap sz b o g hn hcap hsz ha hF hc hr=>
    unfold DataW.trod at hf;rw[he]at hf;split at hf<;>first|(exfalso;have q:=‹some (TypeDesc.slice e)=some _›;injection q with q;cases q;done)|cases hf|skip
    .grind
    .subst_vars;split at hf;.obtain⟨elems,hel,hf⟩:=aV hf;obtain⟨rest,Dg,heq⟩:=aJ hf;cases heq;have hlen:=(mapM_some hel).1;simp[DataW.weights,he,dC,al,dk,lj]at hw<;>grind
     grind
 |str=>intro he;match cs,hx with|[c],hx=>have hd:DR w F (.sc (.string ⟨x.toArray⟩)) c:=hx.1;cases hd with|sc v h1=>
    unfold DataW.trod at hf;rw[he]at hf;simp only at hf;split at hf<;>first|(exfalso;have q:=‹some TypeDesc.string=some _›;injection q with q;cases q;done)|cases hf|skip
    simpa[DataW.weights]using hw
 |_=>trivial
def afM(P:Program)(B:Nat):List Bn->List fW->Prop|[],_=>True|p::l,ds=>(∃x:p.2.2.den,(∃rest,ds=flat p.2.2 x++rest)/\abB P B p.1 p.2.2 x)/\afM P B l (ds.drop (DV p.2.2).length)
def akQ(P:Program)(B:Nat)(l:List Bn)(x:(td (kS l)).den):Prop:=afM P B l (unpack (kS l) x)
def Vp(w:World)(ps:List MemPlace):Cx:={w,F:=I9 ps,ρ:=λ_=>none,old:=λb=>b<w.heap.size}
def Qr(hg:(∀b,Nr b->b<w.heap.size)/\gok w)(ps:List MemPlace)(hlt:∀x∈ps,x.block<w.heap.size):aH (Vp w ps) [.lf] .lf where
 fI lv sl e he:=by rw[zO]at he;cases he
 aI v hv:=by simp at hv
 apart k k' v v' L L' a b:=by
  rcases a with⟨_,_,_,_,he,_⟩|⟨_,he⟩;.rw[zO]at he;cases he
  .simp at he
 nH b o h:=hlt _ h;p8:=⟨λ_ h=>h,hg.1,hg.2⟩
def Qs{X:Cx}:∀{ds:List D}{cs:List Value},aD (DR X.w X.F) ds cs->aD (VC X) (ds.map .d) cs|[],[],_=>trivial|_::_,_::_,h=>⟨h.1,Qs h.2⟩|[],_::_,h=>h.elim|_::_,[],h=>h.elim
def afN(Qq:Sd P rv){k:Nat}{p:Bn}(hp:LC P rv k p){v:Value}{d:DataW H}{qs ps:List MemPlace}{b:Nat}(hv:Value.okWide P w .any b p.1 v)(h:DataW.Trod enc P w 0 sp held p.1 v d qs)(hsub:∀q∈qs,q∈ps):∃(x:p.2.2.den)(a:AV)(u:V2),p.2.2.ok x/\V1 (Vp w ps) a v/\RV ρ0 0 [] u a/\(∀rest,dO [p.sh] (flat p.2.2 x++rest)=some ([u],rest))/\(∀B,(d.weights P p.1).all (λb=>decide (b<=B))=true->abB P B p.1 p.2.2 x):=by
 obtain⟨t,ag,T⟩:=p;obtain⟨hT,hfit⟩:=hp;obtain⟨fuel,hf⟩:=h;obtain⟨x,ox,hx⟩:=Hr Qq fuel _ _ _ _ hf _ _ hT;have aw7:=λ(B:Nat)hw=>afL (x:=x) hf hx (B:=B) hw;have hx:aD (DR (Vp w ps).w (Vp w ps).F) (fm T x) v.cells.toList:=hx.mono λ_ _=>DR.mono λb o hb=>hsub _ hb;have Qt:=zP T x;have Qu:(∃cs,v=.agg cs)->ag=true->∃(a:AV)(u:V2),V1 (Vp w ps) a v/\RV ρ0 0 [] u a/\∀rest,dO [Bn.sh (t,ag,T)] (flat T x++rest)=some ([u],rest):=by rintro⟨cs,rfl⟩rfl;refine⟨.agg ((fm T x).map .d),.agg (jE T x),⟨cs,rfl,Qs hx⟩,⟨_,rfl,mJ T x⟩,λrest=>?_⟩;simp[Bn.sh,dO,tF.fill,Qt]
 have yG:v.cells=#[v]->ag=false->(∃c,bg T=[c])->∃(a:AV)(u:V2),V1 (Vp w ps) a v/\RV ρ0 0 [] u a/\∀rest,dO [Bn.sh (t,ag,T)] (flat T x++rest)=some ([u],rest):=by rintro hc rfl⟨c,hcs⟩;rw[hc]at hx;have hl:=hx.length;match he:fm T x,hl with|[y],_=>rw[he]at hx;have hcell:=mJ (ρ:=ρ0) (B:=0) (m:=[]) T x;rw[he]at hcell;match hct:jE T x,hcell with
   |[z],hcell=>
    refine⟨.d y,.c z,?_,hcell.1,λrest=>?_⟩;.exact hx.1
    .have:=Qt rest;rw[hcs]at this;simp[dF]at this;simp[Bn.sh,hcs,dO,tF.fill]<;>grind
 have fin:(∃(a:AV)(u:V2),V1 (Vp w ps) a v/\RV ρ0 0 [] u a/\∀rest,dO [Bn.sh (t,ag,T)] (flat T x++rest)=some ([u],rest))->∃(x:T.den)(a:AV)(u:V2),T.ok x/\V1 (Vp w ps) a v/\RV ρ0 0 [] u a/\(∀rest,dO [Bn.sh (t,ag,T)] (flat T x++rest)=some ([u],rest))/\(∀B,(d.weights P t).all (λb=>decide (b<=B))=true->abB P B t T x):=by grind
 apply fin;unfold Vo at hfit;cases hu:P.underlying t with|none=>grind|some desc=>rw[hu]at hfit;cases k with|zero=>simp[tyP]at hT|succ k=>
  have one:∀{d:TypeDesc},desc=d->(d=.bool\/(∃k,d=.int k)\/d=.string\/∃e,d=.slice e)->∃c,bg T=[c]:=by
   intro d hd hq;subst hd;simp[tyP]at hT;split at hT;.rename_i hr;obtain⟨fs,_,mA,_⟩:=Qq t hr<;>grind
   .rw[hu]at hT;rcases hq with rfl|⟨k,rfl⟩|rfl|⟨e,rfl⟩;.cases hT;exact⟨_,rfl⟩
    .cases hT;exact⟨_,rfl⟩
    .cases hT;exact⟨_,rfl⟩
    .simp at hT;split at hT
     .split at hT;.cases hT;exact⟨_,rfl⟩
      .cases hT
     .cases hT
  cases desc with|struct fs=>exact Qu (Oo hv hu) hfit|array n e=>exact Qu (Oq hv hu) hfit|bool=>exact yG (ql hv hu (.inl rfl)) (by simpa using hfit) (one rfl (.inl rfl))|int kd=>exact yG (ql hv hu (.inr (.inl ⟨kd,rfl⟩))) (by simpa using hfit) (one rfl (.inr (.inl ⟨kd,rfl⟩)))|string=>exact yG (ql hv hu (.inr (.inr (.inl rfl)))) (by simpa using hfit) (one rfl (.inr (.inr (.inl rfl))))|slice e=>exact yG (ql hv hu (.inr (.inr (.inr ⟨e,rfl⟩)))) (by simpa using hfit) (one rfl (.inr (.inr (.inr ⟨e,rfl⟩))))|_=>cases hfit
def yH:∀{l l':List vo}{r r' r'':List fW}{xs ys:List V2},dO l r=some (xs,r')->dO l' r'=some (ys,r'')->dO (l++l') r=some (xs++ys,r'')
 |[],l',r,r',r'',xs,ys,h,h'=>by cases h<;>grind|c::l,l',r,r',r'',xs,ys,h,h'=>by
  simp[dO]at h;simp[nf,dO];split at h
  .split at h;.rename_i xs1 r2 h2;cases h;simp only[yH h2 h'];rfl
   grind
  grind
def Jb(Qq:Sd P rv){k b:Nat}{ps:List MemPlace}:∀{l:List Bn}{vs:List Value}{ds:List (DataW H)}{qs:List MemPlace},(∀p∈l,LC P rv k p)->(∀(j:Nat)(p:Bn)v,l[j]?=some p->vs[j]?=some v->Value.okWide P w .any b p.1 v)->DataW.TrodAll enc P w 0 sp held (l.map (·.1)) vs ds qs->(∀q∈qs,q∈ps)->∃(dd:List fW)(aL:List AV)(us:List V2),okD dd/\dd.map (·.t)=kS l/\aD (V1 (Vp w ps)) aL vs/\aD (RV ρ0 0 []) us aL/\(∀rest,dO (l.map Bn.sh) (dd++rest)=some (us,rest))/\(∀B,(DataW.weightsEach P (l.map (·.1)) ds).all (λb=>decide (b<=B))=true->afM P B l dd)
 |[],vs,ds,qs,_,_,h,_=>by match vs,ds,h with|[],[],_=>exact⟨[],[],[],λd hd=>(by cases hd),rfl,trivial,trivial,λ_=>rfl,λ_ _=>trivial⟩
 |p::l,vs,ds,qs,hp,hv,h,hsub=>by match vs,ds,h with
  |v::vs,d::ds,h=>
   obtain⟨p1,q1,h1,h2,rfl⟩:=h;obtain⟨x,a,u,g1,g2,g3,g4,g4'⟩:=afN Qq (hp p cb) (hv 0 p v rfl rfl) h1 (λq hq=>hsub q (dp _ hq));obtain⟨dd,aL,us,g5,g6,g7,g8,g9,g9'⟩:=Jb Qq (l:=l) (λq hq=>hp q (db _ hq)) (λj p' v' hj hj'=>hv (j+1) p' v' (by simpa using hj) (by simpa using hj')) h2 (λq hq=>hsub q (du _ hq));refine⟨flat p.2.2 x++dd,a::aL,u::us,?_,?_,⟨g2,g7⟩,⟨g3,g8⟩,λrest=>?_,λB hw=>?_⟩
   .intro e he;rcases bm.1 he with he|he;.exact Ja _ x g1 e he
    .exact g5 e he
   .simp[kS,yF,g6]
   .rw[bj];exact yH (g4 _) (g9 rest)
   .simp only[f2,DataW.weightsEach,List.all_append,al]at hw;refine⟨⟨x,⟨dd,rfl⟩,g4' B hw.1⟩,?_⟩;have e:(DV p.2.2).length=(flat p.2.2 x).length:=by rw[<-yF p.2.2 x,lj]
    grind
def Hs{cm:List (Tr bu)}{lv sl aq:Nat}{rv:AV}{b:Bool}(h:gY cm 0 0 lv sl aq rv=some (.d (.sc (.bool b)),[])):rv=.d (.sc (.bool b)):=by cases rv with|d x=>simp only[gY,lH,bG,fw,eK,and_true]at h;exact h|own els o=>cases o<;>simp[gY,lH,bG,oE]at h|agg cs=>obtain⟨z,_,he⟩:=aJ h<;>grind|fu vs=>simp_all[gY]|ref cC cW gD off len sz=>simp[gY,lH,bG]at h<;>grind|ptr cC=>simp[gY,lH,bG,mi (ub cC)]at h|dz cC=>simp[gY,lH,bG,mi (ub cC)]at h|mp=>simp[gY,lH,bG]at h|e9=>simp[gY,lH,bG]at h|fK f cs=>cases cs<;>simp[gY,lH,bG]at h
def Se{dy:Nat->Option TypeId}{md:Nat->bL.Mode}{Fs:Tb}{f:Nat}(afO:P.follows .mixedOrders=true)(iy:∀f T,dy f=some T->kA P f T)(FB:RG P dy md Fs.fs)(hO:cD P Fs.O)(hg:(∀b,Nr b->b<w.heap.size)/\gok w)(Qq:Sd P rv){k b:Nat}{l:List Bn}(hp:∀p∈l,LC P rv k p){F:(td (kS l)).den->Option Bool}(Vq:rD Fs f ⟨l.map Bn.sh,kS l,[(false,[.bool])],[.bool],0,F⟩)(hF:∀x,okL (kS l) x->F x=some true){args:Array Value}{ds:List (DataW H)}{ps:List MemPlace}(hval:∀(j:Nat)(p:Bn)v,l[j]?=some p->args[j]?=some v->Value.okWide P w .any b p.1 v)(hargs:DataW.TrodAll enc P w 0 sp held (l.map (·.1)) args.toList ds ps)(hlt:∀x∈ps,x.block<w.heap.size):Calls P f args w λe w'=>e=.returned (.bool true)/\Below w.heap.size w w':=by
 obtain⟨dd,aL,us,g1,g2,g3,g4,g5,_⟩:=Jb Qq (ps:=ps) hp (λj p v hj hv=>hval j p v hj (by simpa using hv)) hargs (λ_ h=>h);obtain⟨x,hx⟩:∃x,pack (kS l) dd=some x:=g2▸zQ dd;have hu:=dP hx;have hok:okL (kS l) x:=by unfold okL;rw[hu];exact g1
 obtain⟨vs,h1,h2⟩:=Vq x true (hF x hok);simp[hu]at h1;have h5:=g5 [];rw[dt,h1]at h5;cases h5;obtain⟨n0,r,cm,ts,nv,h3,h4⟩:=h2 aL g4;obtain⟨a',h6,h7⟩:=(h4 [(false,[.bool true])] rfl).1 (show(0:Nat)≠65535by decide) (.c (.bool true)) rfl 0 0 0;have ha:a'=.d (.sc (.bool true)):=h7 ρ0 0 [];subst ha;have hr:=Hs h6;subst hr;obtain⟨_,hc⟩:=lT hO afO iy FB n0 f aL [.lf] .lf 0 _ cm ts nv (h3 n0 (bc _)) (Vp w ps) args (Qr hg ps hlt) (λ_ _=>rfl) g3;refine hc.mono ?_;rintro e w'⟨Y,u,rfl,rfl,hx,hv,_⟩;cases hv;exact⟨rfl,hx.below.toBelow⟩
def TK{B:Nat}{dy:Nat->Option TypeId}{md:Nat->bL.Mode}{Fs:Tb}{f:Nat}(afO:P.follows .mixedOrders=true)(iy:∀f T,dy f=some T->kA P f T)(FB:RG P dy md Fs.fs)(hO:cD P Fs.O)(hg:(∀b,Nr b->b<w.heap.size)/\gok w)(Qq:Sd P rv){k b:Nat}{l:List Bn}(hp:∀p∈l,LC P rv k p){F:(td (kS l)).den->Option Bool}(Vq:rD Fs f ⟨l.map Bn.sh,kS l,[(false,[.bool])],[.bool],0,F⟩)(hF:∀x,okL (kS l) x->akQ P B l x->F x=some true){args:Array Value}{ds:List (DataW H)}{ps:List MemPlace}(hval:∀(j:Nat)(p:Bn)v,l[j]?=some p->args[j]?=some v->Value.okWide P w .any b p.1 v)(hargs:DataW.TrodAll enc P w 0 sp held (l.map (·.1)) args.toList ds ps)(hlt:∀x∈ps,x.block<w.heap.size)(hwt:(DataW.weightsEach P (l.map (·.1)) ds).all (λb=>decide (b<=B))=true):Calls P f args w λe w'=>e=.returned (.bool true)/\Below w.heap.size w w':=by
 obtain⟨dd,aL,us,g1,g2,g3,g4,g5,g6⟩:=Jb Qq (ps:=ps) hp (λj p v hj hv=>hval j p v hj (by simpa using hv)) hargs (λ_ h=>h);obtain⟨x,hx⟩:∃x,pack (kS l) dd=some x:=g2▸zQ dd;have hu:=dP hx;have hok:okL (kS l) x:=by unfold okL;rw[hu];exact g1
 obtain⟨vs,h1,h2⟩:=Vq x true (hF x hok (by unfold akQ;rw[hu];exact g6 B hwt));simp[hu]at h1;have h5:=g5 [];rw[dt,h1]at h5;cases h5;obtain⟨n0,r,cm,ts,nv,h3,h4⟩:=h2 aL g4;obtain⟨a',h6,h7⟩:=(h4 [(false,[.bool true])] rfl).1 (show(0:Nat)≠65535by decide) (.c (.bool true)) rfl 0 0 0;have ha:a'=.d (.sc (.bool true)):=h7 ρ0 0 [];subst ha;have hr:=Hs h6;subst hr;obtain⟨_,hc⟩:=lT hO afO iy FB n0 f aL [.lf] .lf 0 _ cm ts nv (h3 n0 (bc _)) (Vp w ps) args (Qr hg ps hlt) (λ_ _=>rfl) g3;refine hc.mono ?_;rintro e w'⟨Y,u,rfl,rfl,hx,hv,_⟩;cases hv;exact⟨rfl,hx.below.toBelow⟩
def Ht(hl:laidOutB P=true){W W':World}(hb:Below W.heap.size W W'):∀{ts:List TypeId}{vs:List Value}{ds:List (DataW H)}{ps:List MemPlace},(ts.all λt=>P.readableRec t&&decide (t<P.types.size))=true->DataW.TrodAll enc P W 0 (λ_=>true) true ts vs ds ps->(∀x∈ps,x.block<W.heap.size)->DataW.TrodAll enc P W' 0 (λb=>decide (b<W.heap.size)) true ts vs ds ps
 |[],vs,ds,ps,_,h,_=>by match vs,ds,h with|[],[],h=>exact h
 |t::ts,vs,ds,ps,ht,h,hlt=>by match vs,ds,h with|v::vs,d::ds,h=>obtain⟨p,q,h1,h2,rfl⟩:=h;rw[dC,al,al]at ht;exact⟨p,q,Below.trod hl ht.1.1 (dv ht.1.2) h1 hb (λx hx=>hlt x (dp _ hx)),Ht hl hb ht.2 h2 (λx hx=>hlt x (du _ hx)),rfl⟩
end
end Go.Sym
namespace Go.Sym
open Go Go.bL
def Hu:Nat:=400
def ah.base(bQ:Nat->Option qA)(KP UK:Nat->Nat->Option bn)(N3:Nat->Nat->Option (Nat×Ty))(unr:Nat->Nat->Bool)(P9:Nat->Nat->Option Ty):ah:={fns:=bQ,ym:=λ_=>none,loops:=λ_ _ _=>none,KP,UK,N3,unr,P9}
def ah.pJ(E:ah)(f:Nat)(c:Callee):ah:={E with ym:=λg=>match Nat.beq g f with|true=>some c|false=>E.ym g}
def ah.aa(E:ah)(N ctx i:Nat)(T:bt)(outs:bn):ah:={E with loops:=λctx' i' c=>match Nat.beq ctx' ctx&&Nat.beq i' i with|true=>some ⟨T,outs,Qb (Dv E Hu ctx i c T outs) N⟩|false=>E.loops ctx' i' c}
def abC(bQ:Tb)(KP UK:Nat->Nat->Option bn)(N3:Nat->Nat->Option (Nat×Ty))(unr:Nat->Nat->Bool)(P9:Nat->Nat->Option Ty):az bQ (ah.base bQ KP UK N3 unr P9):=⟨rfl,λ_ _ h=>(by cases h),λ_ _ _ _ h=>(by cases h)⟩
def az.pJ{bQ:Tb}{E:ah}(h:az bQ E){f:Nat}{c:Callee}(hc:rD bQ f c):az bQ (E.pJ f c):=by
 refine⟨h.fns,λg d hd=>?_,h.loops⟩;simp only[ah.pJ]at hd;split at hd;.rename_i he;rw[am he];injection hd with hd;subst hd;exact hc
 .exact h.ym g d hd
def az.aa{bQ:Tb}{E:ah}(h:az bQ E)(N ctx i:Nat)(T:bt)(outs:bn):az bQ (E.aa N ctx i T outs):=by
 refine⟨h.fns,h.ym,λctx' i' c L hL=>?_⟩;simp only[ah.aa]at hL;split at hL;.injection hL with hL;subst hL;exact Qp h Hu ctx i c T outs N
 .exact h.loops ctx' i' c L hL
def rD.plain{Fs:Tb}{f:Nat}{args:List vo}{ta tr:List Ty}{res:List (Bool×List ia)}{rk:Nat}{F G:(td ta).den->Option (td tr).den}(h:rD Fs f ⟨args,ta,res,tr,rk,F⟩)(e:G=F):rD Fs f ⟨args,ta,res,tr,rk,G⟩:=by subst e;exact h
def DU:List (Nat×qA)->Nat->Option qA|[],_=>none|(g,fn)::r,f=>match Nat.beq g f with|true=>some fn|false=>DU r f
inductive yE(P:Program)(dy:Nat->Option TypeId)(md:Nat->bL.Mode):List (Nat×qA)->Prop where|nil:yE P dy md []|cons{g:Nat}{fn:qA}{r:List (Nat×qA)}:Q9 P dy md g=some fn->yE P dy md r->yE P dy md ((g,fn)::r)
def Vl{P:Program}{dy:Nat->Option TypeId}{md:Nat->bL.Mode}{l:List (Nat×qA)}(h:yE P dy md l):∀f fn,DU l f=some fn->Q9 P dy md f=some fn:=by induction h with|nil=>intro f fn h;cases h|@cons g fn' r h1 _ ih=>
 intro f fn h;simp only[DU]at h;split at h;.rename_i hb;have e:=am hb;subst e;injection h with h;subst h;exact h1
 .exact ih f fn h
def fixF{α β:Type}(step:Nat->(α->Option β)->α->Option β):Nat->α->Option β|0,_=>none|n+1,x=>step n (fixF step n) x
def wO(t:Nat):AC->Nat->Option AC
 |.seq a b,i=>match Nat.blt t (i+wH a)with|true=>wO t a i|false=>wO t b (i+wH a)
 |.cond _ a b,i=>match Nat.blt t (i+1+wH a)with|true=>wO t a (i+1)|false=>wO t b (i+1+wH a)
 |.block _ c,i=>wO t c (i+1)|.loop c,i=>match Nat.beq t i with|true=>some c|false=>wO t c (i+1)
 |_,_=>none
def afP(fn:qA)(t:Nat):AC:=(wO t fn.body 0).getD .skip
def ia.tys:ia->List Ty|.int k=>[.int k]|.bool=>[.bool]|.er=>[.bool]|.str=>[.str]|.sl t _=>[.sl t]|.e9 t _=>[t]|_=>[]
def ia.Rm:ia->ia|.sl t _=>.sl t .bD|c=>c
def cP(T:Ty):List ia:=(bg T).map ia.Rm
def vo.tys:vo->List Ty|.c x=>x.tys|.agg l=>l.flatMap ia.tys|.box l=>l.flatMap ia.tys|.fK _=>[]
def tF.tys:tF->List Ty|.c x=>x.tys|.agg l=>l.flatMap ia.tys|.fK _ l=>l.flatMap ia.tys
def P8.tys:P8->List Ty|.row _ t=>[.sl t]|.box _ l=>l.flatMap ia.tys|.set _=>[.sl .str]
def akR(l:List (Nat×tF)):List Ty:=l.flatMap λx=>x.2.tys
def tm(slots:List (Nat×tF))(outer:List (List (Nat×tF)))(mem:List (Nat×Nat×P8))(lvs:Nat)(aI:List Nat)(nv:Nat):bt:=⟨slots,outer,mem,lvs,aI,nv,akR slots++(outer.flatMap akR++mem.flatMap λx=>x.2.2.tys)⟩
abbrev tmn(l:List (Nat×tF)):bt:=tm l [] [] 1 [] 0
abbrev tmv(l:List (Nat×tF))(a b:Nat):bt:=tm l [] [] 1 [a] b
abbrev tmz:bt:=tmn []
abbrev tmr(l:List (Nat×tF)):AX×bt:=(.ret,tmn l)
abbrev tmx:AX×bt:=(.exit 0,tmz)
abbrev tmI:=List Int
abbrev tmf(l:List ia):Bool×List ia:=(false,l)
structure bW where
 a:List vo
 r:List (Bool×List ia)k:Nat
 b:List (Nat×Nat×Nat×Ty)u:List (Nat×Nat)e:List (Nat×Nat×Ty)c:List (Nat×Nat×bn)
abbrev sg(a:List vo)(r:List (Bool×List ia)):bW:=⟨a,r,0,[],[],[],[]⟩
def bW.ta(s:bW):List Ty:=s.a.flatMap vo.tys
def bW.tr(s:bW):List Ty:=s.r.flatMap λx=>x.2.flatMap ia.tys
def bW.ym(s:bW)(F:(td s.ta).den->Option (td s.tr).den):Callee:=⟨s.a,s.ta,s.r,s.tr,s.k,F⟩
def lk{β:Type}:List (Nat×Nat×β)->Nat->Nat->Option β|[],_,_=>none|(a,b,x)::r,c,i=>match Nat.beq a c&&Nat.beq b i with|true=>some x|false=>lk r c i
def lkU:List (Nat×Nat)->Nat->Nat->Bool|[],_,_=>false|(a,b)::r,c,i=>Nat.beq a c&&Nat.beq b i||lkU r c i
def ah.on(E:ah)(s:bW):ah:={E with KP:=lk s.c,N3:=lk s.b,unr:=lkU s.u,P9:=lk s.e}
def ah.fn(E:ah)(f:Nat)(s:bW):(td s.ta).den->Option (td s.tr).den:=adE E Hu f s.a s.ta s.r s.tr s.k
def ah.put(E:ah)(f:Nat)(s:bW)(F:(td s.ta).den->Option (td s.tr).den):ah:=E.pJ f (s.ym F)
def az.on{bQ:Tb}{E:ah}(h:az bQ E)(s:bW):az bQ (E.on s):=⟨h.fns,h.ym,h.loops⟩
def az.put{bQ:Tb}{E E':ah}(h:az bQ E)(h':az bQ E')(f:Nat)(s:bW)(F:(td s.ta).den->Option (td s.tr).den)(e:F=E'.fn f s):az bQ (E.put f s F):=h.pJ ((adI h' Hu f s.a s.ta s.r s.tr s.k).plain e)
def lp(E:ah)(c i:Nat)(fn:qA)(t:Nat)(T:bt)(O:bn):Nat->(td T.tys).den->Option (qg O).den:=Qb (Dv E Hu c i (afP fn t) T O)
def B3:List Nat->Nat->Bool|[],_=>false|a::r,f=>Nat.beq a f||B3 r f
def zR(l:List Nat)(tq:Nat->qA)(f:Nat):Option qA:=match B3 l f with|true=>some (tq f)|false=>none
def afQ{P:Program}{dy:Nat->Option TypeId}{md:Nat->bL.Mode}{tq:Nat->qA}{l:List Nat}(hq:∀f,tq f=(Fp P dy md f).getD default)(h:l.all (λf=>(Fp P dy md f).isSome)=true):∀f fn,zR l tq f=some fn->Fp P dy md f=some fn:=by
 have key:∀l:List Nat,l.all (λf=>(Fp P dy md f).isSome)=true->∀f,B3 l f=true->(Fp P dy md f).isSome=true:=by intro l h f hm;induction l with|nil=>cases hm|cons a r ih=>
  simp only[dC,al]at h;simp only[B3,ge]at hm;rcases hm with hm|hm;.rw[<-am hm];exact h.1
  .exact ih h.2 hm
 intro f fn hf;unfold zR at hf;split at hf;.rename_i hm;have:=key l h f hm;injection hf with hf;subst hf;rw[hq];cases he:Fp P dy md f with|none=>rw[he]at this;cases this|some x=>rfl
 .cases hf
def LD(P:Program)(dy:Nat->Option TypeId)(md:Nat->bL.Mode)(l:List Nat)(f:Nat):Bool:=match KD P dy md f with|some d=>B3 l d.g|none=>true
def Qv{P:Program}{dy:Nat->Option TypeId}{md:Nat->bL.Mode}{tq:Nat->qA}{l:List Nat}(hq:∀f,tq f=(Fp P dy md f).getD default)(h:l.all (λf=>(Fp P dy md f).isSome)=true)(hd:l.all (LD P dy md l)=true):RG P dy md (zR l tq):=by
 refine⟨afQ hq h,λf d hf hdf=>?_⟩;have hm:B3 l f=true:=by
  unfold zR at hf;split at hf;.rename_i hm;exact hm
  .cases hf
 have key:∀r:List Nat,(r.all (LD P dy md l)=true)->B3 r f=true->B3 l d.g=true:=by intro r h hm;induction r with|nil=>cases hm|cons a r ih=>
   simp only[dC,al]at h;simp only[B3,ge]at hm;rcases hm with hm|hm;.have:=h.1;unfold LD at this;rw[am hm,hdf]at this;exact this
   .exact ih h.2 hm
 simp[zR,key l hd hm]
abbrev wu8(a:Int):Int:=IntKind.u8.wrap a
abbrev aA9(a:Int):Int:=IntKind.u16.wrap a
abbrev aBa(a:Int):Int:=IntKind.u32.wrap a
abbrev aS(a:Int):Int:=IntKind.u64.wrap a
abbrev wi8(a:Int):Int:=IntKind.i8.wrap a
abbrev aBb(a:Int):Int:=IntKind.i16.wrap a
abbrev aBc(a:Int):Int:=IntKind.i32.wrap a
abbrev av(a:Int):Int:=IntKind.i64.wrap a
def vI(k:IntKind)(a b:Int):Int:=k.wrap (BitVec.ofInt k.bits a&&&BitVec.ofInt k.bits b).toNat
def DW(k:IntKind)(a b:Int):Int:=k.wrap (BitVec.ofInt k.bits a|||BitVec.ofInt k.bits b).toNat
def abD(k:IntKind)(a b:Int):Int:=k.wrap (BitVec.ofInt k.bits a^^^BitVec.ofInt k.bits b).toNat
def qm(k:IntKind)(a b:Int):Int:=k.wrap (BitVec.ofInt k.bits a&&&~~~(BitVec.ofInt k.bits b)).toNat
def Ot:Callee:=⟨[],[],[(false,[.bool])],[.bool],0,λ_=>some true⟩
def Sf{Fs:Tb}{n f:Nat}(h:(ga Fs n f [] [.lf] .lf 0).map (·.1)=some (.d (.sc (.bool true)))):rD Fs f Ot:=by
 intro a y hy;have hy:y=true:=by cases hy;grind
 cases hr:ga Fs n f [] [.lf] .lf 0with|none=>grind|some x=>
  obtain⟨r,cm,ts,nv⟩:=x;have he:r=.d (.sc (.bool true)):=by simp_all
  subst he;refine⟨[],rfl,λaL has=>?_⟩;cases aL with|cons b bs=>exact has.elim|nil=>
   refine⟨n,_,cm,ts,nv,λm hm=>II n m hm _ _ _ _ _ _ hr,λws yo=>?_⟩;have yo:ws=[(false,[.bool true])]:=by cases yo;simp_all
   subst yo;refine⟨λ_ w hw lv sl aR=>⟨.d (.sc (.bool true)),rfl,λρ B m=>?_⟩,λ_ _ _ _ _ _ _ _ h0=>absurd rfl h0⟩;have hw:w=.c (.bool true):=by cases hw;grind
   subst hw;rfl
end Go.Sym
namespace Go.bL
open Go Go.RowKit Go.Sort
def zS(x:Int):∀l,(CD x l).Perm (x::l)
 |[]=>xf _|y::r=>by
  unfold CD;split;.exact xf _
  .exact((zS x r).cons y).trans (List.Perm.swap x y r)
def DX:∀l,(j4 l).Perm l|[]=>xf _|x::r=>by rw[j4];exact(zS x _).trans ((DX r).cons x)
def Bo(x:Int):∀l:List Int,l.Pairwise (·<=·)->(CD x l).Pairwise (·<=·)
 |[],_=>by simp[CD]|y::r,h=>by
  rw[pb]at h;unfold CD;split
  .rename_i hc;have hc:=dv hc;rw[pb];refine⟨λz hz=>?_,pb.2 h⟩;rcases dl.1 hz with rfl|hz;.exact hc
   .exact y0 hc (h.1 z hz)
  .rename_i hc;have hc:=of_decide_eq_false hc;rw[pb];refine⟨λz hz=>?_,Bo x r h.2⟩;rcases dl.1 ((zS x r).mem_iff.1 hz)with rfl|hz;.omega
   .exact h.1 z hz
def yI:∀l:List Int,(j4 l).Pairwise (·<=·)|[]=>List.Pairwise.nil|x::r=>Bo x _ (yI r)
def Jc(l:List Int):(l.mergeSort λx y=>decide (x<=y))=j4 l:=by refine List.Perm.eq_of_pairwise (le:=λa b=>a<=b) (λa b _ _ h1 h2=>Int.le_antisymm h1 h2) ?_ (yI l) ((List.mergeSort_perm _ _).trans (DX l).symm);have:=List.pairwise_mergeSort (le:=λx y:Int=>decide (x<=y)) (λa b c h1 h2=>by simp only[dk]at*;omega) (λa b=>by simp only[ge,dk];omega) l;exact this.imp λh=>dv h
def LF{w:World}{b off n:Nat}{zs:List Int}{os:Array Obj}(hz:∀C e,w.heap[b]?=some (.cells C e (0,0))->off+zs.length<=C.size)(hb:b<w.heap.size):PT w (grow (putRow (Value.int .i64) (Go.Sort.ahead w n) b off zs.toArray) os) b off zs:=by
 refine⟨rfl,rfl,rfl,?_,λk hk hne=>?_,λC e hC=>?_⟩;.simp[grow,putRow,mapBlock,Go.Sort.ahead]
 .simp only[grow,putRow,mapBlock,Go.Sort.ahead];rw[rx (by simpa using hk),Array.getElem?_modify,bi (pw hne)]
 .refine⟨putCells (Value.int .i64) off zs.toArray C,?_,by simp[putCells],λj z hj=>?_⟩;.simp only[grow,putRow,mapBlock,Go.Sort.ahead];rw[rx (by simpa using hb),Array.getElem?_modify,ba rfl,hC];rfl
  .have hlt:=(ci.1 hj).1;have hs:=hz C e hC;have hlt2:off+j<C.size:=by omega
   simp only[putCells];rw[Array.getElem?_mapIdx,pt hlt2];simp only[cf];rw[ba ⟨by omega,by simpa using hlt⟩];rw[show off+j-off=j by omega];have:zs.toArray[j]! =z:=by rw[xr zs.toArray j (by simpa using hlt)];have:=(ci.1 hj).2;simpa using this
   rw[this]
def Sh{P:Program}{ρ:Go.Shelf.Ren}(L:Go.Proofs.Lays.n189 P ρ)(hf:∃fn,P.funcs[ρ.f 189]?=some fn/\fn.body.isSome=true/\(fn.name== "runtime.NumGoroutine")=false):ND P (ρ.f 189):=by
 refine⟨hf,λp cap w=>Go.Proofs.Any.slices_Sort_int_none L p cap w,λb off cap zs w C e hC hz h0 hlt=>?_⟩;have hb:b<w.heap.size:=(lL.1 hC).1;have hH:Go.Sort.Holds (Value.int .i64) w b off zs.toArray:=by
  intro j hj;have hj:j<zs.length:=by simpa using hj
  have h1:=hz j zs[j] (aw hj);refine⟨?_,?_⟩;.rw[xr zs.toArray j (by simpa using hj)];simp[World.cell?,hC,h1]
  .simp[World.frozen?,hC]
 refine Calls.mono (Go.Proofs.Any.slices_Sort_int L b off cap zs w hH hb hlt) ?_;rintro en w'⟨rfl,n,os,rfl⟩;refine⟨rfl,?_⟩;rw[Jc];refine LF (λC' e' Si=>?_) hb;rw[hC]at Si;injection Si with Si;injection Si with Si _ _;subst Si;rw[oG];have:=hz (zs.length-1) zs[zs.length-1] (aw (by omega));have:=(lL.1 this).1;omega
def lD(x:Int):List Int->List Int|[]=>[]|y::r=>if y≠x then y::lD y r else lD y r
def wP(x:Int):∀r,j5 (x::r)=x::lD x r
 |[]=>rfl|y::r=>by
  rw[j5];by_cases h:x=y;.subst h;rw[bo rfl,wP x r,lD,bi (by simp)]
  .rw[bv h,wP y r,lD,ba (pw h)]
def DY:∀(r:List Int)(x:Int),((List.range r.length).filter λj=>Lib.keeps (x::r).toArray (j+1)).map (λj=>(x::r).toArray[j+1]!)=lD x r
 |[],_=>rfl|y::r,x=>by
  have ih:=DY r y;have h0:Lib.keeps (x::y::r).toArray (0+1)=decide (y≠x):=by simp[Lib.keeps]
  have hs:∀j,Lib.keeps (x::y::r).toArray (j+1+1)=Lib.keeps (y::r).toArray (j+1):=by intro j;simp[Lib.keeps]
  have hg:∀j,(x::y::r).toArray[j+1+1]! =(y::r).toArray[j+1]!:=by intro j;simp
  have Dg:(((List.range r.length).map Nat.succ).filter λj=>Lib.keeps (x::y::r).toArray (j+1)).map (λj=>(x::y::r).toArray[j+1]!)=lD y r:=by rw[List.filter_map,py,<-ih];have e1:((λj=>Lib.keeps (x::y::r).toArray (j+1))∘Nat.succ)=λj=>Lib.keeps (y::r).toArray (j+1):=funext λj=>hs j;have e2:((λj=>(x::y::r).toArray[j+1]!)∘Nat.succ)=λj=>(y::r).toArray[j+1]!:=funext λj=>hg j;rw[e1,e2]
  rw[fa,List.range_succ_eq_map,ra];rw[h0,lD];by_cases h:y≠x;.rw[ba h,ba (bo h),f2,Dg];simp
  .rw[bi h,bi (by simpa using h),Dg]
def Ou:∀zs:List Int,Lib.compact zs=j5 zs|[]=>rfl|x::r=>by rw[wP,<-DY r x];unfold Lib.compact Lib.compactUpTo;rw[fa,List.range_succ_eq_map,ra];rw[ba (by simp[Lib.keeps])];rw[f2,List.filter_map,py];rfl
def Jd{P:Program}{ρ:Go.Shelf.Ren}(L:Go.Proofs.Lays2.n20 P ρ)(hf:∃fn,P.funcs[ρ.f 20]?=some fn/\fn.body.isSome=true/\(fn.name== "runtime.NumGoroutine")=false):zn P (ρ.f 20):=by
 refine⟨hf,λp cap w=>Go.Proofs.Any.slices_Compact_int_empty L p cap w,λb off cap zs w C e hC hz h0 hlt hcap=>?_⟩;have hb:b<w.heap.size:=(lL.1 hC).1;have hH:Go.Sort.Holds (Value.int .i64) w b off zs.toArray:=by
  intro j hj;have hj:j<zs.length:=by simpa using hj
  have h1:=hz j zs[j] (aw hj);refine⟨?_,?_⟩;.rw[xr zs.toArray j (by simpa using hj)];simp[World.cell?,hC,h1]
  .simp[World.frozen?,hC]
 refine Calls.mono (Go.Proofs.Any.slices_Compact_int L b off cap zs w hH (by omega) hcap) ?_;rintro en w'⟨rfl,q,rfl⟩;rw[Ou];refine⟨rfl,?_⟩;have hle:=oH zs;have:=LF (w:=w) (b:=b) (off:=off) (n:=q) (zs:=j5 zs++List.replicate (zs.length-(j5 zs).length) 0) (os:=#[]) (λC' e' Si=>by rw[hC]at Si;injection Si with Si;injection Si with Si _ _;subst Si;have h2:=hz (zs.length-1) zs[zs.length-1] (aw (by omega));have h2:=(lL.1 h2).1;simp only[bb,lh];omega) hb;rw[grow_empty]at this;refine⟨this.os,this.tape,this.output,this.size,this.other,λC e hC=>?_⟩;obtain⟨C',h1,h2,h3⟩:=this.row C e hC;refine⟨C',h1,h2,λj z hj=>h3 j z ?_⟩;rw[nl (ci.1 hj).1];exact hj
end Go.bL
