/- The machine over typed data: calls. -/
import Derived.Test.YtkdilffhbejjaaaGreatEngTb
import Derived.Test.YtkdilffhbejjaaaGreatSymI
set_option linter.unusedVariables false
set_option linter.unusedSimpArgs false
namespace Go.Sym
open Go Go.bM
def AP(Fs:Nat->Option qC):Nat->Bool:=λg=>((Fs g).map (·.sh)).getD false
def Ev(Fs:Tb)(c:AC)(s:St)(x:AX×St):Prop:=∃n0,∀k n,n0<=k->n0<=n->exec (jo Fs k) (AP Fs) n c s=some x
def LI(Fs:Tb)(wk:Wk):Prop:=∀(α:Type)(ctx i:Nat)(c:AC)(s2:S2)(K:AX->S2->Option α)(r:α),wk α ctx i c s2 K=some r->∀(ρ:bD)(os:List (Tr AV))(s:St),AM ρ os s2 s->∃ax s2' ρ' s',Ev Fs c s (ax,s')/\AM ρ' os s2' s'/\Fr ρ s2.nv s.nv ρ' s2'.nv/\s.nv<=s'.nv/\K ax s2'=some r
def kV(ρ:bD)(B:Nat)(m:List (Tr E2))(lv sl au p:Nat)(us:List SL):Prop:=au<B/\ρ au=some p/\∀u∈us,∀r,rowOf m lv sl au=some r->r.l.length=u.l.length
def ab4(Fs:Tb)(f:Nat)(c:Callee):Prop:=∀a y,c.F a=some y->∃vs,dR c.args (unpack c.ta a)=some (vs,[])/\∀aO,aE (RV ρ0 0 []) vs aO->∃n0 rv cm ts nv,(∀n,n0<=n->jo Fs n f aO [.lf] .lf 0=some (rv,cm,ts,nv))/\∀ws,nN c.res (unpack c.tr y)=some (ws,[])->(c.rk≠65535->∀w,qe ws=some w->∀lv sl aT,∃a',iN cm 0 0 lv sl aT rv=some (a',[])/\∀ρ B m,RV ρ B m w a')/\∀row lv sl au p DL us w,c.rk≠0->row%65536=c.rk->row/65536≠0->ER c.rk lv sl au 1 ws=some (DL,us)->(∀u∈us,row/65536=u.t.size)->qe DL=some w->∃a',iN cm 0 row lv sl p rv=some (a',us.map λu=>bx u.t u.l)/\∀ρ B m,kV ρ B m lv sl au p us->RV ρ B m w a'
def o8(Fs:Tb)(f:Nat)(c:Callee):Prop:=ab4 Fs f c
theorem LJ{Fs:Tb}{f:Nat}{c:Callee}(h:∀a,c.F a=none):o8 Fs f c:=λa y hy=>by grind
def Sk(Fs:Tb)(c:AC)(L:IE):Prop:=∀x y,L.F x=some y->∀s2,L.T.st (unpack L.T.tys x)=some s2->∀ρ os s,AM ρ os s2 s->∃ax s2' ρ' s',Ev Fs (.loop c) s (ax,s')/\AM ρ' os s2' s'/\Fr ρ s2.nv s.nv ρ' s2'.nv/\s.nv<=s'.nv/\∀{α:Type}(K:AX->S2->Option α),qf L.outs y K=K ax s2'
structure az(Fs:Tb)(E:ah):Prop where
 fns:E.fns=Fs
 vE:∀f c,E.vE f=some c->o8 Fs f c
 loops:∀ctx i c L,E.loops ctx i c=some L->Sk Fs c L
structure RI(ρ:bD)(nx rem:Nat)(os:List (Tr AV))(s2:S2)(s:St)(p:Nat):Prop where
 slots:va ρ nx s2.mem s2.slots s.slots
 outer:aE (va ρ nx s2.mem) s2.outer os
 mem:MR ρ nx s2.mem s.mem
 aK:TR ρ nx s2.aK s.aK
 au:VOK ρ s2.nv s.nv
 Ay:∀j,j<rem->ρ (nx+j)=some (p+j)nv:nx+rem=s2.nv
 pn:p+rem<=s.nv
def o9(ρ:bD)(nx:Nat)(os:List (Tr AV))(s2:S2)(s:St):gY->gT->Prop|.ck E,.ck e=>oA ρ nx (nx+1) s2 s E e|.all v s2',.all a m t n=>∃ρ',AM ρ' os s2' {slots:=s.slots,mem:=m,aK:=t,nv:=n}/\RV ρ' s2'.nv s2'.mem v a/\Fr ρ (nx+1) s.nv ρ' s2'.nv/\s.nv<=n|_,_=>False
section
variable{Fs:Tb}{E:ah}{wk:Wk}{α:Type}{ρ:bD}{nx rem p:Nat}{os:List (Tr AV)}{s2:S2}{s:St}{ctx row d:Nat}{K:gY->Option α}{r:α}
theorem uF:∀(l:List V2)(i:Nat)(t:Tr V2)(k:Nat),(kD i l t).get? k=if h:i<=k/\k<i+l.length then some (l[k-i]'(by omega))else t.get? k
 |[],i,t,k=>by rw[wd (by simp)];rfl|x::r,i,t,k=>by
  rw[kD,uF r (i+1)];by_cases h1:i+1<=k/\k<i+1+r.length;.grind
  .rw[wd h1];by_cases h2:k=i;.subst h2;simp[Tr.cy]
   .rw[wd (by simp;omega)];rw[Tr.cy,be (pj h2)]
theorem wQ{B:Nat}{m:List (Tr E2)}{vs:List V2}{aO:List AV}(h:aE (RV ρ B m) vs aO):va ρ B m (kD 0 vs .lf) (dS 0 aO .lf):=by
 intro k v hk;rw[uF]at hk;rw[qV];split at hk;.subst_vars;obtain⟨b,hb,hr⟩:=h.get (k-0) _ (al (by omega))<;>grind
 simp_all
theorem Fe{m:List (Tr E2)}{lv sl:Nat}:jO (m++[.lf]) lv sl=jO m lv sl:=by unfold jO;grind[Tr.get?]
theorem Je{m:List (Tr bH)}{lv sl:Nat}:aN (m++[.lf]) lv sl=aN m lv sl:=by unfold aN;grind[Tr.get?]
theorem LK{m:List (Tr E2)}{lv sl au:Nat}:rowOf (m++[.lf]) lv sl au=rowOf m lv sl au:=by unfold rowOf;rw[Fe]
theorem uh{B:Nat}{m:List (Tr E2)}:fA B m (m++[.lf]):=λ_ _ _ r _ h=>⟨r,by rw[LK]at h;exact h,rfl⟩
theorem Ff{m:List (Tr E2)}{k lv sl:Nat}{e:E2}(h:jO (m.take k) lv sl=some e):lv<k/\jO m lv sl=some e:=by grind[jO]
theorem mS{m:List (Tr bH)}{k lv sl:Nat}(h:lv<k):aN (m.take k) lv sl=aN m lv sl:=by grind[aN]
theorem lW{B k:Nat}{m:List (Tr E2)}:fA B m (m.take k):=λ_ _ _ r _ h=>⟨r,gJ.2 (Ff (cJ h)).2,rfl⟩
theorem MR.take{B k:Nat}{m2:List (Tr E2)}{m:List (Tr bH)}(h:MR ρ B m2 m):MR ρ B (m2.take k) (m.take k):=by refine⟨by simp[h.len],λlv sl e2 he=>?_⟩;obtain⟨h1,h2⟩:=Ff he;obtain⟨e,h3,h4⟩:=h.fZ lv sl e2 h2;exact⟨e,by rw[mS h1];exact h3,RE.mono (bc _) (λ_ _=>rfl) (λ_ _=>RC.move lW (bc _) λ_ _=>rfl) h4⟩
theorem MR.snoc{B:Nat}{m2:List (Tr E2)}{m:List (Tr bH)}(h:MR ρ B m2 m):MR ρ B (m2++[.lf]) (m++[.lf]):=by refine⟨by simp[h.len],λlv sl e2 he=>?_⟩;rw[Fe]at he;obtain⟨e,h3,h4⟩:=h.fZ lv sl e2 he;exact⟨e,by rw[Je];exact h3,RE.mono (bc _) (λ_ _=>rfl) (λ_ _=>RC.move uh (bc _) λ_ _=>rfl) h4⟩
theorem MR.ren{ρ':bD}{B:Nat}{m2:List (Tr E2)}{m:List (Tr bH)}(h:MR ρ B m2 m)(hρ:∀v,v<B->ρ' v=ρ v):MR ρ' B m2 m:=by refine⟨h.len,λlv sl e2 he=>?_⟩;obtain⟨e,h3,h4⟩:=h.fZ lv sl e2 he;exact⟨e,h3,RE.mono (bc _) hρ (λ_ _=>RC.move (fA.refl _ _) (bc _) hρ) h4⟩
theorem Ck{B:Nat}{m:List (Tr E2)}:∀{vs:List V2}{aO:List AV},vs.all V2.ZK=true->aE (RV ρ B m) vs aO->aO.all fY=true
 |[],[],_,_=>rfl|v::vs,a::aO,h,ha=>by rw[d9,am]at h;rw[d9,Ck h.2 ha.2,kp];cases v with|c x=>exact(RC.cell ha.1).2.2|agg cs=>obtain⟨as',e,_⟩:=ha.1;rw[e];rfl|fk f cs=>obtain⟨as',e,_⟩:=ha.1;rw[e];rfl|jF vs=>cases h.1
 |[],_::_,_,h=>h.elim|_::_,[],_,h=>h.elim
theorem iU{ρ':bD}{B B':Nat}{m m':List (Tr E2)}(hs:fA B m m')(hB:B<=B')(hρ:∀v,v<B->ρ' v=ρ v){ts:List (Tr V2)}(h:aE (va ρ B m) ts os):aE (va ρ' B' m') ts os:=h.mono λ_ _=>va.move hs hB hρ
section
variable{B:Nat}{m2:List (Tr E2)}{m:List (Tr bH)}(hm:MR ρ B m2 m)
def dW(ρ:bD)(B top:Nat)(m2:List (Tr E2))(lv sl au p:Nat)(us:List SL)(Q:bD->Nat->List (Tr E2)->Prop):Prop:=∀ρ' B' m',kV ρ' B' m' lv sl au p us->(∀v,v<B->ρ' v=ρ v)->B<=B'->fA B (m2.take top) m'->Q ρ' B' m'
theorem kV.left{ρ:bD}{B:Nat}{m:List (Tr E2)}{lv sl au p:Nat}{us vs:List SL}(h:kV ρ B m lv sl au p (us++vs)):kV ρ B m lv sl au p us:=⟨h.1,h.2.1,λu hu=>h.2.2 u (dp _ hu)⟩
theorem kV.right{ρ:bD}{B:Nat}{m:List (Tr E2)}{lv sl au p:Nat}{us vs:List SL}(h:kV ρ B m lv sl au p (us++vs)):kV ρ B m lv sl au p vs:=⟨h.1,h.2.1,λu hu=>h.2.2 u (dq _ hu)⟩
theorem zI{top k lv sl au:Nat}(hn:k≠row%65536){els:List (List D)}{o:WV}(ho:o≠.bC):∃a',bA m top row k lv sl au (.own els o)=some (a',[])/\(oR top row=true->a'=.own els o)/\(a'=.own els o\/a'=.d (.sl els)):=by have h0:Nat.beq k (row%65536)=false:=beq_false.2 hn;cases o with|bC=>grind|full=>grind[oR,bA]|cK=>simp[bA]<;>grind
theorem X8{top k lv sl au:Nat}{x y:Cell}{a:AV}(hr:row≠0)(hn:k≠row%65536)(h:abP m2 top x=some y)(hh:ZI top x=false)(hx:RC ρ B m2 x a):∃a',bA m top row k lv sl au a=some (a',[])/\RC ρ B (m2.take top) y a':=by
 have keep:∀{els:List (List D)}{o:WV}{z:Cell},o≠.bC->RC ρ B (m2.take top) z (.own els o)->Nat.beq top 0=false->∃a',bA m top row k lv sl au (.own els o)=some (a',[])/\RC ρ B (m2.take top) z a':=by intro els o z ho hz ht;obtain⟨a',h1,h2,_⟩:=zI (m:=m) (top:=top) (lv:=lv) (sl:=sl) (au:=au) hn (els:=els) ho;rw[h2 (by simp only[oR,beq_false.2 hr,ht];rfl)]at h1;exact⟨_,h1,hz⟩
 have lose:∀{els:List (List D)}{o:WV}{z:Cell},o≠.bC->(RC ρ B (m2.take top) z (.d (.sl els))/\RC ρ B (m2.take top) z (.own els o))->Nat.beq top 0=true->∃a',bA m top row k lv sl au (.own els o)=some (a',[])/\RC ρ B (m2.take top) z a':=by
  intro els o z ho hz ht;obtain⟨a',h1,_,h2⟩:=zI (m:=m) (top:=top) (lv:=lv) (sl:=sl) (au:=au) hn (els:=els) ho;refine⟨a',h1,?_⟩;rcases h2 with rfl|rfl;.exact hz.2
  .exact hz.1
 unfold abP at h;split at h
 .rename_i b;have hx':=(hU (m:=m) hx).2;split at h
  .rename_i ht;cases h;rcases hx' with rfl|⟨o,ho,rfl⟩;.exact⟨_,rfl,.inl rfl⟩
   .exact lose ho ⟨.inl rfl,.inr ⟨_,ho,rfl⟩⟩ ht
  .rename_i ht;cases h;rcases hx' with rfl|⟨o,ho,rfl⟩;.refine⟨_,rfl,?_⟩;cases b with|false=>exact .inl rfl|true=>cases hx
   .refine keep ho ?_ ht;cases b with|false=>exact .inr ⟨o,ho,rfl⟩|true=>exact hx
 .split at h
  .rename_i ht;cases h;obtain⟨h1,⟨h2,rfl⟩|⟨u,h2,rfl⟩⟩:=hx;.exact lose (λe=>by cases e) ⟨.inl rfl,.inr ⟨_,(λe=>by cases e),rfl⟩⟩ ht
   .exact lose (λe=>by cases e) ⟨.inl rfl,.inr ⟨_,(λe=>by cases e),rfl⟩⟩ ht
  .rename_i ht;cases h;obtain⟨h1,⟨h2,rfl⟩|⟨u,h2,rfl⟩⟩:=hx;.exact keep (λe=>by cases e) ⟨h1,.inl ⟨h2,rfl⟩⟩ ht
   .exact keep (λe=>by cases e) ⟨h1,.inr ⟨u,h2,rfl⟩⟩ ht
 .subst hx;split at h;.rename_i ht;cases h;exact lose (λe=>by cases e) ⟨.inl rfl,.inr ⟨_,(λe=>by cases e),rfl⟩⟩ ht
  .rename_i ht;cases h;exact keep (λe=>by cases e) rfl ht
 .rename_i hn1 hn2 hn3;unfold RN at h;split at h;.cases h;cases hx;exact⟨_,rfl,rfl⟩
  .cases h;cases hx;exact⟨_,rfl,rfl⟩
  .cases h;cases hx;exact⟨_,rfl,rfl⟩
  .cases h;cases hx;exact⟨_,rfl,rfl⟩
  .exact absurd rfl (hn1 _)
  .cases h
  .rename_i t l o hne;cases h;have ho:o=.d:=by cases o with|d=>rfl|bC=>exact absurd rfl hne|full=>exact absurd rfl (hn3 _ _)|app v=>exact absurd rfl (hn2 _ _ _)
   subst ho;rcases hx with rfl|⟨o,ho,rfl⟩;.exact⟨_,rfl,.inl rfl⟩
   .cases ht:Nat.beq top 0with|true=>exact lose ho ⟨.inl rfl,.inr ⟨_,ho,rfl⟩⟩ ht|false=>exact keep ho (.inr ⟨o,ho,rfl⟩) ht
  .rename_i cM cZ gF t;have hb:Nat.ble top cM=false:=hh;rw[hb]at h;cases h;obtain⟨hv,u,n,hu,rfl,hn⟩:=hx;refine⟨_,by simp only[bA,hb],hv,u,n,hu,rfl,λr hr=>hn r ?_⟩;have h1:=cJ hr;refine gJ.2 ?_;unfold jO at h1⊢;rw[fx]at h1;split at h1;.exact h1
   .cases h1
  .rename_i cM cZ gF t off len;have hb:Nat.ble top cM=false:=hh;rw[hb]at h;cases h;obtain⟨hv,u,hu,rfl,hn⟩:=hx;refine⟨_,by simp only[bA,hb],hv,u,hu,rfl,λr hr=>hn r ?_⟩;have h1:=cJ hr;refine gJ.2 ?_;unfold jO at h1⊢;rw[fx]at h1;split at h1;.exact h1
   .cases h1
  .split at h;.rename_i hb;cases h;obtain⟨hv,u,hu,rfl⟩:=hx;exact⟨_,by simp only[bA,hb],hv,u,hu,rfl⟩
   .cases h
  .cases h
include hm
theorem Jf{top rk k lv sl au p:Nat}{e:Option Ty}{x y:Cell}{us:List SL}{a:AV}(hr:row≠0)(DM:row%65536=rk)(h2:row/65536≠0)(h:RO m2 top rk lv sl au e k x=some (y,us))(hx:RC ρ B m2 x a)(hu:∀u∈us,row/65536=u.t.size):∃a',bA m top row k lv sl p a=some (a',us.map λu=>bx u.t u.l)/\dW ρ B top m2 lv sl au p us λρ' B' m'=>RC ρ' B' m' y a':=by
 have hrow:Nat.beq row 0=false:=beq_false.2 hr;unfold RO at h;split at h
 .rename_i hk;have hk:=beq_true.1 hk;subst hk;have hkk:Nat.beq k (row%65536)=true:=beq_true.2 DM.symm;have at_:∀{cM cZ gF r u},rowOf m2 cM cZ gF=some r->ρ gF=some u->bM.rowAt m cM cZ u=some (bx r.t r.l):=by intro cM cZ gF r u hr hu;obtain⟨e,g1,g2⟩:=hm.fZ _ _ _ (cJ hr);obtain⟨_,u',g3,rfl⟩:=g2;unfold bM.rowAt<;>simp_all
  split at h;.cases e with|none=>cases h|some t=>
    cases h;subst hx;have hs:(!Nat.beq (row/65536) 0)=true:=by rw[beq_false.2 h2];rfl
    have hu:=hu _ (bo.2 rfl);refine⟨.ref lv sl p 0 0 (row/65536),by simp only[bA,hs,hkk,kp];rfl,λρ' B' m' hf _ _ _=>⟨hf.1,p,0,hf.2.1,by rw[hu],λr hr=>?_⟩⟩;have:=hf.2.2 _ (bo.2 rfl) r hr<;>grind
  .rename_i cM cZ gF t;split at h
   .rename_i r hb hr;split at h
    .rename_i hsz;have hsz:=beq_true.1 hsz;cases h;have he:=mK hm hx hr;obtain⟨hv,u,n,lF,rfl,hn⟩:=hx;refine⟨.ref lv sl p 0 n t.size,?_,λρ' B' m' hf _ _ _=>⟨hf.1,p,n,hf.2.1,by rw[hsz],λr' hr'=>?_⟩⟩;.simp only[bA,hb,he,hrow,hkk,at_ hr lF]<;>grind
     .rw[hf.2.2 _ (bo.2 rfl) r' hr']<;>grind
    grind
   grind
  .rename_i cM cZ gF t off len;split at h
   .rename_i r hb hr;split at h
    .rename_i hsz;have hsz:=beq_true.1 hsz;cases h;have hle:=hx.2.choose_spec.2.2 r hr;have he:=j3 hm hx hr hle;obtain⟨hv,u,lF,rfl,hn⟩:=hx;refine⟨.ref lv sl p 0 len t.size,?_,λρ' B' m' hf _ _ _=>⟨hf.1,p,len,hf.2.1,by rw[hsz],λr' hr'=>?_⟩⟩;.simp only[bA,hb,he,hrow,hkk,at_ hr lF]<;>grind
     .rw[hf.2.2 _ (bo.2 rfl) r' hr',lr,ui]<;>omega
    grind
   grind
  grind
 .rename_i hk;have hk:=beq_false.1 hk;split at h;.cases h
  .rename_i hh;obtain⟨y',h1,h⟩:=fd.1 h;cases h;obtain⟨a',g1,g2⟩:=X8 (m:=m) (k:=k) (lv:=lv) (sl:=sl) (au:=p) hr (by rw[DM];exact hk) h1 hh hx;exact⟨a',g1,λρ' B' m' _ hρ hB hs=>g2.move hs hB hρ⟩
theorem Jg{top rk lv sl au p:Nat}{e:Option Ty}(hr:row≠0)(DM:row%65536=rk)(h2:row/65536≠0):∀{k:Nat}{xs ys:List Cell}{us:List SL}{aO:List AV},ET m2 top rk lv sl au e k xs=some (ys,us)->aE (RC ρ B m2) xs aO->(∀u∈us,row/65536=u.t.size)->∃as',dH m top row lv sl p k aO=some (as',us.map λu=>bx u.t u.l)/\dW ρ B top m2 lv sl au p us λρ' B' m'=>aE (RC ρ' B' m') ys as'
 |k,[],ys,us,aO,h,ha,_=>by cases h;match aO,ha with|[],_=>exact⟨[],rfl,λ_ _ _ _ _ _ _=>trivial⟩
 |k,x::xs,ys,us,aO,h,ha,hu=>by
  simp[ET]at h;split at h;.rename_i y u ys' us' h1 h3;cases h;match aO,ha with|a::aO,ha=>obtain⟨a',g1,g2⟩:=Jf hm (p:=p) hr DM h2 h1 ha.1 λv hv=>hu v (dp _ hv);obtain⟨as',g3,g4⟩:=Jg (p:=p) hr DM h2 h3 ha.2 λv hv=>hu v (dq _ hv);refine⟨a'::as',by simp only[dH,g1,g3,fw],λρ' B' m' hf h4 h5 h6=>⟨g2 ρ' B' m' hf.left h4 h5 h6,g4 ρ' B' m' hf.right h4 h5 h6⟩⟩
  grind
theorem Fg{top rk k lv sl au p:Nat}{e:Option Ty}(hr:row≠0)(DM:row%65536=rk)(h2:row/65536≠0){b:Bool}{xs ys:List Cell}{us:List SL}{a:AV}(h:ET m2 top rk lv sl au e k xs=some (ys,us))(ha:R1 ρ B m2 (b,xs) a)(hu:∀u∈us,row/65536=u.t.size):∃a',lM m top row lv sl p k a=some (a',us.map λu=>bx u.t u.l)/\dW ρ B top m2 lv sl au p us λρ' B' m'=>R1 ρ' B' m' (b,ys) a':=by cases b with|true=>obtain⟨aO,rfl,ha⟩:=ha;obtain⟨as',g1,g2⟩:=Jg hm (p:=p) hr DM h2 h ha hu;exact⟨.agg as',by simp only[lM,g1,ca],λρ' B' m' hf h4 h5 h6=>⟨as',rfl,g2 ρ' B' m' hf h4 h5 h6⟩⟩|false=>
 obtain⟨c,rfl,ha⟩:=ha;simp[ET]at h;split at h;.rename_i y u ys' us' h1 h3;cases h3;simp at h;obtain⟨rfl,rfl⟩:=h;obtain⟨a',g1,g2⟩:=Jf hm (p:=p) hr DM h2 h1 ha hu;refine⟨a',?_,λρ' B' m' hf h4 h5 h6=>⟨y,rfl,g2 ρ' B' m' hf h4 h5 h6⟩⟩;have hc:=RC.cell ha;cases a<;>first|exact g1|cases hc.2.1
 grind
theorem Jh{top rk lv sl au p:Nat}{e:Option Ty}(hr:row≠0)(DM:row%65536=rk)(h2:row/65536≠0):∀{k:Nat}{vs ws:List (Bool×List Cell)}{us:List SL}{aO:List AV},BY m2 top rk lv sl au e k vs=some (ws,us)->aE (R1 ρ B m2) vs aO->(∀u∈us,row/65536=u.t.size)->∃as',fX m top row lv sl p k aO=some (as',us.map λu=>bx u.t u.l)/\ws.length=vs.length/\dW ρ B top m2 lv sl au p us λρ' B' m'=>aE (R1 ρ' B' m') ws as'
 |k,[],ws,us,aO,h,ha,_=>by cases h;match aO,ha with|[],_=>exact⟨[],rfl,rfl,λ_ _ _ _ _ _ _=>trivial⟩
 |k,(b,x)::xs,ws,us,aO,h,ha,hu=>by
  simp[BY]at h;split at h;.rename_i y u ys' us' h1 h3;cases h;match aO,ha with|a::aO,ha=>obtain⟨a',g1,g2⟩:=Fg hm (p:=p) hr DM h2 h1 ha.1 λv hv=>hu v (dp _ hv);obtain⟨as',g3,gl,g4⟩:=Jh (p:=p) hr DM h2 h3 ha.2 λv hv=>hu v (dq _ hv);refine⟨a'::as',by simp only[fX,g1,g3,fw],by rw[eQ,eQ,gl],λρ' B' m' hf h4 h5 h6=>⟨g2 ρ' B' m' hf.left h4 h5 h6,g4 ρ' B' m' hf.right h4 h5 h6⟩⟩
  grind
theorem Ji{top rk lv sl au p:Nat}{e:Option Ty}(hr:row≠0)(DM:row%65536=rk)(h2:row/65536≠0){vs ws:List (Bool×List Cell)}{us:List SL}{w:V2}{aO:List AV}(h:BY m2 top rk lv sl au e 1 vs=some (ws,us))(ht:qe ws=some w)(ha:aE (R1 ρ B m2) vs aO)(hu:∀u∈us,row/65536=u.t.size):∃a',iN m top row lv sl p (iZ aO)=some (a',us.map λu=>bx u.t u.l)/\dW ρ B top m2 lv sl au p us λρ' B' m'=>RV ρ' B' m' w a':=by match vs,aO,ha with
 |[],[],ha=>cases h;cases ht;exact⟨.jF [],rfl,λ_ _ _ _ _ _ _=>⟨[],rfl,trivial⟩⟩|[(b,x)],[a],ha=>
  simp[BY]at h;split at h
  .rename_i y u ys' us' h1 h3;cases h3;simp at h;obtain⟨rfl,rfl⟩:=h;obtain⟨a',g1,g2⟩:=Fg hm (p:=p) hr DM h2 h1 ha.1 hu;refine⟨a',?_,λρ' B' m' hf h4 h5 h6=>?_⟩;.have hn:=R1.fY ha.1;cases a<;>first|exact g1|cases hn
   .have g2:=g2 ρ' B' m' hf h4 h5 h6;cases b with|true=>obtain⟨as',rfl,g3⟩:=g2;cases ht;exact⟨as',rfl,g3⟩|false=>obtain⟨c,rfl,g3⟩:=g2;cases ht;exact g3
  grind|v::v'::vs,a::a'::aO,ha=>obtain⟨as',g1,gl,g2⟩:=Jh hm (p:=p) hr DM h2 h ha hu;refine⟨.jF as',by simp only[iZ,iN,g1,ca],λρ' B' m' hf h4 h5 h6=>?_⟩;match ws,gl,ht with|x::y::zs,_,ht=>cases ht;exact⟨as',rfl,g2 ρ' B' m' hf h4 h5 h6⟩
end
theorem qo{B:Nat}{m:List (Tr E2)}:∀{vs:List V2}{aO:List AV},aE (RV ρ B m) vs aO->aW ρ (vs.flatMap Gx) (aO.flatMap eO)|[],[],_=>aW.nil|_::_,_::_,h=>by exact(Nw h.1).append (qo h.2)|[],_::_,h=>h.elim|_::_,[],h=>h.elim
theorem Jj(hE:az Fs E)(hi:RI ρ nx rem os s2 s p)(LL:0<rem){f:Nat}{vs:List V2}{aO:List AV}(hsh:AP Fs f=false)(h:RP E s2 row d nx f vs K=some r)(has:aE (RV ρ nx s2.mem) vs aO):∃r2 e,(∃n0,∀n,n0<=n->gA (jo Fs n) (AP Fs f) row s (s.mem.length-1) d p f aO=some e)/\o9 ρ nx os s2 s r2 e/\K r2=some r:=by
 obtain⟨c,hc,h⟩:=aB h;obtain⟨⟨ds,ks,bs⟩,ha,h⟩:=aB h;obtain⟨x,hx,h⟩:=aB h;obtain⟨hb,h⟩:=o7 h;obtain⟨y,hy,h⟩:=bind_some h;split at h
 .rename_i ws B6;obtain⟨as',vs',g1,g2,g3⟩:=Jb hi.mem ha has hb;obtain⟨vs1,g4,g5⟩:=hE.vE f c hc x y hy;rw[dJ hx]at g4;have D1:=g2 [];rw[dt,g4]at D1;injection D1 with D1;injection D1 with D1 _;subst D1;obtain⟨n0,rv,cm,ts,nv,g6,g7⟩:=g5 as' g3;obtain⟨g7,g7'⟩:=g7 ws B6;split at h
  .rename_i hrow;have hrow:=aw hrow;split at h;.cases h
   rename_i zJ;obtain⟨w,hw,h⟩:=aB h;obtain⟨a',g8,g9⟩:=g7 (beq_false.1 zJ) w hw (s.mem.length-1) d p;refine⟨_,.ck {val:=a',di:=ew s.mem ks++[],cK:=[],rd:=aO.flatMap eO},⟨n0,λn hn=>?_⟩,?_,h⟩;.rw[hsh,hrow];simp only[gA,g1,g6 n hn,g8,kK]
   .rw[dt];exact .gD hi.mem hi.aK (by omega) (qY (ks:=ks)) jt (g9 _ _ _) (qo has)
  .split at h
   .rename_i DL hq hp;rw[am,am]at hq;obtain⟨⟨hq1,xG⟩,QL⟩:=hq;have hq1:=aw hq1;have xG:c.rk≠0:=by intro e;rw[e]at xG;cases xG
    have QL:row/65536≠0:=by intro e;rw[e]at QL;cases QL
    obtain⟨w,hw,h⟩:=aB h;obtain⟨a',g8,g9⟩:=g7' row (s2.mem.length-1) d nx p DL [] w xG hq1 QL hp (λv hv=>by cases hv) hw;rw[hi.mem.len]at g8;refine⟨_,.ck {val:=a',di:=ew s.mem ks++[],cK:=[],rd:=aO.flatMap eO},⟨n0,λn hn=>?_⟩,?_,h⟩;.rw[hsh];simp only[gA,g1,g6 n hn,g8,kK,kw]
    .have fU:ρ nx=some p:=hi.Ay 0 LL;rw[dt];exact .gD hi.mem hi.aK (B':=nx+1) (by omega) (qY (ks:=ks)) jt (g9 _ _ _ ⟨by omega,fU,λv hv=>by cases hv⟩) (qo has)
   .rename_i DL u hq hp;rw[am,am]at hq;obtain⟨⟨hq1,xG⟩,QL⟩:=hq;have hq1:=aw hq1;have xG:c.rk≠0:=by intro e;rw[e]at xG;cases xG
    have QL:row/65536≠0:=by intro e;rw[e]at QL;cases QL
    split at h
    .rename_i hsz;have hsz:=aw hsz;obtain⟨w,hw,h⟩:=aB h;obtain⟨a',g8,g9⟩:=g7' row (s2.mem.length-1) d nx p DL [u] w xG hq1 QL hp (λv hv=>by rw[bo.1 hv];exact hsz) hw;rw[hi.mem.len]at g8;refine⟨_,.ck {val:=a',di:=ew s.mem ks++[(s.mem.length-1,d,some (.row p (bx u.t u.l)))],cK:=[],rd:=aO.flatMap eO},⟨n0,λn hn=>?_⟩,?_,h⟩;.rw[hsh];simp only[gA,g1,g6 n hn,g8,kK,fj,kw]
     .have fU:ρ nx=some p:=hi.Ay 0 LL;rw[<-hi.mem.len];refine .gD hi.mem hi.aK (B':=nx+1) (by omega) (e8 (.inl (bc _))) (jt.append (e9 ⟨by omega,p,fU,rfl⟩)) (g9 _ _ _ ⟨by omega,fU,λv hv r' hr'=>?_⟩) (qo has);rw[bo.1 hv];rw[o6]at hr';simp only[gr]at hr';have:=cJ hr';rw[kF]at this;split at this;.injection this with this;injection this with _ h1 h2;obtain⟨t',l'⟩:=r';simp only at h1 h2;subst h1;cases h2;rfl
      .have h1:=mX (gJ.2 this);obtain⟨e,_,hlt,_⟩:=hi.mem.fZ _ _ _ (cJ h1);omega
    .cases h
   .cases h
 .cases h
theorem Sl(hE:az Fs E)(hi:RI ρ nx rem os s2 s p){f:Nat}{vs:List V2}{aO:List AV}(h:ZL E s2 f vs K=some r)(has:aE (RV ρ nx s2.mem) vs aO):∃r2 e,(∃n0,∀n,n0<=n->oa (jo Fs n) s p f aO=some e)/\o9 ρ nx os s2 s r2 e/\K r2=some r:=by
 obtain⟨c,hc,h⟩:=aB h;split at h
 .rename_i zJ;simp at zJ;obtain⟨⟨ds,ks,bs⟩,ha,h⟩:=aB h;obtain⟨x,hx,h⟩:=aB h;obtain⟨hb,h⟩:=o7 h;obtain⟨y,hy,h⟩:=bind_some h;split at h
  .rename_i ws B6;obtain⟨as',vs',g1,g2,g3⟩:=I8 hi.mem ha has hb;obtain⟨vs1,g4,g5⟩:=hE.vE f c hc x y hy;rw[dJ hx]at g4;have D1:=g2 [];rw[dt,g4]at D1;cases D1;obtain⟨n0,rv,cm,ts,nv,g6,g7⟩:=g5 as' g3;obtain⟨w,hw,h⟩:=aB h;obtain⟨a',g8,g9⟩:=(g7 ws B6).1 (λe=>by rw[e]at zJ;cases zJ) w hw 0 0 p;refine⟨_,.ck {val:=a',di:=ew s.mem ks,cK:=[],rd:=aO.flatMap eO},⟨n0,λn hn=>?_⟩,?_,h⟩;.simp[oa,g1,g6 n hn,g8]
   .exact .gD hi.mem hi.aK (by omega) (qY (ks:=ks)) jt (g9 _ _ _) (qo has)
  grind
 grind
theorem Sm(hE:az Fs E)(hi:RI ρ nx rem os s2 s p){f:Nat}{vs:List V2}{aO:List AV}(h:ZM E s2 f vs K=some r)(has:aE (RV ρ nx s2.mem) vs aO):∃r2 e,(∃n0,∀n,n0<=n->od (jo Fs n) s p f aO=some e)/\o9 ρ nx os s2 s r2 e/\K r2=some r:=by
 obtain⟨c,hc,h⟩:=aB h;split at h
 .rename_i zJ;simp at zJ;obtain⟨⟨ds,bs⟩,ha,h⟩:=aB h;obtain⟨x,hx,h⟩:=aB h;obtain⟨hb,h⟩:=o7 h;obtain⟨y,hy,h⟩:=bind_some h;split at h
  .rename_i ws B6;obtain⟨as',vs',g1,g2,g3⟩:=Ja hi.mem ha has hb;obtain⟨vs1,g4,g5⟩:=hE.vE f c hc x y hy;rw[dJ hx]at g4;have D1:=g2 [];rw[dt,g4]at D1;cases D1;obtain⟨n0,rv,cm,ts,nv,g6,g7⟩:=g5 as' g3;obtain⟨w,hw,h⟩:=aB h;obtain⟨a',g8,g9⟩:=(g7 ws B6).1 (λe=>by rw[e]at zJ;cases zJ) w hw 0 0 p;refine⟨_,.ck {val:=a',di:=[],cK:=[],rd:=aO.flatMap eO},⟨n0,λn hn=>?_⟩,?_,h⟩;.simp[od,g1,g6 n hn,g8]
   .exact .gD (GI:=[]) (us:=[]) hi.mem hi.aK (by omega) (fA.refl _ _) trivial (g9 _ _ _) (qo has)
  grind
 grind
theorem Cl(hwk:LI Fs wk)(hE:az Fs E)(hi:RI ρ nx rem os s2 s p)(LL:0<rem){f:Nat}{vs:List V2}{aO:List AV}(h:IG E wk ctx s2 row d nx f vs K=some r)(has:aE (RV ρ nx s2.mem) vs aO):∃r2 e,(∃n0,∀n,n0<=n->gA (jo Fs n) (AP Fs f) row s (s.mem.length-1) d p f aO=some e)/\o9 ρ nx os s2 s r2 e/\K r2=some r:=by
 unfold IG at h;split at h
 .rename_i fn hf;rw[hE.fns]at hf;have hsh:AP Fs f=fn.sh:=by simp[AP,hf]
  split at h;.rename_i hfs;rw[hfs]at hsh;exact Jj hE hi LL hsh h has
  .rename_i hfs;rw[hfs]at hsh;split at h;.cases h
   .rename_i hnp;rw[am]at hnp;obtain⟨hnp,hnt⟩:=hnp;have hnt:=Ck hnt has;let ρc:bD:=λv=>if v<nx then ρ v else some (s.nv+(v-nx));have Sn:∀v,v<nx->ρc v=ρ v:=λv hv=>bb hv;have hle:nx<=s2.nv:=by have:=hi.nv;omega
    have start:AM ρc (s.slots::os) {slots:=kD 0 vs .lf,outer:=loose s2.slots::s2.outer,mem:=s2.mem++[.lf],aK:=s2.aK,nv:=nx} {slots:=dS 0 aO .lf,mem:=s.mem++[.lf],aK:=s.aK,nv:=s.nv}:=by
     refine⟨?_,⟨?_,?_⟩,?_,?_,?_,bc _⟩;.exact wQ (has.mono λ_ _=>RV.move uh (bc _) Sn)
     .exactλk v hk=>(hi.slots k v (xY _ _ _ hk)).move uh (bc _) Sn
     .exact iU uh (bc _) Sn hi.outer
     .exact(hi.mem.ren Sn).snoc
     .intro v hv;obtain⟨h1,h2⟩:=hi.aK v hv;exact⟨h1,λu hu=>h2 u (by rw[<-Sn v h1];exact hu)⟩
     .refine⟨λv u hv hu=>?_,λv hv=>?_,λv v' u hu lF=>?_⟩;.have hv:v<nx:=hv;rw[Sn v hv]at hu;exact hi.au.low v u (by omega) hu
      .have hv:nx<=v:=hv;simp only[ρc];rw[be (by omega)]
      .simp[ρc]at hu lF;split at hu
       .split at lF;.exact hi.au.inj v v' u hu lF
        .simp_all;have:=hi.au.low v u (by omega) hu;omega
       .simp_all;split at lF;.have:=hi.au.low v' u (by omega) lF;omega
        .simp_all;omega
    have fin:∀(ax:AX)(t2:S2)(ρ':bD)(t:St),(∀id,ax≠.exit id)->Ev Fs fn.body {slots:=dS 0 aO .lf,mem:=s.mem++[.lf],aK:=s.aK,nv:=s.nv} (ax,t)->AM ρ' (s.slots::os) t2 t->Fr ρc nx s.nv ρ' t2.nv->s.nv<=t.nv->(match t2.outer with
      |o::os'=>ES t2 fn.res λvs=>match Nat.beq row 0with|true=>cu (zy t2.mem s2.mem.length vs) λvs=>cu (qe vs) λv=>K (.all v {slots:=merge s2.slots o,outer:=os',mem:=t2.mem.take s2.mem.length,aK:=t2.aK,nv:=t2.nv})|false=>match !Nat.beq (row%65536) 0&&!Nat.beq (row/65536) 0,BY t2.mem s2.mem.length (row%65536) (s2.mem.length-1) d t2.nv (E.Ni ctx d) 1 vs with
        |true,some (vs,[u])=>match Nat.beq (row/65536) u.t.size with|true=>cu (qe vs) λv=>K (.all v {slots:=merge s2.slots o,outer:=os',mem:=gr (t2.mem.take s2.mem.length) [(s2.mem.length-1,d,some (.row t2.nv u.t u.l))],aK:=t2.aK,nv:=t2.nv+1})|false=>none
        |true,some (vs,[])=>cu (qe vs) λv=>K (.all v {slots:=merge s2.slots o,outer:=os',mem:=t2.mem.take s2.mem.length,aK:=t2.aK,nv:=t2.nv+1})|_,_=>none
      |[]=>none)=some r->∃r2 e,(∃n0,∀n,n0<=n->gA (jo Fs n) (AP Fs f) row s (s.mem.length-1) d p f aO=some e)/\o9 ρ nx os s2 s r2 e/\K r2=some r:=by
     intro ax t2 ρ' t RY pZ xZ hfr BC hk;have hout:=xZ.outer;split at hk
     .rename_i o os' ho;rw[ho]at hout;obtain⟨vs1,KF,q1,q2,hk'⟩:=Cj xZ.mem xZ.slots hk;clear hk;have hk:=hk';obtain⟨n0,pZ⟩:=pZ;have hrun:∀n,n0+1<=n->jo Fs n f aO (s.mem++[.lf]) s.aK s.nv=some (iZ KF,t.mem,t.aK,t.nv):=by intro n hn;obtain⟨n,rfl⟩:∃k,n=k+1:=⟨n-1,by omega⟩;simp[jo,hf];rw[<-has.length];simp[hnp];have:=pZ n n (by omega) (by omega);unfold AP at this;rw[this];cases ax with|normal=>simp[q1,ca]|ret=>simp[q1,ca]|exit id=>exact absurd rfl (RY id)
      split at hk
      .rename_i hrow;have hrow:=aw hrow;subst hrow;obtain⟨vs2,q3,hk⟩:=aB hk;obtain⟨v,q4,hk⟩:=aB hk;obtain⟨a',q5,q6⟩:=X7 xZ.mem (lv:=s.mem.length-1) (sl:=d) (au:=p) q3 q4 q2;refine⟨_,.all a' (bF (t.mem.take s.mem.length) []) t.aK t.nv,⟨n0+1,λn hn=>?_⟩,?_,hk⟩;.rw[hsh];simp[gA,hnt,hrun n hn];rw[hi.mem.len]at q5;rw[q5];simp[kK]
       .refine⟨ρ',⟨?_,?_,?_,?_,xZ.au,bc _⟩,?_,?_,BC⟩
        .intro k v hk;rcases qn _ _ _ _ hk with⟨h1,h2⟩|h1;.exact(hi.slots k v h1).still h2
         .exact(hout.1 k v h1).move lW (bc _) λ_ _=>rfl
        .exact iU lW (bc _) (λ_ _=>rfl) hout.2
        .have:=xZ.mem.take (k:=s2.mem.length);rw[hi.mem.len]at this⊢;exact this
        .exact xZ.aK
        .exact q6
        .intro v u hv hu;rcases hfr v u hv hu with⟨w,hw,GS⟩|h';.exact .inl ⟨w,by omega,by rw[<-Sn w hw];exact GS⟩
         .exact .inr h'
      .rename_i hrow;have hrow:row≠0:=beq_false.1 hrow;split at hk
       .rename_i vs2 u hq q3;rw[am]at hq;have xG:row/65536≠0:=by intro e;rw[e]at hq;cases hq.2
        split at hk
        .rename_i hsz;have hsz:=aw hsz;obtain⟨v,q4,hk⟩:=aB hk;obtain⟨a',q5,q6⟩:=Ji xZ.mem (p:=p) hrow rfl xG q3 q4 q2 (λv hv=>by rw[bo.1 hv];exact hsz);have fU:ρ nx=some p:=hi.Ay 0 LL;have hps:p<s.nv:=by have:=hi.pn;omega
         let E7:bD:=λv=>if v<t2.nv then ρ' v else if v=t2.nv then some p else some (t.nv+(v-(t2.nv+1)));have e1:∀v,v<t2.nv->E7 v=ρ' v:=λv h=>bb h;have e2:E7 t2.nv=some p:=by show(if _ then _ else _)=_;rw[be (by omega),bb rfl]
         have e3:∀v,t2.nv+1<=v->E7 v=some (t.nv+(v-(t2.nv+1))):=λv h=>by show(if _ then _ else _)=_;rw[be (by omega),be (by omega)]
         have fresh:∀v,v<t2.nv->ρ' v≠some p:=by
          intro v hv hu;rcases hfr v p hv hu with⟨w,hw,GS⟩|h';.rw[Sn w hw]at GS;have:=hi.au.inj _ _ _ GS fU;omega
          .omega
         have hst:fA t2.nv (t2.mem.take s2.mem.length) (gr (t2.mem.take s2.mem.length) [(s2.mem.length-1,d,some (.row t2.nv u.t u.l))]):=by have:=e8 (B:=t2.nv) (m:=t2.mem.take s2.mem.length) (ks:=[]) (lv:=s2.mem.length-1) (sl:=d) (e:=.row t2.nv u.t u.l) (.inl (bc _));simpa[kT,kw,gc]using this
         have hmt:=(xZ.mem.take (k:=s2.mem.length)).ren e1;have hmu:MR E7 (t2.nv+1) (gr (t2.mem.take s2.mem.length) [(s2.mem.length-1,d,some (.row t2.nv u.t u.l))]) (bF (t.mem.take s2.mem.length) [(s2.mem.length-1,d,some (.row p (bx u.t u.l)))]):=hmt.di (pi _) hst (e9 ⟨by omega,p,e2,rfl⟩);refine⟨_,.all a' (bF (t.mem.take s.mem.length) [(s.mem.length-1,d,some (.row p (bx u.t u.l)))]) t.aK t.nv,⟨n0+1,λn hn=>?_⟩,?_,hk⟩;.rw[hsh];simp[gA,hnt,hrun n hn];rw[hi.mem.len]at q5;rw[q5];simp[fj,kw,kK]
         .refine⟨E7,⟨?_,?_,?_,?_,⟨?_,e3,?_⟩,bc _⟩,?_,?_,BC⟩
          .intro k v hk;rcases qn _ _ _ _ hk with⟨h1,h2⟩|h1;.exact(hi.slots k v h1).still h2
           .exact(hout.1 k v h1).move (lW.trans hst) (pi _) e1
          .exact iU (lW.trans hst) (pi _) e1 hout.2
          .rw[<-hi.mem.len];exact hmu
          .intro v hv;obtain⟨h1,h2⟩:=xZ.aK v hv;exact⟨Nat.lt_succ_of_lt h1,λu hu=>h2 u (by rw[<-e1 v h1];exact hu)⟩
          .intro v u' hv hu;have hv:v<t2.nv+1:=hv;show u'<t.nv;rcases f6 v t2.nv with h1|h1;.rw[e1 v h1]at hu;exact xZ.au.low v u' h1 hu
           .have:v=t2.nv:=by omega
            subst this;rw[e2]at hu;cases hu;omega
          .intro v v' u' hu lF;have vR:∀v,v<t2.nv->∀u',E7 v=some u'->u'<t.nv/\u'≠p:=by intro v hv u' hu;rw[e1 v hv]at hu;exact⟨xZ.au.low v u' hv hu,λe=>fresh v hv (by rw[hu,e])⟩
           rcases lA v t2.nv with h1|h1|h1
           .obtain⟨l1,l2⟩:=vR v h1 u' hu;rcases lA v' t2.nv with h3|h3|h3;.rw[e1 v h1]at hu;rw[e1 v' h3]at lF;exact xZ.au.inj v v' u' hu lF
            .subst h3;rw[e2]at lF;simp_all
            .rw[e3 v' h3]at lF;simp_all;omega
           .subst h1;rw[e2]at hu;injection hu with hu;rcases lA v' t2.nv with h3|h3|h3;.obtain⟨l1,l2⟩:=vR v' h3 u' lF;omega
            .exact h3.symm
            .rw[e3 v' h3]at lF;simp_all;omega
           .rw[e3 v h1]at hu;injection hu with hu;rcases lA v' t2.nv with h3|h3|h3;.obtain⟨l1,l2⟩:=vR v' h3 u' lF;omega
            .subst h3;rw[e2]at lF;simp_all;omega
            .rw[e3 v' h3]at lF;simp_all;omega
          .refine q6 E7 (t2.nv+1) _ ⟨by omega,e2,λv hv r' hr'=>?_⟩ e1 (pi _) hst;rw[bo.1 hv];simp[gr]at hr';have:=cJ hr';rw[kF]at this;split at this;.injection this with this;injection this with _ h1 h2;obtain⟨t',l'⟩:=r';simp only at h1 h2;subst h1;cases h2;rfl
           .obtain⟨e,_,hlt,_⟩:=hmt.fZ _ _ _ this;omega
          .intro v u' hv hu;have hv:v<t2.nv+1:=hv;rcases f6 v t2.nv with h1|h1
           .rw[e1 v h1]at hu;rcases hfr v u' h1 hu with⟨w,hw,GS⟩|h';.exact .inl ⟨w,by omega,by rw[<-Sn w hw];exact GS⟩
            .exact .inr h'
           .have:v=t2.nv:=by omega
            subst this;rw[e2]at hu;exact .inl ⟨nx,by omega,by rw[fU];exact hu⟩
        .cases hk
       .rename_i vs2 hq q3;simp at hq;have xG:row/65536≠0:=by intro e;rw[e]at hq;cases hq.2
        obtain⟨v,q4,hk⟩:=aB hk;obtain⟨a',q5,q6⟩:=Ji xZ.mem (p:=p) hrow rfl xG q3 q4 q2 (λv hv=>(by cases hv));have fU:ρ nx=some p:=hi.Ay 0 LL;have hps:p<s.nv:=by have:=hi.pn;omega
        let E7:bD:=λv=>if v<t2.nv then ρ' v else if v=t2.nv then some p else some (t.nv+(v-(t2.nv+1)));have e1:∀v,v<t2.nv->E7 v=ρ' v:=λv h=>bb h;have e2:E7 t2.nv=some p:=by show(if _ then _ else _)=_;rw[be (by omega),bb rfl]
        have e3:∀v,t2.nv+1<=v->E7 v=some (t.nv+(v-(t2.nv+1))):=λv h=>by show(if _ then _ else _)=_;rw[be (by omega),be (by omega)]
        have fresh:∀v,v<t2.nv->ρ' v≠some p:=by
         intro v hv hu;rcases hfr v p hv hu with⟨w,hw,GS⟩|h';.rw[Sn w hw]at GS;have:=hi.au.inj _ _ _ GS fU;omega
         .omega
        have hst:fA t2.nv (t2.mem.take s2.mem.length) (t2.mem.take s2.mem.length):=fA.refl _ _;have hmt:=(xZ.mem.take (k:=s2.mem.length)).ren e1;have hmu:MR E7 (t2.nv+1) (t2.mem.take s2.mem.length) (t.mem.take s2.mem.length):=hmt.mono (pi _);refine⟨_,.all a' (bF (t.mem.take s.mem.length) []) t.aK t.nv,⟨n0+1,λn hn=>?_⟩,?_,hk⟩;.rw[hsh];simp[gA,hnt,hrun n hn];rw[hi.mem.len]at q5;rw[q5];simp[kw,kK]
        .refine⟨E7,⟨?_,?_,?_,?_,⟨?_,e3,?_⟩,bc _⟩,?_,?_,BC⟩
         .intro k v hk;rcases qn _ _ _ _ hk with⟨h1,h2⟩|h1;.exact(hi.slots k v h1).still h2
          .exact(hout.1 k v h1).move (lW.trans hst) (pi _) e1
         .exact iU (lW.trans hst) (pi _) e1 hout.2
         .rw[<-hi.mem.len];exact hmu
         .intro v hv;obtain⟨h1,h2⟩:=xZ.aK v hv;exact⟨Nat.lt_succ_of_lt h1,λu hu=>h2 u (by rw[<-e1 v h1];exact hu)⟩
         .intro v u' hv hu;have hv:v<t2.nv+1:=hv;show u'<t.nv;rcases f6 v t2.nv with h1|h1;.rw[e1 v h1]at hu;exact xZ.au.low v u' h1 hu
          .have:v=t2.nv:=by omega
           subst this;rw[e2]at hu;cases hu;omega
         .intro v v' u' hu lF;have vR:∀v,v<t2.nv->∀u',E7 v=some u'->u'<t.nv/\u'≠p:=by intro v hv u' hu;rw[e1 v hv]at hu;exact⟨xZ.au.low v u' hv hu,λe=>fresh v hv (by rw[hu,e])⟩
          rcases lA v t2.nv with h1|h1|h1
          .obtain⟨l1,l2⟩:=vR v h1 u' hu;rcases lA v' t2.nv with h3|h3|h3;.rw[e1 v h1]at hu;rw[e1 v' h3]at lF;exact xZ.au.inj v v' u' hu lF
           .subst h3;rw[e2]at lF;simp_all
           .rw[e3 v' h3]at lF;simp_all;omega
          .subst h1;rw[e2]at hu;injection hu with hu;rcases lA v' t2.nv with h3|h3|h3;.obtain⟨l1,l2⟩:=vR v' h3 u' lF;omega
           .exact h3.symm
           .rw[e3 v' h3]at lF;simp_all;omega
          .rw[e3 v h1]at hu;injection hu with hu;rcases lA v' t2.nv with h3|h3|h3;.obtain⟨l1,l2⟩:=vR v' h3 u' lF;omega
           .subst h3;rw[e2]at lF;simp_all;omega
           .rw[e3 v' h3]at lF;simp_all;omega
         .exact q6 E7 (t2.nv+1) _ ⟨by omega,e2,λv hv=>(by cases hv)⟩ e1 (pi _) hst
         .intro v u' hv hu;have hv:v<t2.nv+1:=hv;rcases f6 v t2.nv with h1|h1
          .rw[e1 v h1]at hu;rcases hfr v u' h1 hu with⟨w,hw,GS⟩|h';.exact .inl ⟨w,by omega,by rw[<-Sn w hw];exact GS⟩
           .exact .inr h'
          .have:v=t2.nv:=by omega
           subst this;rw[e2]at hu;exact .inl ⟨nx,by omega,by rw[fU];exact hu⟩
       .cases hk
     .cases hk
    dsimp at h;split at h;.obtain⟨ax,t2,ρ',t,g1,g2,g3,g4,g5⟩:=hwk _ _ _ _ _ _ _ h _ _ _ start;cases ax with|exit id=>cases g5|normal=>exact fin .normal t2 ρ' t (λ_ h=>by cases h) g1 g2 g3 g4 g5|ret=>exact fin .ret t2 ρ' t (λ_ h=>by cases h) g1 g2 g3 g4 g5
    .rename_i outs ho;obtain⟨y,hy,h⟩:=bind_some h;obtain⟨ax,t2,ρ',t,g1,g2,g3,g4,g5⟩:=hwk _ _ _ _ _ _ _ hy _ _ _ start;have RY:∀id,ax≠.exit id:=by intro id e;subst e;cases g5
     have g5:nO outs .ret t2=some y:=by cases ax with|exit id=>cases g5|normal=>exact g5|ret=>exact g5
     obtain⟨t3,E7,g6,g7,g8⟩:=AO g2 g5;rw[g8]at h;exact fin ax t3 E7 t RY g1 g6 (g3.trans g7 g4) g4 h
 .rename_i hf;exact Jj hE hi LL (by simp[AP,<-hE.fns,hf]) h has
theorem vb{ρ:bD}{B:Nat}{m:List (Tr E2)}:∀{l:List gZ}{d d':List fS}{cs:List Cell}{aO:List AV},l.all gZ.flat=true->dx l d=some (cs,d')->aE (RC ρ B m) cs aO->aO.all A7=true
 |[],_,_,_,aO,_,h,ha=>by cases h;match aO,ha with|[],_=>rfl
 |c::l,d,d',cs,aO,hl,h,ha=>by
  rw[d9,am]at hl;simp[dx]at h;split at h
  .rename_i x r' h1;split at h;.rename_i xs r'' h2;cases h;match aO,ha with
    |a::aO,ha=>
     have hx:A7 a=true:=by have hf:=hl.1;unfold gZ.fill at h1;split at h1<;>first|(simp only[eI,eb]at h1;obtain⟨rfl,rfl⟩:=h1;first|(cases ha.1;rfl)|cases hf)|cases h1
     rw[d9,hx,vb hl.2 h2 ha.2]<;>grind
   grind
  grind
theorem X9{ρ:bD}{B:Nat}{m:List (Tr E2)}{b:Bool}{l:List gZ}{d d':List fS}{cs:List Cell}{a:AV}(hl:l.all gZ.flat=true)(h:dx l d=some (cs,d'))(ha:R1 ρ B m (b,cs) a):Ec a=true:=by cases b with|true=>obtain⟨aO,rfl,ha⟩:=ha;exact vb hl h ha|false=>obtain⟨c,rfl,ha⟩:=ha;have:=vb (aO:=[a]) hl h ⟨ha,trivial⟩;simp at this;cases a<;>first|exact this|cases this
theorem x8{ρ:bD}{B:Nat}{m:List (Tr E2)}:∀{res:List (Bool×List gZ)}{d d':List fS}{ws:List (Bool×List Cell)}{aO:List AV},AH res=true->nN res d=some (ws,d')->aE (R1 ρ B m) ws aO->aO.all Ec=true
 |[],_,_,_,aO,_,h,ha=>by cases h;match aO,ha with|[],_=>rfl
 |(b,l)::res,d,d',ws,aO,hl,h,ha=>by
  unfold AH at hl;rw[d9,am]at hl;simp[nN]at h;split at h
  .rename_i x r' h1;split at h;.rename_i xs r'' h2;cases h;match aO,ha with|a::aO,ha=>rw[d9,X9 hl.1 h1 ha.1,x8 (res:=res) hl.2 h2 ha.2]<;>grind
   grind
  grind
theorem Sp{ρ:bD}{B:Nat}{m:List (Tr E2)}{res:List (Bool×List gZ)}{d d':List fS}{ws:List (Bool×List Cell)}{w:V2}{a:AV}(hl:AH res=true)(h:nN res d=some (ws,d'))(ht:qe ws=some w)(ha:RV ρ B m w a):Q4 a=true:=by
 unfold qe at ht;split at ht
 .rename_i b cs;have hr:R1 ρ B m (b,cs) a:=by cases b with|true=>cases ht;exact ha|false=>match cs,ht with|[c],ht=>cases ht;exact⟨c,rfl,ha⟩
  have:=x8 (aO:=[a]) hl h ⟨hr,trivial⟩;simp at this;cases a<;>first|exact this|cases this
 .cases ht;obtain⟨aO,rfl,ha⟩:=ha;exact x8 hl h ha
theorem Pm(hE:az Fs E)(hi:RI ρ nx rem os s2 s p){f:Nat}{vs:List V2}{aO:List AV}(h:RQ E s2 f vs K=some r)(has:aE (RV ρ nx s2.mem) vs aO):∃r2 e,(∃n0,∀n,n0<=n->kL (jo Fs n) s f aO=some e)/\o9 ρ nx os s2 s r2 e/\K r2=some r:=by
 obtain⟨c,hc,h⟩:=aB h;split at h
 .rename_i hfl;obtain⟨⟨ds,bs⟩,ha,h⟩:=aB h;obtain⟨x,hx,h⟩:=aB h;obtain⟨hb,h⟩:=o7 h;obtain⟨y,hy,h⟩:=bind_some h;split at h
  .rename_i ws B6;obtain⟨w,hw,h⟩:=aB h;obtain⟨as',vs',g1,gk,g2,g3⟩:=Fb hi.mem ha has hb;simp at hfl;obtain⟨hfl,zJ⟩:=hfl;obtain⟨vs1,g4,g5⟩:=hE.vE f c hc x y hy;rw[dJ hx]at g4;have D1:=g2 [];rw[dt,g4]at D1;cases D1;obtain⟨n0,rv,cm,ts,nv,g6,g7⟩:=g5 as' g3;obtain⟨a',g8,g9⟩:=(g7 ws B6).1 (λe=>by rw[e]at zJ;cases zJ) w hw 0 0 0;have hfa:=Sp hfl B6 hw (g9 ρ0 0 []);refine⟨_,.ck {val:=a',di:=[],cK:=[],rd:=aO.flatMap (qJ s.mem)},⟨n0,λn hn=>?_⟩,?_,h⟩;.simp[kL,g1,g6 n hn,g8,hfa]
   .exact .xT hi.mem hi.aK (by omega) (g9 _ _ _) gk
  grind
 grind
end
end Go.Sym
