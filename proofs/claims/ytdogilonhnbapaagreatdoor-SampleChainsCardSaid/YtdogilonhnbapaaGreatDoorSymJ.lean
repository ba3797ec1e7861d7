/- The machine over typed data: calls. -/
import Derived.Test.YtdogilonhnbapaaGreatDoorSymB
import Derived.Test.YtdogilonhnbapaaGreatDoorSymI
set_option linter.unusedVariables false
set_option linter.unusedSimpArgs false
namespace Go.Sym
open Go Go.bI
def Aq(Fs:Nat->Option tV):Nat->Bool:=λg=>((Fs g).map (·.sh)).getD false
def Ev(Fs:Tb)(c:AC)(s:St)(x:AX×St):Prop:=∃n0,∀k n,n0<=k->n0<=n->exec (iE Fs k) (Aq Fs) n c s=some x
def LF(Fs:Tb)(wk:Wk):Prop:=∀(α:Type)(ctx i:Nat)(c:AC)(s2:S2)(K:AX->S2->Option α)(r:α),wk α ctx i c s2 K=some r->∀(ρ:aZ)(os:List (Tr AV))(s:St),zd ρ os s2 s->∃ax s2' ρ' s',Ev Fs c s (ax,s')/\zd ρ' os s2' s'/\Fr ρ s2.nv s.nv ρ' s2'.nv/\s.nv<=s'.nv/\K ax s2'=some r
def kq(ρ:aZ)(B:Nat)(m:List (Tr E2))(lv sl ai p:Nat)(us:List SL):Prop:=ai<B/\ρ ai=some p/\∀u∈us,∀r,rowOf m lv sl ai=some r->r.l.length=u.l.length
def acD(Fs:Tb)(f:Nat)(c:Callee):Prop:=∀a y,c.F a=some y->∃vs,cS c.args (unpack c.ta a)=some (vs,[])/\∀aJ,aC (RV ρ0 0 []) vs aJ->∃n0 rv cm ts nv,(∀n,n0<=n->iE Fs n f aJ [.lf] .lf 0=some (rv,cm,ts,nv))/\∀ws,ic c.res (unpack c.tr y)=some (ws,[])->(c.rk≠65535->∀w,mY ws=some w->∀lv sl aO,∃a',gu cm 0 0 lv sl aO rv=some (a',[])/\∀ρ B m,RV ρ B m w a')/\∀row lv sl ai p Da us w,c.rk≠0->row%65536=c.rk->row/65536≠0->Ei c.rk lv sl ai 1 ws=some (Da,us)->(∀u∈us,row/65536=u.t.size)->mY Da=some w->∃a',gu cm 0 row lv sl p rv=some (a',us.map λu=>bf u.t u.l)/\∀ρ B m,kq ρ B m lv sl ai p us->RV ρ B m w a'
def SF(Fs:Tb)(f:Nat)(c:Callee)(l:List gf)(ps:List pL):Prop:=∀a y,c.F a=some y->∃cs r vs,cJ l (unpack c.ta a)=some (cs,r)/\cS ps r=some (vs,[])/\∀bs aJ,aC (RC ρ0 0 []) cs bs->aC (RV ρ0 0 []) vs aJ->∃n0 rv cm ts nv,(∀n,n0<=n->iE Fs n f (.ptr 0 0 0 0 0::aJ) (rN bs) .lf 1=some (rv,cm,ts,nv))/\∀new ws w,ic c.res (unpack c.tr y)=some ((true,new)::ws,[])->mY ws=some w->∃cs' ds a',gE cm 0 0 0=some cs'/\cL cm 1 0 0 0 0 0 cs'=some (ds,[])/\ds.all AH=true/\gu cm 1 0 0 0 0 rv=some (a',[])/\FC a'=true/\∀ρ B m,aC (RC ρ B m) new ds/\RV ρ B m w a'
def kr(Fs:Tb)(f:Nat)(c:Callee):Prop:=(Dl c.args=none->acD Fs f c)/\∀l ps,Dl c.args=some (l,ps)->SF Fs f c l ps
theorem LG{Fs:Tb}{f:Nat}{c:Callee}(h:∀a,c.F a=none):kr Fs f c:=⟨λ_ a y hy=>(by grind),λ_ _ _ a y hy=>by grind⟩
def SG(Fs:Tb)(c:AC)(L:IE):Prop:=∀x y,L.F x=some y->∀s2,L.T.st (unpack L.T.tys x)=some s2->∀ρ os s,zd ρ os s2 s->∃ax s2' ρ' s',Ev Fs (.loop c) s (ax,s')/\zd ρ' os s2' s'/\Fr ρ s2.nv s.nv ρ' s2'.nv/\s.nv<=s'.nv/\∀{α:Type}(K:AX->S2->Option α),pM L.outs y K=K ax s2'
structure aF(Fs:Tb)(E:aq):Prop where
 fns:E.fns=Fs
 Aj:∀f c,E.Aj f=some c->kr Fs f c
 loops:∀ctx i c L,E.loops ctx i c=some L->SG Fs c L
structure RI(ρ:aZ)(nx rem:Nat)(os:List (Tr AV))(s2:S2)(s:St)(p:Nat):Prop where
 slots:uJ ρ nx s2.mem s2.slots s.slots
 outer:aC (uJ ρ nx s2.mem) s2.outer os
 mem:MR ρ nx s2.mem s.mem
 aG:TR ρ nx s2.aG s.aG
 ai:VOK ρ s2.nv s.nv
 z6:∀j,j<rem->ρ (nx+j)=some (p+j)nv:nx+rem=s2.nv
 pn:p+rem<=s.nv
def nO(ρ:aZ)(nx:Nat)(os:List (Tr AV))(s2:S2)(s:St):gC->gB->Prop|.bX E,.bX e=>nM ρ nx (nx+1) s2 s E e|.all v s2',.all a m t n=>∃ρ',zd ρ' os s2' {slots:=s.slots,mem:=m,aG:=t,nv:=n}/\RV ρ' s2'.nv s2'.mem v a/\Fr ρ (nx+1) s.nv ρ' s2'.nv/\s.nv<=n|_,_=>False
section
variable{Fs:Tb}{E:aq}{wk:Wk}{α:Type}{ρ:aZ}{nx rem p:Nat}{os:List (Tr AV)}{s2:S2}{s:St}{ctx row d:Nat}{K:gC->Option α}{r:α}
theorem GA{m:List (Tr bC)}{aJ:List AV}{x:List AV×List (Nat×Nat)}(h:pg m aJ=some x):om aJ=none:=by
 unfold om;split;.cases h
 .rfl
theorem uf:∀(l:List V2)(i:Nat)(t:Tr V2)(k:Nat),(iw i l t).get? k=if h:i<=k/\k<i+l.length then some (l[k-i]'(by omega))else t.get? k
 |[],i,t,k=>by rw[dif_neg (by simp)];rfl|x::r,i,t,k=>by
  rw[iw,uf r (i+1)];by_cases h1:i+1<=k/\k<i+1+r.length;.grind
  .rw[dif_neg h1];by_cases h2:k=i;.subst h2;simp[Tr.cz]
   .rw[dif_neg (by simp;omega)];rw[Tr.cz,if_neg (Ne.symm h2)]
theorem qC{B:Nat}{m:List (Tr E2)}{vs:List V2}{aJ:List AV}(h:aC (RV ρ B m) vs aJ):uJ ρ B m (iw 0 vs .lf) (dU 0 aJ .lf):=by
 intro k v hk;rw[uf]at hk;rw[qw];split at hk;.subst_vars;obtain⟨b,hb,hr⟩:=h.get (k-0) _ (List.getElem?_eq_getElem (by omega))<;>grind
 simp_all
theorem EF{m:List (Tr E2)}{lv sl:Nat}:iD (m++[.lf]) lv sl=iD m lv sl:=by unfold iD;grind[Tr.get?]
theorem Jb{m:List (Tr bC)}{lv sl:Nat}:aK (m++[.lf]) lv sl=aK m lv sl:=by unfold aK;grind[Tr.get?]
theorem LH{m:List (Tr E2)}{lv sl ai:Nat}:rowOf (m++[.lf]) lv sl ai=rowOf m lv sl ai:=by unfold rowOf;rw[EF]
theorem tN{B:Nat}{m:List (Tr E2)}:eE B m (m++[.lf]):=λ_ _ _ r _ h=>⟨r,by rw[LH]at h;exact h,rfl⟩
theorem EG{m:List (Tr E2)}{k lv sl:Nat}{e:E2}(h:iD (m.take k) lv sl=some e):lv<k/\iD m lv sl=some e:=by grind[iD]
theorem ot{m:List (Tr bC)}{k lv sl:Nat}(h:lv<k):aK (m.take k) lv sl=aK m lv sl:=by grind[aK]
theorem lu{B k:Nat}{m:List (Tr E2)}:eE B m (m.take k):=λ_ _ _ r _ h=>⟨r,gw.2 (EG (cC h)).2,rfl⟩
theorem MR.take{B k:Nat}{m2:List (Tr E2)}{m:List (Tr bC)}(h:MR ρ B m2 m):MR ρ B (m2.take k) (m.take k):=by refine⟨by simp[h.len],λlv sl e2 he=>?_⟩;obtain⟨h1,h2⟩:=EG he;obtain⟨e,h3,h4⟩:=h.eV lv sl e2 h2;exact⟨e,by rw[ot h1];exact h3,RE.mono (Nat.le_refl _) (λ_ _=>rfl) (λ_ _=>RC.move lu (Nat.le_refl _) λ_ _=>rfl) h4⟩
theorem MR.snoc{B:Nat}{m2:List (Tr E2)}{m:List (Tr bC)}(h:MR ρ B m2 m):MR ρ B (m2++[.lf]) (m++[.lf]):=by refine⟨by simp[h.len],λlv sl e2 he=>?_⟩;rw[EF]at he;obtain⟨e,h3,h4⟩:=h.eV lv sl e2 he;exact⟨e,by rw[Jb];exact h3,RE.mono (Nat.le_refl _) (λ_ _=>rfl) (λ_ _=>RC.move tN (Nat.le_refl _) λ_ _=>rfl) h4⟩
theorem MR.ren{ρ':aZ}{B:Nat}{m2:List (Tr E2)}{m:List (Tr bC)}(h:MR ρ B m2 m)(hρ:∀v,v<B->ρ' v=ρ v):MR ρ' B m2 m:=by refine⟨h.len,λlv sl e2 he=>?_⟩;obtain⟨e,h3,h4⟩:=h.eV lv sl e2 he;exact⟨e,h3,RE.mono (Nat.le_refl _) hρ (λ_ _=>RC.move (eE.refl _ _) (Nat.le_refl _) hρ) h4⟩
theorem BP{B:Nat}{m:List (Tr E2)}:∀{vs:List V2}{aJ:List AV},vs.all V2.ZV=true->aC (RV ρ B m) vs aJ->aJ.all fL=true
 |[],[],_,_=>rfl|v::vs,a::aJ,h,ha=>by rw[List.all_cons,Bool.and_eq_true]at h;rw[List.all_cons,BP h.2 ha.2,Bool.and_true];cases v with|c x=>exact(RC.cell ha.1).2.2|agg cs=>obtain⟨as',e,_⟩:=ha.1;rw[e];rfl|gm f cs=>obtain⟨as',e,_⟩:=ha.1;rw[e];rfl|iF vs=>cases h.1
 |[],_::_,_,h=>h.elim|_::_,[],_,h=>h.elim
theorem iy{ρ':aZ}{B B':Nat}{m m':List (Tr E2)}(hs:eE B m m')(hB:B<=B')(hρ:∀v,v<B->ρ' v=ρ v){ts:List (Tr V2)}(h:aC (uJ ρ B m) ts os):aC (uJ ρ' B' m') ts os:=h.mono λ_ _=>uJ.move hs hB hρ
section
variable{B:Nat}{m2:List (Tr E2)}{m:List (Tr bC)}(hm:MR ρ B m2 m)
def dH(ρ:aZ)(B top:Nat)(m2:List (Tr E2))(lv sl ai p:Nat)(us:List SL)(Q:aZ->Nat->List (Tr E2)->Prop):Prop:=∀ρ' B' m',kq ρ' B' m' lv sl ai p us->(∀v,v<B->ρ' v=ρ v)->B<=B'->eE B (m2.take top) m'->Q ρ' B' m'
theorem kq.left{ρ:aZ}{B:Nat}{m:List (Tr E2)}{lv sl ai p:Nat}{us vs:List SL}(h:kq ρ B m lv sl ai p (us++vs)):kq ρ B m lv sl ai p us:=⟨h.1,h.2.1,λu hu=>h.2.2 u (List.mem_append_left _ hu)⟩
theorem kq.right{ρ:aZ}{B:Nat}{m:List (Tr E2)}{lv sl ai p:Nat}{us vs:List SL}(h:kq ρ B m lv sl ai p (us++vs)):kq ρ B m lv sl ai p vs:=⟨h.1,h.2.1,λu hu=>h.2.2 u (List.mem_append_right _ hu)⟩
theorem zg{top k lv sl ai:Nat}(hn:k≠row%65536){els:List (List D)}{o:Rm}(ho:o≠.bA):∃a',bu m top row k lv sl ai (.own els o)=some (a',[])/\(oe top row=true->a'=.own els o)/\(a'=.own els o\/a'=.d (.sl els)):=by have h0:Nat.beq k (row%65536)=false:=beq_false.2 hn;cases o with|bA=>grind|full=>grind[oe,bu]|cB=>simp[bu]<;>grind
theorem WZ{top k lv sl ai:Nat}{x y:Cell}{a:AV}(hr:row≠0)(hn:k≠row%65536)(h:acq m2 top x=some y)(hh:ZT top x=false)(hx:RC ρ B m2 x a):∃a',bu m top row k lv sl ai a=some (a',[])/\RC ρ B (m2.take top) y a':=by
 have keep:∀{els:List (List D)}{o:Rm}{z:Cell},o≠.bA->RC ρ B (m2.take top) z (.own els o)->Nat.beq top 0=false->∃a',bu m top row k lv sl ai (.own els o)=some (a',[])/\RC ρ B (m2.take top) z a':=by intro els o z ho hz ht;obtain⟨a',h1,h2,_⟩:=zg (m:=m) (top:=top) (lv:=lv) (sl:=sl) (ai:=ai) hn (els:=els) ho;rw[h2 (by simp only[oe,beq_false.2 hr,ht];rfl)]at h1;exact⟨_,h1,hz⟩
 have lose:∀{els:List (List D)}{o:Rm}{z:Cell},o≠.bA->(RC ρ B (m2.take top) z (.d (.sl els))/\RC ρ B (m2.take top) z (.own els o))->Nat.beq top 0=true->∃a',bu m top row k lv sl ai (.own els o)=some (a',[])/\RC ρ B (m2.take top) z a':=by
  intro els o z ho hz ht;obtain⟨a',h1,_,h2⟩:=zg (m:=m) (top:=top) (lv:=lv) (sl:=sl) (ai:=ai) hn (els:=els) ho;refine⟨a',h1,?_⟩;rcases h2 with rfl|rfl;.exact hz.2
  .exact hz.1
 unfold acq at h;split at h
 .rename_i b;have hx':=(gq (m:=m) hx).2;split at h
  .rename_i ht;cases h;rcases hx' with rfl|⟨o,ho,rfl⟩;.exact⟨_,rfl,.inl rfl⟩
   .exact lose ho ⟨.inl rfl,.inr ⟨_,ho,rfl⟩⟩ ht
  .rename_i ht;cases h;rcases hx' with rfl|⟨o,ho,rfl⟩;.refine⟨_,rfl,?_⟩;cases b with|false=>exact .inl rfl|true=>cases hx
   .refine keep ho ?_ ht;cases b with|false=>exact .inr ⟨o,ho,rfl⟩|true=>exact hx
 .split at h
  .rename_i ht;cases h;obtain⟨h1,⟨h2,rfl⟩|⟨u,h2,rfl⟩⟩:=hx;.exact lose (λe=>by cases e) ⟨.inl rfl,.inr ⟨_,(λe=>by cases e),rfl⟩⟩ ht
   .exact lose (λe=>by cases e) ⟨.inl rfl,.inr ⟨_,(λe=>by cases e),rfl⟩⟩ ht
  .rename_i ht;cases h;obtain⟨h1,⟨h2,rfl⟩|⟨u,h2,rfl⟩⟩:=hx;.exact keep (λe=>by cases e) ⟨h1,.inl ⟨h2,rfl⟩⟩ ht
   .exact keep (λe=>by cases e) ⟨h1,.inr ⟨u,h2,rfl⟩⟩ ht
 .subst hx;split at h;.rename_i ht;cases h;exact lose (λe=>by cases e) ⟨.inl rfl,.inr ⟨_,(λe=>by cases e),rfl⟩⟩ ht
  .rename_i ht;cases h;exact keep (λe=>by cases e) rfl ht
 .rename_i hn1 hn2 hn3;unfold Sc at h;split at h;.cases h;cases hx;exact⟨_,rfl,rfl⟩
  .cases h;cases hx;exact⟨_,rfl,rfl⟩
  .cases h;cases hx;exact⟨_,rfl,rfl⟩
  .cases h;cases hx;exact⟨_,rfl,rfl⟩
  .exact absurd rfl (hn1 _)
  .cases h
  .rename_i t l o hne;cases h;have ho:o=.d:=by cases o with|d=>rfl|bA=>exact absurd rfl hne|full=>exact absurd rfl (hn3 _ _)|app v=>exact absurd rfl (hn2 _ _ _)
   subst ho;rcases hx with rfl|⟨o,ho,rfl⟩;.exact⟨_,rfl,.inl rfl⟩
   .cases ht:Nat.beq top 0with|true=>exact lose ho ⟨.inl rfl,.inr ⟨_,ho,rfl⟩⟩ ht|false=>exact keep ho (.inr ⟨o,ho,rfl⟩) ht
  .rename_i cG dF gG t;have hb:Nat.ble top cG=false:=hh;rw[hb]at h;cases h;obtain⟨hv,u,n,hu,rfl,hn⟩:=hx;refine⟨_,by simp only[bu,hb],hv,u,n,hu,rfl,λr hr=>hn r ?_⟩;have h1:=cC hr;refine gw.2 ?_;unfold iD at h1⊢;rw[List.getElem?_take]at h1;split at h1;.exact h1
   .cases h1
  .rename_i cG dF gG t off len;have hb:Nat.ble top cG=false:=hh;rw[hb]at h;cases h;obtain⟨hv,u,hu,rfl,hn⟩:=hx;refine⟨_,by simp only[bu,hb],hv,u,hu,rfl,λr hr=>hn r ?_⟩;have h1:=cC hr;refine gw.2 ?_;unfold iD at h1⊢;rw[List.getElem?_take]at h1;split at h1;.exact h1
   .cases h1
  .cases h
include hm
theorem Jc{top rk k lv sl ai p:Nat}{e:Option Ty}{x y:Cell}{us:List SL}{a:AV}(hr:row≠0)(Ar:row%65536=rk)(h2:row/65536≠0)(h:Sd m2 top rk lv sl ai e k x=some (y,us))(hx:RC ρ B m2 x a)(hu:∀u∈us,row/65536=u.t.size):∃a',bu m top row k lv sl p a=some (a',us.map λu=>bf u.t u.l)/\dH ρ B top m2 lv sl ai p us λρ' B' m'=>RC ρ' B' m' y a':=by
 have hrow:Nat.beq row 0=false:=beq_false.2 hr;unfold Sd at h;split at h
 .rename_i hk;have hk:=beq_true.1 hk;subst hk;have hkk:Nat.beq k (row%65536)=true:=beq_true.2 Ar.symm;have at_:∀{cG dF gG r u},rowOf m2 cG dF gG=some r->ρ gG=some u->bI.rowAt m cG dF u=some (bf r.t r.l):=by intro cG dF gG r u hr hu;obtain⟨e,g1,g2⟩:=hm.eV _ _ _ (cC hr);obtain⟨_,u',g3,rfl⟩:=g2;unfold bI.rowAt<;>simp_all
  split at h;.cases e with|none=>cases h|some t=>
    cases h;subst hx;have hs:(!Nat.beq (row/65536) 0)=true:=by rw[beq_false.2 h2];rfl
    have hu:=hu _ (List.mem_singleton.2 rfl);refine⟨.ref lv sl p 0 0 (row/65536),by simp only[bu,hs,hkk,Bool.and_true];rfl,λρ' B' m' hf _ _ _=>⟨hf.1,p,0,hf.2.1,by rw[hu],λr hr=>?_⟩⟩;have:=hf.2.2 _ (List.mem_singleton.2 rfl) r hr<;>grind
  .rename_i cG dF gG t;split at h
   .rename_i r hb hr;split at h
    .rename_i hsz;have hsz:=beq_true.1 hsz;cases h;have he:=lV hm hx hr;obtain⟨hv,u,n,kQ,rfl,hn⟩:=hx;refine⟨.ref lv sl p 0 n t.size,?_,λρ' B' m' hf _ _ _=>⟨hf.1,p,n,hf.2.1,by rw[hsz],λr' hr'=>?_⟩⟩;.simp only[bu,hb,he,hrow,hkk,at_ hr kQ]<;>grind
     .rw[hf.2.2 _ (List.mem_singleton.2 rfl) r' hr']<;>grind
    grind
   grind
  .rename_i cG dF gG t off len;split at h
   .rename_i r hb hr;split at h
    .rename_i hsz;have hsz:=beq_true.1 hsz;cases h;have hle:=hx.2.choose_spec.2.2 r hr;have he:=jA hm hx hr hle;obtain⟨hv,u,kQ,rfl,hn⟩:=hx;refine⟨.ref lv sl p 0 len t.size,?_,λρ' B' m' hf _ _ _=>⟨hf.1,p,len,hf.2.1,by rw[hsz],λr' hr'=>?_⟩⟩;.simp only[bu,hb,he,hrow,hkk,at_ hr kQ]<;>grind
     .rw[hf.2.2 _ (List.mem_singleton.2 rfl) r' hr',List.length_take,List.length_drop]<;>omega
    grind
   grind
  grind
 .rename_i hk;have hk:=beq_false.1 hk;split at h;.cases h
  .rename_i hh;obtain⟨y',h1,h⟩:=Option.map_eq_some_iff.1 h;cases h;obtain⟨a',g1,g2⟩:=WZ (m:=m) (k:=k) (lv:=lv) (sl:=sl) (ai:=p) hr (by rw[Ar];exact hk) h1 hh hx;exact⟨a',g1,λρ' B' m' _ hρ hB hs=>g2.move hs hB hρ⟩
theorem Jd{top rk lv sl ai p:Nat}{e:Option Ty}(hr:row≠0)(Ar:row%65536=rk)(h2:row/65536≠0):∀{k:Nat}{xs ys:List Cell}{us:List SL}{aJ:List AV},Ej m2 top rk lv sl ai e k xs=some (ys,us)->aC (RC ρ B m2) xs aJ->(∀u∈us,row/65536=u.t.size)->∃as',cL m top row lv sl p k aJ=some (as',us.map λu=>bf u.t u.l)/\dH ρ B top m2 lv sl ai p us λρ' B' m'=>aC (RC ρ' B' m') ys as'
 |k,[],ys,us,aJ,h,ha,_=>by cases h;match aJ,ha with|[],_=>exact⟨[],rfl,λ_ _ _ _ _ _ _=>trivial⟩
 |k,x::xs,ys,us,aJ,h,ha,hu=>by
  simp[Ej]at h;split at h;.rename_i y u ys' us' h1 h3;cases h;match aJ,ha with|a::aJ,ha=>obtain⟨a',g1,g2⟩:=Jc hm (p:=p) hr Ar h2 h1 ha.1 λv hv=>hu v (List.mem_append_left _ hv);obtain⟨as',g3,g4⟩:=Jd (p:=p) hr Ar h2 h3 ha.2 λv hv=>hu v (List.mem_append_right _ hv);refine⟨a'::as',by simp only[cL,g1,g3,List.map_append],λρ' B' m' hf h4 h5 h6=>⟨g2 ρ' B' m' hf.left h4 h5 h6,g4 ρ' B' m' hf.right h4 h5 h6⟩⟩
  grind
theorem EH{top rk k lv sl ai p:Nat}{e:Option Ty}(hr:row≠0)(Ar:row%65536=rk)(h2:row/65536≠0){b:Bool}{xs ys:List Cell}{us:List SL}{a:AV}(h:Ej m2 top rk lv sl ai e k xs=some (ys,us))(ha:R1 ρ B m2 (b,xs) a)(hu:∀u∈us,row/65536=u.t.size):∃a',kV m top row lv sl p k a=some (a',us.map λu=>bf u.t u.l)/\dH ρ B top m2 lv sl ai p us λρ' B' m'=>R1 ρ' B' m' (b,ys) a':=by cases b with|true=>obtain⟨aJ,rfl,ha⟩:=ha;obtain⟨as',g1,g2⟩:=Jd hm (p:=p) hr Ar h2 h ha hu;exact⟨.agg as',by simp only[kV,g1,Option.map_some],λρ' B' m' hf h4 h5 h6=>⟨as',rfl,g2 ρ' B' m' hf h4 h5 h6⟩⟩|false=>
 obtain⟨c,rfl,ha⟩:=ha;simp[Ej]at h;split at h;.rename_i y u ys' us' h1 h3;cases h3;simp at h;obtain⟨rfl,rfl⟩:=h;obtain⟨a',g1,g2⟩:=Jc hm (p:=p) hr Ar h2 h1 ha hu;refine⟨a',?_,λρ' B' m' hf h4 h5 h6=>⟨y,rfl,g2 ρ' B' m' hf h4 h5 h6⟩⟩;have hc:=RC.cell ha;cases a<;>first|exact g1|cases hc.2.1
 grind
theorem Je{top rk lv sl ai p:Nat}{e:Option Ty}(hr:row≠0)(Ar:row%65536=rk)(h2:row/65536≠0):∀{k:Nat}{vs ws:List (Bool×List Cell)}{us:List SL}{aJ:List AV},Bx m2 top rk lv sl ai e k vs=some (ws,us)->aC (R1 ρ B m2) vs aJ->(∀u∈us,row/65536=u.t.size)->∃as',fK m top row lv sl p k aJ=some (as',us.map λu=>bf u.t u.l)/\ws.length=vs.length/\dH ρ B top m2 lv sl ai p us λρ' B' m'=>aC (R1 ρ' B' m') ws as'
 |k,[],ws,us,aJ,h,ha,_=>by cases h;match aJ,ha with|[],_=>exact⟨[],rfl,rfl,λ_ _ _ _ _ _ _=>trivial⟩
 |k,(b,x)::xs,ws,us,aJ,h,ha,hu=>by
  simp[Bx]at h;split at h;.rename_i y u ys' us' h1 h3;cases h;match aJ,ha with|a::aJ,ha=>obtain⟨a',g1,g2⟩:=EH hm (p:=p) hr Ar h2 h1 ha.1 λv hv=>hu v (List.mem_append_left _ hv);obtain⟨as',g3,gl,g4⟩:=Je (p:=p) hr Ar h2 h3 ha.2 λv hv=>hu v (List.mem_append_right _ hv);refine⟨a'::as',by simp only[fK,g1,g3,List.map_append],by rw[List.length_cons,List.length_cons,gl],λρ' B' m' hf h4 h5 h6=>⟨g2 ρ' B' m' hf.left h4 h5 h6,g4 ρ' B' m' hf.right h4 h5 h6⟩⟩
  grind
theorem Jf{top rk lv sl ai p:Nat}{e:Option Ty}(hr:row≠0)(Ar:row%65536=rk)(h2:row/65536≠0){vs ws:List (Bool×List Cell)}{us:List SL}{w:V2}{aJ:List AV}(h:Bx m2 top rk lv sl ai e 1 vs=some (ws,us))(ht:mY ws=some w)(ha:aC (R1 ρ B m2) vs aJ)(hu:∀u∈us,row/65536=u.t.size):∃a',gu m top row lv sl p (jr aJ)=some (a',us.map λu=>bf u.t u.l)/\dH ρ B top m2 lv sl ai p us λρ' B' m'=>RV ρ' B' m' w a':=by match vs,aJ,ha with
 |[],[],ha=>cases h;cases ht;exact⟨.iF [],rfl,λ_ _ _ _ _ _ _=>⟨[],rfl,trivial⟩⟩|[(b,x)],[a],ha=>
  simp[Bx]at h;split at h
  .rename_i y u ys' us' h1 h3;cases h3;simp at h;obtain⟨rfl,rfl⟩:=h;obtain⟨a',g1,g2⟩:=EH hm (p:=p) hr Ar h2 h1 ha.1 hu;refine⟨a',?_,λρ' B' m' hf h4 h5 h6=>?_⟩;.have hn:=R1.fL ha.1;cases a<;>first|exact g1|cases hn
   .have g2:=g2 ρ' B' m' hf h4 h5 h6;cases b with|true=>obtain⟨as',rfl,g3⟩:=g2;cases ht;exact⟨as',rfl,g3⟩|false=>obtain⟨c,rfl,g3⟩:=g2;cases ht;exact g3
  grind|v::v'::vs,a::a'::aJ,ha=>obtain⟨as',g1,gl,g2⟩:=Je hm (p:=p) hr Ar h2 h ha hu;refine⟨.iF as',by simp only[jr,gu,g1,Option.map_some],λρ' B' m' hf h4 h5 h6=>?_⟩;match ws,gl,ht with|x::y::zs,_,ht=>cases ht;exact⟨as',rfl,g2 ρ' B' m' hf h4 h5 h6⟩
end
theorem nP{B:Nat}{m:List (Tr E2)}:∀{vs:List V2}{aJ:List AV},aC (RV ρ B m) vs aJ->aR ρ (vs.flatMap Dk) (aJ.flatMap dQ)|[],[],_=>aR.nil|_::_,_::_,h=>by exact(NQ h.1).append (nP h.2)|[],_::_,h=>h.elim|_::_,[],h=>h.elim
theorem W0(hi:RI ρ nx rem os s2 s p){f:Nat}{c:Callee}{l:List gf}{ps:List pL}(hc:SF Fs f c l ps){vs:List V2}{aJ:List AV}(h:acr s2 c l ps vs K=some r)(has:aC (RV ρ nx s2.mem) vs aJ):∃r2 e,(∃n0,∀n,n0<=n->fM (iE Fs n) false 0 s (s.mem.length-1) d p f aJ=some e)/\nO ρ nx os s2 s r2 e/\K r2=some r:=by
 unfold acr at h;split at h;.rename_i lv sl ai i off rest;match aJ,has with
  |a::aJ,has=>
  split at h
  .rename_i v cs hb he;split at h
   .rename_i hv;have hv:=Nat.eq_of_beq_eq_true hv;subst hv;obtain⟨ds,hds,h⟩:=az h;obtain⟨es,hes,h⟩:=az h;obtain⟨x,hx,h⟩:=az h;obtain⟨y,hy,h⟩:=bind_some h;split at h
    .rename_i new ws rJ;obtain⟨w,hw,h⟩:=az h;obtain⟨⟨hlt,u,hu,rfl⟩,BQ⟩:=has;obtain⟨e,g1,_,u',bs,g2,rfl,g3⟩:=hi.mem.eV _ _ _ he;rw[hu]at g2;cases g2;obtain⟨bs0,cs0,g4,g5,g6⟩:=Gy hds g3;obtain⟨as0,vs0,g7,g8,g9⟩:=WV hes BQ;obtain⟨cs1,r1,W1,q1,q2,q3⟩:=hc x y hy;rw[cU hx,g5 es]at q1;cases q1;have g8:=g8 [];rw[List.append_nil,q2]at g8;cases g8;obtain⟨n0,rv,cm,ts,nv,q4,q5⟩:=q3 bs0 as0 (g6 _ _ _) (g9 _ _ _);obtain⟨cs',ds',a',q6,q7,q8,q9,q10,q11⟩:=q5 new ws w rJ hw;have hst:eE nx s2.mem (fo s2.mem [(lv,sl,some (.box v new))]):=dW (ks:=[]) (e:=.box _ _) trivial;refine⟨_,.bX {val:=a',cX:=[(lv,sl,some (.box u ds'))],cB:=[],rd:=bL lv sl::aJ.flatMap dQ},⟨n0,λn hn=>?_⟩,?_,h⟩
     .have KV:gE s.mem lv sl u=some bs:=by unfold gE;rw[g1];simp[beq_true.2 rfl]
      simp[fM,om,hb,rO,KV,g4,g7,q4 n hn,q6,q7,q9,q8,q10,Bool.and_self]
     .exact .fN hi.mem hi.aG (B':=nx+1) (by omega) hst (dX ⟨by omega,u,_,hu,rfl,(q11 _ _ _).1⟩) (q11 _ _ _).2 (aR.iN lv sl (nP BQ))
    grind
   grind
  grind
 grind
theorem Jg(hE:aF Fs E)(hi:RI ρ nx rem os s2 s p)(LI:0<rem){f:Nat}{vs:List V2}{aJ:List AV}(hsh:Aq Fs f=false)(h:Se E s2 row d nx f vs K=some r)(has:aC (RV ρ nx s2.mem) vs aJ):∃r2 e,(∃n0,∀n,n0<=n->fM (iE Fs n) (Aq Fs f) row s (s.mem.length-1) d p f aJ=some e)/\nO ρ nx os s2 s r2 e/\K r2=some r:=by
 obtain⟨c,hc,h⟩:=az h;split at h
 .rename_i l ps HO;split at h;.rename_i hrow;rw[hsh,Nat.eq_of_beq_eq_true hrow];exact W0 hi ((hE.Aj f c hc).2 l ps HO) h has
  .cases h
 rename_i HO;obtain⟨⟨ds,ks,bs⟩,ha,h⟩:=az h;obtain⟨x,hx,h⟩:=az h;obtain⟨hb,h⟩:=oD h;obtain⟨y,hy,h⟩:=bind_some h;split at h
 .rename_i ws rJ;obtain⟨as',vs',g1,g2,g3⟩:=I8 hi.mem ha has hb;obtain⟨W1,g4,g5⟩:=(hE.Aj f c hc).1 HO x y hy;rw[cU hx]at g4;have Dr:=g2 [];rw[List.append_nil,g4]at Dr;injection Dr with Dr;injection Dr with Dr _;subst Dr;obtain⟨n0,rv,cm,ts,nv,g6,g7⟩:=g5 as' g3;obtain⟨g7,g7'⟩:=g7 ws rJ;split at h
  .rename_i hrow;have hrow:=Nat.eq_of_beq_eq_true hrow;split at h;.cases h
   rename_i As;obtain⟨w,hw,h⟩:=az h;obtain⟨a',g8,g9⟩:=g7 (beq_false.1 As) w hw (s.mem.length-1) d p;refine⟨_,.bX {val:=a',cX:=dS s.mem ks++[],cB:=[],rd:=aJ.flatMap dQ},⟨n0,λn hn=>?_⟩,?_,h⟩;.rw[hsh,hrow];simp only[fM,GA g1,g1,g6 n hn,g8,j4]
   .rw[List.append_nil];exact .fN hi.mem hi.aG (by omega) (qz (ks:=ks)) iQ (g9 _ _ _) (nP has)
  .split at h
   .rename_i Da hq hp;rw[Bool.and_eq_true,Bool.and_eq_true]at hq;obtain⟨⟨hq1,xm⟩,Re⟩:=hq;have hq1:=Nat.eq_of_beq_eq_true hq1;have xm:c.rk≠0:=by intro e;rw[e]at xm;cases xm
    have Re:row/65536≠0:=by intro e;rw[e]at Re;cases Re
    obtain⟨w,hw,h⟩:=az h;obtain⟨a',g8,g9⟩:=g7' row (s2.mem.length-1) d nx p Da [] w xm hq1 Re hp (λv hv=>by cases hv) hw;rw[hi.mem.len]at g8;refine⟨_,.bX {val:=a',cX:=dS s.mem ks++[],cB:=[],rd:=aJ.flatMap dQ},⟨n0,λn hn=>?_⟩,?_,h⟩;.rw[hsh];simp only[fM,GA g1,g1,g6 n hn,g8,j4,List.map_nil]
    .have fI:ρ nx=some p:=hi.z6 0 LI;rw[List.append_nil];exact .fN hi.mem hi.aG (B':=nx+1) (by omega) (qz (ks:=ks)) iQ (g9 _ _ _ ⟨by omega,fI,λv hv=>by cases hv⟩) (nP has)
   .rename_i Da u hq hp;rw[Bool.and_eq_true,Bool.and_eq_true]at hq;obtain⟨⟨hq1,xm⟩,Re⟩:=hq;have hq1:=Nat.eq_of_beq_eq_true hq1;have xm:c.rk≠0:=by intro e;rw[e]at xm;cases xm
    have Re:row/65536≠0:=by intro e;rw[e]at Re;cases Re
    split at h
    .rename_i hsz;have hsz:=Nat.eq_of_beq_eq_true hsz;obtain⟨w,hw,h⟩:=az h;obtain⟨a',g8,g9⟩:=g7' row (s2.mem.length-1) d nx p Da [u] w xm hq1 Re hp (λv hv=>by rw[List.mem_singleton.1 hv];exact hsz) hw;rw[hi.mem.len]at g8;refine⟨_,.bX {val:=a',cX:=dS s.mem ks++[(s.mem.length-1,d,some (.row p (bf u.t u.l)))],cB:=[],rd:=aJ.flatMap dQ},⟨n0,λn hn=>?_⟩,?_,h⟩;.rw[hsh];simp only[fM,GA g1,g1,g6 n hn,g8,j4,List.map_cons,List.map_nil]
     .have fI:ρ nx=some p:=hi.z6 0 LI;rw[<-hi.mem.len];refine .fN hi.mem hi.aG (B':=nx+1) (by omega) (dW (.inl (Nat.le_refl _))) (iQ.append (dX ⟨by omega,p,fI,rfl⟩)) (g9 _ _ _ ⟨by omega,fI,λv hv r' hr'=>?_⟩) (nP has);rw[List.mem_singleton.1 hv];rw[oC]at hr';simp only[fo]at hr';have:=cC hr';rw[jS]at this;split at this;.injection this with this;injection this with _ h1 h2;obtain⟨t',l'⟩:=r';simp only at h1 h2;subst h1;cases h2;rfl
      .have h1:=me (gw.2 this);obtain⟨e,_,hlt,_⟩:=hi.mem.eV _ _ _ (cC h1);omega
    .cases h
   .cases h
 .cases h
theorem SH(hE:aF Fs E)(hi:RI ρ nx rem os s2 s p){f:Nat}{vs:List V2}{aJ:List AV}(h:ZW E s2 f vs K=some r)(has:aC (RV ρ nx s2.mem) vs aJ):∃r2 e,(∃n0,∀n,n0<=n->nC (iE Fs n) s p f aJ=some e)/\nO ρ nx os s2 s r2 e/\K r2=some r:=by
 obtain⟨c,hc,h⟩:=az h;split at h
 .rename_i HO;simp at HO;obtain⟨HO,As⟩:=HO;obtain⟨⟨ds,ks,bs⟩,ha,h⟩:=az h;obtain⟨x,hx,h⟩:=az h;obtain⟨hb,h⟩:=oD h;obtain⟨y,hy,h⟩:=bind_some h;split at h
  .rename_i ws rJ;obtain⟨as',vs',g1,g2,g3⟩:=I5 hi.mem ha has hb;obtain⟨W1,g4,g5⟩:=(hE.Aj f c hc).1 (by simpa using HO) x y hy;rw[cU hx]at g4;have Dr:=g2 [];rw[List.append_nil,g4]at Dr;cases Dr;obtain⟨n0,rv,cm,ts,nv,g6,g7⟩:=g5 as' g3;obtain⟨w,hw,h⟩:=az h;obtain⟨a',g8,g9⟩:=(g7 ws rJ).1 (λe=>by rw[e]at As;cases As) w hw 0 0 p;refine⟨_,.bX {val:=a',cX:=dS s.mem ks,cB:=[],rd:=aJ.flatMap dQ},⟨n0,λn hn=>?_⟩,?_,h⟩;.simp[nC,g1,g6 n hn,g8]
   .exact .fN hi.mem hi.aG (by omega) (qz (ks:=ks)) iQ (g9 _ _ _) (nP has)
  grind
 grind
theorem SI(hE:aF Fs E)(hi:RI ρ nx rem os s2 s p){f:Nat}{vs:List V2}{aJ:List AV}(h:ZX E s2 f vs K=some r)(has:aC (RV ρ nx s2.mem) vs aJ):∃r2 e,(∃n0,∀n,n0<=n->nD (iE Fs n) s p f aJ=some e)/\nO ρ nx os s2 s r2 e/\K r2=some r:=by
 obtain⟨c,hc,h⟩:=az h;split at h
 .rename_i HO;simp at HO;obtain⟨HO,As⟩:=HO;obtain⟨⟨ds,bs⟩,ha,h⟩:=az h;obtain⟨x,hx,h⟩:=az h;obtain⟨hb,h⟩:=oD h;obtain⟨y,hy,h⟩:=bind_some h;split at h
  .rename_i ws rJ;obtain⟨as',vs',g1,g2,g3⟩:=I7 hi.mem ha has hb;obtain⟨W1,g4,g5⟩:=(hE.Aj f c hc).1 (by simpa using HO) x y hy;rw[cU hx]at g4;have Dr:=g2 [];rw[List.append_nil,g4]at Dr;cases Dr;obtain⟨n0,rv,cm,ts,nv,g6,g7⟩:=g5 as' g3;obtain⟨w,hw,h⟩:=az h;obtain⟨a',g8,g9⟩:=(g7 ws rJ).1 (λe=>by rw[e]at As;cases As) w hw 0 0 p;refine⟨_,.bX {val:=a',cX:=[],cB:=[],rd:=aJ.flatMap dQ},⟨n0,λn hn=>?_⟩,?_,h⟩;.simp[nD,g1,g6 n hn,g8]
   .exact .fN (Gp:=[]) (us:=[]) hi.mem hi.aG (by omega) (eE.refl _ _) trivial (g9 _ _ _) (nP has)
  grind
 grind
theorem BR(hwk:LF Fs wk)(hE:aF Fs E)(hi:RI ρ nx rem os s2 s p)(LI:0<rem){f:Nat}{vs:List V2}{aJ:List AV}(h:II E wk ctx s2 row d nx f vs K=some r)(has:aC (RV ρ nx s2.mem) vs aJ):∃r2 e,(∃n0,∀n,n0<=n->fM (iE Fs n) (Aq Fs f) row s (s.mem.length-1) d p f aJ=some e)/\nO ρ nx os s2 s r2 e/\K r2=some r:=by
 unfold II at h;split at h
 .rename_i fn hf;rw[hE.fns]at hf;have hsh:Aq Fs f=fn.sh:=by simp[Aq,hf]
  split at h;.rename_i hfs;rw[hfs]at hsh;exact Jg hE hi LI hsh h has
  .rename_i hfs;rw[hfs]at hsh;split at h;.cases h
   .rename_i hnp;rw[Bool.and_eq_true]at hnp;obtain⟨hnp,hnt⟩:=hnp;have hnt:=BP hnt has;let ρc:aZ:=λv=>if v<nx then ρ v else some (s.nv+(v-nx));have SJ:∀v,v<nx->ρc v=ρ v:=λv hv=>if_pos hv;have hle:nx<=s2.nv:=by have:=hi.nv;omega
    have start:zd ρc (s.slots::os) {slots:=iw 0 vs .lf,outer:=loose s2.slots::s2.outer,mem:=s2.mem++[.lf],aG:=s2.aG,nv:=nx} {slots:=dU 0 aJ .lf,mem:=s.mem++[.lf],aG:=s.aG,nv:=s.nv}:=by
     refine⟨?_,⟨?_,?_⟩,?_,?_,?_,Nat.le_refl _⟩;.exact qC (has.mono λ_ _=>RV.move tN (Nat.le_refl _) SJ)
     .exactλk v hk=>(hi.slots k v (xK _ _ _ hk)).move tN (Nat.le_refl _) SJ
     .exact iy tN (Nat.le_refl _) SJ hi.outer
     .exact(hi.mem.ren SJ).snoc
     .intro v hv;obtain⟨h1,h2⟩:=hi.aG v hv;exact⟨h1,λu hu=>h2 u (by rw[<-SJ v h1];exact hu)⟩
     .refine⟨λv u hv hu=>?_,λv hv=>?_,λv v' u hu kQ=>?_⟩;.have hv:v<nx:=hv;rw[SJ v hv]at hu;exact hi.ai.low v u (by omega) hu
      .have hv:nx<=v:=hv;simp only[ρc];rw[if_neg (by omega)]
      .simp[ρc]at hu kQ;split at hu
       .split at kQ;.exact hi.ai.inj v v' u hu kQ
        .simp_all;have:=hi.ai.low v u (by omega) hu;omega
       .simp_all;split at kQ;.have:=hi.ai.low v' u (by omega) kQ;omega
        .simp_all;omega
    have fin:∀(ax:AX)(t2:S2)(ρ':aZ)(t:St),(∀id,ax≠.exit id)->Ev Fs fn.body {slots:=dU 0 aJ .lf,mem:=s.mem++[.lf],aG:=s.aG,nv:=s.nv} (ax,t)->zd ρ' (s.slots::os) t2 t->Fr ρc nx s.nv ρ' t2.nv->s.nv<=t.nv->(match t2.outer with
      |o::os'=>yV t2 fn.res λvs=>match Nat.beq row 0with|true=>bN (yW t2.mem s2.mem.length vs) λvs=>bN (mY vs) λv=>K (.all v {slots:=merge s2.slots o,outer:=os',mem:=t2.mem.take s2.mem.length,aG:=t2.aG,nv:=t2.nv})|false=>match !Nat.beq (row%65536) 0&&!Nat.beq (row/65536) 0,Bx t2.mem s2.mem.length (row%65536) (s2.mem.length-1) d t2.nv (E.NH ctx d) 1 vs with
        |true,some (vs,[u])=>match Nat.beq (row/65536) u.t.size with|true=>bN (mY vs) λv=>K (.all v {slots:=merge s2.slots o,outer:=os',mem:=fo (t2.mem.take s2.mem.length) [(s2.mem.length-1,d,some (.row t2.nv u.t u.l))],aG:=t2.aG,nv:=t2.nv+1})|false=>none
        |true,some (vs,[])=>bN (mY vs) λv=>K (.all v {slots:=merge s2.slots o,outer:=os',mem:=t2.mem.take s2.mem.length,aG:=t2.aG,nv:=t2.nv+1})|_,_=>none
      |[]=>none)=some r->∃r2 e,(∃n0,∀n,n0<=n->fM (iE Fs n) (Aq Fs f) row s (s.mem.length-1) d p f aJ=some e)/\nO ρ nx os s2 s r2 e/\K r2=some r:=by
     intro ax t2 ρ' t W2 hev z7 hfr Bc hk;have hout:=z7.outer;split at hk
     .rename_i o os' ho;rw[ho]at hout;obtain⟨W1,HM,q1,q2,hk'⟩:=wm z7.mem z7.slots hk;clear hk;have hk:=hk';obtain⟨n0,hev⟩:=hev;have hrun:∀n,n0+1<=n->iE Fs n f aJ (s.mem++[.lf]) s.aG s.nv=some (jr HM,t.mem,t.aG,t.nv):=by intro n hn;obtain⟨n,rfl⟩:∃k,n=k+1:=⟨n-1,by omega⟩;simp[iE,hf];rw[<-has.length];simp[hnp];have:=hev n n (by omega) (by omega);unfold Aq at this;rw[this];cases ax with|normal=>simp[q1,Option.map_some]|ret=>simp[q1,Option.map_some]|exit id=>exact absurd rfl (W2 id)
      split at hk
      .rename_i hrow;have hrow:=Nat.eq_of_beq_eq_true hrow;subst hrow;obtain⟨vs2,q3,hk⟩:=az hk;obtain⟨v,q4,hk⟩:=az hk;obtain⟨a',q5,q6⟩:=WY z7.mem (lv:=s.mem.length-1) (sl:=d) (ai:=p) q3 q4 q2;refine⟨_,.all a' (bz (t.mem.take s.mem.length) []) t.aG t.nv,⟨n0+1,λn hn=>?_⟩,?_,hk⟩;.rw[hsh];simp[fM,hnt,hrun n hn];rw[hi.mem.len]at q5;rw[q5];simp[j4]
       .refine⟨ρ',⟨?_,?_,?_,?_,z7.ai,Nat.le_refl _⟩,?_,?_,Bc⟩
        .intro k v hk;rcases pU _ _ _ _ hk with⟨h1,h2⟩|h1;.exact(hi.slots k v h1).still h2
         .exact(hout.1 k v h1).move lu (Nat.le_refl _) λ_ _=>rfl
        .exact iy lu (Nat.le_refl _) (λ_ _=>rfl) hout.2
        .have:=z7.mem.take (k:=s2.mem.length);rw[hi.mem.len]at this⊢;exact this
        .exact z7.aG
        .exact q6
        .intro v u hv hu;rcases hfr v u hv hu with⟨w,hw,GB⟩|h';.exact .inl ⟨w,by omega,by rw[<-SJ w hw];exact GB⟩
         .exact .inr h'
      .rename_i hrow;have hrow:row≠0:=beq_false.1 hrow;split at hk
       .rename_i vs2 u hq q3;rw[Bool.and_eq_true]at hq;have xm:row/65536≠0:=by intro e;rw[e]at hq;cases hq.2
        split at hk
        .rename_i hsz;have hsz:=Nat.eq_of_beq_eq_true hsz;obtain⟨v,q4,hk⟩:=az hk;obtain⟨a',q5,q6⟩:=Jf z7.mem (p:=p) hrow rfl xm q3 q4 q2 (λv hv=>by rw[List.mem_singleton.1 hv];exact hsz);have fI:ρ nx=some p:=hi.z6 0 LI;have hps:p<s.nv:=by have:=hi.pn;omega
         let Ez:aZ:=λv=>if v<t2.nv then ρ' v else if v=t2.nv then some p else some (t.nv+(v-(t2.nv+1)));have e1:∀v,v<t2.nv->Ez v=ρ' v:=λv h=>if_pos h;have e2:Ez t2.nv=some p:=by show(if _ then _ else _)=_;rw[if_neg (by omega),if_pos rfl]
         have e3:∀v,t2.nv+1<=v->Ez v=some (t.nv+(v-(t2.nv+1))):=λv h=>by show(if _ then _ else _)=_;rw[if_neg (by omega),if_neg (by omega)]
         have fresh:∀v,v<t2.nv->ρ' v≠some p:=by
          intro v hv hu;rcases hfr v p hv hu with⟨w,hw,GB⟩|h';.rw[SJ w hw]at GB;have:=hi.ai.inj _ _ _ GB fI;omega
          .omega
         have hst:eE t2.nv (t2.mem.take s2.mem.length) (fo (t2.mem.take s2.mem.length) [(s2.mem.length-1,d,some (.row t2.nv u.t u.l))]):=by have:=dW (B:=t2.nv) (m:=t2.mem.take s2.mem.length) (ks:=[]) (lv:=s2.mem.length-1) (sl:=d) (e:=.row t2.nv u.t u.l) (.inl (Nat.le_refl _));simpa[kj,List.map_nil,List.nil_append]using this
         have hmt:=(z7.mem.take (k:=s2.mem.length)).ren e1;have hmu:MR Ez (t2.nv+1) (fo (t2.mem.take s2.mem.length) [(s2.mem.length-1,d,some (.row t2.nv u.t u.l))]) (bz (t.mem.take s2.mem.length) [(s2.mem.length-1,d,some (.row p (bf u.t u.l)))]):=hmt.cX (Nat.le_succ _) hst (dX ⟨by omega,p,e2,rfl⟩);refine⟨_,.all a' (bz (t.mem.take s.mem.length) [(s.mem.length-1,d,some (.row p (bf u.t u.l)))]) t.aG t.nv,⟨n0+1,λn hn=>?_⟩,?_,hk⟩;.rw[hsh];simp[fM,hnt,hrun n hn];rw[hi.mem.len]at q5;rw[q5];simp[List.map_cons,List.map_nil,j4]
         .refine⟨Ez,⟨?_,?_,?_,?_,⟨?_,e3,?_⟩,Nat.le_refl _⟩,?_,?_,Bc⟩
          .intro k v hk;rcases pU _ _ _ _ hk with⟨h1,h2⟩|h1;.exact(hi.slots k v h1).still h2
           .exact(hout.1 k v h1).move (lu.trans hst) (Nat.le_succ _) e1
          .exact iy (lu.trans hst) (Nat.le_succ _) e1 hout.2
          .rw[<-hi.mem.len];exact hmu
          .intro v hv;obtain⟨h1,h2⟩:=z7.aG v hv;exact⟨Nat.lt_succ_of_lt h1,λu hu=>h2 u (by rw[<-e1 v h1];exact hu)⟩
          .intro v u' hv hu;have hv:v<t2.nv+1:=hv;show u'<t.nv;rcases Nat.lt_or_ge v t2.nv with h1|h1;.rw[e1 v h1]at hu;exact z7.ai.low v u' h1 hu
           .have:v=t2.nv:=by omega
            subst this;rw[e2]at hu;cases hu;omega
          .intro v v' u' hu kQ;have n9:∀v,v<t2.nv->∀u',Ez v=some u'->u'<t.nv/\u'≠p:=by intro v hv u' hu;rw[e1 v hv]at hu;exact⟨z7.ai.low v u' hv hu,λe=>fresh v hv (by rw[hu,e])⟩
           rcases Nat.lt_trichotomy v t2.nv with h1|h1|h1
           .obtain⟨l1,l2⟩:=n9 v h1 u' hu;rcases Nat.lt_trichotomy v' t2.nv with h3|h3|h3;.rw[e1 v h1]at hu;rw[e1 v' h3]at kQ;exact z7.ai.inj v v' u' hu kQ
            .subst h3;rw[e2]at kQ;simp_all
            .rw[e3 v' h3]at kQ;simp_all;omega
           .subst h1;rw[e2]at hu;injection hu with hu;rcases Nat.lt_trichotomy v' t2.nv with h3|h3|h3;.obtain⟨l1,l2⟩:=n9 v' h3 u' kQ;omega
            .exact h3.symm
            .rw[e3 v' h3]at kQ;simp_all;omega
           .rw[e3 v h1]at hu;injection hu with hu;rcases Nat.lt_trichotomy v' t2.nv with h3|h3|h3;.obtain⟨l1,l2⟩:=n9 v' h3 u' kQ;omega
            .subst h3;rw[e2]at kQ;simp_all;omega
            .rw[e3 v' h3]at kQ;simp_all;omega
          .refine q6 Ez (t2.nv+1) _ ⟨by omega,e2,λv hv r' hr'=>?_⟩ e1 (Nat.le_succ _) hst;rw[List.mem_singleton.1 hv];simp[fo]at hr';have:=cC hr';rw[jS]at this;split at this;.injection this with this;injection this with _ h1 h2;obtain⟨t',l'⟩:=r';simp only at h1 h2;subst h1;cases h2;rfl
           .obtain⟨e,_,hlt,_⟩:=hmt.eV _ _ _ this;omega
          .intro v u' hv hu;have hv:v<t2.nv+1:=hv;rcases Nat.lt_or_ge v t2.nv with h1|h1
           .rw[e1 v h1]at hu;rcases hfr v u' h1 hu with⟨w,hw,GB⟩|h';.exact .inl ⟨w,by omega,by rw[<-SJ w hw];exact GB⟩
            .exact .inr h'
           .have:v=t2.nv:=by omega
            subst this;rw[e2]at hu;exact .inl ⟨nx,by omega,by rw[fI];exact hu⟩
        .cases hk
       .rename_i vs2 hq q3;simp at hq;have xm:row/65536≠0:=by intro e;rw[e]at hq;cases hq.2
        obtain⟨v,q4,hk⟩:=az hk;obtain⟨a',q5,q6⟩:=Jf z7.mem (p:=p) hrow rfl xm q3 q4 q2 (λv hv=>(by cases hv));have fI:ρ nx=some p:=hi.z6 0 LI;have hps:p<s.nv:=by have:=hi.pn;omega
        let Ez:aZ:=λv=>if v<t2.nv then ρ' v else if v=t2.nv then some p else some (t.nv+(v-(t2.nv+1)));have e1:∀v,v<t2.nv->Ez v=ρ' v:=λv h=>if_pos h;have e2:Ez t2.nv=some p:=by show(if _ then _ else _)=_;rw[if_neg (by omega),if_pos rfl]
        have e3:∀v,t2.nv+1<=v->Ez v=some (t.nv+(v-(t2.nv+1))):=λv h=>by show(if _ then _ else _)=_;rw[if_neg (by omega),if_neg (by omega)]
        have fresh:∀v,v<t2.nv->ρ' v≠some p:=by
         intro v hv hu;rcases hfr v p hv hu with⟨w,hw,GB⟩|h';.rw[SJ w hw]at GB;have:=hi.ai.inj _ _ _ GB fI;omega
         .omega
        have hst:eE t2.nv (t2.mem.take s2.mem.length) (t2.mem.take s2.mem.length):=eE.refl _ _;have hmt:=(z7.mem.take (k:=s2.mem.length)).ren e1;have hmu:MR Ez (t2.nv+1) (t2.mem.take s2.mem.length) (t.mem.take s2.mem.length):=hmt.mono (Nat.le_succ _);refine⟨_,.all a' (bz (t.mem.take s.mem.length) []) t.aG t.nv,⟨n0+1,λn hn=>?_⟩,?_,hk⟩;.rw[hsh];simp[fM,hnt,hrun n hn];rw[hi.mem.len]at q5;rw[q5];simp[List.map_nil,j4]
        .refine⟨Ez,⟨?_,?_,?_,?_,⟨?_,e3,?_⟩,Nat.le_refl _⟩,?_,?_,Bc⟩
         .intro k v hk;rcases pU _ _ _ _ hk with⟨h1,h2⟩|h1;.exact(hi.slots k v h1).still h2
          .exact(hout.1 k v h1).move (lu.trans hst) (Nat.le_succ _) e1
         .exact iy (lu.trans hst) (Nat.le_succ _) e1 hout.2
         .rw[<-hi.mem.len];exact hmu
         .intro v hv;obtain⟨h1,h2⟩:=z7.aG v hv;exact⟨Nat.lt_succ_of_lt h1,λu hu=>h2 u (by rw[<-e1 v h1];exact hu)⟩
         .intro v u' hv hu;have hv:v<t2.nv+1:=hv;show u'<t.nv;rcases Nat.lt_or_ge v t2.nv with h1|h1;.rw[e1 v h1]at hu;exact z7.ai.low v u' h1 hu
          .have:v=t2.nv:=by omega
           subst this;rw[e2]at hu;cases hu;omega
         .intro v v' u' hu kQ;have n9:∀v,v<t2.nv->∀u',Ez v=some u'->u'<t.nv/\u'≠p:=by intro v hv u' hu;rw[e1 v hv]at hu;exact⟨z7.ai.low v u' hv hu,λe=>fresh v hv (by rw[hu,e])⟩
          rcases Nat.lt_trichotomy v t2.nv with h1|h1|h1
          .obtain⟨l1,l2⟩:=n9 v h1 u' hu;rcases Nat.lt_trichotomy v' t2.nv with h3|h3|h3;.rw[e1 v h1]at hu;rw[e1 v' h3]at kQ;exact z7.ai.inj v v' u' hu kQ
           .subst h3;rw[e2]at kQ;simp_all
           .rw[e3 v' h3]at kQ;simp_all;omega
          .subst h1;rw[e2]at hu;injection hu with hu;rcases Nat.lt_trichotomy v' t2.nv with h3|h3|h3;.obtain⟨l1,l2⟩:=n9 v' h3 u' kQ;omega
           .exact h3.symm
           .rw[e3 v' h3]at kQ;simp_all;omega
          .rw[e3 v h1]at hu;injection hu with hu;rcases Nat.lt_trichotomy v' t2.nv with h3|h3|h3;.obtain⟨l1,l2⟩:=n9 v' h3 u' kQ;omega
           .subst h3;rw[e2]at kQ;simp_all;omega
           .rw[e3 v' h3]at kQ;simp_all;omega
         .exact q6 Ez (t2.nv+1) _ ⟨by omega,e2,λv hv=>(by cases hv)⟩ e1 (Nat.le_succ _) hst
         .intro v u' hv hu;have hv:v<t2.nv+1:=hv;rcases Nat.lt_or_ge v t2.nv with h1|h1
          .rw[e1 v h1]at hu;rcases hfr v u' h1 hu with⟨w,hw,GB⟩|h';.exact .inl ⟨w,by omega,by rw[<-SJ w hw];exact GB⟩
           .exact .inr h'
          .have:v=t2.nv:=by omega
           subst this;rw[e2]at hu;exact .inl ⟨nx,by omega,by rw[fI];exact hu⟩
       .cases hk
     .cases hk
    dsimp at h;split at h;.obtain⟨ax,t2,ρ',t,g1,g2,g3,g4,g5⟩:=hwk _ _ _ _ _ _ _ h _ _ _ start;cases ax with|exit id=>cases g5|normal=>exact fin .normal t2 ρ' t (λ_ h=>by cases h) g1 g2 g3 g4 g5|ret=>exact fin .ret t2 ρ' t (λ_ h=>by cases h) g1 g2 g3 g4 g5
    .rename_i outs ho;obtain⟨y,hy,h⟩:=bind_some h;obtain⟨ax,t2,ρ',t,g1,g2,g3,g4,g5⟩:=hwk _ _ _ _ _ _ _ hy _ _ _ start;have W2:∀id,ax≠.exit id:=by intro id e;subst e;cases g5
     have g5:mN outs .ret t2=some y:=by cases ax with|exit id=>cases g5|normal=>exact g5|ret=>exact g5
     obtain⟨t3,Ez,g6,g7,g8⟩:=Ap g2 g5;rw[g8]at h;exact fin ax t3 Ez t W2 g1 g6 (g3.trans g7 g4) g4 h
 .rename_i hf;exact Jg hE hi LI (by simp[Aq,<-hE.fns,hf]) h has
theorem uK{ρ:aZ}{B:Nat}{m:List (Tr E2)}:∀{l:List gf}{d d':List eW}{cs:List Cell}{aJ:List AV},l.all gf.flat=true->cJ l d=some (cs,d')->aC (RC ρ B m) cs aJ->aJ.all AI=true
 |[],_,_,_,aJ,_,h,ha=>by cases h;match aJ,ha with|[],_=>rfl
 |c::l,d,d',cs,aJ,hl,h,ha=>by
  rw[List.all_cons,Bool.and_eq_true]at hl;simp[cJ]at h;split at h
  .rename_i x r' h1;split at h;.rename_i xs r'' h2;cases h;match aJ,ha with
    |a::aJ,ha=>
     have hx:AI a=true:=by have hf:=hl.1;unfold gf.fill at h1;split at h1<;>first|(simp only[Option.some.injEq,Prod.mk.injEq]at h1;obtain⟨rfl,rfl⟩:=h1;first|(cases ha.1;rfl)|cases hf)|cases h1
     rw[List.all_cons,hx,uK hl.2 h2 ha.2]<;>grind
   grind
  grind
theorem W3{ρ:aZ}{B:Nat}{m:List (Tr E2)}{b:Bool}{l:List gf}{d d':List eW}{cs:List Cell}{a:AV}(hl:l.all gf.flat=true)(h:cJ l d=some (cs,d'))(ha:R1 ρ B m (b,cs) a):DH a=true:=by cases b with|true=>obtain⟨aJ,rfl,ha⟩:=ha;exact uK hl h ha|false=>obtain⟨c,rfl,ha⟩:=ha;have:=uK (aJ:=[a]) hl h ⟨ha,trivial⟩;simp at this;cases a<;>first|exact this|cases this
theorem xL{ρ:aZ}{B:Nat}{m:List (Tr E2)}:∀{res:List (Bool×List gf)}{d d':List eW}{ws:List (Bool×List Cell)}{aJ:List AV},Ak res=true->ic res d=some (ws,d')->aC (R1 ρ B m) ws aJ->aJ.all DH=true
 |[],_,_,_,aJ,_,h,ha=>by cases h;match aJ,ha with|[],_=>rfl
 |(b,l)::res,d,d',ws,aJ,hl,h,ha=>by
  unfold Ak at hl;rw[List.all_cons,Bool.and_eq_true]at hl;simp[ic]at h;split at h
  .rename_i x r' h1;split at h;.rename_i xs r'' h2;cases h;match aJ,ha with|a::aJ,ha=>rw[List.all_cons,W3 hl.1 h1 ha.1,xL (res:=res) hl.2 h2 ha.2]<;>grind
   grind
  grind
theorem SK{ρ:aZ}{B:Nat}{m:List (Tr E2)}{res:List (Bool×List gf)}{d d':List eW}{ws:List (Bool×List Cell)}{w:V2}{a:AV}(hl:Ak res=true)(h:ic res d=some (ws,d'))(ht:mY ws=some w)(ha:RV ρ B m w a):Rp a=true:=by
 unfold mY at ht;split at ht
 .rename_i b cs;have hr:R1 ρ B m (b,cs) a:=by cases b with|true=>cases ht;exact ha|false=>match cs,ht with|[c],ht=>cases ht;exact⟨c,rfl,ha⟩
  have:=xL (aJ:=[a]) hl h ⟨hr,trivial⟩;simp at this;cases a<;>first|exact this|cases this
 .cases ht;obtain⟨aJ,rfl,ha⟩:=ha;exact xL hl h ha
theorem PI(hE:aF Fs E)(hi:RI ρ nx rem os s2 s p){f:Nat}{vs:List V2}{aJ:List AV}(h:Sf E s2 f vs K=some r)(has:aC (RV ρ nx s2.mem) vs aJ):∃r2 e,(∃n0,∀n,n0<=n->j5 (iE Fs n) s f aJ=some e)/\nO ρ nx os s2 s r2 e/\K r2=some r:=by
 obtain⟨c,hc,h⟩:=az h;split at h
 .rename_i hfl;obtain⟨⟨ds,bs⟩,ha,h⟩:=az h;obtain⟨x,hx,h⟩:=az h;obtain⟨hb,h⟩:=oD h;obtain⟨y,hy,h⟩:=bind_some h;split at h
  .rename_i ws rJ;obtain⟨w,hw,h⟩:=az h;obtain⟨as',vs',g1,gk,g2,g3⟩:=ED hi.mem ha has hb;simp at hfl;obtain⟨⟨hfl,HO⟩,As⟩:=hfl;obtain⟨W1,g4,g5⟩:=(hE.Aj f c hc).1 (by simpa using HO) x y hy;rw[cU hx]at g4;have Dr:=g2 [];rw[List.append_nil,g4]at Dr;cases Dr;obtain⟨n0,rv,cm,ts,nv,g6,g7⟩:=g5 as' g3;obtain⟨a',g8,g9⟩:=(g7 ws rJ).1 (λe=>by rw[e]at As;cases As) w hw 0 0 0;have hfa:=SK hfl rJ hw (g9 ρ0 0 []);refine⟨_,.bX {val:=a',cX:=[],cB:=[],rd:=aJ.flatMap (qi s.mem)},⟨n0,λn hn=>?_⟩,?_,h⟩;.simp[j5,g1,g6 n hn,g8,hfa]
   .exact .xG hi.mem hi.aG (by omega) (g9 _ _ _) gk
  grind
 grind
end
end Go.Sym
