/- The machine over typed data: calls. -/
import Derived.Test.YtgkllgjmfpjeoaaGreatDoorSymB
import Derived.Test.YtgkllgjmfpjeoaaGreatDoorSymI
set_option linter.unusedVariables false
set_option linter.unusedSimpArgs false
namespace Go.Sym
open Go Go.bJ
def zO(Fs:Nat->Option tF):Nat->Bool:=λg=>((Fs g).map (·.sh)).getD false
def Ev(Fs:Tb)(c:AC)(s:St)(x:AX×St):Prop:=∃n0,∀k n,n0<=k->n0<=n->exec (jj Fs k) (zO Fs) n c s=some x
def KD(Fs:Tb)(wk:Wk):Prop:=∀(α:Type)(ctx i:Nat)(c:AC)(s2:S2)(K:AX->S2->Option α)(r:α),wk α ctx i c s2 K=some r->∀(ρ:bt)(os:List (Tr AV))(s:St),zL ρ os s2 s->∃ax s2' ρ' s',Ev Fs c s (ax,s')/\zL ρ' os s2' s'/\Fr ρ s2.nv s.nv ρ' s2'.nv/\s.nv<=s'.nv/\K ax s2'=some r
def ki(ρ:bt)(B:Nat)(m:List (Tr E2))(lv sl ah p:Nat)(us:List SL):Prop:=ah<B/\ρ ah=some p/\∀u∈us,∀r,rowOf m lv sl ah=some r->r.l.length=u.l.length
def aak(Fs:Tb)(f:Nat)(c:Callee):Prop:=∀a y,c.F a=some y->∃vs,di c.args (unpack c.ta a)=some (vs,[])/\∀aL,aC (RV ρ0 0 []) vs aL->∃n0 rv cm ts nv,(∀n,n0<=n->jj Fs n f aL [.lf] .lf 0=some (rv,cm,ts,nv))/\∀ws,jr c.res (unpack c.tr y)=some (ws,[])->(c.rk≠65535->∀w,nU ws=some w->∀lv sl aO,∃a',gC cm 0 0 lv sl aO rv=some (a',[])/\∀ρ B m,RV ρ B m w a')/\∀row lv sl ah p CE us w,c.rk≠0->row%65536=c.rk->row/65536≠0->DJ c.rk lv sl ah 1 ws=some (CE,us)->(∀u∈us,row/65536=u.t.size)->nU CE=some w->∃a',gC cm 0 row lv sl p rv=some (a',us.map λu=>bf u.t u.l)/\∀ρ B m,ki ρ B m lv sl ah p us->RV ρ B m w a'
def kj(Fs:Tb)(f:Nat)(c:Callee):Prop:=aak Fs f c
theorem KE{Fs:Tb}{f:Nat}{c:Callee}(h:∀a,c.F a=none):kj Fs f c:=λa y hy=>by grind
def Rn(Fs:Tb)(c:AC)(L:HG):Prop:=∀x y,L.F x=some y->∀s2,L.T.st (unpack L.T.tys x)=some s2->∀ρ os s,zL ρ os s2 s->∃ax s2' ρ' s',Ev Fs (.loop c) s (ax,s')/\zL ρ' os s2' s'/\Fr ρ s2.nv s.nv ρ' s2'.nv/\s.nv<=s'.nv/\∀{α:Type}(K:AX->S2->Option α),pz L.outs y K=K ax s2'
structure aD(Fs:Tb)(E:ak):Prop where
 fns:E.fns=Fs
 AT:∀f c,E.AT f=some c->kj Fs f c
 loops:∀ctx i c L,E.loops ctx i c=some L->Rn Fs c L
structure RI(ρ:bt)(nx rem:Nat)(os:List (Tr AV))(s2:S2)(s:St)(p:Nat):Prop where
 slots:ur ρ nx s2.mem s2.slots s.slots
 outer:aC (ur ρ nx s2.mem) s2.outer os
 mem:MR ρ nx s2.mem s.mem
 aI:TR ρ nx s2.aI s.aI
 ah:VOK ρ s2.nv s.nv
 zA:∀j,j<rem->ρ (nx+j)=some (p+j)nv:nx+rem=s2.nv
 pn:p+rem<=s.nv
def oh(ρ:bt)(nx:Nat)(os:List (Tr AV))(s2:S2)(s:St):gF->hU->Prop|.bW E,.bW e=>nG ρ nx (nx+1) s2 s E e|.all v s2',.all a m t n=>∃ρ',zL ρ' os s2' {slots:=s.slots,mem:=m,aI:=t,nv:=n}/\RV ρ' s2'.nv s2'.mem v a/\Fr ρ (nx+1) s.nv ρ' s2'.nv/\s.nv<=n|_,_=>False
section
variable{Fs:Tb}{E:ak}{wk:Wk}{α:Type}{ρ:bt}{nx rem p:Nat}{os:List (Tr AV)}{s2:S2}{s:St}{ctx row d:Nat}{K:gF->Option α}{r:α}
theorem tQ:∀(l:List V2)(i:Nat)(t:Tr V2)(k:Nat),(jT i l t).get? k=if h:i<=k/\k<i+l.length then some (l[k-i]'(by omega))else t.get? k
 |[],i,t,k=>by rw[dif_neg (by simp)];rfl|x::r,i,t,k=>by
  rw[jT,tQ r (i+1)];by_cases h1:i+1<=k/\k<i+1+r.length;.grind
  .rw[dif_neg h1];by_cases h2:k=i;.subst h2;simp[Tr.cz]
   .rw[dif_neg (by simp;omega)];rw[Tr.cz,if_neg (Ne.symm h2)]
theorem vN{B:Nat}{m:List (Tr E2)}{vs:List V2}{aL:List AV}(h:aC (RV ρ B m) vs aL):ur ρ B m (jT 0 vs .lf) (eg 0 aL .lf):=by
 intro k v hk;rw[tQ]at hk;rw[qh];split at hk;.subst_vars;obtain⟨b,hb,hr⟩:=h.get (k-0) _ (List.getElem?_eq_getElem (by omega))<;>grind
 simp_all
theorem D5{m:List (Tr E2)}{lv sl:Nat}:ji (m++[.lf]) lv sl=ji m lv sl:=by unfold ji;grind[Tr.get?]
theorem Ih{m:List (Tr bB)}{lv sl:Nat}:aK (m++[.lf]) lv sl=aK m lv sl:=by unfold aK;grind[Tr.get?]
theorem KF{m:List (Tr E2)}{lv sl ah:Nat}:rowOf (m++[.lf]) lv sl ah=rowOf m lv sl ah:=by unfold rowOf;rw[D5]
theorem tu{B:Nat}{m:List (Tr E2)}:eZ B m (m++[.lf]):=λ_ _ _ r _ h=>⟨r,by rw[KF]at h;exact h,rfl⟩
theorem D6{m:List (Tr E2)}{k lv sl:Nat}{e:E2}(h:ji (m.take k) lv sl=some e):lv<k/\ji m lv sl=some e:=by grind[ji]
theorem n7{m:List (Tr bB)}{k lv sl:Nat}(h:lv<k):aK (m.take k) lv sl=aK m lv sl:=by grind[aK]
theorem k9{B k:Nat}{m:List (Tr E2)}:eZ B m (m.take k):=λ_ _ _ r _ h=>⟨r,gv.2 (D6 (cA h)).2,rfl⟩
theorem MR.take{B k:Nat}{m2:List (Tr E2)}{m:List (Tr bB)}(h:MR ρ B m2 m):MR ρ B (m2.take k) (m.take k):=by refine⟨by simp[h.len],λlv sl e2 he=>?_⟩;obtain⟨h1,h2⟩:=D6 he;obtain⟨e,h3,h4⟩:=h.fN lv sl e2 h2;exact⟨e,by rw[n7 h1];exact h3,RE.mono (Nat.le_refl _) (λ_ _=>rfl) (λ_ _=>RC.move k9 (Nat.le_refl _) λ_ _=>rfl) h4⟩
theorem MR.snoc{B:Nat}{m2:List (Tr E2)}{m:List (Tr bB)}(h:MR ρ B m2 m):MR ρ B (m2++[.lf]) (m++[.lf]):=by refine⟨by simp[h.len],λlv sl e2 he=>?_⟩;rw[D5]at he;obtain⟨e,h3,h4⟩:=h.fN lv sl e2 he;exact⟨e,by rw[Ih];exact h3,RE.mono (Nat.le_refl _) (λ_ _=>rfl) (λ_ _=>RC.move tu (Nat.le_refl _) λ_ _=>rfl) h4⟩
theorem MR.ren{ρ':bt}{B:Nat}{m2:List (Tr E2)}{m:List (Tr bB)}(h:MR ρ B m2 m)(hρ:∀v,v<B->ρ' v=ρ v):MR ρ' B m2 m:=by refine⟨h.len,λlv sl e2 he=>?_⟩;obtain⟨e,h3,h4⟩:=h.fN lv sl e2 he;exact⟨e,h3,RE.mono (Nat.le_refl _) hρ (λ_ _=>RC.move (eZ.refl _ _) (Nat.le_refl _) hρ) h4⟩
theorem Bh{B:Nat}{m:List (Tr E2)}:∀{vs:List V2}{aL:List AV},vs.all V2.XL=true->aC (RV ρ B m) vs aL->aL.all fM=true
 |[],[],_,_=>rfl|v::vs,a::aL,h,ha=>by rw[List.all_cons,Bool.and_eq_true]at h;rw[List.all_cons,Bh h.2 ha.2,Bool.and_true];cases v with|c x=>exact(RC.cell ha.1).2.2|agg cs=>obtain⟨as',e,_⟩:=ha.1;rw[e];rfl|gp f cs=>obtain⟨as',e,_⟩:=ha.1;rw[e];rfl|iY vs=>cases h.1
 |[],_::_,_,h=>h.elim|_::_,[],_,h=>h.elim
theorem iw{ρ':bt}{B B':Nat}{m m':List (Tr E2)}(hs:eZ B m m')(hB:B<=B')(hρ:∀v,v<B->ρ' v=ρ v){ts:List (Tr V2)}(h:aC (ur ρ B m) ts os):aC (ur ρ' B' m') ts os:=h.mono λ_ _=>ur.move hs hB hρ
section
variable{B:Nat}{m2:List (Tr E2)}{m:List (Tr bB)}(hm:MR ρ B m2 m)
def dH(ρ:bt)(B top:Nat)(m2:List (Tr E2))(lv sl ah p:Nat)(us:List SL)(Q:bt->Nat->List (Tr E2)->Prop):Prop:=∀ρ' B' m',ki ρ' B' m' lv sl ah p us->(∀v,v<B->ρ' v=ρ v)->B<=B'->eZ B (m2.take top) m'->Q ρ' B' m'
theorem ki.left{ρ:bt}{B:Nat}{m:List (Tr E2)}{lv sl ah p:Nat}{us vs:List SL}(h:ki ρ B m lv sl ah p (us++vs)):ki ρ B m lv sl ah p us:=⟨h.1,h.2.1,λu hu=>h.2.2 u (List.mem_append_left _ hu)⟩
theorem ki.right{ρ:bt}{B:Nat}{m:List (Tr E2)}{lv sl ah p:Nat}{us vs:List SL}(h:ki ρ B m lv sl ah p (us++vs)):ki ρ B m lv sl ah p vs:=⟨h.1,h.2.1,λu hu=>h.2.2 u (List.mem_append_right _ hu)⟩
theorem yJ{top k lv sl ah:Nat}(hn:k≠row%65536){els:List (List D)}{o:UW}(ho:o≠.bC):∃a',bu m top row k lv sl ah (.own els o)=some (a',[])/\(n4 top row=true->a'=.own els o)/\(a'=.own els o\/a'=.d (.sl els)):=by have h0:Nat.beq k (row%65536)=false:=beq_false.2 hn;cases o with|bC=>grind|full=>grind[n4,bu]|cD=>simp[bu]<;>grind
theorem V6{top k lv sl ah:Nat}{x y:Cell}{a:AV}(hr:row≠0)(hn:k≠row%65536)(h:aab m2 top x=some y)(hh:XJ top x=false)(hx:RC ρ B m2 x a):∃a',bu m top row k lv sl ah a=some (a',[])/\RC ρ B (m2.take top) y a':=by
 have keep:∀{els:List (List D)}{o:UW}{z:Cell},o≠.bC->RC ρ B (m2.take top) z (.own els o)->Nat.beq top 0=false->∃a',bu m top row k lv sl ah (.own els o)=some (a',[])/\RC ρ B (m2.take top) z a':=by intro els o z ho hz ht;obtain⟨a',h1,h2,_⟩:=yJ (m:=m) (top:=top) (lv:=lv) (sl:=sl) (ah:=ah) hn (els:=els) ho;rw[h2 (by simp only[n4,beq_false.2 hr,ht];rfl)]at h1;exact⟨_,h1,hz⟩
 have lose:∀{els:List (List D)}{o:UW}{z:Cell},o≠.bC->(RC ρ B (m2.take top) z (.d (.sl els))/\RC ρ B (m2.take top) z (.own els o))->Nat.beq top 0=true->∃a',bu m top row k lv sl ah (.own els o)=some (a',[])/\RC ρ B (m2.take top) z a':=by
  intro els o z ho hz ht;obtain⟨a',h1,_,h2⟩:=yJ (m:=m) (top:=top) (lv:=lv) (sl:=sl) (ah:=ah) hn (els:=els) ho;refine⟨a',h1,?_⟩;rcases h2 with rfl|rfl;.exact hz.2
  .exact hz.1
 unfold aab at h;split at h
 .rename_i b;have hx':=(gH (m:=m) hx).2;split at h
  .rename_i ht;cases h;rcases hx' with rfl|⟨o,ho,rfl⟩;.exact⟨_,rfl,.inl rfl⟩
   .exact lose ho ⟨.inl rfl,.inr ⟨_,ho,rfl⟩⟩ ht
  .rename_i ht;cases h;rcases hx' with rfl|⟨o,ho,rfl⟩;.refine⟨_,rfl,?_⟩;cases b with|false=>exact .inl rfl|true=>cases hx
   .refine keep ho ?_ ht;cases b with|false=>exact .inr ⟨o,ho,rfl⟩|true=>exact hx
 .split at h
  .rename_i ht;cases h;obtain⟨h1,⟨h2,rfl⟩|⟨u,h2,rfl⟩⟩:=hx;.exact lose (λe=>by cases e) ⟨.inl rfl,.inr ⟨_,(λe=>by cases e),rfl⟩⟩ ht
   .exact lose (λe=>by cases e) ⟨.inl rfl,.inr ⟨_,(λe=>by cases e),rfl⟩⟩ ht
  .rename_i ht;cases h;obtain⟨h1,⟨h2,rfl⟩|⟨u,h2,rfl⟩⟩:=hx;.exact keep (λe=>by cases e) ⟨h1,.inl ⟨h2,rfl⟩⟩ ht
   .exact keep (λe=>by cases e) ⟨h1,.inr ⟨u,h2,rfl⟩⟩ ht
 .subst hx;split at h;.rename_i ht;cases h;exact lose (λe=>by cases e) ⟨.inl rfl,.inr ⟨_,(λe=>by cases e),rfl⟩⟩ ht
  .rename_i ht;cases h;exact keep (λe=>by cases e) rfl ht
 .rename_i hn1 hn2 hn3;unfold QX at h;split at h;.cases h;cases hx;exact⟨_,rfl,rfl⟩
  .cases h;cases hx;exact⟨_,rfl,rfl⟩
  .cases h;cases hx;exact⟨_,rfl,rfl⟩
  .cases h;cases hx;exact⟨_,rfl,rfl⟩
  .exact absurd rfl (hn1 _)
  .cases h
  .rename_i t l o hne;cases h;have ho:o=.d:=by cases o with|d=>rfl|bC=>exact absurd rfl hne|full=>exact absurd rfl (hn3 _ _)|app v=>exact absurd rfl (hn2 _ _ _)
   subst ho;rcases hx with rfl|⟨o,ho,rfl⟩;.exact⟨_,rfl,.inl rfl⟩
   .cases ht:Nat.beq top 0with|true=>exact lose ho ⟨.inl rfl,.inr ⟨_,ho,rfl⟩⟩ ht|false=>exact keep ho (.inr ⟨o,ho,rfl⟩) ht
  .rename_i cL dU gB t;have hb:Nat.ble top cL=false:=hh;rw[hb]at h;cases h;obtain⟨hv,u,n,hu,rfl,hn⟩:=hx;refine⟨_,by simp only[bu,hb],hv,u,n,hu,rfl,λr hr=>hn r ?_⟩;have h1:=cA hr;refine gv.2 ?_;unfold ji at h1⊢;rw[List.getElem?_take]at h1;split at h1;.exact h1
   .cases h1
  .rename_i cL dU gB t off len;have hb:Nat.ble top cL=false:=hh;rw[hb]at h;cases h;obtain⟨hv,u,hu,rfl,hn⟩:=hx;refine⟨_,by simp only[bu,hb],hv,u,hu,rfl,λr hr=>hn r ?_⟩;have h1:=cA hr;refine gv.2 ?_;unfold ji at h1⊢;rw[List.getElem?_take]at h1;split at h1;.exact h1
   .cases h1
  .cases h
include hm
theorem Ii{top rk k lv sl ah p:Nat}{e:Option Ty}{x y:Cell}{us:List SL}{a:AV}(hr:row≠0)(zP:row%65536=rk)(h2:row/65536≠0)(h:QY m2 top rk lv sl ah e k x=some (y,us))(hx:RC ρ B m2 x a)(hu:∀u∈us,row/65536=u.t.size):∃a',bu m top row k lv sl p a=some (a',us.map λu=>bf u.t u.l)/\dH ρ B top m2 lv sl ah p us λρ' B' m'=>RC ρ' B' m' y a':=by
 have hrow:Nat.beq row 0=false:=beq_false.2 hr;unfold QY at h;split at h
 .rename_i hk;have hk:=beq_true.1 hk;subst hk;have hkk:Nat.beq k (row%65536)=true:=beq_true.2 zP.symm;have at_:∀{cL dU gB r u},rowOf m2 cL dU gB=some r->ρ gB=some u->bJ.rowAt m cL dU u=some (bf r.t r.l):=by intro cL dU gB r u hr hu;obtain⟨e,g1,g2⟩:=hm.fN _ _ _ (cA hr);obtain⟨_,u',g3,rfl⟩:=g2;unfold bJ.rowAt<;>simp_all
  split at h;.cases e with|none=>cases h|some t=>
    cases h;subst hx;have hs:(!Nat.beq (row/65536) 0)=true:=by rw[beq_false.2 h2];rfl
    have hu:=hu _ (List.mem_singleton.2 rfl);refine⟨.ref lv sl p 0 0 (row/65536),by simp only[bu,hs,hkk,Bool.and_true];rfl,λρ' B' m' hf _ _ _=>⟨hf.1,p,0,hf.2.1,by rw[hu],λr hr=>?_⟩⟩;have:=hf.2.2 _ (List.mem_singleton.2 rfl) r hr<;>grind
  .rename_i cL dU gB t;split at h
   .rename_i r hb hr;split at h
    .rename_i hsz;have hsz:=beq_true.1 hsz;cases h;have he:=lQ hm hx hr;obtain⟨hv,u,n,kK,rfl,hn⟩:=hx;refine⟨.ref lv sl p 0 n t.size,?_,λρ' B' m' hf _ _ _=>⟨hf.1,p,n,hf.2.1,by rw[hsz],λr' hr'=>?_⟩⟩;.simp only[bu,hb,he,hrow,hkk,at_ hr kK]<;>grind
     .rw[hf.2.2 _ (List.mem_singleton.2 rfl) r' hr']<;>grind
    grind
   grind
  .rename_i cL dU gB t off len;split at h
   .rename_i r hb hr;split at h
    .rename_i hsz;have hsz:=beq_true.1 hsz;cases h;have hle:=hx.2.choose_spec.2.2 r hr;have he:=jy hm hx hr hle;obtain⟨hv,u,kK,rfl,hn⟩:=hx;refine⟨.ref lv sl p 0 len t.size,?_,λρ' B' m' hf _ _ _=>⟨hf.1,p,len,hf.2.1,by rw[hsz],λr' hr'=>?_⟩⟩;.simp only[bu,hb,he,hrow,hkk,at_ hr kK]<;>grind
     .rw[hf.2.2 _ (List.mem_singleton.2 rfl) r' hr',List.length_take,List.length_drop]<;>omega
    grind
   grind
  grind
 .rename_i hk;have hk:=beq_false.1 hk;split at h;.cases h
  .rename_i hh;obtain⟨y',h1,h⟩:=Option.map_eq_some_iff.1 h;cases h;obtain⟨a',g1,g2⟩:=V6 (m:=m) (k:=k) (lv:=lv) (sl:=sl) (ah:=p) hr (by rw[zP];exact hk) h1 hh hx;exact⟨a',g1,λρ' B' m' _ hρ hB hs=>g2.move hs hB hρ⟩
theorem Ij{top rk lv sl ah p:Nat}{e:Option Ty}(hr:row≠0)(zP:row%65536=rk)(h2:row/65536≠0):∀{k:Nat}{xs ys:List Cell}{us:List SL}{aL:List AV},DL m2 top rk lv sl ah e k xs=some (ys,us)->aC (RC ρ B m2) xs aL->(∀u∈us,row/65536=u.t.size)->∃as',de m top row lv sl p k aL=some (as',us.map λu=>bf u.t u.l)/\dH ρ B top m2 lv sl ah p us λρ' B' m'=>aC (RC ρ' B' m') ys as'
 |k,[],ys,us,aL,h,ha,_=>by cases h;match aL,ha with|[],_=>exact⟨[],rfl,λ_ _ _ _ _ _ _=>trivial⟩
 |k,x::xs,ys,us,aL,h,ha,hu=>by
  simp[DL]at h;split at h;.rename_i y u ys' us' h1 h3;cases h;match aL,ha with|a::aL,ha=>obtain⟨a',g1,g2⟩:=Ii hm (p:=p) hr zP h2 h1 ha.1 λv hv=>hu v (List.mem_append_left _ hv);obtain⟨as',g3,g4⟩:=Ij (p:=p) hr zP h2 h3 ha.2 λv hv=>hu v (List.mem_append_right _ hv);refine⟨a'::as',by simp only[de,g1,g3,List.map_append],λρ' B' m' hf h4 h5 h6=>⟨g2 ρ' B' m' hf.left h4 h5 h6,g4 ρ' B' m' hf.right h4 h5 h6⟩⟩
  grind
theorem D7{top rk k lv sl ah p:Nat}{e:Option Ty}(hr:row≠0)(zP:row%65536=rk)(h2:row/65536≠0){b:Bool}{xs ys:List Cell}{us:List SL}{a:AV}(h:DL m2 top rk lv sl ah e k xs=some (ys,us))(ha:R1 ρ B m2 (b,xs) a)(hu:∀u∈us,row/65536=u.t.size):∃a',kR m top row lv sl p k a=some (a',us.map λu=>bf u.t u.l)/\dH ρ B top m2 lv sl ah p us λρ' B' m'=>R1 ρ' B' m' (b,ys) a':=by cases b with|true=>obtain⟨aL,rfl,ha⟩:=ha;obtain⟨as',g1,g2⟩:=Ij hm (p:=p) hr zP h2 h ha hu;exact⟨.agg as',by simp only[kR,g1,Option.map_some],λρ' B' m' hf h4 h5 h6=>⟨as',rfl,g2 ρ' B' m' hf h4 h5 h6⟩⟩|false=>
 obtain⟨c,rfl,ha⟩:=ha;simp[DL]at h;split at h;.rename_i y u ys' us' h1 h3;cases h3;simp at h;obtain⟨rfl,rfl⟩:=h;obtain⟨a',g1,g2⟩:=Ii hm (p:=p) hr zP h2 h1 ha hu;refine⟨a',?_,λρ' B' m' hf h4 h5 h6=>⟨y,rfl,g2 ρ' B' m' hf h4 h5 h6⟩⟩;have hc:=RC.cell ha;cases a<;>first|exact g1|cases hc.2.1
 grind
theorem Ik{top rk lv sl ah p:Nat}{e:Option Ty}(hr:row≠0)(zP:row%65536=rk)(h2:row/65536≠0):∀{k:Nat}{vs ws:List (Bool×List Cell)}{us:List SL}{aL:List AV},AY m2 top rk lv sl ah e k vs=some (ws,us)->aC (R1 ρ B m2) vs aL->(∀u∈us,row/65536=u.t.size)->∃as',fL m top row lv sl p k aL=some (as',us.map λu=>bf u.t u.l)/\ws.length=vs.length/\dH ρ B top m2 lv sl ah p us λρ' B' m'=>aC (R1 ρ' B' m') ws as'
 |k,[],ws,us,aL,h,ha,_=>by cases h;match aL,ha with|[],_=>exact⟨[],rfl,rfl,λ_ _ _ _ _ _ _=>trivial⟩
 |k,(b,x)::xs,ws,us,aL,h,ha,hu=>by
  simp[AY]at h;split at h;.rename_i y u ys' us' h1 h3;cases h;match aL,ha with|a::aL,ha=>obtain⟨a',g1,g2⟩:=D7 hm (p:=p) hr zP h2 h1 ha.1 λv hv=>hu v (List.mem_append_left _ hv);obtain⟨as',g3,gl,g4⟩:=Ik (p:=p) hr zP h2 h3 ha.2 λv hv=>hu v (List.mem_append_right _ hv);refine⟨a'::as',by simp only[fL,g1,g3,List.map_append],by rw[List.length_cons,List.length_cons,gl],λρ' B' m' hf h4 h5 h6=>⟨g2 ρ' B' m' hf.left h4 h5 h6,g4 ρ' B' m' hf.right h4 h5 h6⟩⟩
  grind
theorem Il{top rk lv sl ah p:Nat}{e:Option Ty}(hr:row≠0)(zP:row%65536=rk)(h2:row/65536≠0){vs ws:List (Bool×List Cell)}{us:List SL}{w:V2}{aL:List AV}(h:AY m2 top rk lv sl ah e 1 vs=some (ws,us))(ht:nU ws=some w)(ha:aC (R1 ρ B m2) vs aL)(hu:∀u∈us,row/65536=u.t.size):∃a',gC m top row lv sl p (ju aL)=some (a',us.map λu=>bf u.t u.l)/\dH ρ B top m2 lv sl ah p us λρ' B' m'=>RV ρ' B' m' w a':=by match vs,aL,ha with
 |[],[],ha=>cases h;cases ht;exact⟨.iY [],rfl,λ_ _ _ _ _ _ _=>⟨[],rfl,trivial⟩⟩|[(b,x)],[a],ha=>
  simp[AY]at h;split at h
  .rename_i y u ys' us' h1 h3;cases h3;simp at h;obtain⟨rfl,rfl⟩:=h;obtain⟨a',g1,g2⟩:=D7 hm (p:=p) hr zP h2 h1 ha.1 hu;refine⟨a',?_,λρ' B' m' hf h4 h5 h6=>?_⟩;.have hn:=R1.fM ha.1;cases a<;>first|exact g1|cases hn
   .have g2:=g2 ρ' B' m' hf h4 h5 h6;cases b with|true=>obtain⟨as',rfl,g3⟩:=g2;cases ht;exact⟨as',rfl,g3⟩|false=>obtain⟨c,rfl,g3⟩:=g2;cases ht;exact g3
  grind|v::v'::vs,a::a'::aL,ha=>obtain⟨as',g1,gl,g2⟩:=Ik hm (p:=p) hr zP h2 h ha hu;refine⟨.iY as',by simp only[ju,gC,g1,Option.map_some],λρ' B' m' hf h4 h5 h6=>?_⟩;match ws,gl,ht with|x::y::zs,_,ht=>cases ht;exact⟨as',rfl,g2 ρ' B' m' hf h4 h5 h6⟩
end
theorem pM{B:Nat}{m:List (Tr E2)}:∀{vs:List V2}{aL:List AV},aC (RV ρ B m) vs aL->aS ρ (vs.flatMap Fw) (aL.flatMap ec)|[],[],_=>aS.nil|_::_,_::_,h=>by exact(MF h.1).append (pM h.2)|[],_::_,h=>h.elim|_::_,[],h=>h.elim
theorem Im(hE:aD Fs E)(hi:RI ρ nx rem os s2 s p)(KG:0<rem){f:Nat}{vs:List V2}{aL:List AV}(hsh:zO Fs f=false)(h:QZ E s2 row d nx f vs K=some r)(has:aC (RV ρ nx s2.mem) vs aL):∃r2 e,(∃n0,∀n,n0<=n->gr (jj Fs n) (zO Fs f) row s (s.mem.length-1) d p f aL=some e)/\oh ρ nx os s2 s r2 e/\K r2=some r:=by
 obtain⟨c,hc,h⟩:=aA h;obtain⟨⟨ds,ks,bs⟩,ha,h⟩:=aA h;obtain⟨x,hx,h⟩:=aA h;obtain⟨hb,h⟩:=og h;obtain⟨y,hy,h⟩:=bind_some h;split at h
 .rename_i ws xl;obtain⟨as',vs',g1,g2,g3⟩:=Ic hi.mem ha has hb;obtain⟨vs1,g4,g5⟩:=hE.AT f c hc x y hy;rw[dm hx]at g4;have CU:=g2 [];rw[List.append_nil,g4]at CU;injection CU with CU;injection CU with CU _;subst CU;obtain⟨n0,rv,cm,ts,nv,g6,g7⟩:=g5 as' g3;obtain⟨g7,ZU⟩:=g7 ws xl;split at h
  .rename_i hrow;have hrow:=Nat.eq_of_beq_eq_true hrow;split at h;.cases h
   rename_i yK;obtain⟨w,hw,h⟩:=aA h;obtain⟨a',g8,g9⟩:=g7 (beq_false.1 yK) w hw (s.mem.length-1) d p;refine⟨_,.bW {val:=a',cV:=dV s.mem ks++[],cD:=[],rd:=aL.flatMap ec},⟨n0,λn hn=>?_⟩,?_,h⟩;.rw[hsh,hrow];simp only[gr,g1,g6 n hn,g8,jZ]
   .rw[List.append_nil];exact .gm hi.mem hi.aI (by omega) (qk (ks:=ks)) iN (g9 _ _ _) (pM has)
  .split at h
   .rename_i CE hq hp;rw[Bool.and_eq_true,Bool.and_eq_true]at hq;obtain⟨⟨hq1,wT⟩,P4⟩:=hq;have hq1:=Nat.eq_of_beq_eq_true hq1;have wT:c.rk≠0:=by intro e;rw[e]at wT;cases wT
    have P4:row/65536≠0:=by intro e;rw[e]at P4;cases P4
    obtain⟨w,hw,h⟩:=aA h;obtain⟨a',g8,g9⟩:=ZU row (s2.mem.length-1) d nx p CE [] w wT hq1 P4 hp (λv hv=>by cases hv) hw;rw[hi.mem.len]at g8;refine⟨_,.bW {val:=a',cV:=dV s.mem ks++[],cD:=[],rd:=aL.flatMap ec},⟨n0,λn hn=>?_⟩,?_,h⟩;.rw[hsh];simp only[gr,g1,g6 n hn,g8,jZ,List.map_nil]
    .have fk:ρ nx=some p:=hi.zA 0 KG;rw[List.append_nil];exact .gm hi.mem hi.aI (B':=nx+1) (by omega) (qk (ks:=ks)) iN (g9 _ _ _ ⟨by omega,fk,λv hv=>by cases hv⟩) (pM has)
   .rename_i CE u hq hp;rw[Bool.and_eq_true,Bool.and_eq_true]at hq;obtain⟨⟨hq1,wT⟩,P4⟩:=hq;have hq1:=Nat.eq_of_beq_eq_true hq1;have wT:c.rk≠0:=by intro e;rw[e]at wT;cases wT
    have P4:row/65536≠0:=by intro e;rw[e]at P4;cases P4
    split at h
    .rename_i hsz;have hsz:=Nat.eq_of_beq_eq_true hsz;obtain⟨w,hw,h⟩:=aA h;obtain⟨a',g8,g9⟩:=ZU row (s2.mem.length-1) d nx p CE [u] w wT hq1 P4 hp (λv hv=>by rw[List.mem_singleton.1 hv];exact hsz) hw;rw[hi.mem.len]at g8;refine⟨_,.bW {val:=a',cV:=dV s.mem ks++[(s.mem.length-1,d,some (.row p (bf u.t u.l)))],cD:=[],rd:=aL.flatMap ec},⟨n0,λn hn=>?_⟩,?_,h⟩;.rw[hsh];simp only[gr,g1,g6 n hn,g8,jZ,List.map_cons,List.map_nil]
     .have fk:ρ nx=some p:=hi.zA 0 KG;rw[<-hi.mem.len];refine .gm hi.mem hi.aI (B':=nx+1) (by omega) (eM (.inl (Nat.le_refl _))) (iN.append (eN ⟨by omega,p,fk,rfl⟩)) (g9 _ _ _ ⟨by omega,fk,λv hv r' hr'=>?_⟩) (pM has);rw[List.mem_singleton.1 hv];rw[oe]at hr';simp only[fU]at hr';have:=cA hr';rw[jU]at this;split at this;.injection this with this;injection this with _ h1 h2;obtain⟨t',l'⟩:=r';simp only at h1 h2;subst h1;cases h2;rfl
      .have h1:=l7 (gv.2 this);obtain⟨e,_,hlt,_⟩:=hi.mem.fN _ _ _ (cA h1);omega
    .cases h
   .cases h
 .cases h
theorem Ro(hE:aD Fs E)(hi:RI ρ nx rem os s2 s p){f:Nat}{vs:List V2}{aL:List AV}(h:XM E s2 f vs K=some r)(has:aC (RV ρ nx s2.mem) vs aL):∃r2 e,(∃n0,∀n,n0<=n->ni (jj Fs n) s p f aL=some e)/\oh ρ nx os s2 s r2 e/\K r2=some r:=by
 obtain⟨c,hc,h⟩:=aA h;split at h
 .rename_i yK;simp at yK;obtain⟨⟨ds,ks,bs⟩,ha,h⟩:=aA h;obtain⟨x,hx,h⟩:=aA h;obtain⟨hb,h⟩:=og h;obtain⟨y,hy,h⟩:=bind_some h;split at h
  .rename_i ws xl;obtain⟨as',vs',g1,g2,g3⟩:=H9 hi.mem ha has hb;obtain⟨vs1,g4,g5⟩:=hE.AT f c hc x y hy;rw[dm hx]at g4;have CU:=g2 [];rw[List.append_nil,g4]at CU;cases CU;obtain⟨n0,rv,cm,ts,nv,g6,g7⟩:=g5 as' g3;obtain⟨w,hw,h⟩:=aA h;obtain⟨a',g8,g9⟩:=(g7 ws xl).1 (λe=>by rw[e]at yK;cases yK) w hw 0 0 p;refine⟨_,.bW {val:=a',cV:=dV s.mem ks,cD:=[],rd:=aL.flatMap ec},⟨n0,λn hn=>?_⟩,?_,h⟩;.simp[ni,g1,g6 n hn,g8]
   .exact .gm hi.mem hi.aI (by omega) (qk (ks:=ks)) iN (g9 _ _ _) (pM has)
  grind
 grind
theorem Rp(hE:aD Fs E)(hi:RI ρ nx rem os s2 s p){f:Nat}{vs:List V2}{aL:List AV}(h:XN E s2 f vs K=some r)(has:aC (RV ρ nx s2.mem) vs aL):∃r2 e,(∃n0,∀n,n0<=n->nj (jj Fs n) s p f aL=some e)/\oh ρ nx os s2 s r2 e/\K r2=some r:=by
 obtain⟨c,hc,h⟩:=aA h;split at h
 .rename_i yK;simp at yK;obtain⟨⟨ds,bs⟩,ha,h⟩:=aA h;obtain⟨x,hx,h⟩:=aA h;obtain⟨hb,h⟩:=og h;obtain⟨y,hy,h⟩:=bind_some h;split at h
  .rename_i ws xl;obtain⟨as',vs',g1,g2,g3⟩:=Ib hi.mem ha has hb;obtain⟨vs1,g4,g5⟩:=hE.AT f c hc x y hy;rw[dm hx]at g4;have CU:=g2 [];rw[List.append_nil,g4]at CU;cases CU;obtain⟨n0,rv,cm,ts,nv,g6,g7⟩:=g5 as' g3;obtain⟨w,hw,h⟩:=aA h;obtain⟨a',g8,g9⟩:=(g7 ws xl).1 (λe=>by rw[e]at yK;cases yK) w hw 0 0 p;refine⟨_,.bW {val:=a',cV:=[],cD:=[],rd:=aL.flatMap ec},⟨n0,λn hn=>?_⟩,?_,h⟩;.simp[nj,g1,g6 n hn,g8]
   .exact .gm (FG:=[]) (us:=[]) hi.mem hi.aI (by omega) (eZ.refl _ _) trivial (g9 _ _ _) (pM has)
  grind
 grind
theorem Bi(hwk:KD Fs wk)(hE:aD Fs E)(hi:RI ρ nx rem os s2 s p)(KG:0<rem){f:Nat}{vs:List V2}{aL:List AV}(h:HI E wk ctx s2 row d nx f vs K=some r)(has:aC (RV ρ nx s2.mem) vs aL):∃r2 e,(∃n0,∀n,n0<=n->gr (jj Fs n) (zO Fs f) row s (s.mem.length-1) d p f aL=some e)/\oh ρ nx os s2 s r2 e/\K r2=some r:=by
 unfold HI at h;split at h
 .rename_i fn hf;rw[hE.fns]at hf;have hsh:zO Fs f=fn.sh:=by simp[zO,hf]
  split at h;.rename_i hfs;rw[hfs]at hsh;exact Im hE hi KG hsh h has
  .rename_i hfs;rw[hfs]at hsh;split at h;.cases h
   .rename_i hnp;rw[Bool.and_eq_true]at hnp;obtain⟨hnp,hnt⟩:=hnp;have hnt:=Bh hnt has;let ρc:bt:=λv=>if v<nx then ρ v else some (s.nv+(v-nx));have Rq:∀v,v<nx->ρc v=ρ v:=λv hv=>if_pos hv;have hle:nx<=s2.nv:=by have:=hi.nv;omega
    have start:zL ρc (s.slots::os) {slots:=jT 0 vs .lf,outer:=loose s2.slots::s2.outer,mem:=s2.mem++[.lf],aI:=s2.aI,nv:=nx} {slots:=eg 0 aL .lf,mem:=s.mem++[.lf],aI:=s.aI,nv:=s.nv}:=by
     refine⟨?_,⟨?_,?_⟩,?_,?_,?_,Nat.le_refl _⟩;.exact vN (has.mono λ_ _=>RV.move tu (Nat.le_refl _) Rq)
     .exactλk v hk=>(hi.slots k v (xk _ _ _ hk)).move tu (Nat.le_refl _) Rq
     .exact iw tu (Nat.le_refl _) Rq hi.outer
     .exact(hi.mem.ren Rq).snoc
     .intro v hv;obtain⟨h1,h2⟩:=hi.aI v hv;exact⟨h1,λu hu=>h2 u (by rw[<-Rq v h1];exact hu)⟩
     .refine⟨λv u hv hu=>?_,λv hv=>?_,λv v' u hu kK=>?_⟩;.have hv:v<nx:=hv;rw[Rq v hv]at hu;exact hi.ah.low v u (by omega) hu
      .have hv:nx<=v:=hv;simp only[ρc];rw[if_neg (by omega)]
      .simp[ρc]at hu kK;split at hu
       .split at kK;.exact hi.ah.inj v v' u hu kK
        .simp_all;have:=hi.ah.low v u (by omega) hu;omega
       .simp_all;split at kK;.have:=hi.ah.low v' u (by omega) kK;omega
        .simp_all;omega
    have fin:∀(ax:AX)(t2:S2)(ρ':bt)(t:St),(∀id,ax≠.exit id)->Ev Fs fn.body {slots:=eg 0 aL .lf,mem:=s.mem++[.lf],aI:=s.aI,nv:=s.nv} (ax,t)->zL ρ' (s.slots::os) t2 t->Fr ρc nx s.nv ρ' t2.nv->s.nv<=t.nv->(match t2.outer with
      |o::os'=>DK t2 fn.res λvs=>match Nat.beq row 0with|true=>bZ (yA t2.mem s2.mem.length vs) λvs=>bZ (nU vs) λv=>K (.all v {slots:=merge s2.slots o,outer:=os',mem:=t2.mem.take s2.mem.length,aI:=t2.aI,nv:=t2.nv})|false=>match !Nat.beq (row%65536) 0&&!Nat.beq (row/65536) 0,AY t2.mem s2.mem.length (row%65536) (s2.mem.length-1) d t2.nv (E.Mw ctx d) 1 vs with
        |true,some (vs,[u])=>match Nat.beq (row/65536) u.t.size with|true=>bZ (nU vs) λv=>K (.all v {slots:=merge s2.slots o,outer:=os',mem:=fU (t2.mem.take s2.mem.length) [(s2.mem.length-1,d,some (.row t2.nv u.t u.l))],aI:=t2.aI,nv:=t2.nv+1})|false=>none
        |true,some (vs,[])=>bZ (nU vs) λv=>K (.all v {slots:=merge s2.slots o,outer:=os',mem:=t2.mem.take s2.mem.length,aI:=t2.aI,nv:=t2.nv+1})|_,_=>none
      |[]=>none)=some r->∃r2 e,(∃n0,∀n,n0<=n->gr (jj Fs n) (zO Fs f) row s (s.mem.length-1) d p f aL=some e)/\oh ρ nx os s2 s r2 e/\K r2=some r:=by
     intro ax t2 ρ' t hax hev zB hfr Ay hk;have hout:=zB.outer;split at hk
     .rename_i o os' ho;rw[ho]at hout;obtain⟨vs1,JO,q1,q2,hk'⟩:=Bg zB.mem zB.slots hk;clear hk;have hk:=hk';obtain⟨n0,hev⟩:=hev;have hrun:∀n,n0+1<=n->jj Fs n f aL (s.mem++[.lf]) s.aI s.nv=some (ju JO,t.mem,t.aI,t.nv):=by intro n hn;obtain⟨n,rfl⟩:∃k,n=k+1:=⟨n-1,by omega⟩;simp[jj,hf];rw[<-has.length];simp[hnp];have:=hev n n (by omega) (by omega);unfold zO at this;rw[this];cases ax with|normal=>simp[q1,Option.map_some]|ret=>simp[q1,Option.map_some]|exit id=>exact absurd rfl (hax id)
      split at hk
      .rename_i hrow;have hrow:=Nat.eq_of_beq_eq_true hrow;subst hrow;obtain⟨vs2,q3,hk⟩:=aA hk;obtain⟨v,q4,hk⟩:=aA hk;obtain⟨a',q5,q6⟩:=V5 zB.mem (lv:=s.mem.length-1) (sl:=d) (ah:=p) q3 q4 q2;refine⟨_,.all a' (bw (t.mem.take s.mem.length) []) t.aI t.nv,⟨n0+1,λn hn=>?_⟩,?_,hk⟩;.rw[hsh];simp[gr,hnt,hrun n hn];rw[hi.mem.len]at q5;rw[q5];simp[jZ]
       .refine⟨ρ',⟨?_,?_,?_,?_,zB.ah,Nat.le_refl _⟩,?_,?_,Ay⟩
        .intro k v hk;rcases pL _ _ _ _ hk with⟨h1,h2⟩|h1;.exact(hi.slots k v h1).still h2
         .exact(hout.1 k v h1).move k9 (Nat.le_refl _) λ_ _=>rfl
        .exact iw k9 (Nat.le_refl _) (λ_ _=>rfl) hout.2
        .have:=zB.mem.take (k:=s2.mem.length);rw[hi.mem.len]at this⊢;exact this
        .exact zB.aI
        .exact q6
        .intro v u hv hu;rcases hfr v u hv hu with⟨w,hw,FQ⟩|h';.exact .inl ⟨w,by omega,by rw[<-Rq w hw];exact FQ⟩
         .exact .inr h'
      .rename_i hrow;have hrow:row≠0:=beq_false.1 hrow;split at hk
       .rename_i vs2 u hq q3;rw[Bool.and_eq_true]at hq;have wT:row/65536≠0:=by intro e;rw[e]at hq;cases hq.2
        split at hk
        .rename_i hsz;have hsz:=Nat.eq_of_beq_eq_true hsz;obtain⟨v,q4,hk⟩:=aA hk;obtain⟨a',q5,q6⟩:=Il zB.mem (p:=p) hrow rfl wT q3 q4 q2 (λv hv=>by rw[List.mem_singleton.1 hv];exact hsz);have fk:ρ nx=some p:=hi.zA 0 KG;have hps:p<s.nv:=by have:=hi.pn;omega
         let DZ:bt:=λv=>if v<t2.nv then ρ' v else if v=t2.nv then some p else some (t.nv+(v-(t2.nv+1)));have e1:∀v,v<t2.nv->DZ v=ρ' v:=λv h=>if_pos h;have e2:DZ t2.nv=some p:=by show(if _ then _ else _)=_;rw[if_neg (by omega),if_pos rfl]
         have e3:∀v,t2.nv+1<=v->DZ v=some (t.nv+(v-(t2.nv+1))):=λv h=>by show(if _ then _ else _)=_;rw[if_neg (by omega),if_neg (by omega)]
         have fresh:∀v,v<t2.nv->ρ' v≠some p:=by
          intro v hv hu;rcases hfr v p hv hu with⟨w,hw,FQ⟩|h';.rw[Rq w hw]at FQ;have:=hi.ah.inj _ _ _ FQ fk;omega
          .omega
         have hst:eZ t2.nv (t2.mem.take s2.mem.length) (fU (t2.mem.take s2.mem.length) [(s2.mem.length-1,d,some (.row t2.nv u.t u.l))]):=by have:=eM (B:=t2.nv) (m:=t2.mem.take s2.mem.length) (ks:=[]) (lv:=s2.mem.length-1) (sl:=d) (e:=.row t2.nv u.t u.l) (.inl (Nat.le_refl _));simpa[kf,List.map_nil,List.nil_append]using this
         have hmt:=(zB.mem.take (k:=s2.mem.length)).ren e1;have hmu:MR DZ (t2.nv+1) (fU (t2.mem.take s2.mem.length) [(s2.mem.length-1,d,some (.row t2.nv u.t u.l))]) (bw (t.mem.take s2.mem.length) [(s2.mem.length-1,d,some (.row p (bf u.t u.l)))]):=hmt.cV (Nat.le_succ _) hst (eN ⟨by omega,p,e2,rfl⟩);refine⟨_,.all a' (bw (t.mem.take s.mem.length) [(s.mem.length-1,d,some (.row p (bf u.t u.l)))]) t.aI t.nv,⟨n0+1,λn hn=>?_⟩,?_,hk⟩;.rw[hsh];simp[gr,hnt,hrun n hn];rw[hi.mem.len]at q5;rw[q5];simp[List.map_cons,List.map_nil,jZ]
         .refine⟨DZ,⟨?_,?_,?_,?_,⟨?_,e3,?_⟩,Nat.le_refl _⟩,?_,?_,Ay⟩
          .intro k v hk;rcases pL _ _ _ _ hk with⟨h1,h2⟩|h1;.exact(hi.slots k v h1).still h2
           .exact(hout.1 k v h1).move (k9.trans hst) (Nat.le_succ _) e1
          .exact iw (k9.trans hst) (Nat.le_succ _) e1 hout.2
          .rw[<-hi.mem.len];exact hmu
          .intro v hv;obtain⟨h1,h2⟩:=zB.aI v hv;exact⟨Nat.lt_succ_of_lt h1,λu hu=>h2 u (by rw[<-e1 v h1];exact hu)⟩
          .intro v u' hv hu;have hv:v<t2.nv+1:=hv;show u'<t.nv;rcases Nat.lt_or_ge v t2.nv with h1|h1;.rw[e1 v h1]at hu;exact zB.ah.low v u' h1 hu
           .have:v=t2.nv:=by omega
            subst this;rw[e2]at hu;cases hu;omega
          .intro v v' u' hu kK;have nT:∀v,v<t2.nv->∀u',DZ v=some u'->u'<t.nv/\u'≠p:=by intro v hv u' hu;rw[e1 v hv]at hu;exact⟨zB.ah.low v u' hv hu,λe=>fresh v hv (by rw[hu,e])⟩
           rcases Nat.lt_trichotomy v t2.nv with h1|h1|h1
           .obtain⟨l1,l2⟩:=nT v h1 u' hu;rcases Nat.lt_trichotomy v' t2.nv with h3|h3|h3;.rw[e1 v h1]at hu;rw[e1 v' h3]at kK;exact zB.ah.inj v v' u' hu kK
            .subst h3;rw[e2]at kK;simp_all
            .rw[e3 v' h3]at kK;simp_all;omega
           .subst h1;rw[e2]at hu;injection hu with hu;rcases Nat.lt_trichotomy v' t2.nv with h3|h3|h3;.obtain⟨l1,l2⟩:=nT v' h3 u' kK;omega
            .exact h3.symm
            .rw[e3 v' h3]at kK;simp_all;omega
           .rw[e3 v h1]at hu;injection hu with hu;rcases Nat.lt_trichotomy v' t2.nv with h3|h3|h3;.obtain⟨l1,l2⟩:=nT v' h3 u' kK;omega
            .subst h3;rw[e2]at kK;simp_all;omega
            .rw[e3 v' h3]at kK;simp_all;omega
          .refine q6 DZ (t2.nv+1) _ ⟨by omega,e2,λv hv r' hr'=>?_⟩ e1 (Nat.le_succ _) hst;rw[List.mem_singleton.1 hv];simp[fU]at hr';have:=cA hr';rw[jU]at this;split at this;.injection this with this;injection this with _ h1 h2;obtain⟨t',l'⟩:=r';simp only at h1 h2;subst h1;cases h2;rfl
           .obtain⟨e,_,hlt,_⟩:=hmt.fN _ _ _ this;omega
          .intro v u' hv hu;have hv:v<t2.nv+1:=hv;rcases Nat.lt_or_ge v t2.nv with h1|h1
           .rw[e1 v h1]at hu;rcases hfr v u' h1 hu with⟨w,hw,FQ⟩|h';.exact .inl ⟨w,by omega,by rw[<-Rq w hw];exact FQ⟩
            .exact .inr h'
           .have:v=t2.nv:=by omega
            subst this;rw[e2]at hu;exact .inl ⟨nx,by omega,by rw[fk];exact hu⟩
        .cases hk
       .rename_i vs2 hq q3;simp at hq;have wT:row/65536≠0:=by intro e;rw[e]at hq;cases hq.2
        obtain⟨v,q4,hk⟩:=aA hk;obtain⟨a',q5,q6⟩:=Il zB.mem (p:=p) hrow rfl wT q3 q4 q2 (λv hv=>(by cases hv));have fk:ρ nx=some p:=hi.zA 0 KG;have hps:p<s.nv:=by have:=hi.pn;omega
        let DZ:bt:=λv=>if v<t2.nv then ρ' v else if v=t2.nv then some p else some (t.nv+(v-(t2.nv+1)));have e1:∀v,v<t2.nv->DZ v=ρ' v:=λv h=>if_pos h;have e2:DZ t2.nv=some p:=by show(if _ then _ else _)=_;rw[if_neg (by omega),if_pos rfl]
        have e3:∀v,t2.nv+1<=v->DZ v=some (t.nv+(v-(t2.nv+1))):=λv h=>by show(if _ then _ else _)=_;rw[if_neg (by omega),if_neg (by omega)]
        have fresh:∀v,v<t2.nv->ρ' v≠some p:=by
         intro v hv hu;rcases hfr v p hv hu with⟨w,hw,FQ⟩|h';.rw[Rq w hw]at FQ;have:=hi.ah.inj _ _ _ FQ fk;omega
         .omega
        have hst:eZ t2.nv (t2.mem.take s2.mem.length) (t2.mem.take s2.mem.length):=eZ.refl _ _;have hmt:=(zB.mem.take (k:=s2.mem.length)).ren e1;have hmu:MR DZ (t2.nv+1) (t2.mem.take s2.mem.length) (t.mem.take s2.mem.length):=hmt.mono (Nat.le_succ _);refine⟨_,.all a' (bw (t.mem.take s.mem.length) []) t.aI t.nv,⟨n0+1,λn hn=>?_⟩,?_,hk⟩;.rw[hsh];simp[gr,hnt,hrun n hn];rw[hi.mem.len]at q5;rw[q5];simp[List.map_nil,jZ]
        .refine⟨DZ,⟨?_,?_,?_,?_,⟨?_,e3,?_⟩,Nat.le_refl _⟩,?_,?_,Ay⟩
         .intro k v hk;rcases pL _ _ _ _ hk with⟨h1,h2⟩|h1;.exact(hi.slots k v h1).still h2
          .exact(hout.1 k v h1).move (k9.trans hst) (Nat.le_succ _) e1
         .exact iw (k9.trans hst) (Nat.le_succ _) e1 hout.2
         .rw[<-hi.mem.len];exact hmu
         .intro v hv;obtain⟨h1,h2⟩:=zB.aI v hv;exact⟨Nat.lt_succ_of_lt h1,λu hu=>h2 u (by rw[<-e1 v h1];exact hu)⟩
         .intro v u' hv hu;have hv:v<t2.nv+1:=hv;show u'<t.nv;rcases Nat.lt_or_ge v t2.nv with h1|h1;.rw[e1 v h1]at hu;exact zB.ah.low v u' h1 hu
          .have:v=t2.nv:=by omega
           subst this;rw[e2]at hu;cases hu;omega
         .intro v v' u' hu kK;have nT:∀v,v<t2.nv->∀u',DZ v=some u'->u'<t.nv/\u'≠p:=by intro v hv u' hu;rw[e1 v hv]at hu;exact⟨zB.ah.low v u' hv hu,λe=>fresh v hv (by rw[hu,e])⟩
          rcases Nat.lt_trichotomy v t2.nv with h1|h1|h1
          .obtain⟨l1,l2⟩:=nT v h1 u' hu;rcases Nat.lt_trichotomy v' t2.nv with h3|h3|h3;.rw[e1 v h1]at hu;rw[e1 v' h3]at kK;exact zB.ah.inj v v' u' hu kK
           .subst h3;rw[e2]at kK;simp_all
           .rw[e3 v' h3]at kK;simp_all;omega
          .subst h1;rw[e2]at hu;injection hu with hu;rcases Nat.lt_trichotomy v' t2.nv with h3|h3|h3;.obtain⟨l1,l2⟩:=nT v' h3 u' kK;omega
           .exact h3.symm
           .rw[e3 v' h3]at kK;simp_all;omega
          .rw[e3 v h1]at hu;injection hu with hu;rcases Nat.lt_trichotomy v' t2.nv with h3|h3|h3;.obtain⟨l1,l2⟩:=nT v' h3 u' kK;omega
           .subst h3;rw[e2]at kK;simp_all;omega
           .rw[e3 v' h3]at kK;simp_all;omega
         .exact q6 DZ (t2.nv+1) _ ⟨by omega,e2,λv hv=>(by cases hv)⟩ e1 (Nat.le_succ _) hst
         .intro v u' hv hu;have hv:v<t2.nv+1:=hv;rcases Nat.lt_or_ge v t2.nv with h1|h1
          .rw[e1 v h1]at hu;rcases hfr v u' h1 hu with⟨w,hw,FQ⟩|h';.exact .inl ⟨w,by omega,by rw[<-Rq w hw];exact FQ⟩
           .exact .inr h'
          .have:v=t2.nv:=by omega
           subst this;rw[e2]at hu;exact .inl ⟨nx,by omega,by rw[fk];exact hu⟩
       .cases hk
     .cases hk
    dsimp at h;split at h;.obtain⟨ax,t2,ρ',t,g1,g2,g3,g4,g5⟩:=hwk _ _ _ _ _ _ _ h _ _ _ start;cases ax with|exit id=>cases g5|normal=>exact fin .normal t2 ρ' t (λ_ h=>by cases h) g1 g2 g3 g4 g5|ret=>exact fin .ret t2 ρ' t (λ_ h=>by cases h) g1 g2 g3 g4 g5
    .rename_i outs ho;obtain⟨y,hy,h⟩:=bind_some h;obtain⟨ax,t2,ρ',t,g1,g2,g3,g4,g5⟩:=hwk _ _ _ _ _ _ _ hy _ _ _ start;have hax:∀id,ax≠.exit id:=by intro id e;subst e;cases g5
     have g5:mL outs .ret t2=some y:=by cases ax with|exit id=>cases g5|normal=>exact g5|ret=>exact g5
     obtain⟨t3,DZ,g6,g7,g8⟩:=zN g2 g5;rw[g8]at h;exact fin ax t3 DZ t hax g1 g6 (g3.trans g7 g4) g4 h
 .rename_i hf;exact Im hE hi KG (by simp[zO,<-hE.fns,hf]) h has
theorem uu{ρ:bt}{B:Nat}{m:List (Tr E2)}:∀{l:List gG}{d d':List fG}{cs:List Cell}{aL:List AV},l.all gG.flat=true->cW l d=some (cs,d')->aC (RC ρ B m) cs aL->aL.all z7=true
 |[],_,_,_,aL,_,h,ha=>by cases h;match aL,ha with|[],_=>rfl
 |c::l,d,d',cs,aL,hl,h,ha=>by
  rw[List.all_cons,Bool.and_eq_true]at hl;simp[cW]at h;split at h
  .rename_i x r' h1;split at h;.rename_i xs r'' h2;cases h;match aL,ha with
    |a::aL,ha=>
     have hx:z7 a=true:=by have hf:=hl.1;unfold gG.fill at h1;split at h1<;>first|(simp only[Option.some.injEq,Prod.mk.injEq]at h1;obtain⟨rfl,rfl⟩:=h1;first|(cases ha.1;rfl)|cases hf)|cases h1
     rw[List.all_cons,hx,uu hl.2 h2 ha.2]<;>grind
   grind
  grind
theorem V7{ρ:bt}{B:Nat}{m:List (Tr E2)}{b:Bool}{l:List gG}{d d':List fG}{cs:List Cell}{a:AV}(hl:l.all gG.flat=true)(h:cW l d=some (cs,d'))(ha:R1 ρ B m (b,cs) a):C9 a=true:=by cases b with|true=>obtain⟨aL,rfl,ha⟩:=ha;exact uu hl h ha|false=>obtain⟨c,rfl,ha⟩:=ha;have:=uu (aL:=[a]) hl h ⟨ha,trivial⟩;simp at this;cases a<;>first|exact this|cases this
theorem xm{ρ:bt}{B:Nat}{m:List (Tr E2)}:∀{res:List (Bool×List gG)}{d d':List fG}{ws:List (Bool×List Cell)}{aL:List AV},zI res=true->jr res d=some (ws,d')->aC (R1 ρ B m) ws aL->aL.all C9=true
 |[],_,_,_,aL,_,h,ha=>by cases h;match aL,ha with|[],_=>rfl
 |(b,l)::res,d,d',ws,aL,hl,h,ha=>by
  unfold zI at hl;rw[List.all_cons,Bool.and_eq_true]at hl;simp[jr]at h;split at h
  .rename_i x r' h1;split at h;.rename_i xs r'' h2;cases h;match aL,ha with|a::aL,ha=>rw[List.all_cons,V7 hl.1 h1 ha.1,xm (res:=res) hl.2 h2 ha.2]<;>grind
   grind
  grind
theorem Rr{ρ:bt}{B:Nat}{m:List (Tr E2)}{res:List (Bool×List gG)}{d d':List fG}{ws:List (Bool×List Cell)}{w:V2}{a:AV}(hl:zI res=true)(h:jr res d=some (ws,d'))(ht:nU ws=some w)(ha:RV ρ B m w a):Qh a=true:=by
 unfold nU at ht;split at ht
 .rename_i b cs;have hr:R1 ρ B m (b,cs) a:=by cases b with|true=>cases ht;exact ha|false=>match cs,ht with|[c],ht=>cases ht;exact⟨c,rfl,ha⟩
  have:=xm (aL:=[a]) hl h ⟨hr,trivial⟩;simp at this;cases a<;>first|exact this|cases this
 .cases ht;obtain⟨aL,rfl,ha⟩:=ha;exact xm hl h ha
theorem Oy(hE:aD Fs E)(hi:RI ρ nx rem os s2 s p){f:Nat}{vs:List V2}{aL:List AV}(h:Q1 E s2 f vs K=some r)(has:aC (RV ρ nx s2.mem) vs aL):∃r2 e,(∃n0,∀n,n0<=n->j0 (jj Fs n) s f aL=some e)/\oh ρ nx os s2 s r2 e/\K r2=some r:=by
 obtain⟨c,hc,h⟩:=aA h;split at h
 .rename_i hfl;obtain⟨⟨ds,bs⟩,ha,h⟩:=aA h;obtain⟨x,hx,h⟩:=aA h;obtain⟨hb,h⟩:=og h;obtain⟨y,hy,h⟩:=bind_some h;split at h
  .rename_i ws xl;obtain⟨w,hw,h⟩:=aA h;obtain⟨as',vs',g1,gk,g2,g3⟩:=D3 hi.mem ha has hb;simp at hfl;obtain⟨hfl,yK⟩:=hfl;obtain⟨vs1,g4,g5⟩:=hE.AT f c hc x y hy;rw[dm hx]at g4;have CU:=g2 [];rw[List.append_nil,g4]at CU;cases CU;obtain⟨n0,rv,cm,ts,nv,g6,g7⟩:=g5 as' g3;obtain⟨a',g8,g9⟩:=(g7 ws xl).1 (λe=>by rw[e]at yK;cases yK) w hw 0 0 0;have hfa:=Rr hfl xl hw (g9 ρ0 0 []);refine⟨_,.bW {val:=a',cV:=[],cD:=[],rd:=aL.flatMap (p7 s.mem)},⟨n0,λn hn=>?_⟩,?_,h⟩;.simp[j0,g1,g6 n hn,g8,hfa]
   .exact .xe hi.mem hi.aI (by omega) (g9 _ _ _) gk
  grind
 grind
end
end Go.Sym
