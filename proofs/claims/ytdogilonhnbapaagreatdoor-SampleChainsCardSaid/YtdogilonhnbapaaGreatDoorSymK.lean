/- The machine over typed data: regions, code, loops, functions. -/
import Derived.Test.YtdogilonhnbapaaGreatDoorSymJ
import Derived.Test.YtdogilonhnbapaaGreatDoorSymGM
set_option linter.unusedVariables false
set_option linter.unusedSimpArgs false
namespace Go.Sym
open Go Go.bI
section
variable{Fs:Tb}{E:aq}{wk:Wk}{α:Type}{ρ:aZ}{nx rem p:Nat}{os:List (Tr AV)}{s2:S2}{s:St}{ctx row d:Nat}{K:gC->Option α}{r:α}
theorem GC(hwk:LF Fs wk)(hE:aF Fs E)(hi:RI ρ nx (rem+1) os s2 s p){op:cq}(h:cT E wk ctx s2 row d nx op K=some r):∃r2 e,(∃n0,∀n,n0<=n->op.run (iE Fs n) (Aq Fs) s row d p=some e)/\nO ρ nx os s2 s r2 e/\K r2=some r:=by
 have fI:ρ nx=some p:=by simpa using hi.z6 0 (by omega)
 have hm:=hi.mem;have ht:=hi.aG;have cg:=hi.slots;have hB:nx<=nx:=Nat.le_refl _;have zi:nx<=nx+1:=by omega
 have hinj:=hi.ai.inj;have conv:dI ρ nx (nx+1) s2 s op row d p K r->∃r2 e,(∃n0,∀n,n0<=n->op.run (iE Fs n) (Aq Fs) s row d p=some e)/\nO ρ nx os s2 s r2 e/\K r2=some r:=by rintro⟨E',e,h1,h2,h3⟩;exact⟨.bX E',.bX e,⟨0,λn _=>h1 _ _⟩,h2,h3⟩
 cases op with
 |HQ x=>exact conv (Sx hm ht cg hB fI h)|compact x=>exact conv (Gu hm ht cg hB fI h)|pick c a b=>exact conv (Pm hm ht cg zi h)|alloc z=>exact conv (Lx hm ht hB fI h)|box x=>exact conv (Sw hm ht cg hB fI h)|build z ps=>exact conv (Ls hm ht cg zi h)|buildSlice sz n z ps=>exact conv (zZ hm ht cg hB fI h)|load sz agg x=>exact conv (Pw hm ht cg hB h)|store sz x v=>exact conv (Lz hm ht cg hB h)|nilCheck x=>exact conv (Dm hm ht cg zi h)|bin op x y=>exact conv (Sr hm ht cg zi h)|VT neg x y=>exact conv (Ss hm ht cg zi h)|VU neg sz l x y=>exact conv (Su hm ht cg zi h)|un op x=>exact conv (WN hm ht cg zi h)|conv k x=>exact conv (Po hm ht cg zi h)|field off sz agg x=>exact conv (Lw hm ht cg zi h)|fieldAddr off x=>exact conv (BH hm ht cg zi h)|indexAddr sz x i=>exact conv (BI hm ht cg zi h)|j0 n sz x i=>exact conv (Dn hm ht cg zi h)|qd n sz agg x i=>exact conv (IX hm ht cg zi h)|qe x i=>exact conv (IZ hm ht cg zi h)|slice sz x lo hi mx=>exact conv (LA hm ht cg hB fI h)|qf x lo hi=>exact conv (I0 hm ht cg zi h)|extract x i=>exact conv (Gr hm ht cg zi h)|len x=>exact conv (Sv hm ht cg zi h)|Fy x=>exact conv (Pr hm ht cg zi h)|HR x=>exact conv (Pq hm ht cg zi h)|Db n=>exact conv (Pt hm ht zi h)|Fz x y=>exact conv (Pu hm ht cg zi h)|FA x y=>exact conv (Pv hm ht cg zi h)|append sz bytes x y=>exact conv (I3 hm ht cg hB fI hinj h)|od sz bytes z x n=>exact conv (Gt hm ht cg hB fI hinj h)|clone sz bytes x=>exact conv (LB hm ht cg hB fI hinj h)|sort x=>exact conv (PA hm ht cg hB h)|copy sz x y=>exact conv (Py hm ht cg hB h)|makeSlice sz bytes z l c=>exact conv (BM hm ht cg hB fI h)|makeFunc f cap=>exact conv (Dp hm ht cg zi h)|clear sz z x=>exact conv (LC hm ht cg hB h)|grow sz x n=>exact conv (PB hm ht cg hB fI h)|call f args=>
  simp[cT]at h;split at h;.rename_i h7 h8 h9 h10;obtain⟨vs,hv,h⟩:=az h;obtain⟨r2,e,⟨n0,h1⟩,h2,h3⟩:=BR hwk hE hi (by omega) h (oB cg hv);exact⟨r2,e,⟨n0,λn hn=>by simp only[cq.run,h7,h8,h9,h10];exact h1 n hn⟩,h2,h3⟩
  .rename_i h7 h8 h9;obtain⟨vs,hv,h⟩:=az h;obtain⟨r2,e,⟨n0,h1⟩,h2,h3⟩:=SH hE hi h (oB cg hv);exact⟨r2,e,⟨n0,λn hn=>by simp only[cq.run,h7,h8,h9];exact h1 n hn⟩,h2,h3⟩
  .rename_i h7 h8 h9 h10;obtain⟨vs,hv,h⟩:=az h;obtain⟨r2,e,⟨n0,h1⟩,h2,h3⟩:=SI hE hi h (oB cg hv);exact⟨r2,e,⟨n0,λn hn=>by simp only[cq.run,h7,h8,h9,h10];exact h1 n hn⟩,h2,h3⟩
  grind|vi f args=>
  obtain⟨vs,hv,h⟩:=az h;have hse:E.sh f=Aq Fs f:=by simp[aq.sh,Aq,hE.fns]
  rw[hse]at h;cases ZO:Aq Fs f with|true=>rw[ZO]at h;obtain⟨r2,e,⟨n0,h1⟩,h2,h3⟩:=BR hwk hE hi (by omega) h (oB cg hv);refine⟨r2,e,⟨n0,λn hn=>?_⟩,h2,h3⟩;have:=h1 n hn;rw[ZO]at this;simp[cq.run,ZO,this]|false=>rw[ZO]at h;obtain⟨r2,e,⟨n0,h1⟩,h2,h3⟩:=PI hE hi h (oB cg hv);exact⟨r2,e,⟨n0,λn hn=>by simp only[cq.run,ZO,h1 n hn]⟩,h2,h3⟩
 |AF x args=>
  simp[cT]at h;split at h
  .rename_i f cap hx;obtain⟨vs,hv,h⟩:=az h;obtain⟨aJ,he,hc⟩:=aW cg hx;have hc:aC (RV ρ nx s2.mem) (cap.map .c) aJ:=by
    have:∀{cs:List Cell}{aJ:List AV},aC (RC ρ nx s2.mem) cs aJ->aC (RV ρ nx s2.mem) (cs.map .c) aJ:=by intro cs;induction cs with
     |nil=>intro aJ h;match aJ,h with|[],_=>trivial
     |cons c cs ih=>intro aJ h;match aJ,h with|a::aJ,h=>exact⟨h.1,ih h.2⟩
    grind
   obtain⟨r2,e,⟨n0,h1⟩,h2,h3⟩:=BR hwk hE hi (by omega) h ((oB cg hv).append hc);exact⟨r2,e,⟨n0,λn hn=>by simp only[cq.run,he];exact h1 n hn⟩,h2,h3⟩
  grind|sliceB n sz x=>exact conv (I1 hm ht cg zi h)|ZG x=>exact conv (SN hm ht cg hB h)|ZH x=>exact conv (SO hm ht cg hB h)|mkSet=>exact conv (LJ hm ht hB fI h)|HS x y=>exact conv (PJ hm ht cg hB h)|HT x y=>exact conv (PK hm ht cg hB h)|yp neg x=>exact conv (Lu hm ht cg zi h)|rK lo n sz x=>exact conv (IW hm ht cg zi h)|bad=>simp[cT]at h
theorem RI.SP(hi:RI ρ nx rem os s2 s p){g:Nat}{t:Bool}(hg:jt s.slots g=.d (.sc (.bool t))):RI ρ nx rem os {s2 with slots:=s2.slots.set g (some (.c (.bool t)))} s p:=by
 refine⟨λk v hk=>?_,hi.outer,hi.mem,hi.aG,hi.ai,hi.z6,hi.nv,hi.pn⟩;rw[Tr.cz]at hk;split at hk;.subst_vars;cases hk;exact hg
 .exact hi.slots k v hk
theorem Ji(hwk:LF Fs wk)(hE:aF Fs E)(hi:RI ρ nx (rem+1) os s2 s p){o:bB}{K:S2->gC->Option α}(h:step2 E wk ctx s2 nx o K=some r):∃s2' r2 e,(∃n0,∀n,n0<=n->o.step (iE Fs n) (Aq Fs) s p=some e)/\RI ρ nx (rem+1) os s2' s p/\nO ρ nx os s2' s r2 e/\K s2' r2=some r:=by
 have skip:∀{s2'},RI ρ nx (rem+1) os s2' s p->nO ρ nx os s2' s (ki (.iF [])) (.bX {val:=jH,cX:=[],cB:=[],rd:=[]}):=λhi'=>nM.xG hi'.mem hi'.aG (by omega) mg aR.nil;unfold step2 at h;split at h;.rename_i hg;obtain⟨r2,e,⟨n0,h1⟩,h2,h3⟩:=GC hwk hE hi h;refine⟨s2,r2,e,⟨n0,λn hn=>?_⟩,hi,h2,h3⟩;simp[bB.step,jC,hg]<;>grind
 .rename_i g b hg;split at h;.rename_i t ht;have hv:jt s.slots g=.d (.sc (.bool t)):=hi.slots g _ ht;have hi':=hi.SP hv;cases t with
   |true=>cases b with|true=>obtain⟨r2,e,⟨n0,h1⟩,h2,h3⟩:=GC hwk hE hi' h;refine⟨_,r2,e,⟨n0,λn hn=>?_⟩,hi',h2,h3⟩;simp[bB.step,jC,hg,hv,beq_self_eq_true]<;>grind|false=>refine⟨_,_,_,⟨0,λn _=>?_⟩,hi',skip hi',h⟩;simp[bB.step,jC,hg,hv];rfl
   |false=>cases b with|true=>refine⟨_,_,_,⟨0,λn _=>?_⟩,hi',skip hi',h⟩;simp[bB.step,jC,hg,hv];rfl|false=>obtain⟨r2,e,⟨n0,h1⟩,h2,h3⟩:=GC hwk hE hi' h;refine⟨_,r2,e,⟨n0,λn hn=>?_⟩,hi',h2,h3⟩;simp[bB.step,jC,hg,hv,beq_self_eq_true]<;>grind
  .rename_i ht;obtain⟨aJ,hv,_⟩:=hi.slots g _ ht;refine⟨_,_,_,⟨0,λn _=>?_⟩,hi,skip hi,h⟩;simp[bB.step,jC,hg,hv];rfl
  grind
theorem NV{B:Nat}{m:List (Tr E2)}{t:Tr V2}{o:Tr AV}(h:uJ ρ B m t o){v:V2}{a:AV}(hv:RV ρ B m v a)(dst:Option Nat):uJ ρ B m (Wy t dst v) (vj o dst a):=by cases dst with|none=>exact h|some n=>
 intro k w hk;simp[Wy]at hk;simp[vj,jt];rw[Tr.cz]at hk⊢;split at hk;.grind
 .rename_i hne;rw[if_neg hne];exact h k w hk
theorem RI.bX(hi:RI ρ nx (rem+1) os s2 s p){E':IC}{e:fH}(h:nM ρ nx (nx+1) s2 s E' e)(dst:Option Nat):RI ρ (nx+1) rem os (s2.app dst (.bX E')) (s.app dst (.bX e)) (p+1):=by
 refine⟨?_,?_,h.mem,h.aG,hi.ai,λj hj=>?_,?_,?_⟩;.exact NV (hi.slots.move h.ag1 (by omega) λ_ _=>rfl) h.val dst
 .exact iy h.ag1 (by omega) (λ_ _=>rfl) hi.outer
 .have:=hi.z6 (j+1) (by omega)<;>grind
 .have:=hi.nv;show nx+1+rem=s2.nv;omega
 .have:=hi.pn;show p+1+rem<=s.nv;omega
theorem RI.all(hi:RI ρ nx (rem+1) os s2 s p){v:V2}{t2:S2}{a:AV}{m:List (Tr bC)}{t:Tr Unit}{n:Nat}(h:nO ρ nx os s2 s (.all v t2) (.all a m t n))(dst:Option Nat):∃ρ',RI ρ' t2.nv rem os {t2.app dst (.all v t2)with nv:=t2.nv+rem} (s.app dst (.all a m t n)) (p+1)/\Fr ρ (nx+1) s.nv ρ' t2.nv/\s.nv<=n:=by
 obtain⟨ρ1,hs,hv,hf,hn⟩:=h;have hpn:=hi.pn;let ρ':aZ:=λv=>if v<t2.nv then ρ1 v else if v<t2.nv+rem then some (p+1+(v-t2.nv))else some (n+(v-(t2.nv+rem)));have e1:∀v,v<t2.nv->ρ' v=ρ1 v:=λv h=>if_pos h;have e3:∀v,t2.nv+rem<=v->ρ' v=some (n+(v-(t2.nv+rem))):=λv h=>by show(if v<t2.nv then _ else _)=_;rw[if_neg (by omega),if_neg (by omega)]
 have apart:∀v u,v<t2.nv->ρ1 v=some u->u<p+1\/p+1+rem<=u:=by
  intro v u hv hu;rcases hf v u hv hu with⟨w,hw,GB⟩|h'
  .rcases Nat.lt_or_ge u (p+1)with h1|h1;.grind
   .rcases Nat.lt_or_ge u (p+1+rem)with h2|h2;.have:=hi.z6 (u-p) (by omega);rw[show p+(u-p)=u from by omega]at this;have:=hi.ai.inj _ _ _ GB this<;>omega
    omega
  omega
 refine⟨ρ',⟨?_,?_,?_,?_,?_,λj hj=>?_,rfl,?_⟩,?_,hn⟩;.exact NV (hs.slots.move (eE.refl _ _) (Nat.le_refl _) e1) (hv.move (eE.refl _ _) (Nat.le_refl _) e1) dst
 .exact iy (eE.refl _ _) (Nat.le_refl _) e1 hs.outer
 .exact hs.mem.ren e1
 .intro v hv;obtain⟨h1,h2⟩:=hs.aG v hv;exact⟨h1,λu hu=>h2 u (by rw[<-e1 v h1];exact hu)⟩
 .refine⟨λv u hv hu=>?_,λv hv=>e3 v hv,λv v' u hu kQ=>?_⟩
  .show u<n;rcases Nat.lt_or_ge v t2.nv with h1|h1;.rw[e1 v h1]at hu;exact hs.ai.low v u h1 hu
   grind
  .rcases Nat.lt_or_ge v t2.nv with h1|h1
   .rw[e1 v h1]at hu;have n9:=hs.ai.low v u h1 hu;rcases Nat.lt_or_ge v' t2.nv with h2|h2;.rw[e1 v' h2]at kQ;exact hs.ai.inj v v' u hu kQ
    grind
   .rcases Nat.lt_or_ge v (t2.nv+rem)with h3|h3;.grind
    .simp_all;rcases Nat.lt_or_ge v' t2.nv with h2|h2;.rw[e1 v' h2]at kQ;have:u<n:=hs.ai.low v' u h2 kQ<;>omega
     grind
 .grind
 .show p+1+rem<=n;omega
 .intro v u hv hu;rw[e1 v hv]at hu;exact hf v u hv hu
theorem RI.done(hi:RI ρ nx 0 os s2 s p):zd ρ os s2 s:=by have:nx=s2.nv:=hi.nv;subst this;exact⟨hi.slots,hi.outer,hi.mem,hi.aG,hi.ai,Nat.le_refl _⟩
def SQ(ρ:aZ)(nx:Nat)(os:List (Tr AV))(lo n:Nat)(K:S2->Option α)(r:α)(s':St):Prop:=∃ρ' s2',zd ρ' os s2' s'/\Fr ρ nx lo ρ' s2'.nv/\n<=s'.nv/\K s2'=some r
theorem uL(hwk:LF Fs wk)(hE:aF Fs E){K:S2->Option α}{mD lo:Nat}:∀{ops:List bB}{i nx:Nat}{ρ:aZ}{s2:S2}{s:St},Am E wk ctx nx ops s2 K=some r->RI ρ nx ops.length os s2 s (mD+i)->lo<=mD->∃s',(∃n0,∀n,n0<=n->kW (iE Fs n) (Aq Fs) mD i ops s=some s')/\SQ ρ nx os lo s.nv K r s'|[],i,nx,ρ,s2,s,h,hi,_=>⟨s,⟨0,λ_ _=>rfl⟩,ρ,s2,hi.done,by have:nx=s2.nv:=hi.nv;subst this;exact Fr.refl _ _ _,Nat.le_refl _,h⟩|o::ops,i,nx,ρ,s2,s,h,hi,hlo=>by obtain⟨s2',r2,e,⟨n0,h1⟩,h2,h3,h4⟩:=Ji hwk hE hi h;cases r2 with
 |bX E'=>cases e with
  |bX e=>
    have hi':=h2.bX h3 o.dst;rw[Nat.add_assoc]at hi';obtain⟨s',⟨n1,g1⟩,ρ',s3,g2,g3,g4,g5⟩:=uL hwk hE h4 hi' hlo;refine⟨s',⟨max n0 n1,λn hn=>?_⟩,ρ',s3,g2,λv u hv hu=>?_,g4,g5⟩;.simp[kW,h1 n (by omega)]<;>grind
    .rcases g3 v u hv hu with⟨w,hw,GB⟩|h'
     .by_cases hwn:w=nx;.have:=hi.z6 0 (by simp)<;>grind
      grind
     omega|all=>exact h3.elim
 |all v t2=>cases e with|bX e=>exact h3.elim|all a m t n'=>
    obtain⟨ρ1,hi',hf,hn'⟩:=h2.all h3 o.dst;rw[Nat.add_assoc]at hi';obtain⟨s',⟨n1,g1⟩,ρ',s3,g2,g3,g4,g5⟩:=uL hwk hE h4 hi' hlo;have hsn:lo<=s.nv:=by have:=hi.pn;omega
    refine⟨s',⟨max n0 n1,λn hn=>?_⟩,ρ',s3,g2,λv u hv hu=>?_,Nat.le_trans hn' g4,g5⟩;.simp[kW,h1 n (by omega)]<;>grind
    .rcases g3 v u hv hu with⟨w,hw,GB⟩|h'
     .rcases hf w u hw GB with⟨w',hw',alU⟩|h'
      .by_cases hwn:w'=nx;.have:=hi.z6 0 (by simp)<;>grind
       grind
      omega
     omega
def sJ(ρ:aZ):gC->gB->Prop|.bX E,.bX e=>aR ρ E.rd e.rd/\aR ρ E.wr e.wr|.all _ _,_=>True|_,_=>False
def NW(ρ:aZ):List (Nat×gC)->List (Nat×gB)->Prop:=aC λx y=>x.1=y.1/\sJ ρ x.2 y.2
theorem SS{a b:Nat×Nat×Nat}:keq a b=true↔a=b:=by obtain⟨a1,a2,a3⟩:=a;obtain⟨b1,b2,b3⟩:=b;simp[keq,and_assoc]
theorem KR.inj(hinj:∀v v' u,ρ v=some u->ρ v'=some u->v=v'){a b k:Nat×Nat×Nat}(ha:KR ρ a k)(hb:KR ρ b k):a=b:=by
 rcases ha with⟨rfl,h⟩|⟨v,u,rfl,rfl,hu⟩
 .rcases hb with⟨rfl,_⟩|⟨v',u',rfl,rfl,_⟩;.rfl
  .cases h
 .rcases hb with⟨rfl,h⟩|⟨v',u',rfl,h,kQ⟩;.cases h
  .have:u=u':=by simpa[jX]using h
   grind
theorem BS(hinj:∀v v' u,ρ v=some u->ρ v'=some u->v=v'){a2 b2 a b:List (Nat×Nat×Nat)}(ha:aR ρ a2 a)(hb:aR ρ b2 b)(h:xD a2 b2=false):meets a b=false:=by
 rw[Bool.eq_false_iff];intro hm;unfold meets at hm;rw[List.any_eq_true]at hm;obtain⟨k,hk,hc⟩:=hm;obtain⟨k2,h1,h2⟩:=ha k hk;obtain⟨k2',h3,h4⟩:=hb k (by simpa using hc);have:=KR.inj hinj h2 h4;subst this;have:xD a2 b2=true:=by unfold xD;rw[List.any_eq_true];exact⟨k2,h1,by rw[List.any_eq_true];exact⟨k2,h3,SS.2 rfl⟩⟩
 rw[h]at this;cases this
theorem keys_nil{l:List (Nat×Nat×Nat)}(h:aR ρ [] l):l=[]:=by cases l with|nil=>rfl|cons k l=>obtain⟨_,h1,_⟩:=h k List.mem_cons_self<;>grind
theorem quiet{E':IC}{e:fH}(h:pN (.bX E')=false)(hr:sJ ρ (.bX E') (.bX e)):e.rd=[]/\e.cX=[]/\e.cB=[]:=by
 simp[pN,Bool.not_eq_false',Bool.and_eq_true,List.isEmpty_iff]at h;obtain⟨⟨h1,h2⟩,h3⟩:=h;obtain⟨k1,k2⟩:=hr;rw[h1]at k1;have hw:E'.wr=[]:=by simp[IC.wr,h2,h3]
 rw[hw]at k2;have:=keys_nil k2;simp[fH.wr,List.append_eq_nil_iff,List.map_eq_nil_iff]at this;exact⟨keys_nil k1,this.1,this.2⟩
theorem LK{e:fH}(h:e.rd=[]/\e.cX=[]/\e.cB=[]):kS (.bX e)=false:=by grind[kS]
theorem zj{x:gB}{e:fH}(h:e.rd=[]/\e.cX=[]/\e.cB=[]):vl x (.bX e)=false/\vl (.bX e) x=false:=by
 have hl:=LK h;obtain⟨h1,h2,h3⟩:=h;have hw:e.wr=[]:=by simp[fH.wr,h2,h3]
 cases x with|bX a=>simp[vl,h1,hw,meets]|all=>simp[vl,hl]
theorem SU(hinj:∀v v' u,ρ v=some u->ρ v'=some u->v=v'){x2 r2:gC}{x e:gB}(hx:sJ ρ x2 x)(he:sJ ρ r2 e)(hr:∀v t,r2=.all v t->∃a m tt n,e=.all a m tt n)(h:xE x2 r2=false):vl x e=false:=by cases r2 with
 |bX E'=>cases e with|all=>exact he.elim|bX e=>cases x2 with
   |bX X=>cases x with|all=>exact hx.elim|bX x=>simp[xE,Bool.or_eq_false_iff]at h;simp[vl,Bool.or_eq_false_iff];exact⟨⟨BS hinj hx.1 he.2 h.1.1,BS hinj hx.2 he.1 h.1.2⟩,BS hinj hx.2 he.2 h.2⟩
   |all v t=>
    have:pN (.bX E')=false:=by simpa[xE,pN]using h
    exact(zj (quiet this he)).1
 |all v t=>cases x2 with
  |bX X=>cases x with|all=>exact hx.elim|bX x=>
    have:pN (.bX X)=false:=by simpa[xE,pN]using h
    exact(zj (quiet this hx)).2
  |all v' t'=>simp[xE,pN]at h
theorem vD(hinj:∀v v' u,ρ v=some u->ρ v'=some u->v=v'){nB:Nat}{r2:gC}{e:gB}(he:sJ ρ r2 e)(hr:∀v t,r2=.all v t->∃a m tt n,e=.all a m tt n):∀{yX:List (Nat×gC)}{past:List (Nat×gB)},NW ρ yX past->Gl nB r2 yX=true->clear nB e past=true|[],[],_,_=>rfl|(i,x2)::r2',(j,x)::r',hp,h=>by obtain⟨⟨h1,h2⟩,h3⟩:=hp;subst h1;simp[Gl,Bool.and_eq_true,Bool.or_eq_true,Bool.not_eq_true']at h;simp[clear,Bool.and_eq_true,Bool.or_eq_true,Bool.not_eq_true'];exact⟨h.1.imp id (SU hinj h2 he hr),vD hinj he hr h3 h.2⟩|[],_::_,h,_=>h.elim|_::_,[],h,_=>h.elim
theorem Jj{ρ':aZ}:∀{l2:List (Nat×gC)}{l:List (Nat×gB)},NW ρ l2 l->NW ρ' (yX l2) l
 |[],[],_=>trivial|(i,x2)::r2',(j,x)::r',hp=>by obtain⟨⟨h1,h2⟩,h3⟩:=hp;refine⟨⟨h1,?_⟩,Jj h3⟩;show sJ ρ' (match pN x2 with|true=>_|false=>x2) x;cases hl:pN x2 with|true=>trivial|false=>cases x2 with|all=>simp[pN]at hl|bX X=>cases x with|all=>exact h2.elim|bX x=>
     obtain⟨q1,q2,q3⟩:=quiet hl h2;refine⟨?_,?_⟩;.rw[q1];exact aR.nil
     .have:x.wr=[]:=by simp[fH.wr,q2,q3]
      rw[this];exact aR.nil
 |[],_::_,h=>h.elim|_::_,[],h=>h.elim
theorem nO.key{r2:gC}{e:gB}(h:nO ρ nx os s2 s r2 e):sJ ρ r2 e/\∀v t,r2=.all v t->∃a m tt n,e=.all a m tt n:=by cases r2 with
 |bX E'=>cases e with|bX e=>exact⟨⟨h.rd,h.wr⟩,λ_ _ h=>by cases h⟩|all=>exact h.elim
 |all v t=>cases e with|bX e=>exact h.elim|all a m tt n=>simp_all[nO,aZ,sJ]
theorem uM(hwk:LF Fs wk)(hE:aF Fs E){K:S2->Option α}{mD lo:Nat}:∀{ops:List bB}{i nx:Nat}{ρ:aZ}{s2:S2}{s:St}{yX:List (Nat×gC)}{past:List (Nat×gB)},An E wk ctx i nx ops yX s2 K=some r->NW ρ yX past->RI ρ nx ops.length os s2 s (mD+i)->lo<=mD->∃s',(∃n0,∀n,n0<=n->j6 (iE Fs n) (Aq Fs) mD i ops past s=some s')/\SQ ρ nx os lo s.nv K r s'
 |[],i,nx,ρ,s2,s,_,_,h,_,hi,_=>⟨s,⟨0,λ_ _=>rfl⟩,ρ,s2,hi.done,by have:nx=s2.nv:=hi.nv;subst this;exact Fr.refl _ _ _,Nat.le_refl _,h⟩|o::ops,i,nx,ρ,s2,s,pa2,past,h,hp,hi,hlo=>by
  obtain⟨s2',r2,e,⟨n0,h1⟩,h2,h3,h4⟩:=Ji hwk hE hi h;split at h4;.rename_i hcl;have hkey:=h3.key;have hcl:=vD hi.ai.inj hkey.1 hkey.2 hp hcl;cases r2 with
   |bX E'=>cases e with
    |bX e=>
     have hi':=h2.bX h3 o.dst;obtain⟨s',⟨n1,g1⟩,ρ',s3,g2,g3,g4,g5⟩:=uM hwk hE h4 (past:=(i,.bX e)::past) ⟨⟨rfl,hkey.1⟩,hp⟩ hi' hlo;refine⟨s',⟨max n0 n1,λn hn=>?_⟩,ρ',s3,g2,λv u hv hu=>?_,g4,g5⟩;.simp[j6,h1 n (by omega),hcl]<;>grind
     .rcases g3 v u hv hu with⟨w,hw,GB⟩|h'
      .by_cases hwn:w=nx;.have:=hi.z6 0 (by simp)<;>grind
       grind
      omega|all=>exact h3.elim
   |all v t2=>cases e with|bX e=>grind|all a m t n'=>
     obtain⟨ρ1,hi',hf,hn'⟩:=h2.all h3 o.dst;obtain⟨s',⟨n1,g1⟩,ρ',s3,g2,g3,g4,g5⟩:=uM hwk hE h4 (past:=(i,.all a m t n')::past) ⟨⟨rfl,trivial⟩,Jj hp⟩ hi' hlo;have hsn:lo<=s.nv:=by have:=hi.pn;omega
     refine⟨s',⟨max n0 n1,λn hn=>?_⟩,ρ',s3,g2,λv u hv hu=>?_,Nat.le_trans hn' g4,g5⟩;.simp[j6,h1 n (by omega),hcl]<;>grind
     .rcases g3 v u hv hu with⟨w,hw,GB⟩|h'
      .rcases hf w u hw GB with⟨w',hw',alU⟩|h'
       .by_cases hwn:w'=nx;.have:=hi.z6 0 (by simp)<;>grind
        grind
       omega
      omega
  grind
theorem GD(hwk:LF Fs wk)(hE:aF Fs E){ops:List bB}{draw:Bool}{K:S2->Option α}(h:WC E wk ctx ops draw s2 K=some r)(hs:zd ρ os s2 s):∃s',Ev Fs (.region ops draw) s (.normal,s')/\SQ ρ s2.nv os s.nv s.nv K r s':=by
 have start:RI ρ s2.nv ops.length os {s2 with nv:=s2.nv+ops.length} {s with nv:=s.nv+ops.length} (s.nv+0):=by
  refine⟨hs.slots,hs.outer,hs.mem,hs.aG,⟨λv u hv hu=>?_,λv hv=>?_,hs.ai.inj⟩,λj hj=>?_,rfl,Nat.le_refl _⟩
  .show u<s.nv+ops.length;rcases Nat.lt_or_ge v s2.nv with h1|h1;.have:=hs.ai.low v u h1 hu;omega
   .rw[hs.ai.high v h1]at hu<;>grind
  .have hv:s2.nv+ops.length<=v:=hv;rw[hs.ai.high v (by omega)]<;>grind
  .rw[hs.ai.high _ (by omega)]<;>grind
 have lift:∀{s':St},SQ ρ s2.nv os s.nv (s.nv+ops.length) K r s'->SQ ρ s2.nv os s.nv s.nv K r s':=by rintro s'⟨ρ',s3,g2,g3,g4,g5⟩;exact⟨ρ',s3,g2,g3,by omega,g5⟩
 cases draw with|false=>obtain⟨s',⟨n0,h1⟩,g⟩:=uL hwk hE (lo:=s.nv) h start (Nat.le_refl _);refine⟨s',⟨n0+1,λk n hk hn=>?_⟩,lift g⟩;obtain⟨n,rfl⟩:∃q,n=q+1:=⟨n-1,by omega⟩;simp[exec,jf,h1 k (by omega),Option.map_some]|true=>obtain⟨s',⟨n0,h1⟩,g⟩:=uM hwk hE (lo:=s.nv) (past:=[]) h trivial start (Nat.le_refl _);refine⟨s',⟨n0+1,λk n hk hn=>?_⟩,lift g⟩;obtain⟨n,rfl⟩:∃q,n=q+1:=⟨n-1,by omega⟩;simp[exec,jf,h1 k (by omega),Option.map_some]
end
section
variable{Fs:Tb}{E:aq}
theorem SR.uI{ρ:aZ}{os:List (Tr AV)}{s2:S2}{s:St}{c:bZ}{b:Bool}(hs:zd ρ os s2 s)(hb:je (c.ev s.slots)=some b):zd ρ os (uI s2 c b) s:=by cases c with|c v=>exact hs|t n=>
 have he:jt s.slots n=.d (.sc (.bool b)):=by
  unfold je at hb;split at hb;.rename_i b' e;simp_all;exact e
  .cases hb
 refine⟨λk v hk=>?_,hs.outer,hs.mem,hs.aG,hs.ai,hs.le⟩;simp[Go.Sym.uI]at hk;rw[Tr.cz]at hk;split at hk;.subst_vars;cases hk;exact he
 .exact hs.slots k v hk
theorem SV{call:bI.Call}{sh:Nat->Bool}{s:St}{dst aO:Nat}{op:cq}{e:gB}(hm:Sh sh op=true)(h:op.run call sh s 0 dst aO=some e):∃v rd,e=.bX {val:=v,cX:=[],cB:=[],rd}:=by
 have pure:∀{v:AV},fH.pure v=some e->∃v rd,e=.bX {val:=v,cX:=[],cB:=[],rd}:=λh=>by injection h with h;exact⟨_,_,h.symm⟩
 have ZZ:∀{α:Type}{o:Option α}{k:α->Option gB},Option.bind o k=some e->∃x,k x=some e:=λ{α o k}h=>by cases o with|none=>cases h|some x=>exact⟨x,h⟩
 cases op with
 |HQ x=>injection h with h;exact⟨_,_,h.symm⟩|load sz agg x=>obtain⟨cs,h⟩:=ZZ h;cases hw:gH agg cs with|none=>rw[hw]at h;cases h|some v=>simp_all;exact⟨_,_,h.symm⟩
 |vi f args=>
  simp[Sh,Bool.not_eq_true']at hm;simp[cq.run,hm,j5]at h;split at h;.cases h
  .split at h;.cases h
   .split at h
    .split at h;.simp_all;exact⟨_,_,h.symm⟩
     .cases h
    .cases h|slice sz x lo hi mx=>
  simp[cq.run]at h;split at h
  .split at h;.rename_i hz;simp at hz
   .obtain⟨v,h⟩:=ZZ h;exact pure h
  .cases h|_=>first|(cases hm;done)|(simp only[cq.run]at h;repeat'(first|split at h|(simp only[Option.bind_eq_some_iff]at h;obtain⟨_,_,h⟩:=h)|(cases h;done)|exact pure h))
structure sK(l:List Nat)(s s':St):Prop where
 mem:s'.mem=s.mem
 aG:s'.aG=s.aG
 nv:s.nv<=s'.nv
 slots:∀k,¬k∈l->jt s'.slots k=jt s.slots k
theorem sK.refl(l:List Nat)(s:St):sK l s s:=⟨rfl,rfl,Nat.le_refl _,λ_ _=>rfl⟩
theorem sK.trans{l:List Nat}{s s' s'':St}(h:sK l s s')(k:sK l s' s''):sK l s s'':=⟨k.mem.trans h.mem,k.aG.trans h.aG,Nat.le_trans h.nv k.nv,λi hi=>(k.slots i hi).trans (h.slots i hi)⟩
theorem sK.mono{l l':List Nat}{s s':St}(h:sK l s s')(hl:∀k,k∈l->k∈l'):sK l' s s':=⟨h.mem,h.aG,h.nv,λk hk=>h.slots k λh'=>hk (hl k h')⟩
theorem EI{call:bI.Call}{sh:Nat->Bool}{s:St}{aO:Nat}{o:bB}{e:gB}(hm:Em sh o=true)(h:o.step call sh s aO=some e):sK o.dst.toList s (s.app o.dst e):=by
 simp only[Em,Bool.and_eq_true]at hm;have hr:=Nat.eq_of_beq_eq_true hm.1;have key:∃v rd,e=.bX {val:=v,cX:=[],cB:=[],rd}:=by
  simp[bB.step]at h;split at h;.cases h
  .rw[hr]at h;exact SV hm.2 h
  .injection h with h;exact⟨_,_,h.symm⟩
 obtain⟨v,rd,rfl⟩:=key;refine⟨rfl,rfl,Nat.le_refl _,λk hk=>?_⟩;simp[St.app,vj];cases hd:o.dst with|none=>rfl|some n=>simp[jt,Tr.cz]<;>grind
theorem Jk{call:bI.Call}{sh:Nat->Bool}{mD:Nat}:∀{ops:List bB}{i:Nat}{s s':St},ops.all (Em sh)=true->kW call sh mD i ops s=some s'->sK (ops.flatMap λo=>o.dst.toList) s s'
 |[],_,s,s',_,h=>by cases h;exact sK.refl _ _|o::r,i,s,s',hm,h=>by
  simp only[List.all_cons,Bool.and_eq_true]at hm;simp[kW]at h;split at h;.cases h
  .rename_i e he;exact((EI hm.1 he).mono λk hk=>by simp only[List.flatMap_cons,List.mem_append];exact .inl hk).trans ((Jk hm.2 h).mono λk hk=>by simp only[List.flatMap_cons,List.mem_append];exact .inr hk)
theorem Jl{call:bI.Call}{sh:Nat->Bool}{mD:Nat}:∀{ops:List bB}{i:Nat}{past:List (Nat×gB)}{s s':St},ops.all (Em sh)=true->j6 call sh mD i ops past s=some s'->sK (ops.flatMap λo=>o.dst.toList) s s'
 |[],_,_,s,s',_,h=>by cases h;exact sK.refl _ _|o::r,i,past,s,s',hm,h=>by
  simp only[List.all_cons,Bool.and_eq_true]at hm;simp[j6]at h;split at h;.cases h
  .rename_i e he;split at h;.exact((EI hm.1 he).mono λk hk=>by simp only[List.flatMap_cons,List.mem_append];exact .inl hk).trans ((Jl hm.2 h).mono λk hk=>by simp only[List.flatMap_cons,List.mem_append];exact .inr hk)
   grind
theorem lz{call:bI.Call}{sh:Nat->Bool}:∀{n:Nat}{c:AC}{s s':St}{ax:AX},sx sh c=true->exec call sh n c s=some (ax,s')->sK (pO c) s s'|0,_,_,_,_,_,h=>by cases h|n+1,c,s,s',ax,hm,h=>by cases c with
 |skip=>cases h;exact sK.refl _ _|region ops draw=>simp only[exec]at h;cases hr:jf call sh ops draw s with|none=>grind|some t=>rw[hr]at h;cases h;cases draw with|false=>have g:=Jk hm hr;exact⟨g.mem,g.aG,by have:=g.nv;simp only at this;omega,g.slots⟩|true=>have g:=Jl hm hr;exact⟨g.mem,g.aG,by have:=g.nv;simp only at this;omega,g.slots⟩
 |seq a b=>
  simp[sx,Bool.and_eq_true]at hm;simp[exec]at h;split at h;.rename_i t ht;exact((lz hm.1 ht).mono λk hk=>by simp only[pO,List.mem_append];exact .inl hk).trans ((lz hm.2 h).mono λk hk=>by simp only[pO,List.mem_append];exact .inr hk)
  .exact(lz hm.1 h).mono λk hk=>by simp only[pO,List.mem_append];exact .inl hk|cond c a b=>
  simp[sx,Bool.and_eq_true]at hm;simp[exec]at h;split at h;.exact(lz hm.1 h).mono λk hk=>by simp only[pO,List.mem_append];exact .inl hk
  .exact(lz hm.2 h).mono λk hk=>by simp only[pO,List.mem_append];exact .inr hk
  grind|block=>cases hm|loop=>cases hm|exit=>cases hm|ret=>cases hm
theorem EJ:∀(l:List Nat)(t:Tr V2)(k:Nat)(v:V2),(IJ l t).get? k=some v->¬k∈l/\t.get? k=some v|[],t,k,v,h=>⟨by simp,h⟩|n::r,t,k,v,h=>by obtain⟨h1,h2⟩:=EJ r _ k v h;rw[Tr.cz]at h2<;>grind
theorem Jm{ρ:aZ}{B:Nat}{m:List (Tr E2)}{t:Ty}{c c':Cell}{x:t.den}{a:AV}(h:Gm t c=some x)(h':Lp t x=some c')(hc:RC ρ B m c a):∀{ρ':aZ}{B':Nat}{m':List (Tr E2)},RC ρ' B' m' c' a:=by
 unfold Gm at h;split at h
 .split at h;.rename_i e _;cases h;subst e;cases h';exact hc
  .cases h
 .cases h;cases h';exact hc
 .cases h;cases h';exact hc
 .cases h
theorem BT{t:Ty}{m:Nat}{ax:AX}{s2:S2}{x:t.den}(h:IK t m ax s2=some x):ax=.normal/\∃c,s2.slots.get? m=some (.c c)/\Gm t c=some x:=by unfold IK at h<;>grind
theorem BU{ρ:aZ}{os:List (Tr AV)}{s2:S2}{s t:St}{l:List Nat}{m:Nat}{y:Cell}(hs:zd ρ os s2 s)(hm:sK l s t)(hy:∀{ρ':aZ}{B':Nat}{m':List (Tr E2)},RC ρ' B' m' y (jt t.slots m)):∃ρ',zd ρ' os {s2 with slots:=(IJ l s2.slots).set m (some (.c y))} t/\Fr ρ s2.nv s.nv ρ' s2.nv:=by
 let ρ':aZ:=λv=>if v<s2.nv then ρ v else some (t.nv+(v-s2.nv));have hρ:∀v,v<s2.nv->ρ' v=ρ v:=λv hv=>if_pos hv;have hρ2:∀v,s2.nv<=v->ρ' v=some (t.nv+(v-s2.nv)):=λv hv=>if_neg (by omega);have Bc:=hm.nv;refine⟨ρ',⟨λk v hk=>?_,hs.outer.mono λ_ _ h=>h.move (eE.refl _ _) (Nat.le_refl _) hρ,?_,λv hv=>?_,⟨λv u hv hu=>?_,λv hv=>hρ2 v hv,λv v' u hu kQ=>?_⟩,Nat.le_refl _⟩,λv u hv hu=>.inl ⟨v,hv,by rw[<-hρ v hv];exact hu⟩⟩
 .rw[Tr.cz]at hk;split at hk;.subst_vars;cases hk;exact hy
  .obtain⟨h1,h2⟩:=EJ _ _ _ _ hk;rw[hm.slots k h1];exact(hs.slots k v h2).move (eE.refl _ _) (Nat.le_refl _) hρ
 .rw[hm.mem];refine⟨hs.mem.len,λlv sl e2 he=>?_⟩;obtain⟨e,h1,h2⟩:=hs.mem.eV lv sl e2 he;exact⟨e,h1,RE.mono (Nat.le_refl _) hρ (λ_ _=>RC.move (eE.refl _ _) (Nat.le_refl _) hρ) h2⟩
 .rw[hm.aG];obtain⟨h1,h2⟩:=hs.aG v hv<;>grind
 .rw[hρ v hv]at hu;have:=hs.ai.low v u hv hu;omega
 .by_cases h1:v<s2.nv
  .rw[hρ v h1]at hu;by_cases h2:v'<s2.nv;.rw[hρ v' h2]at kQ;exact hs.ai.inj _ _ _ hu kQ
   .simp_all;have:=hs.ai.low v u h1 hu<;>omega
  .simp_all;by_cases h2:v'<s2.nv;.rw[hρ v' h2]at kQ;have:=hs.ai.low v' u h2 kQ<;>omega
   grind
theorem Au(hE:aF Fs E):∀n,LF Fs (walk E n)
 |0=>λ_ _ _ _ _ _ _ h=>by cases h|n+1=>by
  have ih:=Au hE n;intro α ctx i c s2 K r h ρ os s hs;simp[walk]at h;have meet:∀{outs:bt}{y:(oA outs).den}{ax:AX}{t2:S2}{ρ':aZ}{t:St},mN outs ax t2=some y->zd ρ' os t2 t->Fr ρ s2.nv s.nv ρ' t2.nv->s.nv<=t.nv->pM outs y K=some r->∃t3 ρ3,zd ρ3 os t3 t/\Fr ρ s2.nv s.nv ρ3 t3.nv/\K ax t3=some r:=by intro outs y ax t2 ρ' t hy z7 hfr hn hk;obtain⟨t3,ρ3,g1,g2,g3⟩:=Ap z7 hy;exact⟨t3,ρ3,g1,hfr.trans g2 hn,(g3 K).symm.trans hk⟩
  cases c with
  |skip=>exact⟨.normal,s2,ρ,s,⟨1,λk n _ hn=>by obtain⟨n,rfl⟩:∃q,n=q+1:=⟨n-1,by omega⟩;rfl⟩,hs,Fr.refl _ _ _,Nat.le_refl _,h⟩|exit id=>exact⟨.exit id,s2,ρ,s,⟨1,λk n _ hn=>by obtain⟨n,rfl⟩:∃q,n=q+1:=⟨n-1,by omega⟩;rfl⟩,hs,Fr.refl _ _ _,Nat.le_refl _,h⟩|ret=>exact⟨.ret,s2,ρ,s,⟨1,λk n _ hn=>by obtain⟨n,rfl⟩:∃q,n=q+1:=⟨n-1,by omega⟩;rfl⟩,hs,Fr.refl _ _ _,Nat.le_refl _,h⟩|region ops draw=>
   simp at h;split at h
   .rename_i m _;split at h
    .rename_i BV;have hsh:E.sh=Aq Fs:=by funext g;simp[aq.sh,Aq,hE.fns]
     rw[hsh]at BV;obtain⟨y,hy,h⟩:=bind_some h;obtain⟨s',⟨n0,hev⟩,ρ',s3,g2,g3,g4,g5⟩:=GD ih hE hy hs;obtain⟨_,c',C6,g5⟩:=BT g5;obtain⟨y',hy',h⟩:=az h;obtain⟨ρ3,q1,q2⟩:=BU hs (lz (c:=.region ops draw) BV (hev n0 n0 (Nat.le_refl _) (Nat.le_refl _))) (Jm g5 hy' (show RC _ _ _ c' _ from g2.slots m.1 _ C6));exact⟨.normal,_,ρ3,s',⟨n0,hev⟩,q1,q2,g4,h⟩
    grind
   split at h;.obtain⟨s',hev,ρ',s3,g2,g3,g4,g5⟩:=GD ih hE h hs<;>grind
   .obtain⟨y,hy,h⟩:=bind_some h;obtain⟨s',hev,ρ',s3,g2,g3,g4,g5⟩:=GD ih hE hy hs<;>grind|seq a b=>obtain⟨ax,t2,ρ',t,⟨n0,hev⟩,g2,g3,g4,g5⟩:=ih _ _ _ _ _ _ _ h _ _ _ hs;cases ax with|normal=>obtain⟨ax',t3,ρ3,t',⟨n1,ag9⟩,q2,q3,q4,q5⟩:=ih _ _ _ _ _ _ _ g5 _ _ _ g2;refine⟨ax',t3,ρ3,t',⟨max n0 n1+1,λk m hk hm=>?_⟩,q2,g3.trans q3 g4,Nat.le_trans g4 q4,q5⟩;obtain⟨m,rfl⟩:∃q,m=q+1:=⟨m-1,by omega⟩;simp[exec,hev k m (by omega) (by omega)]<;>grind|exit id=>refine⟨.exit id,t2,ρ',t,⟨n0+1,λk m hk hm=>?_⟩,g2,g3,g4,g5⟩;obtain⟨m,rfl⟩:∃q,m=q+1:=⟨m-1,by omega⟩;simp[exec,hev k m (by omega) (by omega)]|ret=>refine⟨.ret,t2,ρ',t,⟨n0+1,λk m hk hm=>?_⟩,g2,g3,g4,g5⟩;obtain⟨m,rfl⟩:∃q,m=q+1:=⟨m-1,by omega⟩;simp[exec,hev k m (by omega) (by omega)]
  |cond c a b=>
   have way:∀{β:Type}{K':AX->S2->Option β}{r':β},(vT (jd s2 c) λt=>cond t (walk E n β ctx (i+1) a (uI s2 c true) K') (walk E n β ctx (i+1+uH a) b (uI s2 c false) K'))=some r'->
     ∃ax t2 ρ' t,Ev Fs (.cond c a b) s (ax,t)/\zd ρ' os t2 t/\Fr ρ s2.nv s.nv ρ' t2.nv/\s.nv<=t.nv/\K' ax t2=some r':=by intro β K' r' h;obtain⟨t,ht,h⟩:=qx h;have hb:=qy (aW hs.slots ht);cases t with|true=>
     have Bc:(uI s2 c true).nv=s2.nv:=by cases c<;>rfl
     obtain⟨ax,t2,ρ',t,⟨n0,hev⟩,g2,g3,g4,g5⟩:=ih _ _ _ _ _ _ _ h _ _ _ (hs.uI hb);rw[Bc]at g3;refine⟨ax,t2,ρ',t,⟨n0+1,λk m hk hm=>?_⟩,g2,g3,g4,g5⟩;obtain⟨m,rfl⟩:∃q,m=q+1:=⟨m-1,by omega⟩;simp[exec,hb]<;>grind|false=>
     have Bc:(uI s2 c false).nv=s2.nv:=by cases c<;>rfl
     obtain⟨ax,t2,ρ',t,⟨n0,hev⟩,g2,g3,g4,g5⟩:=ih _ _ _ _ _ _ _ h _ _ _ (hs.uI hb);rw[Bc]at g3;refine⟨ax,t2,ρ',t,⟨n0+1,λk m hk hm=>?_⟩,g2,g3,g4,g5⟩;obtain⟨m,rfl⟩:∃q,m=q+1:=⟨m-1,by omega⟩;simp[exec,hb]<;>grind
   simp at h;split at h
   .rename_i m _;split at h
    .rename_i BV;simp at BV;have hsh:E.sh=Aq Fs:=by funext g;simp[aq.sh,Aq,hE.fns]
     rw[hsh]at BV;obtain⟨y,hy,h⟩:=bind_some h;obtain⟨ax,t2,ρ',t,⟨n0,hev⟩,g2,g3,g4,g5⟩:=way hy;obtain⟨rfl,c',C6,g5⟩:=BT g5;obtain⟨y',hy',h⟩:=az h;have hmd:sx (Aq Fs) (.cond c a b)=true:=by simp[sx,BV.1,BV.2,Bool.and_true]
     obtain⟨ρ3,q1,q2⟩:=BU hs (lz hmd (hev n0 n0 (Nat.le_refl _) (Nat.le_refl _))) (Jm g5 hy' (show RC _ _ _ c' _ from g2.slots m.1 _ C6));exact⟨.normal,_,ρ3,t,⟨n0,hev⟩,q1,q2,g4,h⟩
    grind
   .split at h;.exact way h
    .obtain⟨y,hy,h⟩:=bind_some h;obtain⟨ax,t2,ρ',t,hev,g2,g3,g4,g5⟩:=way hy<;>grind|block id c=>
   have way:∀{β:Type}{K':AX->S2->Option β}{r':β},(walk E n β ctx (i+1) c s2 λax s'=>match ax with
      |.exit id'=>match Nat.beq id' id with|true=>K' .normal s'|false=>K' (.exit id') s'
      |ax=>K' ax s')=some r'->∃ax t2 ρ' t,Ev Fs (.block id c) s (ax,t)/\zd ρ' os t2 t/\Fr ρ s2.nv s.nv ρ' t2.nv/\s.nv<=t.nv/\K' ax t2=some r':=by intro β K' r' h;obtain⟨ax,t2,ρ',t,⟨n0,hev⟩,g2,g3,g4,g5⟩:=ih _ _ _ _ _ _ _ h _ _ _ hs;cases ax with|normal=>refine⟨.normal,t2,ρ',t,⟨n0+1,λk m hk hm=>?_⟩,g2,g3,g4,g5⟩;obtain⟨m,rfl⟩:∃q,m=q+1:=⟨m-1,by omega⟩;simp[exec,hev k m (by omega) (by omega)]|ret=>refine⟨.ret,t2,ρ',t,⟨n0+1,λk m hk hm=>?_⟩,g2,g3,g4,g5⟩;obtain⟨m,rfl⟩:∃q,m=q+1:=⟨m-1,by omega⟩;simp[exec,hev k m (by omega) (by omega)]|exit id'=>simp at g5;cases hb:Nat.beq id' id with|true=>rw[hb]at g5;refine⟨.normal,t2,ρ',t,⟨n0+1,λk m hk hm=>?_⟩,g2,g3,g4,g5⟩;obtain⟨m,rfl⟩:∃q,m=q+1:=⟨m-1,by omega⟩;simp[exec,hev k m (by omega) (by omega),hb]|false=>rw[hb]at g5;refine⟨.exit id',t2,ρ',t,⟨n0+1,λk m hk hm=>?_⟩,g2,g3,g4,g5⟩;obtain⟨m,rfl⟩:∃q,m=q+1:=⟨m-1,by omega⟩;simp[exec,hev k m (by omega) (by omega),hb]
   simp at h;split at h;.exact way h
   .obtain⟨y,hy,h⟩:=bind_some h;obtain⟨ax,t2,ρ',t,hev,g2,g3,g4,g5⟩:=way hy<;>grind|loop c=>
   simp at h;split at h;.obtain⟨ax,t2,ρ',t,⟨n0,hev⟩,g2,g3,g4,g5⟩:=ih _ _ _ _ _ _ _ h _ _ _ hs;cases ax with|normal=>obtain⟨ax',t3,ρ3,t',⟨n1,ag9⟩,q2,q3,q4,q5⟩:=ih _ _ _ _ _ _ _ g5 _ _ _ g2;refine⟨ax',t3,ρ3,t',⟨max n0 n1+1,λk m hk hm=>?_⟩,q2,g3.trans q3 g4,Nat.le_trans g4 q4,q5⟩;obtain⟨m,rfl⟩:∃q,m=q+1:=⟨m-1,by omega⟩;simp[exec,hev k m (by omega) (by omega)]<;>grind|exit id=>refine⟨.exit id,t2,ρ',t,⟨n0+1,λk m hk hm=>?_⟩,g2,g3,g4,g5⟩;obtain⟨m,rfl⟩:∃q,m=q+1:=⟨m-1,by omega⟩;simp[exec,hev k m (by omega) (by omega)]|ret=>refine⟨.ret,t2,ρ',t,⟨n0+1,λk m hk hm=>?_⟩,g2,g3,g4,g5⟩;obtain⟨m,rfl⟩:∃q,m=q+1:=⟨m-1,by omega⟩;simp[exec,hev k m (by omega) (by omega)]
   obtain⟨L,hL,h⟩:=az h;obtain⟨ds,hd,h⟩:=az h;obtain⟨x,hx,h⟩:=az h;obtain⟨y,hy,h⟩:=bind_some h;obtain⟨t2,ρ',g1,g2,g3⟩:=Ao hd hs;obtain⟨ax,t3,ρ3,t,q1,q2,q3,q4,q5⟩:=hE.loops ctx _ c L hL x y hy t2 (by rw[cU hx];exact g1) _ _ _ g2;exact⟨ax,t3,ρ3,t,q1,q2,g3.trans q3 (Nat.le_refl _),q4,(q5 K).symm.trans h⟩
theorem NX(hE:aF Fs E)(N ctx i:Nat)(body:AC)(T:bw)(outs:bt):∀k,SG Fs body ⟨T,outs,NI (By E N ctx i body T outs) k⟩
 |0=>λx y h=>by cases h|k+1=>by
  have ih:=NX hE N ctx i body T outs k;intro x y h s2 hst ρ os s hs;obtain⟨s2',aha,h⟩:=az h;rw[hst]at aha;cases aha;obtain⟨ax,t2,ρ',t,⟨n0,hev⟩,g2,g3,g4,g5⟩:=Au hE N _ _ _ _ _ _ _ h _ _ _ hs;have leave:∀{ax:AX},ax≠.normal->Ev Fs body s (ax,t)->mN outs ax t2=some y->∃ax s2' ρ' s',Ev Fs (.loop body) s (ax,s')/\zd ρ' os s2' s'/\Fr ρ s2.nv s.nv ρ' s2'.nv/\s.nv<=s'.nv/\∀{α:Type}(K:AX->S2->Option α),pM outs y K=K ax s2':=by rintro ax W2⟨n0,hev⟩hy;obtain⟨t3,ρ3,q1,q2,q3⟩:=Ap g2 hy;refine⟨ax,t3,ρ3,t,⟨n0+1,λk m hk hm=>?_⟩,q1,g3.trans q2 g4,g4,q3⟩;obtain⟨m,rfl⟩:∃q,m=q+1:=⟨m-1,by omega⟩;simp[exec,hev k m (by omega) (by omega)]<;>grind
  cases ax with|normal=>obtain⟨ds,hd,g5⟩:=az g5;obtain⟨x',hx,g5⟩:=az g5;obtain⟨t3,ρ3,q1,q2,q3⟩:=Ao hd g2;obtain⟨ax',t4,ρ4,t',⟨n1,ag9⟩,w2,w3,w4,w5⟩:=ih x' y g5 t3 (by simp only;rw[cU hx];exact q1) _ _ _ q2;refine⟨ax',t4,ρ4,t',⟨max n0 n1+1,λk m hk hm=>?_⟩,w2,(g3.trans q3 g4).trans w3 g4,Nat.le_trans g4 w4,w5⟩;obtain⟨m,rfl⟩:∃q,m=q+1:=⟨m-1,by omega⟩;simp[exec,hev k m (by omega) (by omega)]<;>grind|exit id=>exact leave (λh=>by cases h) ⟨n0,hev⟩ g5|ret=>exact leave (λh=>by cases h) ⟨n0,hev⟩ g5
theorem Wq(x:Cell):VL 0 x=true:=by cases x<;>first|rfl|exact Nat.ble_eq.2 (Nat.zero_le _)
theorem W4{ρ:aZ}{B:Nat}{m2:List (Tr E2)}{m:List (Tr bC)}(hm:MR ρ B m2 m){top k lv sl ai:Nat}{c:gf}{x x':Cell}{ks:List (Nat×Nat)}{a:AV}{d:List eW}(hh:VL top x=true)(h:Lj m2 x=some (x',ks))(hd:mZ c x'=some d)(hx:RC ρ B m2 x a):∃y x2,bu m top 0 k lv sl ai a=some (.d y,[])/\(∀rest,c.fill (d++rest)=some (x2,rest))/\∀(ρ:aZ)(B:Nat)(m:List (Tr E2)),RC ρ B m x2 (.d y):=by
 have imp:∃y,mO x'=some y/\bu m top 0 k lv sl ai a=some (.d y,[]):=by
  unfold Lj at h;split at h;.cases h;cases hx;exact⟨_,rfl,rfl⟩
  .cases h;cases hx;exact⟨_,rfl,rfl⟩
  .cases h;cases hx;exact⟨_,rfl,rfl⟩
  .cases h;cases hx;exact⟨_,rfl,rfl⟩
  .cases h;rcases(gq (m:=m) hx).2with rfl|⟨o,ho,rfl⟩;.exact⟨_,rfl,rfl⟩
   .exact⟨_,rfl,wo ho⟩
  .cases h
  .rename_i t l o hne;cases h;rcases(gI (m:=m) hx).2.2 (λe=>hne e)with rfl|⟨o',ho,rfl⟩;.exact⟨_,rfl,rfl⟩
   .exact⟨_,rfl,wo ho⟩
  .split at h;.rename_i r hr;cases h;have he:=lV hm hx hr;obtain⟨_,u,n,hu,rfl,hn⟩:=hx;refine⟨_,rfl,?_⟩;simp only[VL]at hh;simp[bu,he,hh,beq_true.2 rfl]
   grind
  .split at h;.rename_i r hr;cases h;have he:=jA hm hx hr (hx.2.choose_spec.2.2 r hr);obtain⟨_,u,hu,rfl,hn⟩:=hx;refine⟨_,rfl,?_⟩;simp only[VL]at hh;simp[bu,he,hh,beq_true.2 rfl]
   grind
  grind
 obtain⟨y,h1,h2⟩:=imp;obtain⟨x2,h3,h4⟩:=wj hd h1<;>simp_all
theorem wq{ρ:aZ}{B:Nat}{m2:List (Tr E2)}{m:List (Tr bC)}(hm:MR ρ B m2 m){top lv sl ai:Nat}:∀{cs:List gf}{xs xs':List Cell}{ks:List (Nat×Nat)}{aJ:List AV}{d:List eW}{k:Nat},(∀x∈xs,VL top x=true)->lZ m2 xs=some (xs',ks)->fV cs xs'=some d->aC (RC ρ B m2) xs aJ->∃as' rB,cL m top 0 lv sl ai k aJ=some (as',[])/\(∀rest,cJ cs (d++rest)=some (rB,rest))/\as'.all AH=true/\∀(ρ:aZ)(B:Nat)(m:List (Tr E2)),aC (RC ρ B m) rB as'
 |cs,[],xs',ks,aJ,d,k,_,h,hd,ha=>by cases h;match aJ,ha with|[],_=>match cs,hd with|[],hd=>cases hd;exact⟨[],[],rfl,λ_=>rfl,rfl,λ_ _ _=>trivial⟩
 |cs,x::xs,xs',ks,aJ,d,k,hh,h,hd,ha=>by
  simp[lZ]at h;split at h;.rename_i y k1 ys k2 h1 h2;cases h;match aJ,ha with|a::aJ,ha=>match cs,hd with
   |[],hd=>simp[fV]at hd|c::cs,hd=>
    simp[fV]at hd;split at hd;.rename_i d1 d2 h5 h6;cases hd;obtain⟨a',x2,g1,g2,g3⟩:=W4 hm (k:=k) (lv:=lv) (sl:=sl) (ai:=ai) (hh x List.mem_cons_self) h1 h5 ha.1;obtain⟨as',rB,g4,g5,g7,g6⟩:=wq hm (lv:=lv) (sl:=sl) (ai:=ai) (k:=k+1) (λx hx=>hh x (List.mem_cons_of_mem _ hx)) h2 h6 ha.2;exact⟨.d a'::as',x2::rB,by simp only[cL,g1,g4,List.append_nil],λrest=>by simp only[cJ,List.append_assoc,g2,g5],by rw[List.all_cons,g7];rfl,λρ B m=>⟨g3 _ _ _,g6 _ _ _⟩⟩
    grind
  grind
theorem W5{ρ:aZ}{B:Nat}{m2:List (Tr E2)}{m:List (Tr bC)}(hm:MR ρ B m2 m){top lv sl ai k:Nat}{b:Bool}{cs:List gf}{xs xs':List Cell}{ks:List (Nat×Nat)}{a:AV}{d:List eW}(hh:∀x∈xs,VL top x=true)(h:lZ m2 xs=some (xs',ks))(hd:fV cs xs'=some d)(ha:R1 ρ B m2 (b,xs) a):∃a' rB,kV m top 0 lv sl ai k a=some (a',[])/\(∀rest,cJ cs (d++rest)=some (rB,rest))/\xg a'=true/\∀(ρ:aZ)(B:Nat)(m:List (Tr E2)),R1 ρ B m (b,rB) a':=by cases b with|true=>obtain⟨aJ,rfl,ha⟩:=ha;obtain⟨as',rB,g1,g2,g4,g3⟩:=wq hm (k:=k) (lv:=lv) (sl:=sl) (ai:=ai) hh h hd ha;exact⟨.agg as',rB,by simp only[kV,g1,Option.map_some],g2,g4,λρ B m=>⟨as',rfl,g3 _ _ _⟩⟩|false=>
 obtain⟨c,rfl,ha⟩:=ha;obtain⟨as',rB,g1,g2,g0,g3⟩:=wq hm (k:=k) (lv:=lv) (sl:=sl) (ai:=ai) (aJ:=[a]) hh h hd ⟨ha,trivial⟩;simp[cL]at g1;have hc:=RC.cell ha;split at g1;.rename_i y u ys us h1 h2;cases h2;injection g1 with g1;injection g1 with g4 g5;subst g4;simp at g5;subst g5;have hx:=g3 ρ B m2;match rB,hx with|[x2],_=>refine⟨y,[x2],?_,g2,(by cases y<;>first|rfl|cases g0),λρ B m=>⟨x2,rfl,(g3 ρ B m).1⟩⟩;cases a<;>first|exact h1|cases hc.2.1
 grind
theorem EK{ρ:aZ}{B:Nat}{m2:List (Tr E2)}{m:List (Tr bC)}(hm:MR ρ B m2 m){top lv sl ai:Nat}:∀{res:List (Bool×List gf)}{vs:List (Bool×List Cell)}{aJ:List AV}{ds:List eW}{k:Nat},(∀v∈vs,∀x∈v.2,VL top x=true)->jv m2 res vs=some ds->aC (R1 ρ B m2) vs aJ->∃as' ws,fK m top 0 lv sl ai k aJ=some (as',[])/\(∀rest,ic res (ds++rest)=some (ws,rest))/\ws.length=aJ.length/\as'.all xg=true/\∀(ρ:aZ)(B:Nat)(m:List (Tr E2)),aC (R1 ρ B m) ws as'
 |[],[],aJ,ds,k,_,h,ha=>by cases h;match aJ,ha with|[],_=>exact⟨[],[],rfl,λ_=>rfl,rfl,rfl,λ_ _ _=>trivial⟩
 |(a,l)::ps,(b,cs)::vs,aJ,ds,k,hh,h,ha=>by
  simp[jv]at h;split at h
  .rename_i cs' ks ds2 hab hf hr;obtain⟨d,hd,rfl⟩:=aN h;have hab:a=b:=by grind
   subst hab;match aJ,ha with|x::aJ,ha=>obtain⟨a',rB,g1,g2,g8,g3⟩:=W5 hm (k:=k) (lv:=lv) (sl:=sl) (ai:=ai) (hh _ List.mem_cons_self) hf hd ha.1;obtain⟨as',ws,g4,g5,g6,g9,g7⟩:=EK hm (lv:=lv) (sl:=sl) (ai:=ai) (k:=k+64) (λv hv=>hh v (List.mem_cons_of_mem _ hv)) hr ha.2;exact⟨a'::as',(a,rB)::ws,by simp only[fK,g1,g4,List.append_nil],λrest=>by simp only[ic,List.append_assoc,g2,g5],by simp[g6],by rw[List.all_cons,g8,g9];rfl,λρ B m=>⟨g3 _ _ _,g7 _ _ _⟩⟩
  grind|[],_::_,_,_,_,_,h,_=>by simp[jv]at h|_::_,[],_,_,_,_,h,_=>by simp[jv]at h
theorem NY{ρ:aZ}{B:Nat}{m2:List (Tr E2)}{m:List (Tr bC)}(hm:MR ρ B m2 m){top lv sl ai:Nat}{res:List (Bool×List gf)}{vs:List (Bool×List Cell)}{aJ:List AV}{ds:List eW}(hh:∀v∈vs,∀x∈v.2,VL top x=true)(h:jv m2 res vs=some ds)(ha:aC (R1 ρ B m2) vs aJ){ws:List (Bool×List Cell)}{w:V2}(hw:ic res ds=some (ws,[]))(ht:mY ws=some w):∃a',gu m top 0 lv sl ai (jr aJ)=some (a',[])/\FC a'=true/\∀(ρ:aZ)(B:Nat)(m:List (Tr E2)),RV ρ B m w a':=by obtain⟨as',Da,g1,g2,g3,g0,g4⟩:=EK hm (lv:=lv) (sl:=sl) (ai:=ai) (k:=1) hh h ha;have Dr:=g2 [];rw[List.append_nil,hw]at Dr;cases Dr;match aJ,ha,g1,g3 with
 |[],_,g1,g3=>match ws,g3 with|[],_=>cases ht;exact⟨.iF [],rfl,rfl,λ_ _ _=>⟨[],rfl,trivial⟩⟩
 |[a],ha,g1,g3=>match ws,g3 with
  |[(b,cs)],_=>
   simp[fK]at g1;split at g1
   .rename_i y u ys us h1 h2;cases h2;injection g1 with g1;injection g1 with g5 g6;subst g5;simp at g6;subst g6;simp at g0;refine⟨y,?_,(by cases y<;>first|exact g0|cases g0),λρ B m=>?_⟩;.match vs,ha with|[(b',cs')],ha=>have hn:=R1.fL ha.1;cases a<;>first|exact h1|cases hn
    .have hx:=(g4 ρ B m).1;cases b with|true=>obtain⟨bs,rfl,g7⟩:=hx;cases ht;exact⟨bs,rfl,g7⟩|false=>obtain⟨c,rfl,g7⟩:=hx;cases ht;exact g7
   grind
 |a::b::aJ,ha,g1,g3=>match ws,g3 with|x::y::ws,_=>cases ht;exact⟨.iF as',by simp only[jr,gu,g1,Option.map_some],g0,λρ B m=>⟨as',rfl,g4 _ _ _⟩⟩
theorem SW{ρ:aZ}{B:Nat}{m2:List (Tr E2)}{m:List (Tr bC)}(hm:MR ρ B m2 m){k lv sl ai p row rk:Nat}(h0:rk≠0)(EL:row%65536=rk)(hr2:row/65536≠0)(As:row%65536≠65535){c:gf}{x x':Cell}{ks:List (Nat×Nat)}{a:AV}{d:List eW}(hk:Lo m2 rk k x=true)(h:Lj m2 x=some (x',ks))(hd:mZ c x'=some d)(hx:RC ρ B m2 x a):∃x2,(∀rest,c.fill (d++rest)=some (x2,rest))/\∀x3 us,Eh rk lv sl ai k x2=some (x3,us)->(∀u∈us,row/65536=u.t.size)->∃a',bu m 0 row k lv sl p a=some (a',us.map λu=>bf u.t u.l)/\∀(ρ:aZ)(B:Nat)(m:List (Tr E2)),kq ρ B m lv sl ai p us->RC ρ B m x3 a':=by
 have hrow:Nat.beq row 0=false:=beq_false.2 (by intro e;subst e;simp at hr2);have hsz:(!Nat.beq (row/65536) 0)=true:=by rw[beq_false.2 hr2];rfl
 have fin:∀{y:D},mO x'=some y->∃x2,(∀rest,c.fill (d++rest)=some (x2,rest))/\∀(ρ:aZ)(B:Nat)(m:List (Tr E2)),RC ρ B m x2 (.d y):=by
  intro y hy;unfold mZ at hd;split at hd
  .split at hd;.cases hd;cases hy;exact⟨_,λ_=>rfl,λ_ _ _=>rfl⟩
   .cases hd
  .cases hd;cases hy;exact⟨_,λ_=>rfl,λ_ _ _=>rfl⟩
  .cases hd;cases hy;exact⟨_,λ_=>rfl,λ_ _ _=>rfl⟩
  .cases hd;cases hy;exact⟨_,λ_=>rfl,λ_ _ _=>.inl rfl⟩
  .cases hd;cases hy;exact⟨_,λ_=>rfl,λ_ _ _=>.inl rfl⟩
  .cases hd
 have off:k≠rk->(∃y,mO x'=some y/\bu m 0 row k lv sl p a=some (.d y,[]))->∃x2,(∀rest,c.fill (d++rest)=some (x2,rest))/\∀x3 us,Eh rk lv sl ai k x2=some (x3,us)->(∀u∈us,row/65536=u.t.size)->∃a',bu m 0 row k lv sl p a=some (a',us.map λu=>bf u.t u.l)/\∀(ρ:aZ)(B:Nat)(m:List (Tr E2)),kq ρ B m lv sl ai p us->RC ρ B m x3 a':=by rintro hne⟨y,h1,h2⟩;obtain⟨x2,h3,h4⟩:=fin h1;refine⟨x2,h3,λx3 us hp _=>?_⟩;simp[Eh,beq_false.2 hne,Option.some.injEq,Prod.mk.injEq]at hp;obtain⟨rfl,rfl⟩:=hp;exact⟨_,h2,λ_ _ _ _=>h4 _ _ _⟩
 have nk:(!Nat.beq k rk)=true->k≠rk:=by intro h e;rw[e,beq_true.2 rfl]at h;cases h
 have Z1:oe 0 row=false:=by unfold oe;cases Nat.beq row 0<;>rfl
 have own:k≠rk->∀{els:List (List D)}{o:Rm},o≠.bA->bu m 0 row k lv sl p (.own els o)=some (.d (.sl els),[]):=by intro hne els o ho;cases o with|bA=>exact absurd rfl ho|cB=>simp[bu,Z1]|full=>simp[bu,EL,beq_false.2 hne,Bool.and_false,Z1,beq_false.2 (show rk≠65535by rw[<-EL];exact As),Bool.or_self]
 unfold Lj at h;split at h;.cases h;cases hx;exact off (nk hk) ⟨_,rfl,rfl⟩
 .cases h;cases hx;exact off (nk hk) ⟨_,rfl,rfl⟩
 .cases h;cases hx;exact off (nk hk) ⟨_,rfl,rfl⟩
 .cases h;cases hx;exact off (nk hk) ⟨_,rfl,rfl⟩
 .rename_i f;cases h;cases f with|false=>
   rcases(gq (m:=m) hx).2with rfl|⟨o,ho,rfl⟩;.exact off (nk hk) ⟨_,rfl,rfl⟩
   .exact off (nk hk) ⟨_,rfl,own (nk hk) ho⟩|true=>
   subst hx;by_cases hne:k=rk
   .subst hne;have hc:∃t,c=.sl t .d/\d=[⟨.sl t,[]⟩]:=by cases c with
     |sl t o=>cases o<;>first|(injection hd with hd;exact⟨t,rfl,hd.symm⟩)|cases hd
     |_=>cases hd
    obtain⟨t,rfl,rfl⟩:=hc
    .refine⟨.sl t [] .d,λ_=>rfl,λx3 us hp hu=>?_⟩;simp[Eh,beq_true.2 rfl,Option.some.injEq,Prod.mk.injEq]at hp;obtain⟨rfl,rfl⟩:=hp;have hu:=hu _ (List.mem_singleton.2 rfl);refine⟨.ref lv sl p 0 0 (row/65536),?_,λρ B m hf=>⟨hf.1,p,0,hf.2.1,by rw[hu],λr hr=>?_⟩⟩;.simp[bu,EL,hsz,beq_true.2 rfl,Bool.and_true];rfl
     .have:=hf.2.2 _ (List.mem_singleton.2 rfl) r hr;simpa using this.symm
   .exact off hne ⟨_,rfl,own hne (λh=>by cases h)⟩
 .cases h
 .rename_i t l o hne;cases h;rcases(gI (m:=m) hx).2.2 (λe=>hne e)with rfl|⟨o',ho,rfl⟩;.exact off (nk hk) ⟨_,rfl,rfl⟩
  .exact off (nk hk) ⟨_,rfl,own (nk hk) ho⟩
 .rename_i cG dF gG t;split at h
  .rename_i r hr;cases h;have he:=lV hm hx hr;obtain⟨_,u,n,hu,rfl,hn⟩:=hx;simp only[Lo,hr,Bool.and_eq_true]at hk;obtain⟨hk1,hk2⟩:=hk;have hk1:=beq_true.1 hk1;have hk2:=beq_true.1 hk2;subst hk1;obtain⟨e,g1,g2⟩:=hm.eV _ _ _ (cC hr);obtain⟨_,u',g3,rfl⟩:=g2;rw[hu]at g3;cases g3;have hat:bI.rowAt m cG dF u=some (bf r.t r.l):=by unfold bI.rowAt;rw[g1];simp[beq_true.2 rfl]
   have hc:∃t0,c=.sl t0 .d/\d=[⟨.sl r.t,r.l⟩]:=by cases c with
    |sl t o=>cases o<;>first|(injection hd with hd;exact⟨t,rfl,hd.symm⟩)|cases hd
    |_=>cases hd
   obtain⟨t0,rfl,rfl⟩:=hc
   .refine⟨.sl r.t r.l .d,λ_=>rfl,λx3 us hp hu=>?_⟩;simp[Eh,beq_true.2 rfl,Option.some.injEq,Prod.mk.injEq]at hp;obtain⟨rfl,rfl⟩:=hp;refine⟨.ref lv sl p 0 n t.size,?_,λρ B m hf=>⟨hf.1,p,n,hf.2.1,by rw[hk2],λr' hr'=>?_⟩⟩;.simp[bu,he,hrow,EL,beq_true.2 rfl,hat];rfl
    .rw[hf.2.2 _ (List.mem_singleton.2 rfl) r' hr'];exact hn r hr
  .cases h
 .cases hk
 .cases h
theorem xM{ρ:aZ}{B:Nat}{m2:List (Tr E2)}{m:List (Tr bC)}(hm:MR ρ B m2 m){lv sl ai p row rk:Nat}(h0:rk≠0)(EL:row%65536=rk)(hr2:row/65536≠0)(As:row%65536≠65535):∀{cs:List gf}{xs xs':List Cell}{ks:List (Nat×Nat)}{aJ:List AV}{d:List eW}{k:Nat},WA m2 rk k xs=true->lZ m2 xs=some (xs',ks)->fV cs xs'=some d->aC (RC ρ B m2) xs aJ->∃rB,(∀rest,cJ cs (d++rest)=some (rB,rest))/\∀HP us,sw rk lv sl ai k rB=some (HP,us)->(∀u∈us,row/65536=u.t.size)->∃as',cL m 0 row lv sl p k aJ=some (as',us.map λu=>bf u.t u.l)/\∀(ρ:aZ)(B:Nat)(m:List (Tr E2)),kq ρ B m lv sl ai p us->aC (RC ρ B m) HP as'
 |cs,[],xs',ks,aJ,d,k,_,h,hd,ha=>by cases h;match aJ,ha with|[],_=>match cs,hd with|[],hd=>cases hd;refine⟨[],λ_=>rfl,λHP us hp _=>?_⟩;cases hp;exact⟨[],rfl,λ_ _ _ _=>trivial⟩|_::_,hd=>simp[fV]at hd
 |cs,x::xs,xs',ks,aJ,d,k,hk,h,hd,ha=>by
  simp[WA,Bool.and_eq_true]at hk;simp[lZ]at h;split at h;.rename_i y k1 ys k2 h1 h2;cases h;match aJ,ha with|a::aJ,ha=>match cs,hd with
   |[],hd=>simp[fV]at hd|c::cs,hd=>
     simp[fV]at hd;split at hd
     .rename_i d1 d2 h5 h6;cases hd;obtain⟨x2,g2,g3⟩:=SW hm (k:=k) (lv:=lv) (sl:=sl) (ai:=ai) (p:=p) h0 EL hr2 As hk.1 h1 h5 ha.1;obtain⟨rB,g5,g6⟩:=xM hm (lv:=lv) (sl:=sl) (ai:=ai) (p:=p) h0 EL hr2 As (k:=k+1) hk.2 h2 h6 ha.2;refine⟨x2::rB,λrest=>by simp only[cJ,List.append_assoc,g2,g5],λHP us hp hu=>?_⟩;simp[sw]at hp;split at hp;.rename_i z u1 zs u2 p1 p2;cases hp;obtain⟨a',q1,q2⟩:=g3 _ _ p1 (λu h=>hu u (List.mem_append_left _ h));obtain⟨as',q3,q4⟩:=g6 _ _ p2 (λu h=>hu u (List.mem_append_right _ h));exact⟨a'::as',by simp only[cL,q1,q3,List.map_append],λρ B m hf=>⟨q2 _ _ _ ⟨hf.1,hf.2.1,λu h=>hf.2.2 u (List.mem_append_left _ h)⟩,q4 _ _ _ ⟨hf.1,hf.2.1,λu h=>hf.2.2 u (List.mem_append_right _ h)⟩⟩⟩
      grind
     grind
  grind
theorem PL{m:List (Tr bC)}{row lv sl p k:Nat}{a:AV}(h:lP a=true)(h2:bI.fL a=true):kV m 0 row lv sl p k a=bu m 0 row k lv sl p a:=by cases a<;>first|rfl|cases h
theorem BW{ρ:aZ}{B:Nat}{m2:List (Tr E2)}{m:List (Tr bC)}(hm:MR ρ B m2 m){lv sl ai p row rk:Nat}(h0:rk≠0)(EL:row%65536=rk)(hr2:row/65536≠0)(As:row%65536≠65535):∀{res:List (Bool×List gf)}{vs:List (Bool×List Cell)}{aJ:List AV}{ds:List eW}{k:Nat},Eg m2 rk k vs=true->jv m2 res vs=some ds->aC (R1 ρ B m2) vs aJ->∃ws,(∀rest,ic res (ds++rest)=some (ws,rest))/\ws.length=aJ.length/\∀Da us,Ei rk lv sl ai k ws=some (Da,us)->(∀u∈us,row/65536=u.t.size)->∃as',fK m 0 row lv sl p k aJ=some (as',us.map λu=>bf u.t u.l)/\Da.length=aJ.length/\∀(ρ:aZ)(B:Nat)(m:List (Tr E2)),kq ρ B m lv sl ai p us->aC (R1 ρ B m) Da as'
 |[],[],aJ,ds,k,_,h,ha=>by cases h;match aJ,ha with|[],_=>refine⟨[],λ_=>rfl,rfl,λDa us hp _=>?_⟩;cases hp;exact⟨[],rfl,rfl,λ_ _ _ _=>trivial⟩
 |(a,l)::ps,(b,cs)::vs,aJ,ds,k,hk,h,ha=>by
  simp[Eg,Bool.and_eq_true]at hk;simp[jv]at h;split at h
  .rename_i cs' ks ds2 hab hf hr;obtain⟨d,hd,rfl⟩:=aN h;have hab:a=b:=by grind
   subst hab;match aJ,ha with
   |x::aJ,ha=>
    obtain⟨ws,g5,g6,g7⟩:=BW hm (lv:=lv) (sl:=sl) (ai:=ai) (p:=p) h0 EL hr2 As (k:=k+64) hk.2 hr ha.2;have one:∃rB,(∀rest,cJ l (d++rest)=some (rB,rest))/\∀HP us,sw rk lv sl ai k rB=some (HP,us)->(∀u∈us,row/65536=u.t.size)->∃a',kV m 0 row lv sl p k x=some (a',us.map λu=>bf u.t u.l)/\∀(ρ:aZ)(B:Nat)(m:List (Tr E2)),kq ρ B m lv sl ai p us->R1 ρ B m (a,HP) a':=by cases a with|true=>obtain⟨as2,rfl,ha2⟩:=ha.1;obtain⟨rB,q1,q2⟩:=xM hm (k:=k) (lv:=lv) (sl:=sl) (ai:=ai) (p:=p) h0 EL hr2 As hk.1 hf hd ha2;refine⟨rB,q1,λHP us hp hu=>?_⟩;obtain⟨as',q3,q4⟩:=q2 HP us hp hu;exact⟨.agg as',by simp only[kV,q3,Option.map_some],λρ B m hf=>⟨as',rfl,q4 _ _ _ hf⟩⟩|false=>
      obtain⟨c,rfl,ha2⟩:=ha.1;obtain⟨rB,q1,q2⟩:=xM hm (k:=k) (lv:=lv) (sl:=sl) (ai:=ai) (p:=p) h0 EL hr2 As (aJ:=[x]) hk.1 hf hd ⟨ha2,trivial⟩;refine⟨rB,q1,λHP us hp hu=>?_⟩;obtain⟨as',q3,q4⟩:=q2 HP us hp hu;have hc:=RC.cell ha2;simp[cL]at q3;split at q3
      .rename_i y u ys us' h1 h2;cases h2;simp at q3;obtain⟨rfl,rfl⟩:=q3;have hlen:∃x3,HP=[x3]:=by
        have hq:=q1 [];have h1:∀{l:List gf}{d:List eW}{xs:List Cell},cJ l d=some (xs,[])->xs.length=l.length:=by intro l;induction l with|nil=>intro d xs h;cases h;rfl|cons c l ih=>intro d xs h;simp[cJ]at h<;>grind
        have h2:∀{k:Nat}{xs HP:List Cell}{us:List SL},sw rk lv sl ai k xs=some (HP,us)->HP.length=xs.length:=by intro k xs;induction xs generalizing k with|nil=>intro HP us h;simp[sw,Option.some.injEq,Prod.mk.injEq]at h<;>grind|cons c l ih=>intro HP us h;simp[sw]at h<;>grind
        have h3:l.length=1:=by
         have xm:∀{cs:List gf}{xs:List Cell}{d:List eW},fV cs xs=some d->cs.length=xs.length:=by intro cs;induction cs with
          |nil=>intro xs d h;cases xs with|nil=>rfl|cons _ _=>simp[fV]at h
          |cons c cs ih=>intro xs d h;cases xs with|nil=>simp[fV]at h|cons x xs=>simp[fV]at h<;>grind
         simp[lZ]at hf<;>grind
        have:=h2 hp;rw[h1 hq,h3]at this;match HP,this with|[x3],_=>grind
       obtain⟨x3,rfl⟩:=hlen;exact⟨y,by rw[PL hc.2.1 hc.2.2];exact h1,λρ B m hf=>⟨x3,rfl,(q4 _ _ _ hf).1⟩⟩
      grind
    obtain⟨rB,q1,q2⟩:=one;refine⟨(a,rB)::ws,λrest=>by simp only[ic,List.append_assoc,q1,g5],by simp[g6],λDa us hp hu=>?_⟩;simp[Ei]at hp;split at hp;.rename_i z u1 zs u2 p1 p2;cases hp;obtain⟨a',q3,q4⟩:=q2 _ _ p1 (λu h=>hu u (List.mem_append_left _ h));obtain⟨as',q5,q6,q7⟩:=g7 _ _ p2 (λu h=>hu u (List.mem_append_right _ h));exact⟨a'::as',by simp only[fK,q3,q5,List.map_append],by simp[q6],λρ B m hf=>⟨q4 _ _ _ ⟨hf.1,hf.2.1,λu h=>hf.2.2 u (List.mem_append_left _ h)⟩,q7 _ _ _ ⟨hf.1,hf.2.1,λu h=>hf.2.2 u (List.mem_append_right _ h)⟩⟩⟩
    grind
  grind|[],_::_,_,_,_,_,h,_=>by simp[jv]at h|_::_,[],_,_,_,_,h,_=>by simp[jv]at h
theorem SX{ρ:aZ}{B:Nat}{m2:List (Tr E2)}{m:List (Tr bC)}(hm:MR ρ B m2 m){lv sl ai p row rk:Nat}(h0:rk≠0)(EL:row%65536=rk)(hr2:row/65536≠0)(As:row%65536≠65535){res:List (Bool×List gf)}{vs ws Da:List (Bool×List Cell)}{aJ:List AV}{ds:List eW}{us:List SL}{w:V2}(hk:Eg m2 rk 1 vs=true)(h:jv m2 res vs=some ds)(ha:aC (R1 ρ B m2) vs aJ)(hw:ic res ds=some (ws,[]))(hp:Ei rk lv sl ai 1 ws=some (Da,us))(hu:∀u∈us,row/65536=u.t.size)(ht:mY Da=some w):∃a',gu m 0 row lv sl p (jr aJ)=some (a',us.map λu=>bf u.t u.l)/\∀(ρ:aZ)(B:Nat)(m:List (Tr E2)),kq ρ B m lv sl ai p us->RV ρ B m w a':=by obtain⟨ws1,g2,g3,g4⟩:=BW hm (lv:=lv) (sl:=sl) (ai:=ai) (p:=p) h0 EL hr2 As (k:=1) hk h ha;have Dr:=g2 [];rw[List.append_nil,hw]at Dr;cases Dr;obtain⟨as',g1,g5,g6⟩:=g4 _ _ hp hu;match aJ,ha,g1,g5 with
 |[],_,g1,g5=>match Da,g5 with|[],_=>cases ht;simp only[fK,Option.some.injEq,Prod.mk.injEq]at g1;obtain⟨rfl,g7⟩:=g1;exact⟨.iF [],by simp only[jr,gu,fK,Option.map_some];rw[<-g7],λ_ _ _ _=>⟨[],rfl,trivial⟩⟩
 |[a],ha,g1,g5=>match Da,g5 with
  |[(b,cs)],_=>
   simp[fK]at g1;split at g1
   .rename_i y u ys us' h1 h2;cases h2;simp at g1;obtain⟨rfl,rfl⟩:=g1;refine⟨y,?_,λρ B m hf=>?_⟩;.match vs,ha with|[(b',cs')],ha=>have hn:=R1.fL ha.1;cases a<;>first|exact h1|cases hn
    .have hx:=(g6 ρ B m hf).1;cases b with|true=>obtain⟨bs,rfl,g7⟩:=hx;cases ht;exact⟨bs,rfl,g7⟩|false=>obtain⟨c,rfl,g7⟩:=hx;cases ht;exact g7
   grind
 |a::b::aJ,ha,g1,g5=>match Da,g5 with|x::y::Da,_=>cases ht;exact⟨.iF as',by simp only[jr,gu,g1,Option.map_some],λρ B m hf=>⟨as',rfl,g6 _ _ _ hf⟩⟩
theorem LL{ρ:aZ}{s2:S2}{s:St}{α:Type}{K:List Cell->Option α}{r:α}{o:Tr AV}(hs:zd ρ [o] s2 s)(ho:jt o 0=.ptr 0 0 0 0 0)(h:Al s2 K=some r):∃cs aJ,gE s.mem 0 0 0=some aJ/\aC (RC ρ s2.nv s2.mem) cs aJ/\K cs=some r:=by
 unfold Al at h;split at h
 .rename_i o2 h2;have hout:=hs.outer;rw[h2]at hout;split at h
  .rename_i lv sl ai i off hp;have hp:=hout.1 0 _ hp;rw[ho]at hp;obtain⟨_,u,hu,he⟩:=hp;cases he;split at h
   .rename_i v cs hb;split at h;.rename_i hv;have hv:=Nat.eq_of_beq_eq_true hv;subst hv;obtain⟨e,g1,_,u',bs,g2,rfl,g3⟩:=hs.mem.eV _ _ _ hb;rw[hu]at g2;cases g2;unfold gE<;>grind
    grind
   grind
  grind
 grind
theorem NZ{f:Nat}{fn:tV}{aJ:List AV}{HM:List AV}{mem:List (Tr bC)}{nv n0:Nat}{ax:AX}{t:St}(hf:Fs f=some fn)(hnp:Nat.beq aJ.length fn.np=true)(W2:∀id,ax≠.exit id)(q1:kX t fn.res=some HM)(hev:∀k n,n0<=k->n0<=n->exec (iE Fs k) (Aq Fs) n fn.body {slots:=dU 0 aJ .lf,mem,aG:=.lf,nv}=some (ax,t)):∀n,n0+1<=n->iE Fs n f aJ mem .lf nv=some (jr HM,t.mem,t.aG,t.nv):=by intro n hn;obtain⟨n,rfl⟩:∃k,n=k+1:=⟨n-1,by omega⟩;simp[iE,hf,hnp];have:=hev n n (by omega) (by omega);unfold Aq at this;cases ax with|normal=>grind|ret=>grind|exit id=>grind
theorem acE(hE:aF Fs E)(N f:Nat)(args:List pL)(ta:List Ty)(res:List (Bool×List gf))(tr:List Ty)(rk:Nat){l:List gf}{ps:List pL}(hb:Dl args=some (l,ps)):SF Fs f ⟨args,ta,res,tr,rk,Si E N f args ta res tr rk⟩ l ps:=by
 intro x y h;obtain⟨fn,hf,h⟩:=az h;rw[hE.fns]at hf;rw[hb]at h;simp at h;split at h
 .rename_i cs r hcs;split at h
  .rename_i vs hvs;split at h
   .rename_i hnp;refine⟨cs,r,vs,hcs,hvs,λbs aJ Nq has=>?_⟩;let ρ:aZ:=λv=>some v;have hst:∀m,eE 0 [] m:=λm _ _ _ _ h=>absurd h (by omega);have KV:MR ρ 1 (fo [.lf,.lf] [(0,0,some (.box 0 cs))]) (rN bs):=by have h0:MR ρ 1 [.lf,.lf] [.lf,.lf]:=⟨rfl,λlv sl e he=>by have:=nN 2 lv sl;rw[show([.lf,.lf]:List (Tr E2))=List.replicate 2 .lf from rfl,this]at he;cases he⟩;exact h0.cX (us:=[(0,0,some (.box 0 bs))]) (Nat.le_refl _) (dW (ks:=[]) (e:=.box 0 cs) trivial) (dX ⟨by omega,0,bs,rfl,rfl,Nq.mono λ_ _=>RC.move (hst _) (by omega) λ_ h=>absurd h (by omega)⟩)
    have alV:∀m,RV ρ 1 m (.c (.ptr 0 0 0 0 0)) (.ptr 0 0 0 0 0):=λm=>⟨by omega,0,rfl,rfl⟩;have nI:jt (Tr.set .lf 0 (some (.ptr 0 0 0 0 0))) 0=AV.ptr 0 0 0 0 0:=rfl;have start:zd ρ [Tr.set .lf 0 (some (.ptr 0 0 0 0 0))] {slots:=iw 0 (.c (.ptr 0 0 0 0 0)::vs) .lf,outer:=[Tr.set .lf 0 (some (.c (.ptr 0 0 0 0 0)))],mem:=fo [.lf,.lf] [(0,0,some (.box 0 cs))],aG:=.lf,nv:=1} {slots:=dU 0 (.ptr 0 0 0 0 0::aJ) .lf,mem:=rN bs,aG:=.lf,nv:=1}:=by
     refine⟨qC ⟨alV _,has.mono λ_ _=>RV.move (hst _) (by omega) λ_ h=>absurd h (by omega)⟩,⟨λk v hk=>?_,trivial⟩,KV,λv hv=>?_,⟨λv u hv hu=>?_,λv hv=>?_,λv v' u h h'=>?_⟩,Nat.le_refl _⟩;.rw[Tr.cz]at hk<;>simp_all
     .simp at hv
     .grind
     .grind
     grind
    obtain⟨ax,t2,ρ',t,⟨n0,hev⟩,g2,g3,g4,g5⟩:=Au hE N _ _ _ _ _ _ _ h _ _ _ start;have W2:∀id,ax≠.exit id:=by grind
    have g5:(Al t2 λcs'=>yV t2 fn.res λvs=>match hiR 1 ((true,cs')::vs)with|true=>bN (jv t2.mem res ((true,cs')::vs)) λds=>pack tr ds|false=>none)=some y:=by grind
    obtain⟨cs1,bs1,q1,q2,g5⟩:=LL g2 nI g5;obtain⟨W1,HM,q3,q4,g5⟩:=wm g2.mem g2.slots g5;split at g5;case h_2=>cases g5
    rename_i hhi;obtain⟨ds,q5,q6⟩:=az g5;have hhi:∀v∈(true,cs1)::W1,∀x∈v.2,VL 1 x=true:=λv hv x hx=>List.all_eq_true.1 (List.all_eq_true.1 hhi v hv) x hx;refine⟨n0+1,jr HM,t.mem,t.aG,t.nv,NZ hf (by simpa[<-has.length]using hnp) W2 q3 hev,λnew ws w rJ hw=>?_⟩;rw[cU q6]at rJ;match res,q5,rJ with
    |(a,l1)::ps1,q5,rJ=>
     simp only[jv]at q5;split at q5
     .rename_i cs' ks ds2 hab hfz hr;obtain⟨d,hd,rfl⟩:=aN q5;obtain⟨as',rB,g6,g7,g8,g9⟩:=wq g2.mem (k:=0) (lv:=0) (sl:=0) (ai:=0) (hhi _ List.mem_cons_self) hfz hd q2;simp[ic,g7]at rJ;split at rJ;.rename_i xs r'' h2;cases rJ;obtain⟨a',g10,g11,g12⟩:=NY g2.mem (lv:=0) (sl:=0) (ai:=0) (λv hv=>hhi v (List.mem_cons_of_mem _ hv)) hr q4 h2 hw<;>grind
      grind
     grind
   grind
  grind
 grind
theorem Z2(hE:aF Fs E)(N f:Nat)(args:List pL)(ta:List Ty)(res:List (Bool×List gf))(tr:List Ty)(rk:Nat):kr Fs f ⟨args,ta,res,tr,rk,Si E N f args ta res tr rk⟩:=by
 refine⟨λhb=>?_,λl ps hb=>acE hE N f args ta res tr rk hb⟩;intro x y h;obtain⟨fn,hf,h⟩:=az h;rw[hE.fns]at hf;rw[hb]at h;simp at h;split at h
 .rename_i vs hvs;split at h
  .rename_i hnp;refine⟨vs,hvs,λaJ has=>?_⟩;let ρ:aZ:=λv=>some v;have start:zd ρ [] {slots:=iw 0 vs .lf,outer:=[],mem:=[.lf],aG:=.lf,nv:=0} {slots:=dU 0 aJ .lf,mem:=[.lf],aG:=.lf,nv:=0}:=by
    refine⟨qC (has.mono λ_ _=>RV.move (λ_ _ _ _ h=>absurd h (by omega)) (Nat.le_refl _) λ_ h=>absurd h (by omega)),trivial,⟨rfl,λlv sl e he=>?_⟩,λv hv=>?_,⟨λv u hv=>?_,λv _=>?_,λv v' u h h'=>?_⟩,Nat.le_refl _⟩;.have:=nN 1 lv sl<;>grind
    .simp at hv
    .grind
    .grind
    grind
   obtain⟨ax,t2,ρ',t,⟨n0,hev⟩,g2,g3,g4,g5⟩:=Au hE N _ _ _ _ _ _ _ h _ _ _ start;have W2:∀id,ax≠.exit id:=by grind
   have g5:(yV t2 fn.res λvs=>match aco t2.mem rk vs&&!Nat.beq rk 65535with|true=>bN (jv t2.mem res vs) λds=>pack tr ds|false=>none)=some y:=by grind
   obtain⟨W1,HM,q1,q2,g5⟩:=wm g2.mem g2.slots g5;split at g5;case h_2=>cases g5
   rename_i Ar;simp at Ar;obtain⟨Ar,As⟩:=Ar;have As:rk≠65535:=by intro e;simp_all
   obtain⟨ds,q3,q4⟩:=az g5;refine⟨n0+1,jr HM,t.mem,t.aG,t.nv,λn hn=>?_,λws rJ=>⟨λ_ w hw lv sl aO=>?_,λrow lv sl ai p Da us w h0 EL hr2 hp hu hw=>?_⟩⟩;.exact NZ hf (by rw[<-has.length];exact hnp) W2 q1 hev n hn
   .rw[cU q4]at rJ;obtain⟨a',p1,_,p2⟩:=NY (top:=0) g2.mem (λ_ _ _ _=>Wq _) q3 q2 rJ hw;exact⟨a',p1,p2⟩
   .rw[cU q4]at rJ;have Ar:Eg t2.mem rk 1 W1=true:=by unfold aco at Ar;rw[beq_false.2 h0]at Ar<;>omega
    exact SX g2.mem h0 EL hr2 (by rw[EL];exact As) Ar q3 q2 rJ hp hu hw
  grind
 grind
end
end Go.Sym
