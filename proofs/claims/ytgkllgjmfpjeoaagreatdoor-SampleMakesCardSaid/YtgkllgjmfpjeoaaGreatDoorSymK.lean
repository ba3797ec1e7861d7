/- The machine over typed data: regions, code, loops, functions. -/
import Derived.Test.YtgkllgjmfpjeoaaGreatDoorSymJ
import Derived.Test.YtgkllgjmfpjeoaaGreatDoorSymGM
set_option linter.unusedVariables false
set_option linter.unusedSimpArgs false
namespace Go.Sym
open Go Go.bJ
section
variable{Fs:Tb}{E:ak}{wk:Wk}{α:Type}{ρ:bt}{nx rem p:Nat}{os:List (Tr AV)}{s2:S2}{s:St}{ctx row d:Nat}{K:gF->Option α}{r:α}
theorem FR(hwk:KD Fs wk)(hE:aD Fs E)(hi:RI ρ nx (rem+1) os s2 s p){op:cj}(h:cQ E wk ctx s2 row d nx op K=some r):∃r2 e,(∃n0,∀n,n0<=n->op.run (jj Fs n) (zO Fs) s row d p=some e)/\oh ρ nx os s2 s r2 e/\K r2=some r:=by
 have fk:ρ nx=some p:=by simpa using hi.zA 0 (by omega)
 have hm:=hi.mem;have ht:=hi.aI;have bX:=hi.slots;have hB:nx<=nx:=Nat.le_refl _;have yM:nx<=nx+1:=by omega
 have hinj:=hi.ah.inj;have conv:dI ρ nx (nx+1) s2 s op row d p K r->∃r2 e,(∃n0,∀n,n0<=n->op.run (jj Fs n) (zO Fs) s row d p=some e)/\oh ρ nx os s2 s r2 e/\K r2=some r:=by rintro⟨E',e,h1,h2,h3⟩;exact⟨.bW E',.bW e,⟨0,λn _=>h1 _ _⟩,h2,h3⟩
 cases op with
 |GM x=>exact conv (Rg hm ht bX hB fk h)|compact x=>exact conv (FL hm ht bX hB fk h)|pick c a b=>exact conv (Oa hm ht bX yM h)|alloc z=>exact conv (Kw hm ht hB fk h)|box x=>exact conv (Rf hm ht bX hB fk h)|build z ps=>exact conv (Ks hm ht bX yM h)|buildSlice sz n z ps=>exact conv (zz hm ht bX hB fk h)|load sz agg x=>exact conv (Oj hm ht bX hB h)|store sz x v=>exact conv (Kx hm ht bX hB h)|nilCheck x=>exact conv (CQ hm ht bX yM h)|bin op x y=>exact conv (Ra hm ht bX yM h)|U4 neg x y=>exact conv (Rb hm ht bX yM h)|U5 neg sz l x y=>exact conv (Rc hm ht bX yM h)|un op x=>exact conv (VU hm ht bX yM h)|conv k x=>exact conv (Oc hm ht bX yM h)|field off sz agg x=>exact conv (Kv hm ht bX yM h)|fieldAddr off x=>exact conv (A8 hm ht bX yM h)|indexAddr sz x i=>exact conv (A9 hm ht bX yM h)|jY n sz x i=>exact conv (CR hm ht bX yM h)|pY n sz agg x i=>exact conv (HV hm ht bX yM h)|pZ x i=>exact conv (HX hm ht bX yM h)|slice sz x lo hi mx=>exact conv (Ky hm ht bX hB fk h)|p4 x lo hi=>exact conv (HY hm ht bX yM h)|extract x i=>exact conv (FI hm ht bX yM h)|len x=>exact conv (Re hm ht bX yM h)|EU x=>exact conv (Of hm ht bX yM h)|GN x=>exact conv (Oe hm ht bX yM h)|CH n=>exact conv (Og hm ht yM h)|EV x y=>exact conv (Oh hm ht bX yM h)|EW x y=>exact conv (Oi hm ht bX yM h)|append sz bytes x y=>exact conv (H7 hm ht bX hB fk hinj h)|nY sz bytes z x n=>exact conv (FK hm ht bX hB fk hinj h)|clone sz bytes x=>exact conv (KA hm ht bX hB fk hinj h)|sort x=>exact conv (Oo hm ht bX hB h)|copy sz x y=>exact conv (Om hm ht bX hB h)|makeSlice sz bytes z l c=>exact conv (Bd hm ht bX hB fk h)|makeFunc f cap=>exact conv (CS hm ht bX yM h)|clear sz z x=>exact conv (KB hm ht bX hB h)|grow sz x n=>exact conv (Oq hm ht bX hB fk h)|call f args=>
  simp[cQ]at h;split at h;.rename_i h7 h8 h9 h10;obtain⟨vs,hv,h⟩:=aA h;obtain⟨r2,e,⟨n0,h1⟩,h2,h3⟩:=Bi hwk hE hi (by omega) h (od bX hv);exact⟨r2,e,⟨n0,λn hn=>by simp only[cj.run,h7,h8,h9,h10];exact h1 n hn⟩,h2,h3⟩
  .rename_i h7 h8 h9;obtain⟨vs,hv,h⟩:=aA h;obtain⟨r2,e,⟨n0,h1⟩,h2,h3⟩:=Ro hE hi h (od bX hv);exact⟨r2,e,⟨n0,λn hn=>by simp only[cj.run,h7,h8,h9];exact h1 n hn⟩,h2,h3⟩
  .rename_i h7 h8 h9 h10;obtain⟨vs,hv,h⟩:=aA h;obtain⟨r2,e,⟨n0,h1⟩,h2,h3⟩:=Rp hE hi h (od bX hv);exact⟨r2,e,⟨n0,λn hn=>by simp only[cj.run,h7,h8,h9,h10];exact h1 n hn⟩,h2,h3⟩
  grind|uT f args=>
  obtain⟨vs,hv,h⟩:=aA h;have hse:E.sh f=zO Fs f:=by simp[ak.sh,zO,hE.fns]
  rw[hse]at h;cases XE:zO Fs f with|true=>rw[XE]at h;obtain⟨r2,e,⟨n0,h1⟩,h2,h3⟩:=Bi hwk hE hi (by omega) h (od bX hv);refine⟨r2,e,⟨n0,λn hn=>?_⟩,h2,h3⟩;have:=h1 n hn;rw[XE]at this;simp[cj.run,XE,this]|false=>rw[XE]at h;obtain⟨r2,e,⟨n0,h1⟩,h2,h3⟩:=Oy hE hi h (od bX hv);exact⟨r2,e,⟨n0,λn hn=>by simp only[cj.run,XE,h1 n hn]⟩,h2,h3⟩
 |zZ x args=>
  simp[cQ]at h;split at h
  .rename_i f cap hx;obtain⟨vs,hv,h⟩:=aA h;obtain⟨aL,he,hc⟩:=aW bX hx;have hc:aC (RV ρ nx s2.mem) (cap.map .c) aL:=by
    have:∀{cs:List Cell}{aL:List AV},aC (RC ρ nx s2.mem) cs aL->aC (RV ρ nx s2.mem) (cs.map .c) aL:=by intro cs;induction cs with
     |nil=>intro aL h;match aL,h with|[],_=>trivial
     |cons c cs ih=>intro aL h;match aL,h with|a::aL,h=>exact⟨h.1,ih h.2⟩
    grind
   obtain⟨r2,e,⟨n0,h1⟩,h2,h3⟩:=Bi hwk hE hi (by omega) h ((od bX hv).append hc);exact⟨r2,e,⟨n0,λn hn=>by simp only[cj.run,he];exact h1 n hn⟩,h2,h3⟩
  grind|sliceB n sz x=>exact conv (HZ hm ht bX yM h)|Xv x=>exact conv (Rt hm ht bX hB h)|Xw x=>exact conv (Ru hm ht bX hB h)|mkSet=>exact conv (KH hm ht hB fk h)|GO x y=>exact conv (Oz hm ht bX hB h)|GP x y=>exact conv (OA hm ht bX hB h)|xY neg x=>exact conv (Ku hm ht bX yM h)|q8 lo n sz x=>exact conv (HU hm ht bX yM h)|bad=>simp[cQ]at h
theorem RI.Rw(hi:RI ρ nx rem os s2 s p){g:Nat}{t:Bool}(hg:jG s.slots g=.d (.sc (.bool t))):RI ρ nx rem os {s2 with slots:=s2.slots.set g (some (.c (.bool t)))} s p:=by
 refine⟨λk v hk=>?_,hi.outer,hi.mem,hi.aI,hi.ah,hi.zA,hi.nv,hi.pn⟩;rw[Tr.cz]at hk;split at hk;.subst_vars;cases hk;exact hg
 .exact hi.slots k v hk
theorem Ip(hwk:KD Fs wk)(hE:aD Fs E)(hi:RI ρ nx (rem+1) os s2 s p){o:bz}{K:S2->gF->Option α}(h:step2 E wk ctx s2 nx o K=some r):∃s2' r2 e,(∃n0,∀n,n0<=n->o.step (jj Fs n) (zO Fs) s p=some e)/\RI ρ nx (rem+1) os s2' s p/\oh ρ nx os s2' s r2 e/\K s2' r2=some r:=by
 have skip:∀{s2'},RI ρ nx (rem+1) os s2' s p->oh ρ nx os s2' s (ke (.iY [])) (.bW {val:=jF,cV:=[],cD:=[],rd:=[]}):=λhi'=>nG.xe hi'.mem hi'.aI (by omega) l8 aS.nil;unfold step2 at h;split at h;.rename_i hg;obtain⟨r2,e,⟨n0,h1⟩,h2,h3⟩:=FR hwk hE hi h;refine⟨s2,r2,e,⟨n0,λn hn=>?_⟩,hi,h2,h3⟩;simp[bz.step,jB,hg]<;>grind
 .rename_i g b hg;split at h;.rename_i t ht;have hv:jG s.slots g=.d (.sc (.bool t)):=hi.slots g _ ht;have hi':=hi.Rw hv;cases t with
   |true=>cases b with|true=>obtain⟨r2,e,⟨n0,h1⟩,h2,h3⟩:=FR hwk hE hi' h;refine⟨_,r2,e,⟨n0,λn hn=>?_⟩,hi',h2,h3⟩;simp[bz.step,jB,hg,hv,beq_self_eq_true]<;>grind|false=>refine⟨_,_,_,⟨0,λn _=>?_⟩,hi',skip hi',h⟩;simp[bz.step,jB,hg,hv];rfl
   |false=>cases b with|true=>refine⟨_,_,_,⟨0,λn _=>?_⟩,hi',skip hi',h⟩;simp[bz.step,jB,hg,hv];rfl|false=>obtain⟨r2,e,⟨n0,h1⟩,h2,h3⟩:=FR hwk hE hi' h;refine⟨_,r2,e,⟨n0,λn hn=>?_⟩,hi',h2,h3⟩;simp[bz.step,jB,hg,hv,beq_self_eq_true]<;>grind
  .rename_i ht;obtain⟨aL,hv,_⟩:=hi.slots g _ ht;refine⟨_,_,_,⟨0,λn _=>?_⟩,hi,skip hi,h⟩;simp[bz.step,jB,hg,hv];rfl
  grind
theorem MK{B:Nat}{m:List (Tr E2)}{t:Tr V2}{o:Tr AV}(h:ur ρ B m t o){v:V2}{a:AV}(hv:RV ρ B m v a)(dst:Option Nat):ur ρ B m (VD t dst v) (uU o dst a):=by cases dst with|none=>exact h|some n=>
 intro k w hk;simp[VD]at hk;simp[uU,jG];rw[Tr.cz]at hk⊢;split at hk;.grind
 .rename_i hne;rw[if_neg hne];exact h k w hk
theorem RI.bW(hi:RI ρ nx (rem+1) os s2 s p){E':HE}{e:fH}(h:nG ρ nx (nx+1) s2 s E' e)(dst:Option Nat):RI ρ (nx+1) rem os (s2.app dst (.bW E')) (s.app dst (.bW e)) (p+1):=by
 refine⟨?_,?_,h.mem,h.aI,hi.ah,λj hj=>?_,?_,?_⟩;.exact MK (hi.slots.move h.adS (by omega) λ_ _=>rfl) h.val dst
 .exact iw h.adS (by omega) (λ_ _=>rfl) hi.outer
 .have:=hi.zA (j+1) (by omega)<;>grind
 .have:=hi.nv;show nx+1+rem=s2.nv;omega
 .have:=hi.pn;show p+1+rem<=s.nv;omega
theorem RI.all(hi:RI ρ nx (rem+1) os s2 s p){v:V2}{t2:S2}{a:AV}{m:List (Tr bB)}{t:Tr Unit}{n:Nat}(h:oh ρ nx os s2 s (.all v t2) (.all a m t n))(dst:Option Nat):∃ρ',RI ρ' t2.nv rem os {t2.app dst (.all v t2)with nv:=t2.nv+rem} (s.app dst (.all a m t n)) (p+1)/\Fr ρ (nx+1) s.nv ρ' t2.nv/\s.nv<=n:=by
 obtain⟨ρ1,hs,hv,hf,hn⟩:=h;have hpn:=hi.pn;let ρ':bt:=λv=>if v<t2.nv then ρ1 v else if v<t2.nv+rem then some (p+1+(v-t2.nv))else some (n+(v-(t2.nv+rem)));have e1:∀v,v<t2.nv->ρ' v=ρ1 v:=λv h=>if_pos h;have e3:∀v,t2.nv+rem<=v->ρ' v=some (n+(v-(t2.nv+rem))):=λv h=>by show(if v<t2.nv then _ else _)=_;rw[if_neg (by omega),if_neg (by omega)]
 have apart:∀v u,v<t2.nv->ρ1 v=some u->u<p+1\/p+1+rem<=u:=by
  intro v u hv hu;rcases hf v u hv hu with⟨w,hw,FQ⟩|h'
  .rcases Nat.lt_or_ge u (p+1)with h1|h1;.grind
   .rcases Nat.lt_or_ge u (p+1+rem)with h2|h2;.have:=hi.zA (u-p) (by omega);rw[show p+(u-p)=u from by omega]at this;have:=hi.ah.inj _ _ _ FQ this<;>omega
    omega
  omega
 refine⟨ρ',⟨?_,?_,?_,?_,?_,λj hj=>?_,rfl,?_⟩,?_,hn⟩;.exact MK (hs.slots.move (eZ.refl _ _) (Nat.le_refl _) e1) (hv.move (eZ.refl _ _) (Nat.le_refl _) e1) dst
 .exact iw (eZ.refl _ _) (Nat.le_refl _) e1 hs.outer
 .exact hs.mem.ren e1
 .intro v hv;obtain⟨h1,h2⟩:=hs.aI v hv;exact⟨h1,λu hu=>h2 u (by rw[<-e1 v h1];exact hu)⟩
 .refine⟨λv u hv hu=>?_,λv hv=>e3 v hv,λv v' u hu kK=>?_⟩
  .show u<n;rcases Nat.lt_or_ge v t2.nv with h1|h1;.rw[e1 v h1]at hu;exact hs.ah.low v u h1 hu
   grind
  .rcases Nat.lt_or_ge v t2.nv with h1|h1
   .rw[e1 v h1]at hu;have nT:=hs.ah.low v u h1 hu;rcases Nat.lt_or_ge v' t2.nv with h2|h2;.rw[e1 v' h2]at kK;exact hs.ah.inj v v' u hu kK
    grind
   .rcases Nat.lt_or_ge v (t2.nv+rem)with h3|h3;.grind
    .simp_all;rcases Nat.lt_or_ge v' t2.nv with h2|h2;.rw[e1 v' h2]at kK;have:u<n:=hs.ah.low v' u h2 kK<;>omega
     grind
 .grind
 .show p+1+rem<=n;omega
 .intro v u hv hu;rw[e1 v hv]at hu;exact hf v u hv hu
theorem RI.done(hi:RI ρ nx 0 os s2 s p):zL ρ os s2 s:=by have:nx=s2.nv:=hi.nv;subst this;exact⟨hi.slots,hi.outer,hi.mem,hi.aI,hi.ah,Nat.le_refl _⟩
def Rx(ρ:bt)(nx:Nat)(os:List (Tr AV))(lo n:Nat)(K:S2->Option α)(r:α)(s':St):Prop:=∃ρ' s2',zL ρ' os s2' s'/\Fr ρ nx lo ρ' s2'.nv/\n<=s'.nv/\K s2'=some r
theorem uv(hwk:KD Fs wk)(hE:aD Fs E){K:S2->Option α}{mB lo:Nat}:∀{ops:List bz}{i nx:Nat}{ρ:bt}{s2:S2}{s:St},zJ E wk ctx nx ops s2 K=some r->RI ρ nx ops.length os s2 s (mB+i)->lo<=mB->∃s',(∃n0,∀n,n0<=n->kS (jj Fs n) (zO Fs) mB i ops s=some s')/\Rx ρ nx os lo s.nv K r s'|[],i,nx,ρ,s2,s,h,hi,_=>⟨s,⟨0,λ_ _=>rfl⟩,ρ,s2,hi.done,by have:nx=s2.nv:=hi.nv;subst this;exact Fr.refl _ _ _,Nat.le_refl _,h⟩|o::ops,i,nx,ρ,s2,s,h,hi,hlo=>by obtain⟨s2',r2,e,⟨n0,h1⟩,h2,h3,h4⟩:=Ip hwk hE hi h;cases r2 with
 |bW E'=>cases e with
  |bW e=>
    have hi':=h2.bW h3 o.dst;rw[Nat.add_assoc]at hi';obtain⟨s',⟨n1,g1⟩,ρ',s3,g2,g3,g4,g5⟩:=uv hwk hE h4 hi' hlo;refine⟨s',⟨max n0 n1,λn hn=>?_⟩,ρ',s3,g2,λv u hv hu=>?_,g4,g5⟩;.simp[kS,h1 n (by omega)]<;>grind
    .rcases g3 v u hv hu with⟨w,hw,FQ⟩|h'
     .by_cases hwn:w=nx;.have:=hi.zA 0 (by simp)<;>grind
      grind
     omega|all=>exact h3.elim
 |all v t2=>cases e with|bW e=>exact h3.elim|all a m t n'=>
    obtain⟨ρ1,hi',hf,hn'⟩:=h2.all h3 o.dst;rw[Nat.add_assoc]at hi';obtain⟨s',⟨n1,g1⟩,ρ',s3,g2,g3,g4,g5⟩:=uv hwk hE h4 hi' hlo;have hsn:lo<=s.nv:=by have:=hi.pn;omega
    refine⟨s',⟨max n0 n1,λn hn=>?_⟩,ρ',s3,g2,λv u hv hu=>?_,Nat.le_trans hn' g4,g5⟩;.simp[kS,h1 n (by omega)]<;>grind
    .rcases g3 v u hv hu with⟨w,hw,FQ⟩|h'
     .rcases hf w u hw FQ with⟨w',hw',ajc⟩|h'
      .by_cases hwn:w'=nx;.have:=hi.zA 0 (by simp)<;>grind
       grind
      omega
     omega
def r6(ρ:bt):gF->hU->Prop|.bW E,.bW e=>aS ρ E.rd e.rd/\aS ρ E.wr e.wr|.all _ _,_=>True|_,_=>False
def ML(ρ:bt):List (Nat×gF)->List (Nat×hU)->Prop:=aC λx y=>x.1=y.1/\r6 ρ x.2 y.2
theorem Ry{a b:Nat×Nat×Nat}:keq a b=true↔a=b:=by obtain⟨a1,a2,a3⟩:=a;obtain⟨b1,b2,b3⟩:=b;simp[keq,and_assoc]
theorem KR.inj(hinj:∀v v' u,ρ v=some u->ρ v'=some u->v=v'){a b k:Nat×Nat×Nat}(ha:KR ρ a k)(hb:KR ρ b k):a=b:=by
 rcases ha with⟨rfl,h⟩|⟨v,u,rfl,rfl,hu⟩
 .rcases hb with⟨rfl,_⟩|⟨v',u',rfl,rfl,_⟩;.rfl
  .cases h
 .rcases hb with⟨rfl,h⟩|⟨v',u',rfl,h,kK⟩;.cases h
  .have:u=u':=by simpa[jW]using h
   grind
theorem Bj(hinj:∀v v' u,ρ v=some u->ρ v'=some u->v=v'){a2 b2 a b:List (Nat×Nat×Nat)}(ha:aS ρ a2 a)(hb:aS ρ b2 b)(h:w9 a2 b2=false):meets a b=false:=by
 rw[Bool.eq_false_iff];intro hm;unfold meets at hm;rw[List.any_eq_true]at hm;obtain⟨k,hk,hc⟩:=hm;obtain⟨k2,h1,h2⟩:=ha k hk;obtain⟨k2',h3,h4⟩:=hb k (by simpa using hc);have:=KR.inj hinj h2 h4;subst this;have:w9 a2 b2=true:=by unfold w9;rw[List.any_eq_true];exact⟨k2,h1,by rw[List.any_eq_true];exact⟨k2,h3,Ry.2 rfl⟩⟩
 rw[h]at this;cases this
theorem keys_nil{l:List (Nat×Nat×Nat)}(h:aS ρ [] l):l=[]:=by cases l with|nil=>rfl|cons k l=>obtain⟨_,h1,_⟩:=h k List.mem_cons_self<;>grind
theorem quiet{E':HE}{e:fH}(h:pE (.bW E')=false)(hr:r6 ρ (.bW E') (.bW e)):e.rd=[]/\e.cV=[]/\e.cD=[]:=by
 simp[pE,Bool.not_eq_false',Bool.and_eq_true,List.isEmpty_iff]at h;obtain⟨⟨h1,h2⟩,h3⟩:=h;obtain⟨k1,k2⟩:=hr;rw[h1]at k1;have hw:E'.wr=[]:=by simp[HE.wr,h2,h3]
 rw[hw]at k2;have:=keys_nil k2;simp[fH.wr,List.append_eq_nil_iff,List.map_eq_nil_iff]at this;exact⟨keys_nil k1,this.1,this.2⟩
theorem KI{e:fH}(h:e.rd=[]/\e.cV=[]/\e.cD=[]):kM (.bW e)=false:=by grind[kM]
theorem yN{x:hU}{e:fH}(h:e.rd=[]/\e.cV=[]/\e.cD=[]):uW x (.bW e)=false/\uW (.bW e) x=false:=by
 have hl:=KI h;obtain⟨h1,h2,h3⟩:=h;have hw:e.wr=[]:=by simp[fH.wr,h2,h3]
 cases x with|bW a=>simp[uW,h1,hw,meets]|all=>simp[uW,hl]
theorem Rz(hinj:∀v v' u,ρ v=some u->ρ v'=some u->v=v'){x2 r2:gF}{x e:hU}(hx:r6 ρ x2 x)(he:r6 ρ r2 e)(hr:∀v t,r2=.all v t->∃a m tt n,e=.all a m tt n)(h:xb x2 r2=false):uW x e=false:=by cases r2 with
 |bW E'=>cases e with|all=>exact he.elim|bW e=>cases x2 with
   |bW X=>cases x with|all=>exact hx.elim|bW x=>simp[xb,Bool.or_eq_false_iff]at h;simp[uW,Bool.or_eq_false_iff];exact⟨⟨Bj hinj hx.1 he.2 h.1.1,Bj hinj hx.2 he.1 h.1.2⟩,Bj hinj hx.2 he.2 h.2⟩
   |all v t=>
    have:pE (.bW E')=false:=by simpa[xb,pE]using h
    exact(yN (quiet this he)).1
 |all v t=>cases x2 with
  |bW X=>cases x with|all=>exact hx.elim|bW x=>
    have:pE (.bW X)=false:=by simpa[xb,pE]using h
    exact(yN (quiet this hx)).2
  |all v' t'=>simp[xb,pE]at h
theorem vi(hinj:∀v v' u,ρ v=some u->ρ v'=some u->v=v'){nh:Nat}{r2:gF}{e:hU}(he:r6 ρ r2 e)(hr:∀v t,r2=.all v t->∃a m tt n,e=.all a m tt n):∀{yB:List (Nat×gF)}{past:List (Nat×hU)},ML ρ yB past->FD nh r2 yB=true->clear nh e past=true|[],[],_,_=>rfl|(i,x2)::r2',(j,x)::r',hp,h=>by obtain⟨⟨h1,h2⟩,h3⟩:=hp;subst h1;simp[FD,Bool.and_eq_true,Bool.or_eq_true,Bool.not_eq_true']at h;simp[clear,Bool.and_eq_true,Bool.or_eq_true,Bool.not_eq_true'];exact⟨h.1.imp id (Rz hinj h2 he hr),vi hinj he hr h3 h.2⟩|[],_::_,h,_=>h.elim|_::_,[],h,_=>h.elim
theorem Iq{ρ':bt}:∀{l2:List (Nat×gF)}{l:List (Nat×hU)},ML ρ l2 l->ML ρ' (yB l2) l
 |[],[],_=>trivial|(i,x2)::r2',(j,x)::r',hp=>by obtain⟨⟨h1,h2⟩,h3⟩:=hp;refine⟨⟨h1,?_⟩,Iq h3⟩;show r6 ρ' (match pE x2 with|true=>_|false=>x2) x;cases hl:pE x2 with|true=>trivial|false=>cases x2 with|all=>simp[pE]at hl|bW X=>cases x with|all=>exact h2.elim|bW x=>
     obtain⟨q1,q2,q3⟩:=quiet hl h2;refine⟨?_,?_⟩;.rw[q1];exact aS.nil
     .have:x.wr=[]:=by simp[fH.wr,q2,q3]
      rw[this];exact aS.nil
 |[],_::_,h=>h.elim|_::_,[],h=>h.elim
theorem oh.key{r2:gF}{e:hU}(h:oh ρ nx os s2 s r2 e):r6 ρ r2 e/\∀v t,r2=.all v t->∃a m tt n,e=.all a m tt n:=by cases r2 with
 |bW E'=>cases e with|bW e=>exact⟨⟨h.rd,h.wr⟩,λ_ _ h=>by cases h⟩|all=>exact h.elim
 |all v t=>cases e with|bW e=>exact h.elim|all a m tt n=>simp_all[oh,bt,r6]
theorem uw(hwk:KD Fs wk)(hE:aD Fs E){K:S2->Option α}{mB lo:Nat}:∀{ops:List bz}{i nx:Nat}{ρ:bt}{s2:S2}{s:St}{yB:List (Nat×gF)}{past:List (Nat×hU)},zK E wk ctx i nx ops yB s2 K=some r->ML ρ yB past->RI ρ nx ops.length os s2 s (mB+i)->lo<=mB->∃s',(∃n0,∀n,n0<=n->j3 (jj Fs n) (zO Fs) mB i ops past s=some s')/\Rx ρ nx os lo s.nv K r s'
 |[],i,nx,ρ,s2,s,_,_,h,_,hi,_=>⟨s,⟨0,λ_ _=>rfl⟩,ρ,s2,hi.done,by have:nx=s2.nv:=hi.nv;subst this;exact Fr.refl _ _ _,Nat.le_refl _,h⟩|o::ops,i,nx,ρ,s2,s,pa2,past,h,hp,hi,hlo=>by
  obtain⟨s2',r2,e,⟨n0,h1⟩,h2,h3,h4⟩:=Ip hwk hE hi h;split at h4;.rename_i hcl;have hkey:=h3.key;have hcl:=vi hi.ah.inj hkey.1 hkey.2 hp hcl;cases r2 with
   |bW E'=>cases e with
    |bW e=>
     have hi':=h2.bW h3 o.dst;obtain⟨s',⟨n1,g1⟩,ρ',s3,g2,g3,g4,g5⟩:=uw hwk hE h4 (past:=(i,.bW e)::past) ⟨⟨rfl,hkey.1⟩,hp⟩ hi' hlo;refine⟨s',⟨max n0 n1,λn hn=>?_⟩,ρ',s3,g2,λv u hv hu=>?_,g4,g5⟩;.simp[j3,h1 n (by omega),hcl]<;>grind
     .rcases g3 v u hv hu with⟨w,hw,FQ⟩|h'
      .by_cases hwn:w=nx;.have:=hi.zA 0 (by simp)<;>grind
       grind
      omega|all=>exact h3.elim
   |all v t2=>cases e with|bW e=>grind|all a m t n'=>
     obtain⟨ρ1,hi',hf,hn'⟩:=h2.all h3 o.dst;obtain⟨s',⟨n1,g1⟩,ρ',s3,g2,g3,g4,g5⟩:=uw hwk hE h4 (past:=(i,.all a m t n')::past) ⟨⟨rfl,trivial⟩,Iq hp⟩ hi' hlo;have hsn:lo<=s.nv:=by have:=hi.pn;omega
     refine⟨s',⟨max n0 n1,λn hn=>?_⟩,ρ',s3,g2,λv u hv hu=>?_,Nat.le_trans hn' g4,g5⟩;.simp[j3,h1 n (by omega),hcl]<;>grind
     .rcases g3 v u hv hu with⟨w,hw,FQ⟩|h'
      .rcases hf w u hw FQ with⟨w',hw',ajc⟩|h'
       .by_cases hwn:w'=nx;.have:=hi.zA 0 (by simp)<;>grind
        grind
       omega
      omega
  grind
theorem FT(hwk:KD Fs wk)(hE:aD Fs E){ops:List bz}{draw:Bool}{K:S2->Option α}(h:VI E wk ctx ops draw s2 K=some r)(hs:zL ρ os s2 s):∃s',Ev Fs (.region ops draw) s (.normal,s')/\Rx ρ s2.nv os s.nv s.nv K r s':=by
 have start:RI ρ s2.nv ops.length os {s2 with nv:=s2.nv+ops.length} {s with nv:=s.nv+ops.length} (s.nv+0):=by
  refine⟨hs.slots,hs.outer,hs.mem,hs.aI,⟨λv u hv hu=>?_,λv hv=>?_,hs.ah.inj⟩,λj hj=>?_,rfl,Nat.le_refl _⟩
  .show u<s.nv+ops.length;rcases Nat.lt_or_ge v s2.nv with h1|h1;.have:=hs.ah.low v u h1 hu;omega
   .rw[hs.ah.high v h1]at hu<;>grind
  .have hv:s2.nv+ops.length<=v:=hv;rw[hs.ah.high v (by omega)]<;>grind
  .rw[hs.ah.high _ (by omega)]<;>grind
 have lift:∀{s':St},Rx ρ s2.nv os s.nv (s.nv+ops.length) K r s'->Rx ρ s2.nv os s.nv s.nv K r s':=by rintro s'⟨ρ',s3,g2,g3,g4,g5⟩;exact⟨ρ',s3,g2,g3,by omega,g5⟩
 cases draw with|false=>obtain⟨s',⟨n0,h1⟩,g⟩:=uv hwk hE (lo:=s.nv) h start (Nat.le_refl _);refine⟨s',⟨n0+1,λk n hk hn=>?_⟩,lift g⟩;obtain⟨n,rfl⟩:∃q,n=q+1:=⟨n-1,by omega⟩;simp[exec,jc,h1 k (by omega),Option.map_some]|true=>obtain⟨s',⟨n0,h1⟩,g⟩:=uw hwk hE (lo:=s.nv) (past:=[]) h trivial start (Nat.le_refl _);refine⟨s',⟨n0+1,λk n hk hn=>?_⟩,lift g⟩;obtain⟨n,rfl⟩:∃q,n=q+1:=⟨n-1,by omega⟩;simp[exec,jc,h1 k (by omega),Option.map_some]
end
section
variable{Fs:Tb}{E:ak}
theorem SR.uq{ρ:bt}{os:List (Tr AV)}{s2:S2}{s:St}{c:bT}{b:Bool}(hs:zL ρ os s2 s)(hb:ja (c.ev s.slots)=some b):zL ρ os (uq s2 c b) s:=by cases c with|c v=>exact hs|t n=>
 have he:jG s.slots n=.d (.sc (.bool b)):=by
  unfold ja at hb;split at hb;.rename_i b' e;simp_all;exact e
  .cases hb
 refine⟨λk v hk=>?_,hs.outer,hs.mem,hs.aI,hs.ah,hs.le⟩;simp[Go.Sym.uq]at hk;rw[Tr.cz]at hk;split at hk;.subst_vars;cases hk;exact he
 .exact hs.slots k v hk
theorem RA{call:bJ.Call}{sh:Nat->Bool}{s:St}{dst aO:Nat}{op:cj}{e:hU}(hm:Q2 sh op=true)(h:op.run call sh s 0 dst aO=some e):∃v rd,e=.bW {val:=v,cV:=[],cD:=[],rd}:=by
 have pure:∀{v:AV},fH.pure v=some e->∃v rd,e=.bW {val:=v,cV:=[],cD:=[],rd}:=λh=>by injection h with h;exact⟨_,_,h.symm⟩
 have XQ:∀{α:Type}{o:Option α}{k:α->Option hU},Option.bind o k=some e->∃x,k x=some e:=λ{α o k}h=>by cases o with|none=>cases h|some x=>exact⟨x,h⟩
 cases op with
 |GM x=>injection h with h;exact⟨_,_,h.symm⟩|load sz agg x=>obtain⟨cs,h⟩:=XQ h;cases hw:gD agg cs with|none=>rw[hw]at h;cases h|some v=>simp_all;exact⟨_,_,h.symm⟩
 |uT f args=>
  simp[Q2,Bool.not_eq_true']at hm;simp[cj.run,hm,j0]at h;split at h;.cases h
  .split at h;.cases h
   .split at h
    .split at h;.simp_all;exact⟨_,_,h.symm⟩
     .cases h
    .cases h|slice sz x lo hi mx=>
  simp[cj.run]at h;split at h
  .split at h;.rename_i hz;simp at hz
   .obtain⟨v,h⟩:=XQ h;exact pure h
  .cases h|_=>first|(cases hm;done)|(simp only[cj.run]at h;repeat'(first|split at h|(simp only[Option.bind_eq_some_iff]at h;obtain⟨_,_,h⟩:=h)|(cases h;done)|exact pure h))
structure r7(l:List Nat)(s s':St):Prop where
 mem:s'.mem=s.mem
 aI:s'.aI=s.aI
 nv:s.nv<=s'.nv
 slots:∀k,¬k∈l->jG s'.slots k=jG s.slots k
theorem r7.refl(l:List Nat)(s:St):r7 l s s:=⟨rfl,rfl,Nat.le_refl _,λ_ _=>rfl⟩
theorem r7.trans{l:List Nat}{s s' s'':St}(h:r7 l s s')(k:r7 l s' s''):r7 l s s'':=⟨k.mem.trans h.mem,k.aI.trans h.aI,Nat.le_trans h.nv k.nv,λi hi=>(k.slots i hi).trans (h.slots i hi)⟩
theorem r7.mono{l l':List Nat}{s s':St}(h:r7 l s s')(hl:∀k,k∈l->k∈l'):r7 l' s s':=⟨h.mem,h.aI,h.nv,λk hk=>h.slots k λh'=>hk (hl k h')⟩
theorem D8{call:bJ.Call}{sh:Nat->Bool}{s:St}{aO:Nat}{o:bz}{e:hU}(hm:DO sh o=true)(h:o.step call sh s aO=some e):r7 o.dst.toList s (s.app o.dst e):=by
 simp only[DO,Bool.and_eq_true]at hm;have hr:=Nat.eq_of_beq_eq_true hm.1;have key:∃v rd,e=.bW {val:=v,cV:=[],cD:=[],rd}:=by
  simp[bz.step]at h;split at h;.cases h
  .rw[hr]at h;exact RA hm.2 h
  .injection h with h;exact⟨_,_,h.symm⟩
 obtain⟨v,rd,rfl⟩:=key;refine⟨rfl,rfl,Nat.le_refl _,λk hk=>?_⟩;simp[St.app,uU];cases hd:o.dst with|none=>rfl|some n=>simp[jG,Tr.cz]<;>grind
theorem Ir{call:bJ.Call}{sh:Nat->Bool}{mB:Nat}:∀{ops:List bz}{i:Nat}{s s':St},ops.all (DO sh)=true->kS call sh mB i ops s=some s'->r7 (ops.flatMap λo=>o.dst.toList) s s'
 |[],_,s,s',_,h=>by cases h;exact r7.refl _ _|o::r,i,s,s',hm,h=>by
  simp only[List.all_cons,Bool.and_eq_true]at hm;simp[kS]at h;split at h;.cases h
  .rename_i e he;exact((D8 hm.1 he).mono λk hk=>by simp only[List.flatMap_cons,List.mem_append];exact .inl hk).trans ((Ir hm.2 h).mono λk hk=>by simp only[List.flatMap_cons,List.mem_append];exact .inr hk)
theorem Is{call:bJ.Call}{sh:Nat->Bool}{mB:Nat}:∀{ops:List bz}{i:Nat}{past:List (Nat×hU)}{s s':St},ops.all (DO sh)=true->j3 call sh mB i ops past s=some s'->r7 (ops.flatMap λo=>o.dst.toList) s s'
 |[],_,_,s,s',_,h=>by cases h;exact r7.refl _ _|o::r,i,past,s,s',hm,h=>by
  simp only[List.all_cons,Bool.and_eq_true]at hm;simp[j3]at h;split at h;.cases h
  .rename_i e he;split at h;.exact((D8 hm.1 he).mono λk hk=>by simp only[List.flatMap_cons,List.mem_append];exact .inl hk).trans ((Is hm.2 h).mono λk hk=>by simp only[List.flatMap_cons,List.mem_append];exact .inr hk)
   grind
theorem ld{call:bJ.Call}{sh:Nat->Bool}:∀{n:Nat}{c:AC}{s s':St}{ax:AX},rO sh c=true->exec call sh n c s=some (ax,s')->r7 (pF c) s s'|0,_,_,_,_,_,h=>by cases h|n+1,c,s,s',ax,hm,h=>by cases c with
 |skip=>cases h;exact r7.refl _ _|region ops draw=>simp only[exec]at h;cases hr:jc call sh ops draw s with|none=>grind|some t=>rw[hr]at h;cases h;cases draw with|false=>have g:=Ir hm hr;exact⟨g.mem,g.aI,by have:=g.nv;simp only at this;omega,g.slots⟩|true=>have g:=Is hm hr;exact⟨g.mem,g.aI,by have:=g.nv;simp only at this;omega,g.slots⟩
 |seq a b=>
  simp[rO,Bool.and_eq_true]at hm;simp[exec]at h;split at h;.rename_i t ht;exact((ld hm.1 ht).mono λk hk=>by simp only[pF,List.mem_append];exact .inl hk).trans ((ld hm.2 h).mono λk hk=>by simp only[pF,List.mem_append];exact .inr hk)
  .exact(ld hm.1 h).mono λk hk=>by simp only[pF,List.mem_append];exact .inl hk|cond c a b=>
  simp[rO,Bool.and_eq_true]at hm;simp[exec]at h;split at h;.exact(ld hm.1 h).mono λk hk=>by simp only[pF,List.mem_append];exact .inl hk
  .exact(ld hm.2 h).mono λk hk=>by simp only[pF,List.mem_append];exact .inr hk
  grind|block=>cases hm|loop=>cases hm|exit=>cases hm|ret=>cases hm
theorem D9:∀(l:List Nat)(t:Tr V2)(k:Nat)(v:V2),(HJ l t).get? k=some v->¬k∈l/\t.get? k=some v|[],t,k,v,h=>⟨by simp,h⟩|n::r,t,k,v,h=>by obtain⟨h1,h2⟩:=D9 r _ k v h;rw[Tr.cz]at h2<;>grind
theorem It{ρ:bt}{B:Nat}{m:List (Tr E2)}{t:Ty}{c c':Cell}{x:t.den}{a:AV}(h:FE t c=some x)(h':Kq t x=some c')(hc:RC ρ B m c a):∀{ρ':bt}{B':Nat}{m':List (Tr E2)},RC ρ' B' m' c' a:=by
 unfold FE at h;split at h
 .split at h;.rename_i e _;cases h;subst e;cases h';exact hc
  .cases h
 .cases h;cases h';exact hc
 .cases h;cases h';exact hc
 .cases h
theorem Bk{t:Ty}{m:Nat}{ax:AX}{s2:S2}{x:t.den}(h:HK t m ax s2=some x):ax=.normal/\∃c,s2.slots.get? m=some (.c c)/\FE t c=some x:=by unfold HK at h<;>grind
theorem Bl{ρ:bt}{os:List (Tr AV)}{s2:S2}{s t:St}{l:List Nat}{m:Nat}{y:Cell}(hs:zL ρ os s2 s)(hm:r7 l s t)(hy:∀{ρ':bt}{B':Nat}{m':List (Tr E2)},RC ρ' B' m' y (jG t.slots m)):∃ρ',zL ρ' os {s2 with slots:=(HJ l s2.slots).set m (some (.c y))} t/\Fr ρ s2.nv s.nv ρ' s2.nv:=by
 let ρ':bt:=λv=>if v<s2.nv then ρ v else some (t.nv+(v-s2.nv));have hρ:∀v,v<s2.nv->ρ' v=ρ v:=λv hv=>if_pos hv;have hρ2:∀v,s2.nv<=v->ρ' v=some (t.nv+(v-s2.nv)):=λv hv=>if_neg (by omega);have Ay:=hm.nv;refine⟨ρ',⟨λk v hk=>?_,hs.outer.mono λ_ _ h=>h.move (eZ.refl _ _) (Nat.le_refl _) hρ,?_,λv hv=>?_,⟨λv u hv hu=>?_,λv hv=>hρ2 v hv,λv v' u hu kK=>?_⟩,Nat.le_refl _⟩,λv u hv hu=>.inl ⟨v,hv,by rw[<-hρ v hv];exact hu⟩⟩
 .rw[Tr.cz]at hk;split at hk;.subst_vars;cases hk;exact hy
  .obtain⟨h1,h2⟩:=D9 _ _ _ _ hk;rw[hm.slots k h1];exact(hs.slots k v h2).move (eZ.refl _ _) (Nat.le_refl _) hρ
 .rw[hm.mem];refine⟨hs.mem.len,λlv sl e2 he=>?_⟩;obtain⟨e,h1,h2⟩:=hs.mem.fN lv sl e2 he;exact⟨e,h1,RE.mono (Nat.le_refl _) hρ (λ_ _=>RC.move (eZ.refl _ _) (Nat.le_refl _) hρ) h2⟩
 .rw[hm.aI];obtain⟨h1,h2⟩:=hs.aI v hv<;>grind
 .rw[hρ v hv]at hu;have:=hs.ah.low v u hv hu;omega
 .by_cases h1:v<s2.nv
  .rw[hρ v h1]at hu;by_cases h2:v'<s2.nv;.rw[hρ v' h2]at kK;exact hs.ah.inj _ _ _ hu kK
   .simp_all;have:=hs.ah.low v u h1 hu<;>omega
  .simp_all;by_cases h2:v'<s2.nv;.rw[hρ v' h2]at kK;have:=hs.ah.low v' u h2 kK<;>omega
   grind
theorem FU(hE:aD Fs E):∀n,KD Fs (walk E n)
 |0=>λ_ _ _ _ _ _ _ h=>by cases h|n+1=>by
  have ih:=FU hE n;intro α ctx i c s2 K r h ρ os s hs;simp[walk]at h;have meet:∀{outs:bp}{y:(oa outs).den}{ax:AX}{t2:S2}{ρ':bt}{t:St},mL outs ax t2=some y->zL ρ' os t2 t->Fr ρ s2.nv s.nv ρ' t2.nv->s.nv<=t.nv->pz outs y K=some r->∃t3 ρ3,zL ρ3 os t3 t/\Fr ρ s2.nv s.nv ρ3 t3.nv/\K ax t3=some r:=by intro outs y ax t2 ρ' t hy zB hfr hn hk;obtain⟨t3,ρ3,g1,g2,g3⟩:=zN zB hy;exact⟨t3,ρ3,g1,hfr.trans g2 hn,(g3 K).symm.trans hk⟩
  cases c with
  |skip=>exact⟨.normal,s2,ρ,s,⟨1,λk n _ hn=>by obtain⟨n,rfl⟩:∃q,n=q+1:=⟨n-1,by omega⟩;rfl⟩,hs,Fr.refl _ _ _,Nat.le_refl _,h⟩|exit id=>exact⟨.exit id,s2,ρ,s,⟨1,λk n _ hn=>by obtain⟨n,rfl⟩:∃q,n=q+1:=⟨n-1,by omega⟩;rfl⟩,hs,Fr.refl _ _ _,Nat.le_refl _,h⟩|ret=>exact⟨.ret,s2,ρ,s,⟨1,λk n _ hn=>by obtain⟨n,rfl⟩:∃q,n=q+1:=⟨n-1,by omega⟩;rfl⟩,hs,Fr.refl _ _ _,Nat.le_refl _,h⟩|region ops draw=>
   simp at h;split at h
   .rename_i m _;split at h
    .rename_i Bm;have hsh:E.sh=zO Fs:=by funext g;simp[ak.sh,zO,hE.fns]
     rw[hsh]at Bm;obtain⟨y,hy,h⟩:=bind_some h;obtain⟨s',⟨n0,hev⟩,ρ',s3,g2,g3,g4,g5⟩:=FT ih hE hy hs;obtain⟨_,c',CA,g5⟩:=Bk g5;obtain⟨y',hy',h⟩:=aA h;obtain⟨ρ3,q1,q2⟩:=Bl hs (ld (c:=.region ops draw) Bm (hev n0 n0 (Nat.le_refl _) (Nat.le_refl _))) (It g5 hy' (show RC _ _ _ c' _ from g2.slots m.1 _ CA));exact⟨.normal,_,ρ3,s',⟨n0,hev⟩,q1,q2,g4,h⟩
    grind
   split at h;.obtain⟨s',hev,ρ',s3,g2,g3,g4,g5⟩:=FT ih hE h hs<;>grind
   .obtain⟨y,hy,h⟩:=bind_some h;obtain⟨s',hev,ρ',s3,g2,g3,g4,g5⟩:=FT ih hE hy hs<;>grind|seq a b=>obtain⟨ax,t2,ρ',t,⟨n0,hev⟩,g2,g3,g4,g5⟩:=ih _ _ _ _ _ _ _ h _ _ _ hs;cases ax with|normal=>obtain⟨ax',t3,ρ3,t',⟨n1,adZ⟩,q2,q3,q4,q5⟩:=ih _ _ _ _ _ _ _ g5 _ _ _ g2;refine⟨ax',t3,ρ3,t',⟨max n0 n1+1,λk m hk hm=>?_⟩,q2,g3.trans q3 g4,Nat.le_trans g4 q4,q5⟩;obtain⟨m,rfl⟩:∃q,m=q+1:=⟨m-1,by omega⟩;simp[exec,hev k m (by omega) (by omega)]<;>grind|exit id=>refine⟨.exit id,t2,ρ',t,⟨n0+1,λk m hk hm=>?_⟩,g2,g3,g4,g5⟩;obtain⟨m,rfl⟩:∃q,m=q+1:=⟨m-1,by omega⟩;simp[exec,hev k m (by omega) (by omega)]|ret=>refine⟨.ret,t2,ρ',t,⟨n0+1,λk m hk hm=>?_⟩,g2,g3,g4,g5⟩;obtain⟨m,rfl⟩:∃q,m=q+1:=⟨m-1,by omega⟩;simp[exec,hev k m (by omega) (by omega)]
  |cond c a b=>
   have way:∀{β:Type}{K':AX->S2->Option β}{r':β},(vC (iZ s2 c) λt=>cond t (walk E n β ctx (i+1) a (uq s2 c true) K') (walk E n β ctx (i+1+uo a) b (uq s2 c false) K'))=some r'->
     ∃ax t2 ρ' t,Ev Fs (.cond c a b) s (ax,t)/\zL ρ' os t2 t/\Fr ρ s2.nv s.nv ρ' t2.nv/\s.nv<=t.nv/\K' ax t2=some r':=by intro β K' r' h;obtain⟨t,ht,h⟩:=qi h;have hb:=qj (aW hs.slots ht);cases t with|true=>
     have Ay:(uq s2 c true).nv=s2.nv:=by cases c<;>rfl
     obtain⟨ax,t2,ρ',t,⟨n0,hev⟩,g2,g3,g4,g5⟩:=ih _ _ _ _ _ _ _ h _ _ _ (hs.uq hb);rw[Ay]at g3;refine⟨ax,t2,ρ',t,⟨n0+1,λk m hk hm=>?_⟩,g2,g3,g4,g5⟩;obtain⟨m,rfl⟩:∃q,m=q+1:=⟨m-1,by omega⟩;simp[exec,hb]<;>grind|false=>
     have Ay:(uq s2 c false).nv=s2.nv:=by cases c<;>rfl
     obtain⟨ax,t2,ρ',t,⟨n0,hev⟩,g2,g3,g4,g5⟩:=ih _ _ _ _ _ _ _ h _ _ _ (hs.uq hb);rw[Ay]at g3;refine⟨ax,t2,ρ',t,⟨n0+1,λk m hk hm=>?_⟩,g2,g3,g4,g5⟩;obtain⟨m,rfl⟩:∃q,m=q+1:=⟨m-1,by omega⟩;simp[exec,hb]<;>grind
   simp at h;split at h
   .rename_i m _;split at h
    .rename_i Bm;simp at Bm;have hsh:E.sh=zO Fs:=by funext g;simp[ak.sh,zO,hE.fns]
     rw[hsh]at Bm;obtain⟨y,hy,h⟩:=bind_some h;obtain⟨ax,t2,ρ',t,⟨n0,hev⟩,g2,g3,g4,g5⟩:=way hy;obtain⟨rfl,c',CA,g5⟩:=Bk g5;obtain⟨y',hy',h⟩:=aA h;have hmd:rO (zO Fs) (.cond c a b)=true:=by simp[rO,Bm.1,Bm.2,Bool.and_true]
     obtain⟨ρ3,q1,q2⟩:=Bl hs (ld hmd (hev n0 n0 (Nat.le_refl _) (Nat.le_refl _))) (It g5 hy' (show RC _ _ _ c' _ from g2.slots m.1 _ CA));exact⟨.normal,_,ρ3,t,⟨n0,hev⟩,q1,q2,g4,h⟩
    grind
   .split at h;.exact way h
    .obtain⟨y,hy,h⟩:=bind_some h;obtain⟨ax,t2,ρ',t,hev,g2,g3,g4,g5⟩:=way hy<;>grind|block id c=>
   have way:∀{β:Type}{K':AX->S2->Option β}{r':β},(walk E n β ctx (i+1) c s2 λax s'=>match ax with
      |.exit id'=>match Nat.beq id' id with|true=>K' .normal s'|false=>K' (.exit id') s'
      |ax=>K' ax s')=some r'->∃ax t2 ρ' t,Ev Fs (.block id c) s (ax,t)/\zL ρ' os t2 t/\Fr ρ s2.nv s.nv ρ' t2.nv/\s.nv<=t.nv/\K' ax t2=some r':=by intro β K' r' h;obtain⟨ax,t2,ρ',t,⟨n0,hev⟩,g2,g3,g4,g5⟩:=ih _ _ _ _ _ _ _ h _ _ _ hs;cases ax with|normal=>refine⟨.normal,t2,ρ',t,⟨n0+1,λk m hk hm=>?_⟩,g2,g3,g4,g5⟩;obtain⟨m,rfl⟩:∃q,m=q+1:=⟨m-1,by omega⟩;simp[exec,hev k m (by omega) (by omega)]|ret=>refine⟨.ret,t2,ρ',t,⟨n0+1,λk m hk hm=>?_⟩,g2,g3,g4,g5⟩;obtain⟨m,rfl⟩:∃q,m=q+1:=⟨m-1,by omega⟩;simp[exec,hev k m (by omega) (by omega)]|exit id'=>simp at g5;cases hb:Nat.beq id' id with|true=>rw[hb]at g5;refine⟨.normal,t2,ρ',t,⟨n0+1,λk m hk hm=>?_⟩,g2,g3,g4,g5⟩;obtain⟨m,rfl⟩:∃q,m=q+1:=⟨m-1,by omega⟩;simp[exec,hev k m (by omega) (by omega),hb]|false=>rw[hb]at g5;refine⟨.exit id',t2,ρ',t,⟨n0+1,λk m hk hm=>?_⟩,g2,g3,g4,g5⟩;obtain⟨m,rfl⟩:∃q,m=q+1:=⟨m-1,by omega⟩;simp[exec,hev k m (by omega) (by omega),hb]
   simp at h;split at h;.exact way h
   .obtain⟨y,hy,h⟩:=bind_some h;obtain⟨ax,t2,ρ',t,hev,g2,g3,g4,g5⟩:=way hy<;>grind|loop c=>
   simp at h;split at h;.obtain⟨ax,t2,ρ',t,⟨n0,hev⟩,g2,g3,g4,g5⟩:=ih _ _ _ _ _ _ _ h _ _ _ hs;cases ax with|normal=>obtain⟨ax',t3,ρ3,t',⟨n1,adZ⟩,q2,q3,q4,q5⟩:=ih _ _ _ _ _ _ _ g5 _ _ _ g2;refine⟨ax',t3,ρ3,t',⟨max n0 n1+1,λk m hk hm=>?_⟩,q2,g3.trans q3 g4,Nat.le_trans g4 q4,q5⟩;obtain⟨m,rfl⟩:∃q,m=q+1:=⟨m-1,by omega⟩;simp[exec,hev k m (by omega) (by omega)]<;>grind|exit id=>refine⟨.exit id,t2,ρ',t,⟨n0+1,λk m hk hm=>?_⟩,g2,g3,g4,g5⟩;obtain⟨m,rfl⟩:∃q,m=q+1:=⟨m-1,by omega⟩;simp[exec,hev k m (by omega) (by omega)]|ret=>refine⟨.ret,t2,ρ',t,⟨n0+1,λk m hk hm=>?_⟩,g2,g3,g4,g5⟩;obtain⟨m,rfl⟩:∃q,m=q+1:=⟨m-1,by omega⟩;simp[exec,hev k m (by omega) (by omega)]
   obtain⟨L,hL,h⟩:=aA h;obtain⟨ds,hd,h⟩:=aA h;obtain⟨x,hx,h⟩:=aA h;obtain⟨y,hy,h⟩:=bind_some h;obtain⟨t2,ρ',g1,g2,g3⟩:=zM hd hs;obtain⟨ax,t3,ρ3,t,q1,q2,q3,q4,q5⟩:=hE.loops ctx _ c L hL x y hy t2 (by rw[dm hx];exact g1) _ _ _ g2;exact⟨ax,t3,ρ3,t,q1,q2,g3.trans q3 (Nat.le_refl _),q4,(q5 K).symm.trans h⟩
theorem MM(hE:aD Fs E)(N ctx i:Nat)(body:AC)(T:bq)(outs:bp):∀k,Rn Fs body ⟨T,outs,Mx (AZ E N ctx i body T outs) k⟩
 |0=>λx y h=>by cases h|k+1=>by
  have ih:=MM hE N ctx i body T outs k;intro x y h s2 hst ρ os s hs;obtain⟨s2',ad0,h⟩:=aA h;rw[hst]at ad0;cases ad0;obtain⟨ax,t2,ρ',t,⟨n0,hev⟩,g2,g3,g4,g5⟩:=FU hE N _ _ _ _ _ _ _ h _ _ _ hs;have leave:∀{ax:AX},ax≠.normal->Ev Fs body s (ax,t)->mL outs ax t2=some y->∃ax s2' ρ' s',Ev Fs (.loop body) s (ax,s')/\zL ρ' os s2' s'/\Fr ρ s2.nv s.nv ρ' s2'.nv/\s.nv<=s'.nv/\∀{α:Type}(K:AX->S2->Option α),pz outs y K=K ax s2':=by rintro ax hax⟨n0,hev⟩hy;obtain⟨t3,ρ3,q1,q2,q3⟩:=zN g2 hy;refine⟨ax,t3,ρ3,t,⟨n0+1,λk m hk hm=>?_⟩,q1,g3.trans q2 g4,g4,q3⟩;obtain⟨m,rfl⟩:∃q,m=q+1:=⟨m-1,by omega⟩;simp[exec,hev k m (by omega) (by omega)]<;>grind
  cases ax with|normal=>obtain⟨ds,hd,g5⟩:=aA g5;obtain⟨x',hx,g5⟩:=aA g5;obtain⟨t3,ρ3,q1,q2,q3⟩:=zM hd g2;obtain⟨ax',t4,ρ4,t',⟨n1,adZ⟩,w2,w3,w4,w5⟩:=ih x' y g5 t3 (by simp only;rw[dm hx];exact q1) _ _ _ q2;refine⟨ax',t4,ρ4,t',⟨max n0 n1+1,λk m hk hm=>?_⟩,w2,(g3.trans q3 g4).trans w3 g4,Nat.le_trans g4 w4,w5⟩;obtain⟨m,rfl⟩:∃q,m=q+1:=⟨m-1,by omega⟩;simp[exec,hev k m (by omega) (by omega)]<;>grind|exit id=>exact leave (λh=>by cases h) ⟨n0,hev⟩ g5|ret=>exact leave (λh=>by cases h) ⟨n0,hev⟩ g5
theorem Vu(x:Cell):VF 0 x=true:=by cases x<;>first|rfl|exact Nat.ble_eq.2 (Nat.zero_le _)
theorem V8{ρ:bt}{B:Nat}{m2:List (Tr E2)}{m:List (Tr bB)}(hm:MR ρ B m2 m){top k lv sl ah:Nat}{c:gG}{x x':Cell}{ks:List (Nat×Nat)}{a:AV}{d:List fG}(hh:VF top x=true)(h:Kk m2 x=some (x',ks))(hd:tf c x'=some d)(hx:RC ρ B m2 x a):∃y x2,bu m top 0 k lv sl ah a=some (.d y,[])/\(∀rest,c.fill (d++rest)=some (x2,rest))/\∀(ρ:bt)(B:Nat)(m:List (Tr E2)),RC ρ B m x2 (.d y):=by
 have imp:∃y,nF x'=some y/\bu m top 0 k lv sl ah a=some (.d y,[]):=by
  unfold Kk at h;split at h;.cases h;cases hx;exact⟨_,rfl,rfl⟩
  .cases h;cases hx;exact⟨_,rfl,rfl⟩
  .cases h;cases hx;exact⟨_,rfl,rfl⟩
  .cases h;cases hx;exact⟨_,rfl,rfl⟩
  .cases h;rcases(gH (m:=m) hx).2with rfl|⟨o,ho,rfl⟩;.exact⟨_,rfl,rfl⟩
   .exact⟨_,rfl,vM ho⟩
  .cases h
  .rename_i t l o hne;cases h;rcases(iA (m:=m) hx).2.2 (λe=>hne e)with rfl|⟨o',ho,rfl⟩;.exact⟨_,rfl,rfl⟩
   .exact⟨_,rfl,vM ho⟩
  .split at h;.rename_i r hr;cases h;have he:=lQ hm hx hr;obtain⟨_,u,n,hu,rfl,hn⟩:=hx;refine⟨_,rfl,?_⟩;simp only[VF]at hh;simp[bu,he,hh,beq_true.2 rfl]
   grind
  .split at h;.rename_i r hr;cases h;have he:=jy hm hx hr (hx.2.choose_spec.2.2 r hr);obtain⟨_,u,hu,rfl,hn⟩:=hx;refine⟨_,rfl,?_⟩;simp only[VF]at hh;simp[bu,he,hh,beq_true.2 rfl]
   grind
  grind
 obtain⟨y,h1,h2⟩:=imp;obtain⟨x2,h3,h4⟩:=FP hd h1<;>simp_all
theorem Bn{ρ:bt}{B:Nat}{m2:List (Tr E2)}{m:List (Tr bB)}(hm:MR ρ B m2 m){top lv sl ah:Nat}:∀{cs:List gG}{xs xs':List Cell}{ks:List (Nat×Nat)}{aL:List AV}{d:List fG}{k:Nat},(∀x∈xs,VF top x=true)->lU m2 xs=some (xs',ks)->fV cs xs'=some d->aC (RC ρ B m2) xs aL->∃as' xo,de m top 0 lv sl ah k aL=some (as',[])/\(∀rest,cW cs (d++rest)=some (xo,rest))/\as'.all Qg=true/\∀(ρ:bt)(B:Nat)(m:List (Tr E2)),aC (RC ρ B m) xo as'
 |cs,[],xs',ks,aL,d,k,_,h,hd,ha=>by cases h;match aL,ha with|[],_=>match cs,hd with|[],hd=>cases hd;exact⟨[],[],rfl,λ_=>rfl,rfl,λ_ _ _=>trivial⟩
 |cs,x::xs,xs',ks,aL,d,k,hh,h,hd,ha=>by
  simp[lU]at h;split at h;.rename_i y k1 ys k2 h1 h2;cases h;match aL,ha with|a::aL,ha=>match cs,hd with
   |[],hd=>simp[fV]at hd|c::cs,hd=>
    simp[fV]at hd;split at hd;.rename_i d1 d2 h5 h6;cases hd;obtain⟨a',x2,g1,g2,g3⟩:=V8 hm (k:=k) (lv:=lv) (sl:=sl) (ah:=ah) (hh x List.mem_cons_self) h1 h5 ha.1;obtain⟨as',xo,g4,g5,g7,g6⟩:=Bn hm (lv:=lv) (sl:=sl) (ah:=ah) (k:=k+1) (λx hx=>hh x (List.mem_cons_of_mem _ hx)) h2 h6 ha.2;exact⟨.d a'::as',x2::xo,by simp only[de,g1,g4,List.append_nil],λrest=>by simp only[cW,List.append_assoc,g2,g5],by rw[List.all_cons,g7];rfl,λρ B m=>⟨g3 _ _ _,g6 _ _ _⟩⟩
    grind
  grind
theorem V9{ρ:bt}{B:Nat}{m2:List (Tr E2)}{m:List (Tr bB)}(hm:MR ρ B m2 m){top lv sl ah k:Nat}{b:Bool}{cs:List gG}{xs xs':List Cell}{ks:List (Nat×Nat)}{a:AV}{d:List fG}(hh:∀x∈xs,VF top x=true)(h:lU m2 xs=some (xs',ks))(hd:fV cs xs'=some d)(ha:R1 ρ B m2 (b,xs) a):∃a' xo,kR m top 0 lv sl ah k a=some (a',[])/\(∀rest,cW cs (d++rest)=some (xo,rest))/\EZ a'=true/\∀(ρ:bt)(B:Nat)(m:List (Tr E2)),R1 ρ B m (b,xo) a':=by cases b with|true=>obtain⟨aL,rfl,ha⟩:=ha;obtain⟨as',xo,g1,g2,g4,g3⟩:=Bn hm (k:=k) (lv:=lv) (sl:=sl) (ah:=ah) hh h hd ha;exact⟨.agg as',xo,by simp only[kR,g1,Option.map_some],g2,g4,λρ B m=>⟨as',rfl,g3 _ _ _⟩⟩|false=>
 obtain⟨c,rfl,ha⟩:=ha;obtain⟨as',xo,g1,g2,g0,g3⟩:=Bn hm (k:=k) (lv:=lv) (sl:=sl) (ah:=ah) (aL:=[a]) hh h hd ⟨ha,trivial⟩;simp[de]at g1;have hc:=RC.cell ha;split at g1;.rename_i y u ys us h1 h2;cases h2;injection g1 with g1;injection g1 with g4 g5;subst g4;simp at g5;subst g5;have hx:=g3 ρ B m2;match xo,hx with|[x2],_=>refine⟨y,[x2],?_,g2,(by cases y<;>first|rfl|cases g0),λρ B m=>⟨x2,rfl,(g3 ρ B m).1⟩⟩;cases a<;>first|exact h1|cases hc.2.1
 grind
theorem Ea{ρ:bt}{B:Nat}{m2:List (Tr E2)}{m:List (Tr bB)}(hm:MR ρ B m2 m){top lv sl ah:Nat}:∀{res:List (Bool×List gG)}{vs:List (Bool×List Cell)}{aL:List AV}{ds:List fG}{k:Nat},(∀v∈vs,∀x∈v.2,VF top x=true)->kW m2 res vs=some ds->aC (R1 ρ B m2) vs aL->∃as' ws,fL m top 0 lv sl ah k aL=some (as',[])/\(∀rest,jr res (ds++rest)=some (ws,rest))/\ws.length=aL.length/\as'.all EZ=true/\∀(ρ:bt)(B:Nat)(m:List (Tr E2)),aC (R1 ρ B m) ws as'
 |[],[],aL,ds,k,_,h,ha=>by cases h;match aL,ha with|[],_=>exact⟨[],[],rfl,λ_=>rfl,rfl,rfl,λ_ _ _=>trivial⟩
 |(a,l)::ps,(b,cs)::vs,aL,ds,k,hh,h,ha=>by
  simp[kW]at h;split at h
  .rename_i cs' ks ds2 hab hf hr;obtain⟨d,hd,rfl⟩:=aN h;have hab:a=b:=by grind
   subst hab;match aL,ha with|x::aL,ha=>obtain⟨a',xo,g1,g2,g8,g3⟩:=V9 hm (k:=k) (lv:=lv) (sl:=sl) (ah:=ah) (hh _ List.mem_cons_self) hf hd ha.1;obtain⟨as',ws,g4,g5,g6,g9,g7⟩:=Ea hm (lv:=lv) (sl:=sl) (ah:=ah) (k:=k+64) (λv hv=>hh v (List.mem_cons_of_mem _ hv)) hr ha.2;exact⟨a'::as',(a,xo)::ws,by simp only[fL,g1,g4,List.append_nil],λrest=>by simp only[jr,List.append_assoc,g2,g5],by simp[g6],by rw[List.all_cons,g8,g9];rfl,λρ B m=>⟨g3 _ _ _,g7 _ _ _⟩⟩
  grind|[],_::_,_,_,_,_,h,_=>by simp[kW]at h|_::_,[],_,_,_,_,h,_=>by simp[kW]at h
theorem Wa{ρ:bt}{B:Nat}{m2:List (Tr E2)}{m:List (Tr bB)}(hm:MR ρ B m2 m){top lv sl ah:Nat}{res:List (Bool×List gG)}{vs:List (Bool×List Cell)}{aL:List AV}{ds:List fG}(hh:∀v∈vs,∀x∈v.2,VF top x=true)(h:kW m2 res vs=some ds)(ha:aC (R1 ρ B m2) vs aL){ws:List (Bool×List Cell)}{w:V2}(hw:jr res ds=some (ws,[]))(ht:nU ws=some w):∃a',gC m top 0 lv sl ah (ju aL)=some (a',[])/\ZB a'=true/\∀(ρ:bt)(B:Nat)(m:List (Tr E2)),RV ρ B m w a':=by obtain⟨as',CE,g1,g2,g3,g0,g4⟩:=Ea hm (lv:=lv) (sl:=sl) (ah:=ah) (k:=1) hh h ha;have CU:=g2 [];rw[List.append_nil,hw]at CU;cases CU;match aL,ha,g1,g3 with
 |[],_,g1,g3=>match ws,g3 with|[],_=>cases ht;exact⟨.iY [],rfl,rfl,λ_ _ _=>⟨[],rfl,trivial⟩⟩
 |[a],ha,g1,g3=>match ws,g3 with
  |[(b,cs)],_=>
   simp[fL]at g1;split at g1
   .rename_i y u ys us h1 h2;cases h2;injection g1 with g1;injection g1 with g5 g6;subst g5;simp at g6;subst g6;simp at g0;refine⟨y,?_,(by cases y<;>first|exact g0|cases g0),λρ B m=>?_⟩;.match vs,ha with|[(b',cs')],ha=>have hn:=R1.fM ha.1;cases a<;>first|exact h1|cases hn
    .have hx:=(g4 ρ B m).1;cases b with|true=>obtain⟨bs,rfl,g7⟩:=hx;cases ht;exact⟨bs,rfl,g7⟩|false=>obtain⟨c,rfl,g7⟩:=hx;cases ht;exact g7
   grind
 |a::b::aL,ha,g1,g3=>match ws,g3 with|x::y::ws,_=>cases ht;exact⟨.iY as',by simp only[ju,gC,g1,Option.map_some],g0,λρ B m=>⟨as',rfl,g4 _ _ _⟩⟩
theorem RB{ρ:bt}{B:Nat}{m2:List (Tr E2)}{m:List (Tr bB)}(hm:MR ρ B m2 m){k lv sl ah p row rk:Nat}(h0:rk≠0)(CF:row%65536=rk)(hr2:row/65536≠0)(yK:row%65536≠65535){c:gG}{x x':Cell}{ks:List (Nat×Nat)}{a:AV}{d:List fG}(hk:Kp m2 rk k x=true)(h:Kk m2 x=some (x',ks))(hd:tf c x'=some d)(hx:RC ρ B m2 x a):∃x2,(∀rest,c.fill (d++rest)=some (x2,rest))/\∀x3 us,DI rk lv sl ah k x2=some (x3,us)->(∀u∈us,row/65536=u.t.size)->∃a',bu m 0 row k lv sl p a=some (a',us.map λu=>bf u.t u.l)/\∀(ρ:bt)(B:Nat)(m:List (Tr E2)),ki ρ B m lv sl ah p us->RC ρ B m x3 a':=by
 have hrow:Nat.beq row 0=false:=beq_false.2 (by intro e;subst e;simp at hr2);have hsz:(!Nat.beq (row/65536) 0)=true:=by rw[beq_false.2 hr2];rfl
 have fin:∀{y:D},nF x'=some y->∃x2,(∀rest,c.fill (d++rest)=some (x2,rest))/\∀(ρ:bt)(B:Nat)(m:List (Tr E2)),RC ρ B m x2 (.d y):=by
  intro y hy;unfold tf at hd;split at hd
  .split at hd;.cases hd;cases hy;exact⟨_,λ_=>rfl,λ_ _ _=>rfl⟩
   .cases hd
  .cases hd;cases hy;exact⟨_,λ_=>rfl,λ_ _ _=>rfl⟩
  .cases hd;cases hy;exact⟨_,λ_=>rfl,λ_ _ _=>rfl⟩
  .cases hd;cases hy;exact⟨_,λ_=>rfl,λ_ _ _=>.inl rfl⟩
  .cases hd;cases hy;exact⟨_,λ_=>rfl,λ_ _ _=>.inl rfl⟩
  .cases hd
 have off:k≠rk->(∃y,nF x'=some y/\bu m 0 row k lv sl p a=some (.d y,[]))->∃x2,(∀rest,c.fill (d++rest)=some (x2,rest))/\∀x3 us,DI rk lv sl ah k x2=some (x3,us)->(∀u∈us,row/65536=u.t.size)->∃a',bu m 0 row k lv sl p a=some (a',us.map λu=>bf u.t u.l)/\∀(ρ:bt)(B:Nat)(m:List (Tr E2)),ki ρ B m lv sl ah p us->RC ρ B m x3 a':=by rintro hne⟨y,h1,h2⟩;obtain⟨x2,h3,h4⟩:=fin h1;refine⟨x2,h3,λx3 us hp _=>?_⟩;simp[DI,beq_false.2 hne,Option.some.injEq,Prod.mk.injEq]at hp;obtain⟨rfl,rfl⟩:=hp;exact⟨_,h2,λ_ _ _ _=>h4 _ _ _⟩
 have nk:(!Nat.beq k rk)=true->k≠rk:=by intro h e;rw[e,beq_true.2 rfl]at h;cases h
 have XR:n4 0 row=false:=by unfold n4;cases Nat.beq row 0<;>rfl
 have own:k≠rk->∀{els:List (List D)}{o:UW},o≠.bC->bu m 0 row k lv sl p (.own els o)=some (.d (.sl els),[]):=by intro hne els o ho;cases o with|bC=>exact absurd rfl ho|cD=>simp[bu,XR]|full=>simp[bu,CF,beq_false.2 hne,Bool.and_false,XR,beq_false.2 (show rk≠65535by rw[<-CF];exact yK),Bool.or_self]
 unfold Kk at h;split at h;.cases h;cases hx;exact off (nk hk) ⟨_,rfl,rfl⟩
 .cases h;cases hx;exact off (nk hk) ⟨_,rfl,rfl⟩
 .cases h;cases hx;exact off (nk hk) ⟨_,rfl,rfl⟩
 .cases h;cases hx;exact off (nk hk) ⟨_,rfl,rfl⟩
 .rename_i f;cases h;cases f with|false=>
   rcases(gH (m:=m) hx).2with rfl|⟨o,ho,rfl⟩;.exact off (nk hk) ⟨_,rfl,rfl⟩
   .exact off (nk hk) ⟨_,rfl,own (nk hk) ho⟩|true=>
   subst hx;by_cases hne:k=rk
   .subst hne;have hc:∃t,c=.sl t .d/\d=[⟨.sl t,[]⟩]:=by cases c with
     |sl t o=>cases o<;>first|(injection hd with hd;exact⟨t,rfl,hd.symm⟩)|cases hd
     |_=>cases hd
    obtain⟨t,rfl,rfl⟩:=hc
    .refine⟨.sl t [] .d,λ_=>rfl,λx3 us hp hu=>?_⟩;simp[DI,beq_true.2 rfl,Option.some.injEq,Prod.mk.injEq]at hp;obtain⟨rfl,rfl⟩:=hp;have hu:=hu _ (List.mem_singleton.2 rfl);refine⟨.ref lv sl p 0 0 (row/65536),?_,λρ B m hf=>⟨hf.1,p,0,hf.2.1,by rw[hu],λr hr=>?_⟩⟩;.simp[bu,CF,hsz,beq_true.2 rfl,Bool.and_true];rfl
     .have:=hf.2.2 _ (List.mem_singleton.2 rfl) r hr;simpa using this.symm
   .exact off hne ⟨_,rfl,own hne (λh=>by cases h)⟩
 .cases h
 .rename_i t l o hne;cases h;rcases(iA (m:=m) hx).2.2 (λe=>hne e)with rfl|⟨o',ho,rfl⟩;.exact off (nk hk) ⟨_,rfl,rfl⟩
  .exact off (nk hk) ⟨_,rfl,own (nk hk) ho⟩
 .rename_i cL dU gB t;split at h
  .rename_i r hr;cases h;have he:=lQ hm hx hr;obtain⟨_,u,n,hu,rfl,hn⟩:=hx;simp only[Kp,hr,Bool.and_eq_true]at hk;obtain⟨hk1,hk2⟩:=hk;have hk1:=beq_true.1 hk1;have hk2:=beq_true.1 hk2;subst hk1;obtain⟨e,g1,g2⟩:=hm.fN _ _ _ (cA hr);obtain⟨_,u',g3,rfl⟩:=g2;rw[hu]at g3;cases g3;have hat:bJ.rowAt m cL dU u=some (bf r.t r.l):=by unfold bJ.rowAt;rw[g1];simp[beq_true.2 rfl]
   have hc:∃t0,c=.sl t0 .d/\d=[⟨.sl r.t,r.l⟩]:=by cases c with
    |sl t o=>cases o<;>first|(injection hd with hd;exact⟨t,rfl,hd.symm⟩)|cases hd
    |_=>cases hd
   obtain⟨t0,rfl,rfl⟩:=hc
   .refine⟨.sl r.t r.l .d,λ_=>rfl,λx3 us hp hu=>?_⟩;simp[DI,beq_true.2 rfl,Option.some.injEq,Prod.mk.injEq]at hp;obtain⟨rfl,rfl⟩:=hp;refine⟨.ref lv sl p 0 n t.size,?_,λρ B m hf=>⟨hf.1,p,n,hf.2.1,by rw[hk2],λr' hr'=>?_⟩⟩;.simp[bu,he,hrow,CF,beq_true.2 rfl,hat];rfl
    .rw[hf.2.2 _ (List.mem_singleton.2 rfl) r' hr'];exact hn r hr
  .cases h
 .cases hk
 .cases h
theorem xp{ρ:bt}{B:Nat}{m2:List (Tr E2)}{m:List (Tr bB)}(hm:MR ρ B m2 m){lv sl ah p row rk:Nat}(h0:rk≠0)(CF:row%65536=rk)(hr2:row/65536≠0)(yK:row%65536≠65535):∀{cs:List gG}{xs xs':List Cell}{ks:List (Nat×Nat)}{aL:List AV}{d:List fG}{k:Nat},VG m2 rk k xs=true->lU m2 xs=some (xs',ks)->fV cs xs'=some d->aC (RC ρ B m2) xs aL->∃xo,(∀rest,cW cs (d++rest)=some (xo,rest))/\∀GK us,rN rk lv sl ah k xo=some (GK,us)->(∀u∈us,row/65536=u.t.size)->∃as',de m 0 row lv sl p k aL=some (as',us.map λu=>bf u.t u.l)/\∀(ρ:bt)(B:Nat)(m:List (Tr E2)),ki ρ B m lv sl ah p us->aC (RC ρ B m) GK as'
 |cs,[],xs',ks,aL,d,k,_,h,hd,ha=>by cases h;match aL,ha with|[],_=>match cs,hd with|[],hd=>cases hd;refine⟨[],λ_=>rfl,λGK us hp _=>?_⟩;cases hp;exact⟨[],rfl,λ_ _ _ _=>trivial⟩|_::_,hd=>simp[fV]at hd
 |cs,x::xs,xs',ks,aL,d,k,hk,h,hd,ha=>by
  simp[VG,Bool.and_eq_true]at hk;simp[lU]at h;split at h;.rename_i y k1 ys k2 h1 h2;cases h;match aL,ha with|a::aL,ha=>match cs,hd with
   |[],hd=>simp[fV]at hd|c::cs,hd=>
     simp[fV]at hd;split at hd
     .rename_i d1 d2 h5 h6;cases hd;obtain⟨x2,g2,g3⟩:=RB hm (k:=k) (lv:=lv) (sl:=sl) (ah:=ah) (p:=p) h0 CF hr2 yK hk.1 h1 h5 ha.1;obtain⟨xo,g5,g6⟩:=xp hm (lv:=lv) (sl:=sl) (ah:=ah) (p:=p) h0 CF hr2 yK (k:=k+1) hk.2 h2 h6 ha.2;refine⟨x2::xo,λrest=>by simp only[cW,List.append_assoc,g2,g5],λGK us hp hu=>?_⟩;simp[rN]at hp;split at hp;.rename_i z u1 zs u2 p1 p2;cases hp;obtain⟨a',q1,q2⟩:=g3 _ _ p1 (λu h=>hu u (List.mem_append_left _ h));obtain⟨as',q3,q4⟩:=g6 _ _ p2 (λu h=>hu u (List.mem_append_right _ h));exact⟨a'::as',by simp only[de,q1,q3,List.map_append],λρ B m hf=>⟨q2 _ _ _ ⟨hf.1,hf.2.1,λu h=>hf.2.2 u (List.mem_append_left _ h)⟩,q4 _ _ _ ⟨hf.1,hf.2.1,λu h=>hf.2.2 u (List.mem_append_right _ h)⟩⟩⟩
      grind
     grind
  grind
theorem OB{m:List (Tr bB)}{row lv sl p k:Nat}{a:AV}(h:lI a=true)(h2:bJ.fM a=true):kR m 0 row lv sl p k a=bu m 0 row k lv sl p a:=by cases a<;>first|rfl|cases h
theorem Bo{ρ:bt}{B:Nat}{m2:List (Tr E2)}{m:List (Tr bB)}(hm:MR ρ B m2 m){lv sl ah p row rk:Nat}(h0:rk≠0)(CF:row%65536=rk)(hr2:row/65536≠0)(yK:row%65536≠65535):∀{res:List (Bool×List gG)}{vs:List (Bool×List Cell)}{aL:List AV}{ds:List fG}{k:Nat},DH m2 rk k vs=true->kW m2 res vs=some ds->aC (R1 ρ B m2) vs aL->∃ws,(∀rest,jr res (ds++rest)=some (ws,rest))/\ws.length=aL.length/\∀CE us,DJ rk lv sl ah k ws=some (CE,us)->(∀u∈us,row/65536=u.t.size)->∃as',fL m 0 row lv sl p k aL=some (as',us.map λu=>bf u.t u.l)/\CE.length=aL.length/\∀(ρ:bt)(B:Nat)(m:List (Tr E2)),ki ρ B m lv sl ah p us->aC (R1 ρ B m) CE as'
 |[],[],aL,ds,k,_,h,ha=>by cases h;match aL,ha with|[],_=>refine⟨[],λ_=>rfl,rfl,λCE us hp _=>?_⟩;cases hp;exact⟨[],rfl,rfl,λ_ _ _ _=>trivial⟩
 |(a,l)::ps,(b,cs)::vs,aL,ds,k,hk,h,ha=>by
  simp[DH,Bool.and_eq_true]at hk;simp[kW]at h;split at h
  .rename_i cs' ks ds2 hab hf hr;obtain⟨d,hd,rfl⟩:=aN h;have hab:a=b:=by grind
   subst hab;match aL,ha with
   |x::aL,ha=>
    obtain⟨ws,g5,g6,g7⟩:=Bo hm (lv:=lv) (sl:=sl) (ah:=ah) (p:=p) h0 CF hr2 yK (k:=k+64) hk.2 hr ha.2;have one:∃xo,(∀rest,cW l (d++rest)=some (xo,rest))/\∀GK us,rN rk lv sl ah k xo=some (GK,us)->(∀u∈us,row/65536=u.t.size)->∃a',kR m 0 row lv sl p k x=some (a',us.map λu=>bf u.t u.l)/\∀(ρ:bt)(B:Nat)(m:List (Tr E2)),ki ρ B m lv sl ah p us->R1 ρ B m (a,GK) a':=by cases a with|true=>obtain⟨as2,rfl,ha2⟩:=ha.1;obtain⟨xo,q1,q2⟩:=xp hm (k:=k) (lv:=lv) (sl:=sl) (ah:=ah) (p:=p) h0 CF hr2 yK hk.1 hf hd ha2;refine⟨xo,q1,λGK us hp hu=>?_⟩;obtain⟨as',q3,q4⟩:=q2 GK us hp hu;exact⟨.agg as',by simp only[kR,q3,Option.map_some],λρ B m hf=>⟨as',rfl,q4 _ _ _ hf⟩⟩|false=>
      obtain⟨c,rfl,ha2⟩:=ha.1;obtain⟨xo,q1,q2⟩:=xp hm (k:=k) (lv:=lv) (sl:=sl) (ah:=ah) (p:=p) h0 CF hr2 yK (aL:=[x]) hk.1 hf hd ⟨ha2,trivial⟩;refine⟨xo,q1,λGK us hp hu=>?_⟩;obtain⟨as',q3,q4⟩:=q2 GK us hp hu;have hc:=RC.cell ha2;simp[de]at q3;split at q3
      .rename_i y u ys us' h1 h2;cases h2;simp at q3;obtain⟨rfl,rfl⟩:=q3;have hlen:∃x3,GK=[x3]:=by
        have hq:=q1 [];have h1:∀{l:List gG}{d:List fG}{xs:List Cell},cW l d=some (xs,[])->xs.length=l.length:=by intro l;induction l with|nil=>intro d xs h;cases h;rfl|cons c l ih=>intro d xs h;simp[cW]at h<;>grind
        have h2:∀{k:Nat}{xs GK:List Cell}{us:List SL},rN rk lv sl ah k xs=some (GK,us)->GK.length=xs.length:=by intro k xs;induction xs generalizing k with|nil=>intro GK us h;simp[rN,Option.some.injEq,Prod.mk.injEq]at h<;>grind|cons c l ih=>intro GK us h;simp[rN]at h<;>grind
        have h3:l.length=1:=by
         have wT:∀{cs:List gG}{xs:List Cell}{d:List fG},fV cs xs=some d->cs.length=xs.length:=by intro cs;induction cs with
          |nil=>intro xs d h;cases xs with|nil=>rfl|cons _ _=>simp[fV]at h
          |cons c cs ih=>intro xs d h;cases xs with|nil=>simp[fV]at h|cons x xs=>simp[fV]at h<;>grind
         simp[lU]at hf<;>grind
        have:=h2 hp;rw[h1 hq,h3]at this;match GK,this with|[x3],_=>grind
       obtain⟨x3,rfl⟩:=hlen;exact⟨y,by rw[OB hc.2.1 hc.2.2];exact h1,λρ B m hf=>⟨x3,rfl,(q4 _ _ _ hf).1⟩⟩
      grind
    obtain⟨xo,q1,q2⟩:=one;refine⟨(a,xo)::ws,λrest=>by simp only[jr,List.append_assoc,q1,g5],by simp[g6],λCE us hp hu=>?_⟩;simp[DJ]at hp;split at hp;.rename_i z u1 zs u2 p1 p2;cases hp;obtain⟨a',q3,q4⟩:=q2 _ _ p1 (λu h=>hu u (List.mem_append_left _ h));obtain⟨as',q5,q6,q7⟩:=g7 _ _ p2 (λu h=>hu u (List.mem_append_right _ h));exact⟨a'::as',by simp only[fL,q3,q5,List.map_append],by simp[q6],λρ B m hf=>⟨q4 _ _ _ ⟨hf.1,hf.2.1,λu h=>hf.2.2 u (List.mem_append_left _ h)⟩,q7 _ _ _ ⟨hf.1,hf.2.1,λu h=>hf.2.2 u (List.mem_append_right _ h)⟩⟩⟩
    grind
  grind|[],_::_,_,_,_,_,h,_=>by simp[kW]at h|_::_,[],_,_,_,_,h,_=>by simp[kW]at h
theorem RD{ρ:bt}{B:Nat}{m2:List (Tr E2)}{m:List (Tr bB)}(hm:MR ρ B m2 m){lv sl ah p row rk:Nat}(h0:rk≠0)(CF:row%65536=rk)(hr2:row/65536≠0)(yK:row%65536≠65535){res:List (Bool×List gG)}{vs ws CE:List (Bool×List Cell)}{aL:List AV}{ds:List fG}{us:List SL}{w:V2}(hk:DH m2 rk 1 vs=true)(h:kW m2 res vs=some ds)(ha:aC (R1 ρ B m2) vs aL)(hw:jr res ds=some (ws,[]))(hp:DJ rk lv sl ah 1 ws=some (CE,us))(hu:∀u∈us,row/65536=u.t.size)(ht:nU CE=some w):∃a',gC m 0 row lv sl p (ju aL)=some (a',us.map λu=>bf u.t u.l)/\∀(ρ:bt)(B:Nat)(m:List (Tr E2)),ki ρ B m lv sl ah p us->RV ρ B m w a':=by obtain⟨ws1,g2,g3,g4⟩:=Bo hm (lv:=lv) (sl:=sl) (ah:=ah) (p:=p) h0 CF hr2 yK (k:=1) hk h ha;have CU:=g2 [];rw[List.append_nil,hw]at CU;cases CU;obtain⟨as',g1,g5,g6⟩:=g4 _ _ hp hu;match aL,ha,g1,g5 with
 |[],_,g1,g5=>match CE,g5 with|[],_=>cases ht;simp only[fL,Option.some.injEq,Prod.mk.injEq]at g1;obtain⟨rfl,g7⟩:=g1;exact⟨.iY [],by simp only[ju,gC,fL,Option.map_some];rw[<-g7],λ_ _ _ _=>⟨[],rfl,trivial⟩⟩
 |[a],ha,g1,g5=>match CE,g5 with
  |[(b,cs)],_=>
   simp[fL]at g1;split at g1
   .rename_i y u ys us' h1 h2;cases h2;simp at g1;obtain⟨rfl,rfl⟩:=g1;refine⟨y,?_,λρ B m hf=>?_⟩;.match vs,ha with|[(b',cs')],ha=>have hn:=R1.fM ha.1;cases a<;>first|exact h1|cases hn
    .have hx:=(g6 ρ B m hf).1;cases b with|true=>obtain⟨bs,rfl,g7⟩:=hx;cases ht;exact⟨bs,rfl,g7⟩|false=>obtain⟨c,rfl,g7⟩:=hx;cases ht;exact g7
   grind
 |a::b::aL,ha,g1,g5=>match CE,g5 with|x::y::CE,_=>cases ht;exact⟨.iY as',by simp only[ju,gC,g1,Option.map_some],λρ B m hf=>⟨as',rfl,g6 _ _ _ hf⟩⟩
theorem Wb{f:Nat}{fn:tF}{aL:List AV}{JO:List AV}{mem:List (Tr bB)}{nv n0:Nat}{ax:AX}{t:St}(hf:Fs f=some fn)(hnp:Nat.beq aL.length fn.np=true)(hax:∀id,ax≠.exit id)(q1:kT t fn.res=some JO)(hev:∀k n,n0<=k->n0<=n->exec (jj Fs k) (zO Fs) n fn.body {slots:=eg 0 aL .lf,mem,aI:=.lf,nv}=some (ax,t)):∀n,n0+1<=n->jj Fs n f aL mem .lf nv=some (ju JO,t.mem,t.aI,t.nv):=by intro n hn;obtain⟨n,rfl⟩:∃k,n=k+1:=⟨n-1,by omega⟩;simp[jj,hf,hnp];have:=hev n n (by omega) (by omega);unfold zO at this;cases ax with|normal=>grind|ret=>grind|exit id=>grind
theorem XS(hE:aD Fs E)(N f:Nat)(args:List tP)(ta:List Ty)(res:List (Bool×List gG))(tr:List Ty)(rk:Nat):kj Fs f ⟨args,ta,res,tr,rk,XO E N f args ta res tr rk⟩:=by
 intro x y h;obtain⟨fn,hf,h⟩:=aA h;rw[hE.fns]at hf;split at h
 .rename_i vs hvs;split at h
  .rename_i hnp;refine⟨vs,hvs,λaL has=>?_⟩;let ρ:bt:=λv=>some v;have start:zL ρ [] {slots:=jT 0 vs .lf,outer:=[],mem:=[.lf],aI:=.lf,nv:=0} {slots:=eg 0 aL .lf,mem:=[.lf],aI:=.lf,nv:=0}:=by
    refine⟨vN (has.mono λ_ _=>RV.move (λ_ _ _ _ h=>absurd h (by omega)) (Nat.le_refl _) λ_ h=>absurd h (by omega)),trivial,⟨rfl,λlv sl e he=>?_⟩,λv hv=>?_,⟨λv u hv=>?_,λv _=>?_,λv v' u h h'=>?_⟩,Nat.le_refl _⟩;.have:=rZ 1 lv sl<;>grind
    .simp at hv
    .grind
    .grind
    grind
   obtain⟨ax,t2,ρ',t,⟨n0,hev⟩,g2,g3,g4,g5⟩:=FU hE N _ _ _ _ _ _ _ h _ _ _ start;have hax:∀id,ax≠.exit id:=by grind
   have g5:(DK t2 fn.res λvs=>match Z9 t2.mem rk vs&&!Nat.beq rk 65535with|true=>bZ (kW t2.mem res vs) λds=>pack tr ds|false=>none)=some y:=by grind
   obtain⟨vs1,JO,q1,q2,g5⟩:=Bg g2.mem g2.slots g5;split at g5;case h_2=>cases g5
   rename_i zP;simp at zP;obtain⟨zP,yK⟩:=zP;have yK:rk≠65535:=by intro e;simp_all
   obtain⟨ds,q3,q4⟩:=aA g5;refine⟨n0+1,ju JO,t.mem,t.aI,t.nv,λn hn=>?_,λws xl=>⟨λ_ w hw lv sl aO=>?_,λrow lv sl ah p CE us w h0 CF hr2 hp hu hw=>?_⟩⟩;.exact Wb hf (by rw[<-has.length];exact hnp) hax q1 hev n hn
   .rw[dm q4]at xl;obtain⟨a',p1,_,p2⟩:=Wa (top:=0) g2.mem (λ_ _ _ _=>Vu _) q3 q2 xl hw;exact⟨a',p1,p2⟩
   .rw[dm q4]at xl;have zP:DH t2.mem rk 1 vs1=true:=by unfold Z9 at zP;rw[beq_false.2 h0]at zP<;>omega
    exact RD g2.mem h0 CF hr2 (by rw[CF];exact yK) zP q3 q2 xl hp hu hw
  grind
 grind
end
end Go.Sym
