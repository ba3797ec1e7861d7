/- Parts of the proof. -/
import Derived.Test.YtnfdnnplfbfgaaaGreatSymJ
import Derived.Test.YtnfdnnplfbfgaaaGreatSymD
import Derived.RowKit
import Derived.Carry
import Derived.ChangeOld
import Derived.Laws.Rows
import Derived.ChangeSame
import Derived.JoinedOf
import Derived.JoinedAt
import Derived.JoinedStill
import Derived.ProofKit
import GoSem.Claim
import GoSem.ClaimJoined
import GoSem.ClaimMapViews
import Derived.JoinedTies
import Derived.KernelRfl
import Derived.Shelf.Lays
import Derived.Shelf.LaysM
import Derived.Shelf.LaysC
import Derived.Shelf.Sort.Plain
import Derived.Shelf.Slices.CompactI
import Derived.Ground.NamesProg
import Derived.Ground.Names2Prog
import Derived.Test.YtnfdnnplfbfgaaaGreatRows
import Derived.Test.YtnfdnnplfbfgaaaGreatChecked
import Derived.Test.YtnfdnnplfbfgaaaGreatEngR
set_option linter.unusedVariables false
set_option linter.unusedSimpArgs false
set_option linter.defProp false
namespace Go.Sym
open Go Go.bS
section
variable{Fs:Tb}{E:ai}{wk:Wk}{α:Type}{ρ:bF}{nx rem p:Nat}{os:List (Tr AV)}{s2:S2}{s:St}{ctx row d:Nat}{K:iA->Option α}{r:α}
def HW(hwk:MP Fs wk)(hE:az Fs E)(hi:RI ρ nx (rem+1) os s2 s p){op:cy}(h:dn E wk ctx s2 row d nx op K=some r):∃r2 e,(∃n0,∀n,n0<=n->op.run (jF Fs n) (BC Fs) s row d p=some e)/\qd ρ nx os s2 s r2 e/\K r2=some r:=by
 have gv:ρ nx=some p:=by simpa using hi.Bn 0 (by omega)
 have hm:=hi.mem;have ht:=hi.aO;have cr:=hi.slots;have hB:nx<=nx:=bd _;have AB:nx<=nx+1:=by omega
 have hinj:=hi.av.inj;have conv:eB ρ nx (nx+1) s2 s op row d p K r->∃r2 e,(∃n0,∀n,n0<=n->op.run (jF Fs n) (BC Fs) s row d p=some e)/\qd ρ nx os s2 s r2 e/\K r2=some r:=by rintro⟨E',e,h1,h2,h3⟩;exact⟨.cu E',.cu e,⟨0,λn _=>h1 _ _⟩,h2,h3⟩
 cases op with
 |IV x=>exact conv (Tu hm ht cr hB gv h)|compact x=>exact conv (HQ hm ht cr hB gv h)|pick c a b=>exact conv (Qd hm ht cr AB h)|alloc z=>exact conv (MI hm ht hB gv h)|box x=>exact conv (Tt hm ht cr hB gv h)|build z ps=>exact conv (ME hm ht cr AB h)|buildSlice sz n z ps=>exact conv (Bm hm ht cr hB gv h)|load sz agg x=>exact conv (Qm hm ht cr hB h)|store sz x v=>exact conv (MJ hm ht cr hB h)|nilCheck x=>exact conv (EL hm ht cr AB h)|bin op x y=>exact conv (Tn hm ht cr AB h)|Y7 neg x y=>exact conv (To hm ht cr AB h)|Y8 neg sz l x y=>exact conv (Tp hm ht cr AB h)|un op x=>exact conv (ZU hm ht cr AB h)|conv k x=>exact conv (Qf hm ht cr AB h)|field off sz agg x=>exact conv (MH hm ht cr AB h)|fieldAddr off x=>exact conv (CX hm ht cr AB h)|indexAddr sz x i=>exact conv (CY hm ht cr AB h)|ld n sz x i=>exact conv (EM hm ht cr AB h)|rG n sz agg x i=>exact conv (JQ hm ht cr AB h)|rH x i=>exact conv (JS hm ht cr AB h)|slice sz x lo hi mx=>exact conv (MK hm ht cr hB gv h)|rI x lo hi=>exact conv (JT hm ht cr AB h)|extract x i=>exact conv (HN hm ht cr AB h)|len x=>exact conv (Tq hm ht cr AB h)|GO x=>exact conv (Qi hm ht cr AB h)|IW x=>exact conv (Qh hm ht cr AB h)|EC n=>exact conv (Qj hm ht AB h)|GP x y=>exact conv (Qk hm ht cr AB h)|GQ x y=>exact conv (Ql hm ht cr AB h)|append sz bytes x y=>exact conv (JX hm ht cr hB gv hinj h)|pU sz bytes z x n=>exact conv (HP hm ht cr hB gv hinj h)|clone sz bytes x=>exact conv (ML hm ht cr hB gv hinj h)|sort x=>exact conv (Qq hm ht cr hB h)|copy sz x y=>exact conv (Qo hm ht cr hB h)|makeSlice sz bytes z l c=>exact conv (C2 hm ht cr hB gv h)|makeFunc f cap=>exact conv (EN hm ht cr AB h)|clear sz z x=>exact conv (MM hm ht cr hB h)|grow sz x n=>exact conv (Qr hm ht cr hB gv h)|call f args=>
  simp[dn]at h;split at h;.rename_i h7 h8 h9 YY;obtain⟨vs,hv,h⟩:=aE h;obtain⟨r2,e,⟨n0,h1⟩,h2,h3⟩:=C7 hwk hE hi (by omega) h (qa cr hv);exact⟨r2,e,⟨n0,λn hn=>by simp only[cy.run,h7,h8,h9,YY];exact h1 n hn⟩,h2,h3⟩
  .rename_i h7 h8 h9;obtain⟨vs,hv,h⟩:=aE h;obtain⟨r2,e,⟨n0,h1⟩,h2,h3⟩:=TG hE hi h (qa cr hv);exact⟨r2,e,⟨n0,λn hn=>by simp only[cy.run,h7,h8,h9];exact h1 n hn⟩,h2,h3⟩
  .rename_i h7 h8 h9 YY;obtain⟨vs,hv,h⟩:=aE h;obtain⟨r2,e,⟨n0,h1⟩,h2,h3⟩:=TH hE hi h (qa cr hv);exact⟨r2,e,⟨n0,λn hn=>by simp only[cy.run,h7,h8,h9,YY];exact h1 n hn⟩,h2,h3⟩
  grind|wP f args=>
  obtain⟨vs,hv,h⟩:=aE h;have hse:E.sh f=BC Fs f:=by simp[ai.sh,BC,hE.fns]
  rw[hse]at h;cases hsf:BC Fs f with|true=>rw[hsf]at h;obtain⟨r2,e,⟨n0,h1⟩,h2,h3⟩:=C7 hwk hE hi (by omega) h (qa cr hv);refine⟨r2,e,⟨n0,λn hn=>?_⟩,h2,h3⟩;have:=h1 n hn;rw[hsf]at this;simp[cy.run,hsf,this]|false=>rw[hsf]at h;obtain⟨r2,e,⟨n0,h1⟩,h2,h3⟩:=Qy hE hi h (qa cr hv);exact⟨r2,e,⟨n0,λn hn=>by simp only[cy.run,hsf,h1 n hn]⟩,h2,h3⟩
 |zO x args=>
  simp[dn]at h;split at h
  .rename_i f cap hx;obtain⟨vs,hv,h⟩:=aE h;obtain⟨aU,he,hc⟩:=bx cr hx;have hc:aI (RV ρ nx s2.mem) (cap.map .c) aU:=by
    have:∀{cs:List Cell}{aU:List AV},aI (RC ρ nx s2.mem) cs aU->aI (RV ρ nx s2.mem) (cs.map .c) aU:=by intro cs;induction cs with
     |nil=>intro aU h;match aU,h with|[],_=>trivial
     |cons c cs ih=>intro aU h;match aU,h with|a::aU,h=>exact⟨h.1,ih h.2⟩
    grind
   obtain⟨r2,e,⟨n0,h1⟩,h2,h3⟩:=C7 hwk hE hi (by omega) h ((qa cr hv).append hc);exact⟨r2,e,⟨n0,λn hn=>by simp only[cy.run,he];exact h1 n hn⟩,h2,h3⟩
  grind|sliceB n sz x=>exact conv (JU hm ht cr AB h)|b2s x=>exact conv (Tw hm ht cr hB h)|s2b x=>exact conv (Tx hm ht cr hB h)|mkSet=>exact conv (MN hm ht hB gv h)|IX x y=>exact conv (Qs hm ht cr hB h)|IY x y=>exact conv (Qt hm ht cr hB h)|zN neg x=>exact conv (MG hm ht cr AB h)|sZ lo n sz x=>exact conv (JP hm ht cr AB h)|bad=>simp[dn]at h
def RI.TK(hi:RI ρ nx rem os s2 s p){g:Nat}{t:Bool}(hg:dL s.slots g=.d (.sc (.bool t))):RI ρ nx rem os {s2 with slots:=s2.slots.set g (some (.c (.bool t)))} s p:=by
 refine⟨λk v hk=>?_,hi.outer,hi.mem,hi.aO,hi.av,hi.Bn,hi.nv,hi.pn⟩;rw[Tr.cD]at hk;split at hk;.subst_vars;cases hk;exact hg
 .exact hi.slots k v hk
def Kc(hwk:MP Fs wk)(hE:az Fs E)(hi:RI ρ nx (rem+1) os s2 s p){o:bG}{K:S2->iA->Option α}(h:Ot E wk ctx s2 nx o K=some r):∃s2' r2 e,(∃n0,∀n,n0<=n->o.step (jF Fs n) (BC Fs) s p=some e)/\RI ρ nx (rem+1) os s2' s p/\qd ρ nx os s2' s r2 e/\K s2' r2=some r:=by
 have skip:∀{s2'},RI ρ nx (rem+1) os s2' s p->qd ρ nx os s2' s (lG (.jU [])) (.cu {val:=kI,dD:=[],cT:=[],rd:=[]}):=λhi'=>pF.yZ hi'.mem hi'.aO (by omega) nV bn.nil;unfold Ot at h;split at h;.rename_i hg;obtain⟨r2,e,⟨n0,h1⟩,h2,h3⟩:=HW hwk hE hi h;refine⟨s2,r2,e,⟨n0,λn hn=>?_⟩,hi,h2,h3⟩;simp[bG.step,jo,hg]<;>grind
 .rename_i g b hg;split at h;.rename_i t ht;have hv:dL s.slots g=.d (.sc (.bool t)):=hi.slots g _ ht;have hi':=hi.TK hv;cases t with
   |true=>cases b with|true=>obtain⟨r2,e,⟨n0,h1⟩,h2,h3⟩:=HW hwk hE hi' h;refine⟨_,r2,e,⟨n0,λn hn=>?_⟩,hi',h2,h3⟩;simp[bG.step,jo,hg,hv,im]<;>grind|false=>refine⟨_,_,_,⟨0,λn _=>?_⟩,hi',skip hi',h⟩;simp[bG.step,jo,hg,hv];rfl
   |false=>cases b with|true=>refine⟨_,_,_,⟨0,λn _=>?_⟩,hi',skip hi',h⟩;simp[bG.step,jo,hg,hv];rfl|false=>obtain⟨r2,e,⟨n0,h1⟩,h2,h3⟩:=HW hwk hE hi' h;refine⟨_,r2,e,⟨n0,λn hn=>?_⟩,hi',h2,h3⟩;simp[bG.step,jo,hg,hv,im]<;>grind
  .rename_i ht;obtain⟨aU,hv,_⟩:=hi.slots g _ ht;refine⟨_,_,_,⟨0,λn _=>?_⟩,hi,skip hi,h⟩;simp[bG.step,jo,hg,hv];rfl
  grind
def OL{B:Nat}{m:List (Tr E2)}{t:Tr V2}{o:Tr AV}(h:vS ρ B m t o){v:V2}{a:AV}(hv:RV ρ B m v a)(dst:Option Nat):vS ρ B m (ZE t dst v) (oa o dst a):=by cases dst with|none=>exact h|some n=>
 intro k w hk;simp[ZE]at hk;simp[oa,dL];rw[Tr.cD]at hk⊢;split at hk;.grind
 .rename_i hne;rw[bi hne];exact h k w hk
def RI.cu(hi:RI ρ nx (rem+1) os s2 s p){E':Jx}{e:gu}(h:pF ρ nx (nx+1) s2 s E' e)(dst:Option Nat):RI ρ (nx+1) rem os (s2.app dst (.cu E')) (s.app dst (.cu e)) (p+1):=by
 refine⟨?_,?_,h.mem,h.aO,hi.av,λj hj=>?_,?_,?_⟩;.exact OL (hi.slots.move h.ajf (by omega) λ_ _=>rfl) h.val dst
 .exact ji h.ajf (by omega) (λ_ _=>rfl) hi.outer
 .have:=hi.Bn (j+1) (by omega)<;>grind
 .have:=hi.nv;show nx+1+rem=s2.nv;omega
 .have:=hi.pn;show p+1+rem<=s.nv;omega
def RI.all(hi:RI ρ nx (rem+1) os s2 s p){v:V2}{t2:S2}{a:AV}{m:List (Tr bM)}{t:Tr Unit}{n:Nat}(h:qd ρ nx os s2 s (.all v t2) (.all a m t n))(dst:Option Nat):∃ρ',RI ρ' t2.nv rem os {t2.app dst (.all v t2)with nv:=t2.nv+rem} (s.app dst (.all a m t n)) (p+1)/\Fr ρ (nx+1) s.nv ρ' t2.nv/\s.nv<=n:=by
 obtain⟨ρ1,hs,hv,hf,hn⟩:=h;have hpn:=hi.pn;let ρ':bF:=λv=>if v<t2.nv then ρ1 v else if v<t2.nv+rem then some (p+1+(v-t2.nv))else some (n+(v-(t2.nv+rem)));have e1:∀v,v<t2.nv->ρ' v=ρ1 v:=λv h=>be h;have e3:∀v,t2.nv+rem<=v->ρ' v=some (n+(v-(t2.nv+rem))):=λv h=>by show(if v<t2.nv then _ else _)=_;rw[bi (by omega),bi (by omega)]
 have apart:∀v u,v<t2.nv->ρ1 v=some u->u<p+1\/p+1+rem<=u:=by
  intro v u hv hu;rcases hf v u hv hu with⟨w,hw,HV⟩|h'
  .rcases i9 u (p+1)with h1|h1;.grind
   .rcases i9 u (p+1+rem)with h2|h2;.have:=hi.Bn (u-p) (by omega);rw[show p+(u-p)=u from by omega]at this;have:=hi.av.inj _ _ _ HV this<;>omega
    omega
  omega
 refine⟨ρ',⟨?_,?_,?_,?_,?_,λj hj=>?_,rfl,?_⟩,?_,hn⟩;.exact OL (hs.slots.move (fS.refl _ _) (bd _) e1) (hv.move (fS.refl _ _) (bd _) e1) dst
 .exact ji (fS.refl _ _) (bd _) e1 hs.outer
 .exact hs.mem.ren e1
 .intro v hv;obtain⟨h1,h2⟩:=hs.aO v hv;exact⟨h1,λu hu=>h2 u (by rw[<-e1 v h1];exact hu)⟩
 .refine⟨λv u hv hu=>?_,λv hv=>e3 v hv,λv v' u hu mq=>?_⟩
  .show u<n;rcases i9 v t2.nv with h1|h1;.rw[e1 v h1]at hu;exact hs.av.low v u h1 hu
   grind
  .rcases i9 v t2.nv with h1|h1
   .rw[e1 v h1]at hu;have xd:=hs.av.low v u h1 hu;rcases i9 v' t2.nv with h2|h2;.rw[e1 v' h2]at mq;exact hs.av.inj v v' u hu mq
    grind
   .rcases i9 v (t2.nv+rem)with h3|h3;.grind
    .simp_all;rcases i9 v' t2.nv with h2|h2;.rw[e1 v' h2]at mq;have:u<n:=hs.av.low v' u h2 mq<;>omega
     grind
 .grind
 .show p+1+rem<=n;omega
 .intro v u hv hu;rw[e1 v hv]at hu;exact hf v u hv hu
def RI.done(hi:RI ρ nx 0 os s2 s p):Bz ρ os s2 s:=by have:nx=s2.nv:=hi.nv;subst this;exact⟨hi.slots,hi.outer,hi.mem,hi.aO,hi.av,bd _⟩
def TL(ρ:bF)(nx:Nat)(os:List (Tr AV))(lo n:Nat)(K:S2->Option α)(r:α)(s':St):Prop:=∃ρ' s2',Bz ρ' os s2' s'/\Fr ρ nx lo ρ' s2'.nv/\n<=s'.nv/\K s2'=some r
def vU(hwk:MP Fs wk)(hE:az Fs E){K:S2->Option α}{mG lo:Nat}:∀{ops:List bG}{i nx:Nat}{ρ:bF}{s2:S2}{s:St},Bw E wk ctx nx ops s2 K=some r->RI ρ nx ops.length os s2 s (mG+i)->lo<=mG->∃s',(∃n0,∀n,n0<=n->jz (jF Fs n) (BC Fs) mG i ops s=some s')/\TL ρ nx os lo s.nv K r s'|[],i,nx,ρ,s2,s,h,hi,_=>⟨s,⟨0,λ_ _=>rfl⟩,ρ,s2,hi.done,by have:nx=s2.nv:=hi.nv;subst this;exact Fr.refl _ _ _,bd _,h⟩|o::ops,i,nx,ρ,s2,s,h,hi,hlo=>by obtain⟨s2',r2,e,⟨n0,h1⟩,h2,h3,h4⟩:=Kc hwk hE hi h;cases r2 with
 |cu E'=>cases e with
  |cu e=>
    have hi':=h2.cu h3 o.dst;rw[fb]at hi';obtain⟨s',⟨n1,g1⟩,ρ',s3,g2,g3,g4,g5⟩:=vU hwk hE h4 hi' hlo;refine⟨s',⟨max n0 n1,λn hn=>?_⟩,ρ',s3,g2,λv u hv hu=>?_,g4,g5⟩;.simp[jz,h1 n (by omega)]<;>grind
    .rcases g3 v u hv hu with⟨w,hw,HV⟩|h'
     .by_cases hwn:w=nx;.have:=hi.Bn 0 (by simp)<;>grind
      grind
     omega|all=>exact h3.elim
 |all v t2=>cases e with|cu e=>exact h3.elim|all a m t n'=>
    obtain⟨ρ1,hi',hf,hn'⟩:=h2.all h3 o.dst;rw[fb]at hi';obtain⟨s',⟨n1,g1⟩,ρ',s3,g2,g3,g4,g5⟩:=vU hwk hE h4 hi' hlo;have hsn:lo<=s.nv:=by have:=hi.pn;omega
    refine⟨s',⟨max n0 n1,λn hn=>?_⟩,ρ',s3,g2,λv u hv hu=>?_,nb hn' g4,g5⟩;.simp[jz,h1 n (by omega)]<;>grind
    .rcases g3 v u hv hu with⟨w,hw,HV⟩|h'
     .rcases hf w u hw HV with⟨w',Oc,aru⟩|h'
      .by_cases hwn:w'=nx;.have:=hi.Bn 0 (by simp)<;>grind
       grind
      omega
     omega
def tW(ρ:bF):iA->ir->Prop|.cu E,.cu e=>bn ρ E.rd e.rd/\bn ρ E.wr e.wr|.all _ _,_=>True|_,_=>False
def OM(ρ:bF):List (Nat×iA)->List (Nat×ir)->Prop:=aI λx y=>x.1=y.1/\tW ρ x.2 y.2
def TM{a b:Nat×Nat×Nat}:keq a b=true↔a=b:=by obtain⟨a1,a2,a3⟩:=a;obtain⟨b1,b2,b3⟩:=b;simp[keq,and_assoc]
def KR.inj(hinj:∀v v' u,ρ v=some u->ρ v'=some u->v=v'){a b k:Nat×Nat×Nat}(ha:KR ρ a k)(hb:KR ρ b k):a=b:=by
 rcases ha with⟨rfl,h⟩|⟨v,u,rfl,rfl,hu⟩
 .rcases hb with⟨rfl,_⟩|⟨v',u',rfl,rfl,_⟩;.rfl
  .cases h
 .rcases hb with⟨rfl,h⟩|⟨v',u',rfl,h,mq⟩;.cases h
  .have:u=u':=by simpa[kZ]using h
   grind
def C8(hinj:∀v v' u,ρ v=some u->ρ v'=some u->v=v'){a2 b2 a b:List (Nat×Nat×Nat)}(ha:bn ρ a2 a)(hb:bn ρ b2 b)(h:yV a2 b2=false):meets a b=false:=by
 rw[xc];intro hm;unfold meets at hm;rw[mn]at hm;obtain⟨k,hk,hc⟩:=hm;obtain⟨k2,h1,h2⟩:=ha k hk;obtain⟨k2',h3,h4⟩:=hb k (by simpa using hc);have:=KR.inj hinj h2 h4;subst this;have:yV a2 b2=true:=by unfold yV;rw[mn];exact⟨k2,h1,by rw[mn];exact⟨k2,h3,TM.2 rfl⟩⟩
 rw[h]at this;cases this
def keys_nil{l:List (Nat×Nat×Nat)}(h:bn ρ [] l):l=[]:=by cases l with|nil=>rfl|cons k l=>obtain⟨_,h1,_⟩:=h k ci<;>grind
def quiet{E':Jx}{e:gu}(h:qR (.cu E')=false)(hr:tW ρ (.cu E') (.cu e)):e.rd=[]/\e.dD=[]/\e.cT=[]:=by
 simp[qR,pB,ba,xr]at h;obtain⟨⟨h1,h2⟩,h3⟩:=h;obtain⟨k1,k2⟩:=hr;rw[h1]at k1;have hw:E'.wr=[]:=by simp[Jx.wr,h2,h3]
 rw[hw]at k2;have:=keys_nil k2;simp[gu.wr,List.append_eq_nil_iff,List.map_eq_nil_iff]at this;exact⟨keys_nil k1,this.1,this.2⟩
def MT{e:gu}(h:e.rd=[]/\e.dD=[]/\e.cT=[]):mA (.cu e)=false:=by grind[mA]
def AD{x:ir}{e:gu}(h:e.rd=[]/\e.dD=[]/\e.cT=[]):wS x (.cu e)=false/\wS (.cu e) x=false:=by
 have hl:=MT h;obtain⟨h1,h2,h3⟩:=h;have hw:e.wr=[]:=by simp[gu.wr,h2,h3]
 cases x with|cu a=>simp[wS,h1,hw,meets]|all=>simp[wS,hl]
def TN(hinj:∀v v' u,ρ v=some u->ρ v'=some u->v=v'){x2 r2:iA}{x e:ir}(hx:tW ρ x2 x)(he:tW ρ r2 e)(hr:∀v t,r2=.all v t->∃a m tt n,e=.all a m tt n)(h:yW x2 r2=false):wS x e=false:=by cases r2 with
 |cu E'=>cases e with|all=>exact he.elim|cu e=>cases x2 with
   |cu X=>cases x with|all=>exact hx.elim|cu x=>simp[yW,kh]at h;simp[wS,kh];exact⟨⟨C8 hinj hx.1 he.2 h.1.1,C8 hinj hx.2 he.1 h.1.2⟩,C8 hinj hx.2 he.2 h.2⟩
   |all v t=>
    have:qR (.cu E')=false:=by simpa[yW,qR]using h
    exact(AD (quiet this he)).1
 |all v t=>cases x2 with
  |cu X=>cases x with|all=>exact hx.elim|cu x=>
    have:qR (.cu X)=false:=by simpa[yW,qR]using h
    exact(AD (quiet this hx)).2
  |all v' t'=>simp[yW,qR]at h
def xk(hinj:∀v v' u,ρ v=some u->ρ v'=some u->v=v'){oW:Nat}{r2:iA}{e:ir}(he:tW ρ r2 e)(hr:∀v t,r2=.all v t->∃a m tt n,e=.all a m tt n):∀{Ao:List (Nat×iA)}{eH:List (Nat×ir)},OM ρ Ao eH->HI oW r2 Ao=true->clear oW e eH=true|[],[],_,_=>rfl|(i,x2)::r2',(j,x)::r',hp,h=>by obtain⟨⟨h1,h2⟩,h3⟩:=hp;subst h1;simp[HI,ba,ib,fr]at h;simp[clear,ba,ib,fr];exact⟨h.1.imp id (TN hinj h2 he hr),xk hinj he hr h3 h.2⟩|[],_::_,h,_=>h.elim|_::_,[],h,_=>h.elim
def Kd{ρ':bF}:∀{l2:List (Nat×iA)}{l:List (Nat×ir)},OM ρ l2 l->OM ρ' (Ao l2) l
 |[],[],_=>trivial|(i,x2)::r2',(j,x)::r',hp=>by obtain⟨⟨h1,h2⟩,h3⟩:=hp;refine⟨⟨h1,?_⟩,Kd h3⟩;show tW ρ' (match qR x2 with|true=>_|false=>x2) x;cases hl:qR x2 with|true=>trivial|false=>cases x2 with|all=>simp[qR]at hl|cu X=>cases x with|all=>exact h2.elim|cu x=>
     obtain⟨q1,q2,q3⟩:=quiet hl h2;refine⟨?_,?_⟩;.rw[q1];exact bn.nil
     .have:x.wr=[]:=by simp[gu.wr,q2,q3]
      rw[this];exact bn.nil
 |[],_::_,h=>h.elim|_::_,[],h=>h.elim
def qd.key{r2:iA}{e:ir}(h:qd ρ nx os s2 s r2 e):tW ρ r2 e/\∀v t,r2=.all v t->∃a m tt n,e=.all a m tt n:=by cases r2 with
 |cu E'=>cases e with|cu e=>exact⟨⟨h.rd,h.wr⟩,λ_ _ h=>by cases h⟩|all=>exact h.elim
 |all v t=>cases e with|cu e=>exact h.elim|all a m tt n=>simp_all[qd,bF,tW]
def vV(hwk:MP Fs wk)(hE:az Fs E){K:S2->Option α}{mG lo:Nat}:∀{ops:List bG}{i nx:Nat}{ρ:bF}{s2:S2}{s:St}{Ao:List (Nat×iA)}{eH:List (Nat×ir)},Bx E wk ctx i nx ops Ao s2 K=some r->OM ρ Ao eH->RI ρ nx ops.length os s2 s (mG+i)->lo<=mG->∃s',(∃n0,∀n,n0<=n->kf (jF Fs n) (BC Fs) mG i ops eH s=some s')/\TL ρ nx os lo s.nv K r s'
 |[],i,nx,ρ,s2,s,_,_,h,_,hi,_=>⟨s,⟨0,λ_ _=>rfl⟩,ρ,s2,hi.done,by have:nx=s2.nv:=hi.nv;subst this;exact Fr.refl _ _ _,bd _,h⟩|o::ops,i,nx,ρ,s2,s,pa2,eH,h,hp,hi,hlo=>by
  obtain⟨s2',r2,e,⟨n0,h1⟩,h2,h3,h4⟩:=Kc hwk hE hi h;split at h4;.rename_i ov;have hkey:=h3.key;have ov:=xk hi.av.inj hkey.1 hkey.2 hp ov;cases r2 with
   |cu E'=>cases e with
    |cu e=>
     have hi':=h2.cu h3 o.dst;obtain⟨s',⟨n1,g1⟩,ρ',s3,g2,g3,g4,g5⟩:=vV hwk hE h4 (eH:=(i,.cu e)::eH) ⟨⟨rfl,hkey.1⟩,hp⟩ hi' hlo;refine⟨s',⟨max n0 n1,λn hn=>?_⟩,ρ',s3,g2,λv u hv hu=>?_,g4,g5⟩;.simp[kf,h1 n (by omega),ov]<;>grind
     .rcases g3 v u hv hu with⟨w,hw,HV⟩|h'
      .by_cases hwn:w=nx;.have:=hi.Bn 0 (by simp)<;>grind
       grind
      omega|all=>exact h3.elim
   |all v t2=>cases e with|cu e=>grind|all a m t n'=>
     obtain⟨ρ1,hi',hf,hn'⟩:=h2.all h3 o.dst;obtain⟨s',⟨n1,g1⟩,ρ',s3,g2,g3,g4,g5⟩:=vV hwk hE h4 (eH:=(i,.all a m t n')::eH) ⟨⟨rfl,trivial⟩,Kd hp⟩ hi' hlo;have hsn:lo<=s.nv:=by have:=hi.pn;omega
     refine⟨s',⟨max n0 n1,λn hn=>?_⟩,ρ',s3,g2,λv u hv hu=>?_,nb hn' g4,g5⟩;.simp[kf,h1 n (by omega),ov]<;>grind
     .rcases g3 v u hv hu with⟨w,hw,HV⟩|h'
      .rcases hf w u hw HV with⟨w',Oc,aru⟩|h'
       .by_cases hwn:w'=nx;.have:=hi.Bn 0 (by simp)<;>grind
        grind
       omega
      omega
  grind
def HX(hwk:MP Fs wk)(hE:az Fs E){ops:List bG}{draw:Bool}{K:S2->Option α}(h:ZJ E wk ctx ops draw s2 K=some r)(hs:Bz ρ os s2 s):∃s',Ev Fs (.region ops draw) s (.normal,s')/\TL ρ s2.nv os s.nv s.nv K r s':=by
 have start:RI ρ s2.nv ops.length os {s2 with nv:=s2.nv+ops.length} {s with nv:=s.nv+ops.length} (s.nv+0):=by
  refine⟨hs.slots,hs.outer,hs.mem,hs.aO,⟨λv u hv hu=>?_,λv hv=>?_,hs.av.inj⟩,λj hj=>?_,rfl,bd _⟩
  .show u<s.nv+ops.length;rcases i9 v s2.nv with h1|h1;.have:=hs.av.low v u h1 hu;omega
   .rw[hs.av.high v h1]at hu<;>grind
  .have hv:s2.nv+ops.length<=v:=hv;rw[hs.av.high v (by omega)]<;>grind
  .rw[hs.av.high _ (by omega)]<;>grind
 have lift:∀{s':St},TL ρ s2.nv os s.nv (s.nv+ops.length) K r s'->TL ρ s2.nv os s.nv s.nv K r s':=by rintro s'⟨ρ',s3,g2,g3,g4,g5⟩;exact⟨ρ',s3,g2,g3,by omega,g5⟩
 cases draw with|false=>obtain⟨s',⟨n0,h1⟩,g⟩:=vU hwk hE (lo:=s.nv) h start (bd _);refine⟨s',⟨n0+1,λk n hk hn=>?_⟩,lift g⟩;obtain⟨n,rfl⟩:∃q,n=q+1:=⟨n-1,by omega⟩;simp[exec,gA,h1 k (by omega),cf]|true=>obtain⟨s',⟨n0,h1⟩,g⟩:=vV hwk hE (lo:=s.nv) (eH:=[]) h trivial start (bd _);refine⟨s',⟨n0+1,λk n hk hn=>?_⟩,lift g⟩;obtain⟨n,rfl⟩:∃q,n=q+1:=⟨n-1,by omega⟩;simp[exec,gA,h1 k (by omega),cf]
end
section
variable{Fs:Tb}{E:ai}
def SR.vR{ρ:bF}{os:List (Tr AV)}{s2:S2}{s:St}{c:cq}{b:Bool}(hs:Bz ρ os s2 s)(hb:jW (c.ev s.slots)=some b):Bz ρ os (vR s2 c b) s:=by cases c with|c v=>exact hs|t n=>
 have he:dL s.slots n=.d (.sc (.bool b)):=by
  unfold jW at hb;split at hb;.rename_i b' e;simp_all;exact e
  .cases hb
 refine⟨λk v hk=>?_,hs.outer,hs.mem,hs.aO,hs.av,hs.le⟩;simp[Go.Sym.vR]at hk;rw[Tr.cD]at hk;split at hk;.subst_vars;cases hk;exact he
 .exact hs.slots k v hk
def TO{call:bS.Call}{sh:Nat->Bool}{s:St}{dst aZ:Nat}{op:cy}{e:ir}(hm:S8 sh op=true)(h:op.run call sh s 0 dst aZ=some e):∃v rd,e=.cu {val:=v,dD:=[],cT:=[],rd}:=by
 have pure:∀{v:AV},gu.pure v=some e->∃v rd,e=.cu {val:=v,dD:=[],cT:=[],rd}:=λh=>by injection h with h;exact⟨_,_,h.symm⟩
 have abU:∀{α:Type}{o:Option α}{k:α->Option ir},Option.bind o k=some e->∃x,k x=some e:=λ{α o k}h=>by cases o with|none=>cases h|some x=>exact⟨x,h⟩
 cases op with
 |IV x=>injection h with h;exact⟨_,_,h.symm⟩|load sz agg x=>obtain⟨cs,h⟩:=abU h;cases hw:iz agg cs with|none=>rw[hw]at h;cases h|some v=>simp_all;exact⟨_,_,h.symm⟩
 |wP f args=>
  simp[S8,fr]at hm;simp[cy.run,hm,lu]at h;split at h;.cases h
  .split at h;.cases h
   .split at h
    .split at h;.simp_all;exact⟨_,_,h.symm⟩
     .cases h
    .cases h|slice sz x lo hi mx=>
  simp[cy.run]at h;split at h
  .split at h;.rename_i hz;simp at hz
   .obtain⟨v,h⟩:=abU h;exact pure h
  .cases h|_=>first|(cases hm;done)|(simp only[cy.run]at h;repeat'(first|split at h|(simp only[lw]at h;obtain⟨_,_,h⟩:=h)|(cases h;done)|exact pure h))
structure tX(l:List Nat)(s s':St):Prop where
 mem:s'.mem=s.mem
 aO:s'.aO=s.aO
 nv:s.nv<=s'.nv
 slots:∀k,¬k∈l->dL s'.slots k=dL s.slots k
def tX.refl(l:List Nat)(s:St):tX l s s:=⟨rfl,rfl,bd _,λ_ _=>rfl⟩
def tX.trans{l:List Nat}{s s' s'':St}(h:tX l s s')(k:tX l s' s''):tX l s s'':=⟨k.mem.trans h.mem,k.aO.trans h.aO,nb h.nv k.nv,λi hi=>(k.slots i hi).trans (h.slots i hi)⟩
def tX.mono{l l':List Nat}{s s':St}(h:tX l s s')(hl:∀k,k∈l->k∈l'):tX l' s s':=⟨h.mem,h.aO,h.nv,λk hk=>h.slots k λh'=>hk (hl k h')⟩
def Gi{call:bS.Call}{sh:Nat->Bool}{s:St}{aZ:Nat}{o:bG}{e:ir}(hm:FR sh o=true)(h:o.step call sh s aZ=some e):tX o.dst.toList s (s.app o.dst e):=by
 simp only[FR,ba]at hm;have hr:=bb hm.1;have key:∃v rd,e=.cu {val:=v,dD:=[],cT:=[],rd}:=by
  simp[bG.step]at h;split at h;.cases h
  .rw[hr]at h;exact TO hm.2 h
  .injection h with h;exact⟨_,_,h.symm⟩
 obtain⟨v,rd,rfl⟩:=key;refine⟨rfl,rfl,bd _,λk hk=>?_⟩;simp[St.app,oa];cases hd:o.dst with|none=>rfl|some n=>simp[dL,Tr.cD]<;>grind
def Ke{call:bS.Call}{sh:Nat->Bool}{mG:Nat}:∀{ops:List bG}{i:Nat}{s s':St},ops.all (FR sh)=true->jz call sh mG i ops s=some s'->tX (ops.flatMap λo=>o.dst.toList) s s'
 |[],_,s,s',_,h=>by cases h;exact tX.refl _ _|o::r,i,s,s',hm,h=>by
  simp only[fg,ba]at hm;simp[jz]at h;split at h;.cases h
  .rename_i e he;exact((Gi hm.1 he).mono λk hk=>by simp only[eQ,bm];exact .inl hk).trans ((Ke hm.2 h).mono λk hk=>by simp only[eQ,bm];exact .inr hk)
def Kf{call:bS.Call}{sh:Nat->Bool}{mG:Nat}:∀{ops:List bG}{i:Nat}{eH:List (Nat×ir)}{s s':St},ops.all (FR sh)=true->kf call sh mG i ops eH s=some s'->tX (ops.flatMap λo=>o.dst.toList) s s'
 |[],_,_,s,s',_,h=>by cases h;exact tX.refl _ _|o::r,i,eH,s,s',hm,h=>by
  simp only[fg,ba]at hm;simp[kf]at h;split at h;.cases h
  .rename_i e he;split at h;.exact((Gi hm.1 he).mono λk hk=>by simp only[eQ,bm];exact .inl hk).trans ((Kf hm.2 h).mono λk hk=>by simp only[eQ,bm];exact .inr hk)
   grind
def mP{call:bS.Call}{sh:Nat->Bool}:∀{n:Nat}{c:AC}{s s':St}{ax:AX},tK sh c=true->exec call sh n c s=some (ax,s')->tX (qS c) s s'|0,_,_,_,_,_,h=>by cases h|n+1,c,s,s',ax,hm,h=>by cases c with
 |skip=>cases h;exact tX.refl _ _|region ops draw=>simp only[exec]at h;cases hr:gA call sh ops draw s with|none=>grind|some t=>rw[hr]at h;cases h;cases draw with|false=>have g:=Ke hm hr;exact⟨g.mem,g.aO,by have:=g.nv;simp only at this;omega,g.slots⟩|true=>have g:=Kf hm hr;exact⟨g.mem,g.aO,by have:=g.nv;simp only at this;omega,g.slots⟩
 |seq a b=>
  simp[tK,ba]at hm;simp[exec]at h;split at h;.rename_i t ht;exact((mP hm.1 ht).mono λk hk=>by simp only[qS,bm];exact .inl hk).trans ((mP hm.2 h).mono λk hk=>by simp only[qS,bm];exact .inr hk)
  .exact(mP hm.1 h).mono λk hk=>by simp only[qS,bm];exact .inl hk|cond c a b=>
  simp[tK,ba]at hm;simp[exec]at h;split at h;.exact(mP hm.1 h).mono λk hk=>by simp only[qS,bm];exact .inl hk
  .exact(mP hm.2 h).mono λk hk=>by simp only[qS,bm];exact .inr hk
  grind|block=>cases hm|loop=>cases hm|exit=>cases hm|ret=>cases hm
def Gj:∀(l:List Nat)(t:Tr V2)(k:Nat)(v:V2),(JB l t).get? k=some v->¬k∈l/\t.get? k=some v|[],t,k,v,h=>⟨by simp,h⟩|n::r,t,k,v,h=>by obtain⟨h1,h2⟩:=Gj r _ k v h;rw[Tr.cD]at h2<;>grind
def Kg{ρ:bF}{B:Nat}{m:List (Tr E2)}{t:Ty}{c c':Cell}{x:t.den}{a:AV}(h:HJ t c=some x)(h':MB t x=some c')(hc:RC ρ B m c a):∀{ρ':bF}{B':Nat}{m':List (Tr E2)},RC ρ' B' m' c' a:=by
 unfold HJ at h;split at h
 .split at h;.rename_i e _;cases h;subst e;cases h';exact hc
  .cases h
 .cases h;cases h';exact hc
 .cases h;cases h';exact hc
 .cases h
def C9{t:Ty}{m:Nat}{ax:AX}{s2:S2}{x:t.den}(h:JC t m ax s2=some x):ax=.normal/\∃c,s2.slots.get? m=some (.c c)/\HJ t c=some x:=by unfold JC at h<;>grind
def Da{ρ:bF}{os:List (Tr AV)}{s2:S2}{s t:St}{l:List Nat}{m:Nat}{y:Cell}(hs:Bz ρ os s2 s)(hm:tX l s t)(hy:∀{ρ':bF}{B':Nat}{m':List (Tr E2)},RC ρ' B' m' y (dL t.slots m)):∃ρ',Bz ρ' os {s2 with slots:=(JB l s2.slots).set m (some (.c y))} t/\Fr ρ s2.nv s.nv ρ' s2.nv:=by
 let ρ':bF:=λv=>if v<s2.nv then ρ v else some (t.nv+(v-s2.nv));have hρ:∀v,v<s2.nv->ρ' v=ρ v:=λv hv=>be hv;have hρ2:∀v,s2.nv<=v->ρ' v=some (t.nv+(v-s2.nv)):=λv hv=>bi (by omega);have Cm:=hm.nv;refine⟨ρ',⟨λk v hk=>?_,hs.outer.mono λ_ _ h=>h.move (fS.refl _ _) (bd _) hρ,?_,λv hv=>?_,⟨λv u hv hu=>?_,λv hv=>hρ2 v hv,λv v' u hu mq=>?_⟩,bd _⟩,λv u hv hu=>.inl ⟨v,hv,by rw[<-hρ v hv];exact hu⟩⟩
 .rw[Tr.cD]at hk;split at hk;.subst_vars;cases hk;exact hy
  .obtain⟨h1,h2⟩:=Gj _ _ _ _ hk;rw[hm.slots k h1];exact(hs.slots k v h2).move (fS.refl _ _) (bd _) hρ
 .rw[hm.mem];refine⟨hs.mem.len,λlv sl e2 he=>?_⟩;obtain⟨e,h1,h2⟩:=hs.mem.gz lv sl e2 he;exact⟨e,h1,RE.mono (bd _) hρ (λ_ _=>RC.move (fS.refl _ _) (bd _) hρ) h2⟩
 .rw[hm.aO];obtain⟨h1,h2⟩:=hs.aO v hv<;>grind
 .rw[hρ v hv]at hu;have:=hs.av.low v u hv hu;omega
 .by_cases h1:v<s2.nv
  .rw[hρ v h1]at hu;by_cases h2:v'<s2.nv;.rw[hρ v' h2]at mq;exact hs.av.inj _ _ _ hu mq
   .simp_all;have:=hs.av.low v u h1 hu<;>omega
  .simp_all;by_cases h2:v'<s2.nv;.rw[hρ v' h2]at mq;have:=hs.av.low v' u h2 mq<;>omega
   grind
def HY(hE:az Fs E):∀n,MP Fs (walk E n)
 |0=>λ_ _ _ _ _ _ _ h=>by cases h|n+1=>by
  have ih:=HY hE n;intro α ctx i c s2 K r h ρ os s hs;simp[walk]at h;have meet:∀{outs:aW}{y:(p9 outs).den}{ax:AX}{t2:S2}{ρ':bF}{t:St},oB outs ax t2=some y->Bz ρ' os t2 t->Fr ρ s2.nv s.nv ρ' t2.nv->s.nv<=t.nv->qQ outs y K=some r->∃t3 ρ3,Bz ρ3 os t3 t/\Fr ρ s2.nv s.nv ρ3 t3.nv/\K ax t3=some r:=by intro outs y ax t2 ρ' t hy zd hfr hn hk;obtain⟨t3,ρ3,g1,g2,g3⟩:=BB zd hy;exact⟨t3,ρ3,g1,hfr.trans g2 hn,(g3 K).symm.trans hk⟩
  cases c with
  |skip=>exact⟨.normal,s2,ρ,s,⟨1,λk n _ hn=>by obtain⟨n,rfl⟩:∃q,n=q+1:=⟨n-1,by omega⟩;rfl⟩,hs,Fr.refl _ _ _,bd _,h⟩|exit id=>exact⟨.exit id,s2,ρ,s,⟨1,λk n _ hn=>by obtain⟨n,rfl⟩:∃q,n=q+1:=⟨n-1,by omega⟩;rfl⟩,hs,Fr.refl _ _ _,bd _,h⟩|ret=>exact⟨.ret,s2,ρ,s,⟨1,λk n _ hn=>by obtain⟨n,rfl⟩:∃q,n=q+1:=⟨n-1,by omega⟩;rfl⟩,hs,Fr.refl _ _ _,bd _,h⟩|region ops draw=>
   simp at h;split at h
   .rename_i m _;split at h
    .rename_i Db;have hsh:E.sh=BC Fs:=by funext g;simp[ai.sh,BC,hE.fns]
     rw[hsh]at Db;obtain⟨y,hy,h⟩:=bind_some h;obtain⟨s',⟨n0,qE⟩,ρ',s3,g2,g3,g4,g5⟩:=HX ih hE hy hs;obtain⟨_,c',Ew,g5⟩:=C9 g5;obtain⟨y',hy',h⟩:=aE h;obtain⟨ρ3,q1,q2⟩:=Da hs (mP (c:=.region ops draw) Db (qE n0 n0 (bd _) (bd _))) (Kg g5 hy' (show RC _ _ _ c' _ from g2.slots m.1 _ Ew));exact⟨.normal,_,ρ3,s',⟨n0,qE⟩,q1,q2,g4,h⟩
    grind
   split at h;.obtain⟨s',qE,ρ',s3,g2,g3,g4,g5⟩:=HX ih hE h hs<;>grind
   .obtain⟨y,hy,h⟩:=bind_some h;obtain⟨s',qE,ρ',s3,g2,g3,g4,g5⟩:=HX ih hE hy hs<;>grind|seq a b=>obtain⟨ax,t2,ρ',t,⟨n0,qE⟩,g2,g3,g4,g5⟩:=ih _ _ _ _ _ _ _ h _ _ _ hs;cases ax with|normal=>obtain⟨ax',t3,ρ3,t',⟨n1,ajm⟩,q2,q3,q4,q5⟩:=ih _ _ _ _ _ _ _ g5 _ _ _ g2;refine⟨ax',t3,ρ3,t',⟨max n0 n1+1,λk m hk hm=>?_⟩,q2,g3.trans q3 g4,nb g4 q4,q5⟩;obtain⟨m,rfl⟩:∃q,m=q+1:=⟨m-1,by omega⟩;simp[exec,qE k m (by omega) (by omega)]<;>grind|exit id=>refine⟨.exit id,t2,ρ',t,⟨n0+1,λk m hk hm=>?_⟩,g2,g3,g4,g5⟩;obtain⟨m,rfl⟩:∃q,m=q+1:=⟨m-1,by omega⟩;simp[exec,qE k m (by omega) (by omega)]|ret=>refine⟨.ret,t2,ρ',t,⟨n0+1,λk m hk hm=>?_⟩,g2,g3,g4,g5⟩;obtain⟨m,rfl⟩:∃q,m=q+1:=⟨m-1,by omega⟩;simp[exec,qE k m (by omega) (by omega)]
  |cond c a b=>
   have way:∀{β:Type}{K':AX->S2->Option β}{r':β},(xI (jV s2 c) λt=>cond t (walk E n β ctx (i+1) a (vR s2 c true) K') (walk E n β ctx (i+1+vQ a) b (vR s2 c false) K'))=some r'->
     ∃ax t2 ρ' t,Ev Fs (.cond c a b) s (ax,t)/\Bz ρ' os t2 t/\Fr ρ s2.nv s.nv ρ' t2.nv/\s.nv<=t.nv/\K' ax t2=some r':=by intro β K' r' h;obtain⟨t,ht,h⟩:=rY h;have hb:=rZ (bx hs.slots ht);cases t with|true=>
     have Cm:(vR s2 c true).nv=s2.nv:=by cases c<;>rfl
     obtain⟨ax,t2,ρ',t,⟨n0,qE⟩,g2,g3,g4,g5⟩:=ih _ _ _ _ _ _ _ h _ _ _ (hs.vR hb);rw[Cm]at g3;refine⟨ax,t2,ρ',t,⟨n0+1,λk m hk hm=>?_⟩,g2,g3,g4,g5⟩;obtain⟨m,rfl⟩:∃q,m=q+1:=⟨m-1,by omega⟩;simp[exec,hb]<;>grind|false=>
     have Cm:(vR s2 c false).nv=s2.nv:=by cases c<;>rfl
     obtain⟨ax,t2,ρ',t,⟨n0,qE⟩,g2,g3,g4,g5⟩:=ih _ _ _ _ _ _ _ h _ _ _ (hs.vR hb);rw[Cm]at g3;refine⟨ax,t2,ρ',t,⟨n0+1,λk m hk hm=>?_⟩,g2,g3,g4,g5⟩;obtain⟨m,rfl⟩:∃q,m=q+1:=⟨m-1,by omega⟩;simp[exec,hb]<;>grind
   simp at h;split at h
   .rename_i m _;split at h
    .rename_i Db;simp at Db;have hsh:E.sh=BC Fs:=by funext g;simp[ai.sh,BC,hE.fns]
     rw[hsh]at Db;obtain⟨y,hy,h⟩:=bind_some h;obtain⟨ax,t2,ρ',t,⟨n0,qE⟩,g2,g3,g4,g5⟩:=way hy;obtain⟨rfl,c',Ew,g5⟩:=C9 g5;obtain⟨y',hy',h⟩:=aE h;have hmd:tK (BC Fs) (.cond c a b)=true:=by simp[tK,Db.1,Db.2,lA]
     obtain⟨ρ3,q1,q2⟩:=Da hs (mP hmd (qE n0 n0 (bd _) (bd _))) (Kg g5 hy' (show RC _ _ _ c' _ from g2.slots m.1 _ Ew));exact⟨.normal,_,ρ3,t,⟨n0,qE⟩,q1,q2,g4,h⟩
    grind
   .split at h;.exact way h
    .obtain⟨y,hy,h⟩:=bind_some h;obtain⟨ax,t2,ρ',t,qE,g2,g3,g4,g5⟩:=way hy<;>grind|block id c=>
   have way:∀{β:Type}{K':AX->S2->Option β}{r':β},(walk E n β ctx (i+1) c s2 λax s'=>match ax with
      |.exit id'=>match Nat.beq id' id with|true=>K' .normal s'|false=>K' (.exit id') s'
      |ax=>K' ax s')=some r'->∃ax t2 ρ' t,Ev Fs (.block id c) s (ax,t)/\Bz ρ' os t2 t/\Fr ρ s2.nv s.nv ρ' t2.nv/\s.nv<=t.nv/\K' ax t2=some r':=by intro β K' r' h;obtain⟨ax,t2,ρ',t,⟨n0,qE⟩,g2,g3,g4,g5⟩:=ih _ _ _ _ _ _ _ h _ _ _ hs;cases ax with|normal=>refine⟨.normal,t2,ρ',t,⟨n0+1,λk m hk hm=>?_⟩,g2,g3,g4,g5⟩;obtain⟨m,rfl⟩:∃q,m=q+1:=⟨m-1,by omega⟩;simp[exec,qE k m (by omega) (by omega)]|ret=>refine⟨.ret,t2,ρ',t,⟨n0+1,λk m hk hm=>?_⟩,g2,g3,g4,g5⟩;obtain⟨m,rfl⟩:∃q,m=q+1:=⟨m-1,by omega⟩;simp[exec,qE k m (by omega) (by omega)]|exit id'=>simp at g5;cases hb:Nat.beq id' id with|true=>rw[hb]at g5;refine⟨.normal,t2,ρ',t,⟨n0+1,λk m hk hm=>?_⟩,g2,g3,g4,g5⟩;obtain⟨m,rfl⟩:∃q,m=q+1:=⟨m-1,by omega⟩;simp[exec,qE k m (by omega) (by omega),hb]|false=>rw[hb]at g5;refine⟨.exit id',t2,ρ',t,⟨n0+1,λk m hk hm=>?_⟩,g2,g3,g4,g5⟩;obtain⟨m,rfl⟩:∃q,m=q+1:=⟨m-1,by omega⟩;simp[exec,qE k m (by omega) (by omega),hb]
   simp at h;split at h;.exact way h
   .obtain⟨y,hy,h⟩:=bind_some h;obtain⟨ax,t2,ρ',t,qE,g2,g3,g4,g5⟩:=way hy<;>grind|loop c=>
   simp at h;split at h;.obtain⟨ax,t2,ρ',t,⟨n0,qE⟩,g2,g3,g4,g5⟩:=ih _ _ _ _ _ _ _ h _ _ _ hs;cases ax with|normal=>obtain⟨ax',t3,ρ3,t',⟨n1,ajm⟩,q2,q3,q4,q5⟩:=ih _ _ _ _ _ _ _ g5 _ _ _ g2;refine⟨ax',t3,ρ3,t',⟨max n0 n1+1,λk m hk hm=>?_⟩,q2,g3.trans q3 g4,nb g4 q4,q5⟩;obtain⟨m,rfl⟩:∃q,m=q+1:=⟨m-1,by omega⟩;simp[exec,qE k m (by omega) (by omega)]<;>grind|exit id=>refine⟨.exit id,t2,ρ',t,⟨n0+1,λk m hk hm=>?_⟩,g2,g3,g4,g5⟩;obtain⟨m,rfl⟩:∃q,m=q+1:=⟨m-1,by omega⟩;simp[exec,qE k m (by omega) (by omega)]|ret=>refine⟨.ret,t2,ρ',t,⟨n0+1,λk m hk hm=>?_⟩,g2,g3,g4,g5⟩;obtain⟨m,rfl⟩:∃q,m=q+1:=⟨m-1,by omega⟩;simp[exec,qE k m (by omega) (by omega)]
   obtain⟨L,hL,h⟩:=aE h;obtain⟨ds,hd,h⟩:=aE h;obtain⟨x,hx,h⟩:=aE h;obtain⟨y,hy,h⟩:=bind_some h;obtain⟨t2,ρ',g1,g2,g3⟩:=BA hd hs;obtain⟨ax,t3,ρ3,t,q1,q2,q3,q4,q5⟩:=hE.loops ctx _ c L hL x y hy t2 (by rw[dU hx];exact g1) _ _ _ g2;exact⟨ax,t3,ρ3,t,q1,q2,g3.trans q3 (bd _),q4,(q5 K).symm.trans h⟩
def ON(hE:az Fs E)(N ctx i:Nat)(body:AC)(T:aX)(outs:aW):∀k,TF Fs body ⟨T,outs,Ou (CK E N ctx i body T outs) k⟩
 |0=>λx y h=>by cases h|k+1=>by
  have ih:=ON hE N ctx i body T outs k;intro x y h s2 hst ρ os s hs;obtain⟨s2',ajn,h⟩:=aE h;rw[hst]at ajn;cases ajn;obtain⟨ax,t2,ρ',t,⟨n0,qE⟩,g2,g3,g4,g5⟩:=HY hE N _ _ _ _ _ _ _ h _ _ _ hs;have leave:∀{ax:AX},ax≠.normal->Ev Fs body s (ax,t)->oB outs ax t2=some y->∃ax s2' ρ' s',Ev Fs (.loop body) s (ax,s')/\Bz ρ' os s2' s'/\Fr ρ s2.nv s.nv ρ' s2'.nv/\s.nv<=s'.nv/\∀{α:Type}(K:AX->S2->Option α),qQ outs y K=K ax s2':=by rintro ax Tf⟨n0,qE⟩hy;obtain⟨t3,ρ3,q1,q2,q3⟩:=BB g2 hy;refine⟨ax,t3,ρ3,t,⟨n0+1,λk m hk hm=>?_⟩,q1,g3.trans q2 g4,g4,q3⟩;obtain⟨m,rfl⟩:∃q,m=q+1:=⟨m-1,by omega⟩;simp[exec,qE k m (by omega) (by omega)]<;>grind
  cases ax with|normal=>obtain⟨ds,hd,g5⟩:=aE g5;obtain⟨x',hx,g5⟩:=aE g5;obtain⟨t3,ρ3,q1,q2,q3⟩:=BA hd g2;obtain⟨ax',t4,ρ4,t',⟨n1,ajm⟩,w2,w3,w4,w5⟩:=ih x' y g5 t3 (by simp only;rw[dU hx];exact q1) _ _ _ q2;refine⟨ax',t4,ρ4,t',⟨max n0 n1+1,λk m hk hm=>?_⟩,w2,(g3.trans q3 g4).trans w3 g4,nb g4 w4,w5⟩;obtain⟨m,rfl⟩:∃q,m=q+1:=⟨m-1,by omega⟩;simp[exec,qE k m (by omega) (by omega)]<;>grind|exit id=>exact leave (λh=>by cases h) ⟨n0,qE⟩ g5|ret=>exact leave (λh=>by cases h) ⟨n0,qE⟩ g5
def Zw(x:Cell):ZG 0 x=true:=by cases x<;>first|rfl|exact Nat.ble_eq.2 (yi _)
def Z6{ρ:bF}{B:Nat}{m2:List (Tr E2)}{m:List (Tr bM)}(hm:MR ρ B m2 m){top k lv sl av:Nat}{c:iB}{x x':Cell}{ks:List (Nat×Nat)}{a:AV}{d:List gr}(hh:ZG top x=true)(h:Mw m2 x=some (x',ks))(hd:uT c x'=some d)(hx:RC ρ B m2 x a):∃y x2,bC m top 0 k lv sl av a=some (.d y,[])/\(∀rest,c.fill (d++rest)=some (x2,rest))/\∀(ρ:bF)(B:Nat)(m:List (Tr E2)),RC ρ B m x2 (.d y):=by
 have imp:∃y,pE x'=some y/\bC m top 0 k lv sl av a=some (.d y,[]):=by
  unfold Mw at h;split at h;.cases h;cases hx;exact⟨_,rfl,rfl⟩
  .cases h;cases hx;exact⟨_,rfl,rfl⟩
  .cases h;cases hx;exact⟨_,rfl,rfl⟩
  .cases h;cases hx;exact⟨_,rfl,rfl⟩
  .cases h;rcases(iD (m:=m) hx).2with rfl|⟨o,ho,rfl⟩;.exact⟨_,rfl,rfl⟩
   .exact⟨_,rfl,xT ho⟩
  .cases h
  .rename_i t l o hne;cases h;rcases(jk (m:=m) hx).2.2 (λe=>hne e)with rfl|⟨o',ho,rfl⟩;.exact⟨_,rfl,rfl⟩
   .exact⟨_,rfl,xT ho⟩
  .split at h;.rename_i r hr;cases h;have he:=nH hm hx hr;obtain⟨_,u,n,hu,rfl,hn⟩:=hx;refine⟨_,rfl,?_⟩;simp only[ZG]at hh;simp[bC,he,hh,beq_true.2 rfl]
   grind
  .split at h;.rename_i r hr;cases h;have he:=kz hm hx hr (hx.2.choose_spec.2.2 r hr);obtain⟨_,u,hu,rfl,hn⟩:=hx;refine⟨_,rfl,?_⟩;simp only[ZG]at hh;simp[bC,he,hh,beq_true.2 rfl]
   grind
  grind
 obtain⟨y,h1,h2⟩:=imp;obtain⟨x2,h3,h4⟩:=HU hd h1<;>simp_all
def Dc{ρ:bF}{B:Nat}{m2:List (Tr E2)}{m:List (Tr bM)}(hm:MR ρ B m2 m){top lv sl av:Nat}:∀{cs:List iB}{xs xs':List Cell}{ks:List (Nat×Nat)}{aU:List AV}{d:List gr}{k:Nat},(∀x∈xs,ZG top x=true)->nK m2 xs=some (xs',ks)->gH cs xs'=some d->aI (RC ρ B m2) xs aU->∃as' zf,dR m top 0 lv sl av k aU=some (as',[])/\(∀rest,dK cs (d++rest)=some (zf,rest))/\as'.all Sj=true/\∀(ρ:bF)(B:Nat)(m:List (Tr E2)),aI (RC ρ B m) zf as'
 |cs,[],xs',ks,aU,d,k,_,h,hd,ha=>by cases h;match aU,ha with|[],_=>match cs,hd with|[],hd=>cases hd;exact⟨[],[],rfl,λ_=>rfl,rfl,λ_ _ _=>trivial⟩
 |cs,x::xs,xs',ks,aU,d,k,hh,h,hd,ha=>by
  simp[nK]at h;split at h;.rename_i y k1 ys k2 h1 h2;cases h;match aU,ha with|a::aU,ha=>match cs,hd with
   |[],hd=>simp[gH]at hd|c::cs,hd=>
    simp[gH]at hd;split at hd;.rename_i d1 d2 h5 h6;cases hd;obtain⟨a',x2,g1,g2,g3⟩:=Z6 hm (k:=k) (lv:=lv) (sl:=sl) (av:=av) (hh x ci) h1 h5 ha.1;obtain⟨as',zf,g4,g5,g7,g6⟩:=Dc hm (lv:=lv) (sl:=sl) (av:=av) (k:=k+1) (λx hx=>hh x (dp _ hx)) h2 h6 ha.2;exact⟨.d a'::as',x2::zf,by simp only[dR,g1,g4,dv],λrest=>by simp only[dK,bj,g2,g5],by rw[fg,g7];rfl,λρ B m=>⟨g3 _ _ _,g6 _ _ _⟩⟩
    grind
  grind
def Z7{ρ:bF}{B:Nat}{m2:List (Tr E2)}{m:List (Tr bM)}(hm:MR ρ B m2 m){top lv sl av k:Nat}{b:Bool}{cs:List iB}{xs xs':List Cell}{ks:List (Nat×Nat)}{a:AV}{d:List gr}(hh:∀x∈xs,ZG top x=true)(h:nK m2 xs=some (xs',ks))(hd:gH cs xs'=some d)(ha:R1 ρ B m2 (b,xs) a):∃a' zf,mF m top 0 lv sl av k a=some (a',[])/\(∀rest,dK cs (d++rest)=some (zf,rest))/\GS a'=true/\∀(ρ:bF)(B:Nat)(m:List (Tr E2)),R1 ρ B m (b,zf) a':=by cases b with|true=>obtain⟨aU,rfl,ha⟩:=ha;obtain⟨as',zf,g1,g2,g4,g3⟩:=Dc hm (k:=k) (lv:=lv) (sl:=sl) (av:=av) hh h hd ha;exact⟨.agg as',zf,by simp only[mF,g1,cf],g2,g4,λρ B m=>⟨as',rfl,g3 _ _ _⟩⟩|false=>
 obtain⟨c,rfl,ha⟩:=ha;obtain⟨as',zf,g1,g2,g0,g3⟩:=Dc hm (k:=k) (lv:=lv) (sl:=sl) (av:=av) (aU:=[a]) hh h hd ⟨ha,trivial⟩;simp[dR]at g1;have hc:=RC.cell ha;split at g1;.rename_i y u ys us h1 h2;cases h2;injection g1 with g1;injection g1 with g4 g5;subst g4;simp at g5;subst g5;have hx:=g3 ρ B m2;match zf,hx with|[x2],_=>refine⟨y,[x2],?_,g2,(by cases y<;>first|rfl|cases g0),λρ B m=>⟨x2,rfl,(g3 ρ B m).1⟩⟩;cases a<;>first|exact h1|cases hc.2.1
 grind
def Gk{ρ:bF}{B:Nat}{m2:List (Tr E2)}{m:List (Tr bM)}(hm:MR ρ B m2 m){top lv sl av:Nat}:∀{res:List (Bool×List iB)}{vs:List (Bool×List Cell)}{aU:List AV}{ds:List gr}{k:Nat},(∀v∈vs,∀x∈v.2,ZG top x=true)->mK m2 res vs=some ds->aI (R1 ρ B m2) vs aU->∃as' ws,gx m top 0 lv sl av k aU=some (as',[])/\(∀rest,oA res (ds++rest)=some (ws,rest))/\ws.length=aU.length/\as'.all GS=true/\∀(ρ:bF)(B:Nat)(m:List (Tr E2)),aI (R1 ρ B m) ws as'
 |[],[],aU,ds,k,_,h,ha=>by cases h;match aU,ha with|[],_=>exact⟨[],[],rfl,λ_=>rfl,rfl,rfl,λ_ _ _=>trivial⟩
 |(a,l)::ps,(b,cs)::vs,aU,ds,k,hh,h,ha=>by
  simp[mK]at h;split at h
  .rename_i cs' ks ds2 hab hf hr;obtain⟨d,hd,rfl⟩:=aV h;have hab:a=b:=by grind
   subst hab;match aU,ha with|x::aU,ha=>obtain⟨a',zf,g1,g2,g8,g3⟩:=Z7 hm (k:=k) (lv:=lv) (sl:=sl) (av:=av) (hh _ ci) hf hd ha.1;obtain⟨as',ws,g4,g5,g6,g9,g7⟩:=Gk hm (lv:=lv) (sl:=sl) (av:=av) (k:=k+64) (λv hv=>hh v (dp _ hv)) hr ha.2;exact⟨a'::as',(a,zf)::ws,by simp only[gx,g1,g4,dv],λrest=>by simp only[oA,bj,g2,g5],by simp[g6],by rw[fg,g8,g9];rfl,λρ B m=>⟨g3 _ _ _,g7 _ _ _⟩⟩
  grind|[],_::_,_,_,_,_,h,_=>by simp[mK]at h|_::_,[],_,_,_,_,h,_=>by simp[mK]at h
def Z8{ρ:bF}{B:Nat}{m2:List (Tr E2)}{m:List (Tr bM)}(hm:MR ρ B m2 m){top lv sl av:Nat}{res:List (Bool×List iB)}{vs:List (Bool×List Cell)}{aU:List AV}{ds:List gr}(hh:∀v∈vs,∀x∈v.2,ZG top x=true)(h:mK m2 res vs=some ds)(ha:aI (R1 ρ B m2) vs aU){ws:List (Bool×List Cell)}{w:V2}(hw:oA res ds=some (ws,[]))(ht:qP ws=some w):∃a',jc m top 0 lv sl av (jq aU)=some (a',[])/\adq a'=true/\∀(ρ:bF)(B:Nat)(m:List (Tr E2)),RV ρ B m w a':=by obtain⟨as',EA,g1,g2,g3,g0,g4⟩:=Gk hm (lv:=lv) (sl:=sl) (av:=av) (k:=1) hh h ha;have ER:=g2 [];rw[dv,hw]at ER;cases ER;match aU,ha,g1,g3 with
 |[],_,g1,g3=>match ws,g3 with|[],_=>cases ht;exact⟨.jU [],rfl,rfl,λ_ _ _=>⟨[],rfl,trivial⟩⟩
 |[a],ha,g1,g3=>match ws,g3 with
  |[(b,cs)],_=>
   simp[gx]at g1;split at g1
   .rename_i y u ys us h1 h2;cases h2;injection g1 with g1;injection g1 with g5 g6;subst g5;simp at g6;subst g6;simp at g0;refine⟨y,?_,(by cases y<;>first|exact g0|cases g0),λρ B m=>?_⟩;.match vs,ha with|[(b',cs')],ha=>have hn:=R1.gy ha.1;cases a<;>first|exact h1|cases hn
    .have hx:=(g4 ρ B m).1;cases b with|true=>obtain⟨bs,rfl,g7⟩:=hx;cases ht;exact⟨bs,rfl,g7⟩|false=>obtain⟨c,rfl,g7⟩:=hx;cases ht;exact g7
   grind
 |a::b::aU,ha,g1,g3=>match ws,g3 with|x::y::ws,_=>cases ht;exact⟨.jU as',by simp only[jq,jc,g1,cf],g0,λρ B m=>⟨as',rfl,g4 _ _ _⟩⟩
def TP{ρ:bF}{B:Nat}{m2:List (Tr E2)}{m:List (Tr bM)}(hm:MR ρ B m2 m){k lv sl av p row rk:Nat}(h0:rk≠0)(Gl:row%65536=rk)(qv:row/65536≠0)(AA:row%65536≠65535){c:iB}{x x':Cell}{ks:List (Nat×Nat)}{a:AV}{d:List gr}(hk:MA m2 rk k x=true)(h:Mw m2 x=some (x',ks))(hd:uT c x'=some d)(hx:RC ρ B m2 x a):∃x2,(∀rest,c.fill (d++rest)=some (x2,rest))/\∀x3 us,FL rk lv sl av k x2=some (x3,us)->(∀u∈us,row/65536=u.t.size)->∃a',bC m 0 row k lv sl p a=some (a',us.map λu=>bB u.t u.l)/\∀(ρ:bF)(B:Nat)(m:List (Tr E2)),lJ ρ B m lv sl av p us->RC ρ B m x3 a':=by
 have hrow:Nat.beq row 0=false:=beq_false.2 (by intro e;subst e;simp at qv);have hsz:(!Nat.beq (row/65536) 0)=true:=by rw[beq_false.2 qv];rfl
 have fin:∀{y:D},pE x'=some y->∃x2,(∀rest,c.fill (d++rest)=some (x2,rest))/\∀(ρ:bF)(B:Nat)(m:List (Tr E2)),RC ρ B m x2 (.d y):=by
  intro y hy;unfold uT at hd;split at hd
  .split at hd;.cases hd;cases hy;exact⟨_,λ_=>rfl,λ_ _ _=>rfl⟩
   .cases hd
  .cases hd;cases hy;exact⟨_,λ_=>rfl,λ_ _ _=>rfl⟩
  .cases hd;cases hy;exact⟨_,λ_=>rfl,λ_ _ _=>rfl⟩
  .cases hd;cases hy;exact⟨_,λ_=>rfl,λ_ _ _=>.inl rfl⟩
  .cases hd;cases hy;exact⟨_,λ_=>rfl,λ_ _ _=>.inl rfl⟩
  .cases hd
 have off:k≠rk->(∃y,pE x'=some y/\bC m 0 row k lv sl p a=some (.d y,[]))->∃x2,(∀rest,c.fill (d++rest)=some (x2,rest))/\∀x3 us,FL rk lv sl av k x2=some (x3,us)->(∀u∈us,row/65536=u.t.size)->∃a',bC m 0 row k lv sl p a=some (a',us.map λu=>bB u.t u.l)/\∀(ρ:bF)(B:Nat)(m:List (Tr E2)),lJ ρ B m lv sl av p us->RC ρ B m x3 a':=by rintro hne⟨y,h1,h2⟩;obtain⟨x2,h3,h4⟩:=fin h1;refine⟨x2,h3,λx3 us hp _=>?_⟩;simp[FL,beq_false.2 hne,fj,fi]at hp;obtain⟨rfl,rfl⟩:=hp;exact⟨_,h2,λ_ _ _ _=>h4 _ _ _⟩
 have nk:(!Nat.beq k rk)=true->k≠rk:=by intro h e;rw[e,beq_true.2 rfl]at h;cases h
 have abV:pW 0 row=false:=by unfold pW;cases Nat.beq row 0<;>rfl
 have own:k≠rk->∀{els:List (List D)}{o:YT},o≠.aY->bC m 0 row k lv sl p (.own els o)=some (.d (.sl els),[]):=by intro hne els o ho;cases o with|aY=>exact absurd rfl ho|cT=>simp[bC,abV]|full=>simp[bC,Gl,beq_false.2 hne,i6,abV,beq_false.2 (show rk≠65535by rw[<-Gl];exact AA),Hd]
 unfold Mw at h;split at h;.cases h;cases hx;exact off (nk hk) ⟨_,rfl,rfl⟩
 .cases h;cases hx;exact off (nk hk) ⟨_,rfl,rfl⟩
 .cases h;cases hx;exact off (nk hk) ⟨_,rfl,rfl⟩
 .cases h;cases hx;exact off (nk hk) ⟨_,rfl,rfl⟩
 .rename_i f;cases h;cases f with|false=>
   rcases(iD (m:=m) hx).2with rfl|⟨o,ho,rfl⟩;.exact off (nk hk) ⟨_,rfl,rfl⟩
   .exact off (nk hk) ⟨_,rfl,own (nk hk) ho⟩|true=>
   subst hx;by_cases hne:k=rk
   .subst hne;have hc:∃t,c=.sl t .d/\d=[⟨.sl t,[]⟩]:=by cases c with
     |sl t o=>cases o<;>first|(injection hd with hd;exact⟨t,rfl,hd.symm⟩)|cases hd
     |_=>cases hd
    obtain⟨t,rfl,rfl⟩:=hc
    .refine⟨.sl t [] .d,λ_=>rfl,λx3 us hp hu=>?_⟩;simp[FL,beq_true.2 rfl,fj,fi]at hp;obtain⟨rfl,rfl⟩:=hp;have hu:=hu _ (ca.2 rfl);refine⟨.ref lv sl p 0 0 (row/65536),?_,λρ B m hf=>⟨hf.1,p,0,hf.2.1,by rw[hu],λr hr=>?_⟩⟩;.simp[bC,Gl,hsz,beq_true.2 rfl,lA];rfl
     .have:=hf.2.2 _ (ca.2 rfl) r hr;simpa using this.symm
   .exact off hne ⟨_,rfl,own hne (λh=>by cases h)⟩
 .cases h
 .rename_i t l o hne;cases h;rcases(jk (m:=m) hx).2.2 (λe=>hne e)with rfl|⟨o',ho,rfl⟩;.exact off (nk hk) ⟨_,rfl,rfl⟩
  .exact off (nk hk) ⟨_,rfl,own (nk hk) ho⟩
 .rename_i cV dy gU t;split at h
  .rename_i r hr;cases h;have he:=nH hm hx hr;obtain⟨_,u,n,hu,rfl,hn⟩:=hx;simp only[MA,hr,ba]at hk;obtain⟨hk1,hk2⟩:=hk;have hk1:=beq_true.1 hk1;have hk2:=beq_true.1 hk2;subst hk1;obtain⟨e,g1,g2⟩:=hm.gz _ _ _ (cR hr);obtain⟨_,u',g3,rfl⟩:=g2;rw[hu]at g3;cases g3;have hat:bS.rowAt m cV dy u=some (bB r.t r.l):=by unfold bS.rowAt;rw[g1];simp[beq_true.2 rfl]
   have hc:∃t0,c=.sl t0 .d/\d=[⟨.sl r.t,r.l⟩]:=by cases c with
    |sl t o=>cases o<;>first|(injection hd with hd;exact⟨t,rfl,hd.symm⟩)|cases hd
    |_=>cases hd
   obtain⟨t0,rfl,rfl⟩:=hc
   .refine⟨.sl r.t r.l .d,λ_=>rfl,λx3 us hp hu=>?_⟩;simp[FL,beq_true.2 rfl,fj,fi]at hp;obtain⟨rfl,rfl⟩:=hp;refine⟨.ref lv sl p 0 n t.size,?_,λρ B m hf=>⟨hf.1,p,n,hf.2.1,by rw[hk2],λr' hr'=>?_⟩⟩;.simp[bC,he,hrow,Gl,beq_true.2 rfl,hat];rfl
    .rw[hf.2.2 _ (ca.2 rfl) r' hr'];exact hn r hr
  .cases h
 .cases hk
 .cases h
def zg{ρ:bF}{B:Nat}{m2:List (Tr E2)}{m:List (Tr bM)}(hm:MR ρ B m2 m){lv sl av p row rk:Nat}(h0:rk≠0)(Gl:row%65536=rk)(qv:row/65536≠0)(AA:row%65536≠65535):∀{cs:List iB}{xs xs':List Cell}{ks:List (Nat×Nat)}{aU:List AV}{d:List gr}{k:Nat},ZH m2 rk k xs=true->nK m2 xs=some (xs',ks)->gH cs xs'=some d->aI (RC ρ B m2) xs aU->∃zf,(∀rest,dK cs (d++rest)=some (zf,rest))/\∀IP us,tJ rk lv sl av k zf=some (IP,us)->(∀u∈us,row/65536=u.t.size)->∃as',dR m 0 row lv sl p k aU=some (as',us.map λu=>bB u.t u.l)/\∀(ρ:bF)(B:Nat)(m:List (Tr E2)),lJ ρ B m lv sl av p us->aI (RC ρ B m) IP as'
 |cs,[],xs',ks,aU,d,k,_,h,hd,ha=>by cases h;match aU,ha with|[],_=>match cs,hd with|[],hd=>cases hd;refine⟨[],λ_=>rfl,λIP us hp _=>?_⟩;cases hp;exact⟨[],rfl,λ_ _ _ _=>trivial⟩|_::_,hd=>simp[gH]at hd
 |cs,x::xs,xs',ks,aU,d,k,hk,h,hd,ha=>by
  simp[ZH,ba]at hk;simp[nK]at h;split at h;.rename_i y k1 ys k2 h1 h2;cases h;match aU,ha with|a::aU,ha=>match cs,hd with
   |[],hd=>simp[gH]at hd|c::cs,hd=>
     simp[gH]at hd;split at hd
     .rename_i d1 d2 h5 h6;cases hd;obtain⟨x2,g2,g3⟩:=TP hm (k:=k) (lv:=lv) (sl:=sl) (av:=av) (p:=p) h0 Gl qv AA hk.1 h1 h5 ha.1;obtain⟨zf,g5,g6⟩:=zg hm (lv:=lv) (sl:=sl) (av:=av) (p:=p) h0 Gl qv AA (k:=k+1) hk.2 h2 h6 ha.2;refine⟨x2::zf,λrest=>by simp only[dK,bj,g2,g5],λIP us hp hu=>?_⟩;simp[tJ]at hp;split at hp;.rename_i z u1 zs u2 p1 p2;cases hp;obtain⟨a',q1,q2⟩:=g3 _ _ p1 (λu h=>hu u (dt _ h));obtain⟨as',q3,q4⟩:=g6 _ _ p2 (λu h=>hu u (du _ h));exact⟨a'::as',by simp only[dR,q1,q3,fx],λρ B m hf=>⟨q2 _ _ _ ⟨hf.1,hf.2.1,λu h=>hf.2.2 u (dt _ h)⟩,q4 _ _ _ ⟨hf.1,hf.2.1,λu h=>hf.2.2 u (du _ h)⟩⟩⟩
      grind
     grind
  grind
def Qz{m:List (Tr bM)}{row lv sl p k:Nat}{a:AV}(h:jX a=true)(h2:bS.gy a=true):mF m 0 row lv sl p k a=bC m 0 row k lv sl p a:=by cases a<;>first|rfl|cases h
def Dd{ρ:bF}{B:Nat}{m2:List (Tr E2)}{m:List (Tr bM)}(hm:MR ρ B m2 m){lv sl av p row rk:Nat}(h0:rk≠0)(Gl:row%65536=rk)(qv:row/65536≠0)(AA:row%65536≠65535):∀{res:List (Bool×List iB)}{vs:List (Bool×List Cell)}{aU:List AV}{ds:List gr}{k:Nat},FK m2 rk k vs=true->mK m2 res vs=some ds->aI (R1 ρ B m2) vs aU->∃ws,(∀rest,oA res (ds++rest)=some (ws,rest))/\ws.length=aU.length/\∀EA us,FM rk lv sl av k ws=some (EA,us)->(∀u∈us,row/65536=u.t.size)->∃as',gx m 0 row lv sl p k aU=some (as',us.map λu=>bB u.t u.l)/\EA.length=aU.length/\∀(ρ:bF)(B:Nat)(m:List (Tr E2)),lJ ρ B m lv sl av p us->aI (R1 ρ B m) EA as'
 |[],[],aU,ds,k,_,h,ha=>by cases h;match aU,ha with|[],_=>refine⟨[],λ_=>rfl,rfl,λEA us hp _=>?_⟩;cases hp;exact⟨[],rfl,rfl,λ_ _ _ _=>trivial⟩
 |(a,l)::ps,(b,cs)::vs,aU,ds,k,hk,h,ha=>by
  simp[FK,ba]at hk;simp[mK]at h;split at h
  .rename_i cs' ks ds2 hab hf hr;obtain⟨d,hd,rfl⟩:=aV h;have hab:a=b:=by grind
   subst hab;match aU,ha with
   |x::aU,ha=>
    obtain⟨ws,g5,g6,g7⟩:=Dd hm (lv:=lv) (sl:=sl) (av:=av) (p:=p) h0 Gl qv AA (k:=k+64) hk.2 hr ha.2;have one:∃zf,(∀rest,dK l (d++rest)=some (zf,rest))/\∀IP us,tJ rk lv sl av k zf=some (IP,us)->(∀u∈us,row/65536=u.t.size)->∃a',mF m 0 row lv sl p k x=some (a',us.map λu=>bB u.t u.l)/\∀(ρ:bF)(B:Nat)(m:List (Tr E2)),lJ ρ B m lv sl av p us->R1 ρ B m (a,IP) a':=by cases a with|true=>obtain⟨as2,rfl,ha2⟩:=ha.1;obtain⟨zf,q1,q2⟩:=zg hm (k:=k) (lv:=lv) (sl:=sl) (av:=av) (p:=p) h0 Gl qv AA hk.1 hf hd ha2;refine⟨zf,q1,λIP us hp hu=>?_⟩;obtain⟨as',q3,q4⟩:=q2 IP us hp hu;exact⟨.agg as',by simp only[mF,q3,cf],λρ B m hf=>⟨as',rfl,q4 _ _ _ hf⟩⟩|false=>
      obtain⟨c,rfl,ha2⟩:=ha.1;obtain⟨zf,q1,q2⟩:=zg hm (k:=k) (lv:=lv) (sl:=sl) (av:=av) (p:=p) h0 Gl qv AA (aU:=[x]) hk.1 hf hd ⟨ha2,trivial⟩;refine⟨zf,q1,λIP us hp hu=>?_⟩;obtain⟨as',q3,q4⟩:=q2 IP us hp hu;have hc:=RC.cell ha2;simp[dR]at q3;split at q3
      .rename_i y u ys us' h1 h2;cases h2;simp at q3;obtain⟨rfl,rfl⟩:=q3;have hlen:∃x3,IP=[x3]:=by
        have hq:=q1 [];have h1:∀{l:List iB}{d:List gr}{xs:List Cell},dK l d=some (xs,[])->xs.length=l.length:=by intro l;induction l with|nil=>intro d xs h;cases h;rfl|cons c l ih=>intro d xs h;simp[dK]at h<;>grind
        have h2:∀{k:Nat}{xs IP:List Cell}{us:List SL},tJ rk lv sl av k xs=some (IP,us)->IP.length=xs.length:=by intro k xs;induction xs generalizing k with|nil=>intro IP us h;simp[tJ,fj,fi]at h<;>grind|cons c l ih=>intro IP us h;simp[tJ]at h<;>grind
        have h3:l.length=1:=by
         have xl:∀{cs:List iB}{xs:List Cell}{d:List gr},gH cs xs=some d->cs.length=xs.length:=by intro cs;induction cs with
          |nil=>intro xs d h;cases xs with|nil=>rfl|cons _ _=>simp[gH]at h
          |cons c cs ih=>intro xs d h;cases xs with|nil=>simp[gH]at h|cons x xs=>simp[gH]at h<;>grind
         simp[nK]at hf<;>grind
        have:=h2 hp;rw[h1 hq,h3]at this;match IP,this with|[x3],_=>grind
       obtain⟨x3,rfl⟩:=hlen;exact⟨y,by rw[Qz hc.2.1 hc.2.2];exact h1,λρ B m hf=>⟨x3,rfl,(q4 _ _ _ hf).1⟩⟩
      grind
    obtain⟨zf,q1,q2⟩:=one;refine⟨(a,zf)::ws,λrest=>by simp only[oA,bj,q1,g5],by simp[g6],λEA us hp hu=>?_⟩;simp[FM]at hp;split at hp;.rename_i z u1 zs u2 p1 p2;cases hp;obtain⟨a',q3,q4⟩:=q2 _ _ p1 (λu h=>hu u (dt _ h));obtain⟨as',q5,q6,q7⟩:=g7 _ _ p2 (λu h=>hu u (du _ h));exact⟨a'::as',by simp only[gx,q3,q5,fx],by simp[q6],λρ B m hf=>⟨q4 _ _ _ ⟨hf.1,hf.2.1,λu h=>hf.2.2 u (dt _ h)⟩,q7 _ _ _ ⟨hf.1,hf.2.1,λu h=>hf.2.2 u (du _ h)⟩⟩⟩
    grind
  grind|[],_::_,_,_,_,_,h,_=>by simp[mK]at h|_::_,[],_,_,_,_,h,_=>by simp[mK]at h
def TQ{ρ:bF}{B:Nat}{m2:List (Tr E2)}{m:List (Tr bM)}(hm:MR ρ B m2 m){lv sl av p row rk:Nat}(h0:rk≠0)(Gl:row%65536=rk)(qv:row/65536≠0)(AA:row%65536≠65535){res:List (Bool×List iB)}{vs ws EA:List (Bool×List Cell)}{aU:List AV}{ds:List gr}{us:List SL}{w:V2}(hk:FK m2 rk 1 vs=true)(h:mK m2 res vs=some ds)(ha:aI (R1 ρ B m2) vs aU)(hw:oA res ds=some (ws,[]))(hp:FM rk lv sl av 1 ws=some (EA,us))(hu:∀u∈us,row/65536=u.t.size)(ht:qP EA=some w):∃a',jc m 0 row lv sl p (jq aU)=some (a',us.map λu=>bB u.t u.l)/\∀(ρ:bF)(B:Nat)(m:List (Tr E2)),lJ ρ B m lv sl av p us->RV ρ B m w a':=by obtain⟨ws1,g2,g3,g4⟩:=Dd hm (lv:=lv) (sl:=sl) (av:=av) (p:=p) h0 Gl qv AA (k:=1) hk h ha;have ER:=g2 [];rw[dv,hw]at ER;cases ER;obtain⟨as',g1,g5,g6⟩:=g4 _ _ hp hu;match aU,ha,g1,g5 with
 |[],_,g1,g5=>match EA,g5 with|[],_=>cases ht;simp only[gx,fj,fi]at g1;obtain⟨rfl,g7⟩:=g1;exact⟨.jU [],by simp only[jq,jc,gx,cf];rw[<-g7],λ_ _ _ _=>⟨[],rfl,trivial⟩⟩
 |[a],ha,g1,g5=>match EA,g5 with
  |[(b,cs)],_=>
   simp[gx]at g1;split at g1
   .rename_i y u ys us' h1 h2;cases h2;simp at g1;obtain⟨rfl,rfl⟩:=g1;refine⟨y,?_,λρ B m hf=>?_⟩;.match vs,ha with|[(b',cs')],ha=>have hn:=R1.gy ha.1;cases a<;>first|exact h1|cases hn
    .have hx:=(g6 ρ B m hf).1;cases b with|true=>obtain⟨bs,rfl,g7⟩:=hx;cases ht;exact⟨bs,rfl,g7⟩|false=>obtain⟨c,rfl,g7⟩:=hx;cases ht;exact g7
   grind
 |a::b::aU,ha,g1,g5=>match EA,g5 with|x::y::EA,_=>cases ht;exact⟨.jU as',by simp only[jq,jc,g1,cf],λρ B m hf=>⟨as',rfl,g6 _ _ _ hf⟩⟩
def Z9{f:Nat}{fn:rF}{aU:List AV}{LU:List AV}{mem:List (Tr bM)}{nv n0:Nat}{ax:AX}{t:St}(hf:Fs f=some fn)(hnp:Nat.beq aU.length fn.np=true)(Tf:∀id,ax≠.exit id)(q1:kg t fn.res=some LU)(qE:∀k n,n0<=k->n0<=n->exec (jF Fs k) (BC Fs) n fn.body {slots:=ep 0 aU .lf,mem,aO:=.lf,nv}=some (ax,t)):∀n,n0+1<=n->jF Fs n f aU mem .lf nv=some (jq LU,t.mem,t.aO,t.nv):=by intro n hn;obtain⟨n,rfl⟩:∃k,n=k+1:=⟨n-1,by omega⟩;simp[jF,hf,hnp];have:=qE n n (by omega) (by omega);unfold BC at this;cases ax with|normal=>grind|ret=>grind|exit id=>grind
def Kh(hE:az Fs E)(N f:Nat)(args:List vo)(ta:List Ty)(res:List (Bool×List iB))(tr:List Ty)(rk:Nat):lK Fs f ⟨args,ta,res,tr,rk,abO E N f args ta res tr rk⟩:=by
 intro x y h;obtain⟨fn,hf,h⟩:=aE h;rw[hE.fns]at hf;split at h
 .rename_i vs hvs;split at h
  .rename_i hnp;refine⟨vs,hvs,λaU has=>?_⟩;let ρ:bF:=λv=>some v;have start:Bz ρ [] {slots:=kU 0 vs .lf,outer:=[],mem:=[.lf],aO:=.lf,nv:=0} {slots:=ep 0 aU .lf,mem:=[.lf],aO:=.lf,nv:=0}:=by
    refine⟨xU (has.mono λ_ _=>RV.move (λ_ _ _ _ h=>absurd h (by omega)) (bd _) λ_ h=>absurd h (by omega)),trivial,⟨rfl,λlv sl e he=>?_⟩,λv hv=>?_,⟨λv u hv=>?_,λv _=>?_,λv v' u h h'=>?_⟩,bd _⟩;.have:=tV 1 lv sl<;>grind
    .simp at hv
    .grind
    .grind
    grind
   obtain⟨ax,t2,ρ',t,⟨n0,qE⟩,g2,g3,g4,g5⟩:=HY hE N _ _ _ _ _ _ _ h _ _ _ start;have Tf:∀id,ax≠.exit id:=by grind
   have g5:(FN t2 fn.res λvs=>match ad0 t2.mem rk vs&&!Nat.beq rk 65535with|true=>cA (mK t2.mem res vs) λds=>pack tr ds|false=>none)=some y:=by grind
   obtain⟨vs1,LU,q1,q2,g5⟩:=C5 g2.mem g2.slots g5;split at g5;case h_2=>cases g5
   rename_i EB;simp at EB;obtain⟨EB,AA⟩:=EB;have AA:rk≠65535:=by intro e;simp_all
   obtain⟨ds,q3,q4⟩:=aE g5;refine⟨n0+1,jq LU,t.mem,t.aO,t.nv,λn hn=>?_,λws CR=>⟨λ_ w hw lv sl aZ=>?_,λrow lv sl av p EA us w h0 Gl qv hp hu hw=>?_⟩⟩;.exact Z9 hf (by rw[<-has.length];exact hnp) Tf q1 qE n hn
   .rw[dU q4]at CR;obtain⟨a',p1,_,p2⟩:=Z8 (top:=0) g2.mem (λ_ _ _ _=>Zw _) q3 q2 CR hw;exact⟨a',p1,p2⟩
   .rw[dU q4]at CR;have EB:FK t2.mem rk 1 vs1=true:=by unfold ad0 at EB;rw[beq_false.2 h0]at EB<;>omega
    exact TQ g2.mem h0 Gl qv (by rw[Gl];exact AA) EB q3 q2 CR hp hu hw
  grind
 grind
end
end Go.Sym
namespace Go.Sym
open Go Go.bS Go.RowKit
mutual def jC.ok:jC->Prop|.mk k i s l _=>(IntKind.u8.min<=k/\k<=IntKind.u8.max)/\(IntKind.i64.min<=i/\i<=IntKind.i64.max)/\s.length<=maxLen/\l.length<=maxLen/\jC.oks l def jC.oks:List jC->Prop|[]=>True|v::r=>jC.ok v/\jC.oks r end
def Ty.ok:(t:Ty)->t.den->Prop|.val,v=>jC.ok v|.int k,a=>k.min<=a/\a<=k.max|.bool,_=>True|.str,s=>s.length<=maxLen|.sl t,l=>l.length<=maxLen/\∀x∈l,Ty.ok t x|.unit,_=>True|.prod a b,x=>Ty.ok a x.1/\Ty.ok b x.2|.sum a b,x=>match x with|.inl y=>Ty.ok a y|.inr y=>Ty.ok b y
def jC.HZ:∀{l:List jC},jC.oks l↔∀v∈l,jC.ok v|[]=>by simp[jC.oks]|v::r=>by simp[jC.oks,jC.HZ (l:=r)]
mutual def tyP(P:Program)(rv:Option TypeId):Nat->TypeId->Option Ty|0,_=>none|n+1,t=>if rv=some t then some .val else match P.underlying t with
 |some .bool=>some .bool|some (.int k)=>some (.int k)|some .string=>some .str|some (.slice e)=>match tyP P rv n e with|some T=>if 0<P.cellsOf e/\T.size=P.cellsOf e then some (.sl T)else none|none=>none
 |some (.struct fs)=>match tyF P rv n 0 fs.toList with|some (Ts,k)=>if k=P.cellsOf t then some (sL Ts)else none|none=>none
 |some (.array m e)=>match tyP P rv n e with|some T=>if T.size=P.cellsOf e/\m*P.cellsOf e=P.cellsOf t then some (sL (List.replicate m T))else none|none=>none
 |_=>none def tyF(P:Program)(rv:Option TypeId):Nat->Nat->List Field->Option (List Ty×Nat)|_,off,[]=>some ([],off)|0,_,_::_=>none|n+1,off,f::r=>match tyP P rv n f.type,tyF P rv n (off+P.cellsOf f.type) r with|some T,some (Ts,k)=>if f.offset=off/\T.size=P.cellsOf f.type then some (T::Ts,k)else none|_,_=>none end
def QA(P:Program)(rv:Option TypeId):Prop:=∀t,rv=some t->∃fs n,P.underlying t=some (.struct fs)/\tyF P rv n 0 fs.toList=some ([.int .u8,.int .i64,.str,.sl .val,.bool],5)/\P.cellsOf t=5
section
variable{H:Type}{enc:TypeId×Value->H}{P:Program}{w:World}{base:Nat}{sp:Nat->Bool}{held:Bool}{rv:Option TypeId}
def H6(ps:List MemPlace):Nat->Nat->Prop:=λb o=>MemPlace.cell b o∈ps
def mapM_some{α β:Type}{f:α->Option β}:∀{l:List α}{r:List β},l.mapM f=some r->r.length=l.length/\∀(i:Nat)(x:α),l[i]?=some x->∃y,r[i]?=some y/\f x=some y|[],r,h=>by grind|a::l,r,h=>by simp at h;obtain⟨y,h1,h⟩:=bg h;obtain⟨ys,h2,h⟩:=bg h;obtain⟨h3,h4⟩:=mapM_some h2<;>grind
def TS{a:Addr}{n:Nat}{v:Value}(h:w.cell? (a.add n)=some v):w.cell? ⟨a.block,a.off+n,none⟩=some v/\(n=0->a.spot=none):=by
 unfold Addr.add at h;split at h
 .have hs:a.spot=none:=by unfold World.cell? at h;split at h<;>simp_all
  obtain⟨b,o,sp⟩:=a<;>grind
 grind
def Ki{α β:Type}{Q:Nat->α->β->Prop}:∀{l:List α},(∀(i:Nat)(x:α),l[i]?=some x->∃y,Q i x y)->∃r:List β,r.length=l.length/\∀(i:Nat)(x:α),l[i]?=some x->∃y,r[i]?=some y/\Q i x y:=by intro l h;classical have:∀i:Fin l.length,∃y,Q i l[i] y:=λi=>h i _ (aw i.2);let f:Fin l.length->β:=λi=>Classical.choose (this i);refine⟨List.ofFn f,by simp,λi x hi=>?_⟩<;>grind
def TT(x:(sL [.int .u8,.int .i64,.str,.sl .val,.bool]).den):fR .val (.mk x.1 x.2.1 x.2.2.1 x.2.2.2.1 x.2.2.2.2)=fR (sL [.int .u8,.int .i64,.str,.sl .val,.bool]) x:=by simp[fR,Mv,qT]
def tY{α β:Type}{R:α->β->Prop}{l:List α}{m:List β}{n k:Nat}(h:aI R l ((m.drop n).take k)){l':List α}{j:Nat}(h':aI R l' ((m.drop (n+k)).take j)):aI R (l++l') ((m.drop n).take (k+j)):=by have:=h.append h';rw[List.take_add,List.drop_drop];exact this
def Kj{T:Ty}{R:D->Value->Prop}{cs:List Value}{c:Nat}:∀(m off:Nat),(∀i,i<m->∃x:T.den,T.ok x/\aI R (fR T x) ((cs.drop (off+i*c)).take c))->∃x:(sL (List.replicate m T)).den,(sL (List.replicate m T)).ok x/\aI R (fR (sL (List.replicate m T)) x) ((cs.drop off).take (m*c))
 |0,off,_=>⟨(),trivial,by simp[fR,aI]⟩|1,off,h=>by simp_all|m+2,off,h=>by
  obtain⟨x,ox,hx⟩:=h 0 (by omega);simp at hx;obtain⟨z,oz,hz⟩:=Kj (m+1) (off+c) λi hi=>by have:=h (i+1) (by omega);rwa[show off+(i+1)*c=off+c+i*c by rw[d9,ul];omega]at this
  refine⟨(x,z),⟨ox,oz⟩,?_⟩;have hj:=tY hx hz;rw[show c+(m+1)*c=(m+2)*c by rw[d9,d9];omega]at hj;exact hj
def Gm(R9:QA P rv):∀(fuel:Nat)(t:TypeId)(cs:List Value)(d:DataW H)(ps:List MemPlace),DataW.trod enc P w base sp held fuel t cs=some (d,ps)->∀(k:Nat)(T:Ty),tyP P rv k t=some T->∃x:T.den,T.ok x/\aI (DR w (H6 ps)) (fR T x) cs
 |0,_,_,_,_,h=>by simp[DataW.trod]at h|fuel+1,t,cs,d,ps,h=>by
  have ih:=Gm R9 fuel;have fields:∀(l:List Field)(k off e:Nat)(Ts:List Ty)(xs:List (DataW H×List MemPlace)),tyF P rv k off l=some (Ts,e)->(l.mapM λf=>DataW.trod enc P w base sp held fuel f.type ((cs.drop f.offset).take (P.cellsOf f.type)))=some xs->(∀x∈xs,∀q∈x.2,q∈ps)->off<=e/\∃x:(sL Ts).den,(sL Ts).ok x/\aI (DR w (H6 ps)) (fR (sL Ts) x) ((cs.drop off).take (e-off)):=by intro l;induction l with|nil=>intro k off e Ts xs hk hxs _;cases k<;>(simp only[tyF,fj,fi]at hk;obtain⟨rfl,rfl⟩:=hk;exact⟨bd _,(),trivial,by simp[fR,aI]⟩)|cons f l ihl=>intro k off e Ts xs hk hxs hps;cases k with|zero=>simp[tyF]at hk|succ k=>
     simp[tyF]at hk;split at hk
     .rename_i T Ts' e' h1 h2;split at hk;.rename_i hc;simp at hk;obtain⟨rfl,rfl⟩:=hk;obtain⟨rfl,hsz⟩:=hc;simp at hxs;obtain⟨y,g1,hxs⟩:=bg hxs;obtain⟨ys,g2,hxs⟩:=bg hxs;cases hxs;obtain⟨x,ox,hx⟩:=ih _ _ y.1 y.2 g1 _ _ h1;have hx:aI (DR w (H6 ps)) (fR T x) ((cs.drop f.offset).take (P.cellsOf f.type)):=hx.mono λ_ _=>DR.mono λb o hb=>hps y ci _ hb;obtain⟨hle,z,oz,hz⟩:=ihl _ _ _ _ _ h2 g2 λx hx=>hps x (dp _ hx);refine⟨by omega,?_⟩;have hj:=tY hx hz;rw[show P.cellsOf f.type+(e'-(f.offset+P.cellsOf f.type))=e'-f.offset from by omega]at hj;cases Ts' with|nil=>refine⟨x,ox,?_⟩;simpa[fR]using hj|cons T2 Ts2=>exact⟨(x,z),⟨ox,oz⟩,hj⟩
      grind
     grind
  intro k T hT;cases k with|zero=>simp[tyP]at hT|succ k=>
  unfold DataW.trod at h;simp only[tyP]at hT;split at hT
  .rename_i hr;injection hT with hT;subst hT;obtain⟨fs,n,hu,hF,hc⟩:=R9 t hr;rw[hu]at h;simp only at h;split at h
   .rename_i hlen;obtain⟨xs,hxs,he⟩:=aV h;simp only[fi]at he;obtain⟨_,rfl⟩:=he;obtain⟨_,x,ox,hx⟩:=fields _ _ _ _ _ _ hF hxs λx hx q hq=>oi.2 ⟨x,hx,hq⟩;refine⟨.mk x.1 x.2.1 x.2.2.1 x.2.2.2.1 x.2.2.2.2,?_,?_⟩;.obtain⟨o1,o2,o3,o4,o5⟩:=ox;exact⟨o1,o2,o3,o4.1,jC.HZ.2 o4.2⟩
    .rw[TT];rw[hc]at hlen;simpa[f8,hlen]using hx
   .cases h
  .rename_i hr;cases hu:P.underlying t with|none=>rw[hu]at hT;cases hT|some desc=>rw[hu]at hT h;cases desc with
    |bool=>
     injection hT with hT;subst hT;simp only at h;split at h<;>first|(exfalso;have q:=‹some TypeDesc.bool=some _›;injection q with q;cases q;done)|cases h|skip
     rename_i b _;exact⟨b,trivial,.sc _ rfl,trivial⟩|int kd=>
     injection hT with hT;subst hT;simp only at h;split at h<;>first|(exfalso;have q:=‹some (TypeDesc.int kd)=some _›;injection q with q;cases q;done)|cases h|skip
     rename_i k k' n heq;injection heq with heq;injection heq with heq;subst heq;split at h;.rename_i hc;obtain⟨rfl,hw⟩:=hc;simp only[Lit.wf,ba,dj]at hw;exact⟨n,hw,.sc _ rfl,trivial⟩
     .cases h|string=>
     injection hT with hT;subst hT;simp only at h;split at h<;>first|(exfalso;have q:=‹some TypeDesc.string=some _›;injection q with q;cases q;done)|cases h|skip
     rename_i s _;split at h;.rename_i hc;refine⟨s.data.toList,(by show s.data.toList.length<=maxLen;rw[ii];exact hc),?_,trivial⟩;exact .sc _ rfl
     .cases h|slice e=>
     simp only at hT h;split at hT
     .rename_i T' hT';split at hT
      .rename_i hc;injection hT with hT;subst hT;obtain⟨hpos,hsz⟩:=hc;split at h<;>first|(exfalso;have q:=‹some (TypeDesc.slice e)=some _›;injection q with q;cases q;done)|cases h|skip
       .refine⟨[],⟨by simp,λx hx=>by cases hx⟩,?_,trivial⟩;exact .sl [] none 0 0 0 0 0 (λ_ _=>.bool false) rfl (bd _) (λe h=>by cases h) (λh=>by cases h) (λi e j x h=>by simp at h) (λi e j x h=>by simp at h) (λi e j x h=>by simp at h)
       .rename_i e' a len cap heq;injection heq with heq;injection heq with heq;subst heq;split at h
        .rename_i hb;obtain⟨elems,hel,h⟩:=bg h;obtain⟨rest,Ch,he⟩:=aV h;simp only[fi]at he;obtain⟨_,rfl⟩:=he;obtain⟨hlen,rR⟩:=mapM_some hel;rw[rf]at hlen;have elem:∀i y,elems[i]?=some y->∃x:T'.den,T'.ok x/\∃csi,w.cells? base (a.add (i*P.cellsOf e)) (P.cellsOf e)=some csi/\aI (DR w (H6 (MemPlace.row a ((elems.length+rest.length)*P.cellsOf e)++(elems++rest).flatMap (·.2)))) (fR T' x) csi:=by
          intro i y hi;have zU:i<len:=by rw[<-hlen];exact(db.1 hi).1
          obtain⟨y',hy',hf⟩:=rR i i (by simp[zU]);rw[hi]at hy';injection hy' with hy';subst hy';obtain⟨csi,h1,h2⟩:=bg hf;obtain⟨x,ox,hx⟩:=ih _ _ y.1 y.2 h2 _ _ hT';refine⟨x,ox,csi,h1,hx.mono λ_ _=>DR.mono λb o hb=>?_⟩;refine du _ (oi.2 ⟨y,dt _ (jn hi),hb⟩)
         obtain⟨xs,hxl,hxs⟩:=Ki elem;have abW:xs.length=len:=by rw[hxl,hlen]
         refine⟨xs,⟨by rw[abW];omega,λx hx=>?_⟩,?_,trivial⟩
         .obtain⟨i,hi⟩:=List.getElem?_of_mem hx;have hi':i<elems.length:=by rw[<-hxl];exact(db.1 hi).1
          obtain⟨y,hy,oy,_⟩:=hxs i _ (aw hi');rw[hi]at hy;injection hy with hy;subst hy;exact oy
         .have cell:∀i e' j x',(xs.map (fR T'))[i]?=some e'->e'[j]?=some x'->j<P.cellsOf e/\i<len/\∃v,w.cell? ⟨a.block,a.off+i*P.cellsOf e+j,none⟩=some v/\(i=0->j=0->a.spot=none)/\DR w (H6 (MemPlace.row a ((elems.length+rest.length)*P.cellsOf e)++(elems++rest).flatMap (·.2))) x' v:=by
           intro i e' j x' hi hj;rw[eI]at hi;obtain⟨x,hx,rfl⟩:=aV hi;have hi':i<elems.length:=by rw[<-hxl];exact(db.1 hx).1
           obtain⟨y,hy,oy,csi,h1,h2⟩:=hxs i _ (aw hi');rw[hx]at hy;injection hy with hy;subst hy;obtain⟨v,hv,hd⟩:=h2.get j x' hj;have hjl:j<P.cellsOf e:=by have:=(db.1 hj).1;rw[fh,hsz]at this;exact this
           unfold World.cells? at h1;split at h1
           .obtain⟨_,hg⟩:=mapM_some h1;obtain⟨v',n9,hcell⟩:=hg j j (by simp[hjl]);rw[hv]at n9;injection n9 with n9;subst n9;obtain⟨c1,c2⟩:=TS hcell;have e1:(a.add (i*P.cellsOf e)).block=a.block/\(a.add (i*P.cellsOf e)).off=a.off+i*P.cellsOf e:=by
             unfold Addr.add;split;.rename_i h0;rw[h0];exact⟨rfl,rfl⟩
             .exact⟨rfl,rfl⟩
            rw[e1.1,e1.2]at c1;refine⟨hjl,by omega,v,c1,λh0 h0'=>?_,hd⟩;have:=c2 h0';subst h0;simpa[Addr.add]using this
           .cases h1
          have hl:fe w (H6 (MemPlace.row a ((elems.length+rest.length)*P.cellsOf e)++(elems++rest).flatMap (·.2))) (H6 (MemPlace.row a ((elems.length+rest.length)*P.cellsOf e)++(elems++rest).flatMap (·.2))) (xs.map (fR T')) a.block a.off (P.cellsOf e):=by
           refine⟨λe' he'=>?_,λi e' j x' hi hj=>?_⟩;.obtain⟨x,_,rfl⟩:=j1.1 he';rw[fh,hsz]
           .obtain⟨c1,c2,v,c3,_,c4⟩:=cell i e' j x' hi hj;refine⟨dt _ ?_,v,c3,c4⟩;unfold MemPlace.row;rw[j1];refine⟨i*P.cellsOf e+j,?_,by rw[fb]⟩;rw[vd,hlen];have:(i+1)*P.cellsOf e<=(len+rest.length)*P.cellsOf e:=d8 _ (by omega);rw[d9,ul]at this;omega
          refine DR.jr hl (by simp[abW]) hb.2.1 λhn=>?_;have hx0:0<xs.length:=by omega
          have h0:(xs.map (fR T'))[0]?=some (fR T' xs[0]):=by simp[hx0]
          have hs0:0<(fR T' xs[0]).length:=by rw[fh,hsz];exact hpos
          obtain⟨_,_,v,_,hsp,_⟩:=cell 0 _ 0 _ h0 (aw hs0);have:=hsp rfl rfl;obtain⟨ab,ao,asp⟩:=a;simp only at this;subst this;rfl
        .cases h
      .cases hT
     .cases hT|struct fs=>
     simp only at hT h;split at hT
     .rename_i Ts e hF;split at hT
      .rename_i hc;injection hT with hT;subst hT;split at h;.rename_i hlen;obtain⟨xs,hxs,he⟩:=aV h;simp only[fi]at he;obtain⟨_,rfl⟩:=he;obtain⟨_,x,ox,hx⟩:=fields _ _ _ _ _ _ hF hxs λx hx q hq=>oi.2 ⟨x,hx,hq⟩;refine⟨x,ox,?_⟩;rw[hc]at hx;simpa[f8,hlen]using hx
       .cases h
      .cases hT
     .cases hT|array m e=>
     simp only at hT h;split at hT
     .rename_i T' hT';split at hT
      .rename_i hc;injection hT with hT;subst hT;obtain⟨hsz,hm⟩:=hc;split at h
       .rename_i hlen;obtain⟨xs,hxs,he⟩:=aV h;simp only[fi]at he;obtain⟨_,rfl⟩:=he;obtain⟨hl,rR⟩:=mapM_some hxs;obtain⟨x,ox,hx⟩:=Kj (T:=T') (R:=DR w (H6 (xs.flatMap (·.2)))) (cs:=cs) (c:=P.cellsOf e) m 0 λi hi=>by obtain⟨y,hy,hf⟩:=rR i i (by simp[hi]);obtain⟨x,ox,hx⟩:=ih _ _ y.1 y.2 hf _ _ hT';refine⟨x,ox,?_⟩;rw[m9];exact hx.mono λ_ _=>DR.mono λb o hb=>oi.2 ⟨y,jn hy,hb⟩
        refine⟨x,ox,?_⟩;rw[hm]at hx;simpa[f8,hlen]using hx
       .cases h
      .cases hT
     .cases hT|_=>cases hT
end
def De:Ty->List Ty|.val=>[.int .u8,.int .i64,.str,.sl .val,.bool]|.int k=>[.int k]|.bool=>[.bool]|.str=>[.str]|.sl t=>[.sl t]|.unit=>[]|.prod a b=>De a++De b|.sum _ _=>[]
def bq:Ty->List iB|.val=>[.int .u8,.int .i64,.str,.sl .val .d,.bool]|.int k=>[.int k]|.bool=>[.bool]|.str=>[.str]|.sl t=>[.sl t .d]|.unit=>[]|.prod a b=>bq a++bq b|.sum _ _=>[]
def flat:(T:Ty)->T.den->List gr|.val,v=>[⟨.int .u8,v.kind⟩,⟨.int .i64,v.int⟩,⟨.str,v.text⟩,⟨.sl .val,v.list⟩,⟨.bool,v.cut⟩]|.int k,a=>[⟨.int k,a⟩]|.bool,b=>[⟨.bool,b⟩]|.str,s=>[⟨.str,s⟩]|.sl t,l=>[⟨.sl t,l⟩]|.unit,_=>[]|.prod a b,x=>flat a x.1++flat b x.2|.sum _ _,_=>[]
def xV:∀(T:Ty)(x:T.den),(flat T x).map (·.t)=De T|.val,_=>rfl|.int _,_=>rfl|.bool,_=>rfl|.str,_=>rfl|.sl _,_=>rfl|.unit,_=>rfl|.prod a b,x=>by simp[flat,De,xV a,xV b]|.sum _ _,_=>rfl
def vr:∀{l l':List iB}{r r' r'':List gr}{xs ys:List Cell},dK l r=some (xs,r')->dK l' r'=some (ys,r'')->dK (l++l') r=some (xs++ys,r'')
 |[],l',r,r',r'',xs,ys,h,h'=>by cases h<;>grind|c::l,l',r,r',r'',xs,ys,h,h'=>by
  simp[dK]at h;split at h
  .rename_i x r1 h1;split at h;.rename_i Z0 r2 h2;cases h;simp[pt,dK,h1,vr h2 h']
   grind
  grind
def zh:∀(T:Ty)(x:T.den)(rest:List gr),dK (bq T) (flat T x++rest)=some (jD T x,rest)|.val,_,_=>rfl|.int _,_,_=>rfl|.bool,_,_=>rfl|.str,_,_=>rfl|.sl _,_,_=>rfl|.unit,_,_=>rfl|.prod a b,x,rest=>by simp[bq,flat,bj,jD];exact vr (zh a x.1 _) (zh b x.2 rest)|.sum _ _,_,_=>rfl
def okD(ds:List gr):Prop:=∀d∈ds,d.t.ok d.v
def H7:∀(T:Ty)(x:T.den),T.ok x->okD (flat T x)
 |.val,v,h=>by
  cases v;obtain⟨h1,h2,h3,h4,h5⟩:=h;intro d hd;simp[flat,dq,d7,lr]at hd;rcases hd with rfl|rfl|rfl|rfl|rfl;.exact h1
  .exact h2
  .exact h3
  .exact⟨h4,jC.HZ.1 h5⟩
  .trivial|.int _,_,h=>λd hd=>by simp[flat]at hd<;>grind|.bool,_,h=>λd hd=>by simp[flat]at hd<;>grind|.str,_,h=>λd hd=>by simp[flat]at hd<;>grind|.sl _,_,h=>λd hd=>by simp[flat]at hd<;>grind|.unit,_,_=>λd hd=>by simp[flat]at hd|.prod a b,x,h=>λd hd=>by
  simp[flat,bm]at hd;rcases hd with hd|hd;.exact H7 a x.1 h.1 d hd
  .exact H7 b x.2 h.2 d hd|.sum _ _,_,_=>λd hd=>by simp[flat]at hd
def AE(a:Ty)(x:a.den):vN a a x=some x:=by unfold vN;split<;>grind
def zi:∀ds:List gr,∃x,pack (ds.map (·.t)) ds=some x|[]=>⟨(),rfl⟩|[d]=>⟨d.v,AE _ _⟩|d::e::r=>by obtain⟨y,hy⟩:=zi (e::r);refine⟨(d.v,y),?_⟩;have hy':pack (e.t::r.map (·.t)) (e::r)=some y:=hy;show pack (d.t::e.t::r.map (·.t)) (d::e::r)=some (d.v,y);simp[pack,AE,hy']
abbrev AF:=TypeId×Bool×Ty
def AF.sh(p:AF):vo:=match p.2.1,bq p.2.2with|false,[c]=>.c c|_,l=>.agg l
def kJ(l:List AF):List Ty:=l.flatMap λp=>De p.2.2
def okL(ts:List Ty)(x:(sL ts).den):Prop:=okD (unpack ts x)
def TU(P:Program)(p:AF):Bool:=match P.underlying p.1with|some (.struct _)=>p.2.1|some (.array _ _)=>p.2.1|some .bool|some (.int _)|some .string|some (.slice _)=>!p.2.1|_=>false
def Kk(P:Program)(rv:Option TypeId)(k:Nat)(p:AF):Prop:=tyP P rv k p.1=some p.2.2/\TU P p=true
section
variable{H:Type}{enc:TypeId×Value->H}{P:Program}{w:World}{sp:Nat->Bool}{held:Bool}{rv:Option TypeId}
def MU{t:TypeId}{v:Value}{b:Nat}{fs:Array Field}(h:Value.okWide P w .any b t v)(hu:P.underlying t=some (.struct fs)):∃cs,v=.agg cs:=by simp[Value.okWide,hu]at h<;>grind
def MV{t:TypeId}{v:Value}{b n:Nat}{e:TypeId}(h:Value.okWide P w .any b t v)(hu:P.underlying t=some (.array n e)):∃cs,v=.agg cs:=by simp[Value.okWide,hu]at h<;>grind
def qe{t:TypeId}{v:Value}{b:Nat}{d:TypeDesc}(h:Value.okWide P w .any b t v)(hu:P.underlying t=some d)(hd:d=.bool\/(∃k,d=.int k)\/d=.string\/∃e,d=.slice e):v.cells=#[v]:=by rcases hd with rfl|⟨k,rfl⟩|rfl|⟨e,rfl⟩<;>cases v<;>first|rfl|(simp[Value.okWide,hu,Cell.okWide,Cell.ok]at h)
def aab(P:Program)(B:Nat)(t:TypeId):(T:Ty)->T.den->Prop|.sl _,l=>∀e,P.underlying t=some (.slice e)->l.length*P.bytesOf e<=B|.str,s=>P.underlying t=some .string->s.length<=B|_,_=>True
def ael{fuel:Nat}{t:TypeId}{cs:List Value}{d:DataW H}{ps:List MemPlace}(hf:DataW.trod enc P w 0 sp held fuel t cs=some (d,ps)){T:Ty}{x:T.den}{F:Nat->Nat->Prop}(hx:aI (DR w F) (fR T x) cs){B:Nat}(hw:(d.weights P t).all (λb=>decide (b<=B))=true):aab P B t T x:=by cases fuel with|zero=>simp[DataW.trod]at hf|succ fuel=>cases T with
 |sl T'=>intro e he;match cs,hx with|[c],hx=>have hd:DR w F (.sl (List.map (fR T') x)) c:=hx.1;cases hd with|sl els a n cap sz b o g hn hcap hsz ha hF hc hr=>
    unfold DataW.trod at hf;rw[he]at hf;split at hf<;>first|(exfalso;have q:=‹some (TypeDesc.slice e)=some _›;injection q with q;cases q;done)|cases hf|skip
    .grind
    .subst_vars;split at hf;.obtain⟨elems,hel,hf⟩:=bg hf;obtain⟨rest,Ch,heq⟩:=aV hf;cases heq;have hlen:=(mapM_some hel).1;simp[DataW.weights,he,fg,ba,dj,iv]at hw<;>grind
     grind
 |str=>intro he;match cs,hx with|[c],hx=>have hd:DR w F (.sc (.string ⟨x.toArray⟩)) c:=hx.1;cases hd with|sc v h1=>
    unfold DataW.trod at hf;rw[he]at hf;simp only at hf;split at hf<;>first|(exfalso;have q:=‹some TypeDesc.string=some _›;injection q with q;cases q;done)|cases hf|skip
    simpa[DataW.weights]using hw
 |_=>trivial
def aem(P:Program)(B:Nat):List AF->List gr->Prop|[],_=>True|p::l,ds=>(∃x:p.2.2.den,(∃rest,ds=flat p.2.2 x++rest)/\aab P B p.1 p.2.2 x)/\aem P B l (ds.drop (De p.2.2).length)
def ajq(P:Program)(B:Nat)(l:List AF)(x:(sL (kJ l)).den):Prop:=aem P B l (unpack (kJ l) x)
def TV(w:World)(ps:List MemPlace):Cx:={w,F:=H6 ps,ρ:=λ_=>none,old:=λb=>b<w.heap.size}
def OO(hg:(∀b,LZ b->b<w.heap.size)/\gok w)(ps:List MemPlace)(hlt:∀x∈ps,x.block<w.heap.size):aM (TV w ps) [.lf] .lf where
 gz lv sl e he:=by rw[yY]at he;cases he
 aO v hv:=by simp at hv
 apart k k' v v' L L' a b:=by
  rcases a with⟨_,_,_,_,he,_⟩|⟨_,he⟩;.rw[yY]at he;cases he
  .simp at he
 qI b o h:=hlt _ h;Bh:=⟨λ_ h=>h,hg.1,hg.2⟩
def OP{X:Cx}:∀{ds:List D}{cs:List Value},aI (DR X.w X.F) ds cs->aI (VC X) (ds.map .d) cs|[],[],_=>trivial|_::_,_::_,h=>⟨h.1,OP h.2⟩|[],_::_,h=>h.elim|_::_,[],h=>h.elim
def aen(R9:QA P rv){k:Nat}{p:AF}(hp:Kk P rv k p){v:Value}{d:DataW H}{qs ps:List MemPlace}{b:Nat}(hv:Value.okWide P w .any b p.1 v)(h:DataW.Trod enc P w 0 sp held p.1 v d qs)(hsub:∀q∈qs,q∈ps):∃(x:p.2.2.den)(a:AV)(u:V2),p.2.2.ok x/\V1 (TV w ps) a v/\RV ρ0 0 [] u a/\(∀rest,eo [p.sh] (flat p.2.2 x++rest)=some ([u],rest))/\(∀B,(d.weights P p.1).all (λb=>decide (b<=B))=true->aab P B p.1 p.2.2 x):=by
 obtain⟨t,ag,T⟩:=p;obtain⟨hT,hfit⟩:=hp;obtain⟨fuel,hf⟩:=h;obtain⟨x,ox,hx⟩:=Gm R9 fuel _ _ _ _ hf _ _ hT;have avM:=λ(B:Nat)hw=>ael (x:=x) hf hx (B:=B) hw;have hx:aI (DR (TV w ps).w (TV w ps).F) (fR T x) v.cells.toList:=hx.mono λ_ _=>DR.mono λb o hb=>hsub _ hb;have abY:=zh T x;have OQ:(∃cs,v=.agg cs)->ag=true->∃(a:AV)(u:V2),V1 (TV w ps) a v/\RV ρ0 0 [] u a/\∀rest,eo [AF.sh (t,ag,T)] (flat T x++rest)=some ([u],rest):=by rintro⟨cs,rfl⟩rfl;refine⟨.agg ((fR T x).map .d),.agg (jD T x),⟨cs,rfl,OP hx⟩,⟨_,rfl,mL T x⟩,λrest=>?_⟩;simp[AF.sh,eo,uR.fill,abY]
 have xW:v.cells=#[v]->ag=false->(∃c,bq T=[c])->∃(a:AV)(u:V2),V1 (TV w ps) a v/\RV ρ0 0 [] u a/\∀rest,eo [AF.sh (t,ag,T)] (flat T x++rest)=some ([u],rest):=by rintro hc rfl⟨c,hcs⟩;rw[hc]at hx;have hl:=hx.length;match he:fR T x,hl with|[y],_=>rw[he]at hx;have hcell:=mL (ρ:=ρ0) (B:=0) (m:=[]) T x;rw[he]at hcell;match hct:jD T x,hcell with
   |[z],hcell=>
    refine⟨.d y,.c z,?_,hcell.1,λrest=>?_⟩;.exact hx.1
    .have:=abY rest;rw[hcs]at this;simp[dK]at this;simp[AF.sh,hcs,eo,uR.fill]<;>grind
 have fin:(∃(a:AV)(u:V2),V1 (TV w ps) a v/\RV ρ0 0 [] u a/\∀rest,eo [AF.sh (t,ag,T)] (flat T x++rest)=some ([u],rest))->∃(x:T.den)(a:AV)(u:V2),T.ok x/\V1 (TV w ps) a v/\RV ρ0 0 [] u a/\(∀rest,eo [AF.sh (t,ag,T)] (flat T x++rest)=some ([u],rest))/\(∀B,(d.weights P t).all (λb=>decide (b<=B))=true->aab P B t T x):=by grind
 apply fin;unfold TU at hfit;cases hu:P.underlying t with|none=>grind|some desc=>rw[hu]at hfit;cases k with|zero=>simp[tyP]at hT|succ k=>
  have one:∀{d:TypeDesc},desc=d->(d=.bool\/(∃k,d=.int k)\/d=.string\/∃e,d=.slice e)->∃c,bq T=[c]:=by
   intro d hd hq;subst hd;simp[tyP]at hT;split at hT;.rename_i hr;obtain⟨fs,_,mq,_⟩:=R9 t hr<;>grind
   .rw[hu]at hT;rcases hq with rfl|⟨k,rfl⟩|rfl|⟨e,rfl⟩;.cases hT;exact⟨_,rfl⟩
    .cases hT;exact⟨_,rfl⟩
    .cases hT;exact⟨_,rfl⟩
    .simp at hT;split at hT
     .split at hT;.cases hT;exact⟨_,rfl⟩
      .cases hT
     .cases hT
  cases desc with|struct fs=>exact OQ (MU hv hu) hfit|array n e=>exact OQ (MV hv hu) hfit|bool=>exact xW (qe hv hu (.inl rfl)) (by simpa using hfit) (one rfl (.inl rfl))|int kd=>exact xW (qe hv hu (.inr (.inl ⟨kd,rfl⟩))) (by simpa using hfit) (one rfl (.inr (.inl ⟨kd,rfl⟩)))|string=>exact xW (qe hv hu (.inr (.inr (.inl rfl)))) (by simpa using hfit) (one rfl (.inr (.inr (.inl rfl))))|slice e=>exact xW (qe hv hu (.inr (.inr (.inr ⟨e,rfl⟩)))) (by simpa using hfit) (one rfl (.inr (.inr (.inr ⟨e,rfl⟩))))|_=>cases hfit
def xX:∀{l l':List vo}{r r' r'':List gr}{xs ys:List V2},eo l r=some (xs,r')->eo l' r'=some (ys,r'')->eo (l++l') r=some (xs++ys,r'')
 |[],l',r,r',r'',xs,ys,h,h'=>by cases h<;>grind|c::l,l',r,r',r'',xs,ys,h,h'=>by
  simp[eo]at h;simp[pt,eo];split at h
  .split at h;.rename_i Z0 r2 h2;cases h;simp only[xX h2 h'];rfl
   grind
  grind
def H8(R9:QA P rv){k b:Nat}{ps:List MemPlace}:∀{l:List AF}{vs:List Value}{ds:List (DataW H)}{qs:List MemPlace},(∀p∈l,Kk P rv k p)->(∀(j:Nat)(p:AF)v,l[j]?=some p->vs[j]?=some v->Value.okWide P w .any b p.1 v)->DataW.TrodAll enc P w 0 sp held (l.map (·.1)) vs ds qs->(∀q∈qs,q∈ps)->∃(dd:List gr)(aU:List AV)(us:List V2),okD dd/\dd.map (·.t)=kJ l/\aI (V1 (TV w ps)) aU vs/\aI (RV ρ0 0 []) us aU/\(∀rest,eo (l.map AF.sh) (dd++rest)=some (us,rest))/\(∀B,(DataW.weightsEach P (l.map (·.1)) ds).all (λb=>decide (b<=B))=true->aem P B l dd)
 |[],vs,ds,qs,_,_,h,_=>by match vs,ds,h with|[],[],_=>exact⟨[],[],[],λd hd=>(by cases hd),rfl,trivial,trivial,λ_=>rfl,λ_ _=>trivial⟩
 |p::l,vs,ds,qs,hp,hv,h,hsub=>by match vs,ds,h with
  |v::vs,d::ds,h=>
   obtain⟨p1,q1,h1,h2,rfl⟩:=h;obtain⟨x,a,u,g1,g2,g3,g4,g4'⟩:=aen R9 (hp p ci) (hv 0 p v rfl rfl) h1 (λq hq=>hsub q (dt _ hq));obtain⟨dd,aU,us,g5,g6,g7,g8,g9,g9'⟩:=H8 R9 (l:=l) (λq hq=>hp q (dp _ hq)) (λj p' v' hj hj'=>hv (j+1) p' v' (by simpa using hj) (by simpa using hj')) h2 (λq hq=>hsub q (du _ hq));refine⟨flat p.2.2 x++dd,a::aU,u::us,?_,?_,⟨g2,g7⟩,⟨g3,g8⟩,λrest=>?_,λB hw=>?_⟩
   .intro e he;rcases bm.1 he with he|he;.exact H7 _ x g1 e he
    .exact g5 e he
   .simp[kJ,xV,g6]
   .rw[bj];exact xX (g4 _) (g9 rest)
   .simp only[gc,DataW.weightsEach,List.all_append,ba]at hw;refine⟨⟨x,⟨dd,rfl⟩,g4' B hw.1⟩,?_⟩;have e:(De p.2.2).length=(flat p.2.2 x).length:=by rw[<-xV p.2.2 x,iv]
    grind
def Gn{cm:List (Tr bM)}{lv sl av:Nat}{rv:AV}{b:Bool}(h:jc cm 0 0 lv sl av rv=some (.d (.sc (.bool b)),[])):rv=.d (.sc (.bool b)):=by cases rv with|d x=>simp only[jc,mF,bC,fj,fi,and_true]at h;exact h|own els o=>cases o<;>simp[jc,mF,bC,pW]at h|agg cs=>obtain⟨z,_,he⟩:=aV h<;>grind|jU vs=>simp_all[jc]|ref cV dy gU off len sz=>simp[jc,mF,bC]at h<;>grind|ptr cV=>simp[jc,mF,bC,rh (yi cV)]at h|fX=>simp[jc,mF,bC]at h|mp=>simp[jc,mF,bC]at h|gw=>simp[jc,mF,bC]at h|fL f cs=>cases cs<;>simp[jc,mF,bC]at h
def QB{dF:Nat->Option TypeId}{md:Nat->bS.Mode}{Fs:Tb}{f:Nat}(aeo:P.follows .mixedOrders=true)(ic:∀f T,dF f=some T->kr P f T)(EK:Tj P dF md Fs.fs)(hO:eL P Fs.O)(hg:(∀b,LZ b->b<w.heap.size)/\gok w)(R9:QA P rv){k b:Nat}{l:List AF}(hp:∀p∈l,Kk P rv k p){F:(sL (kJ l)).den->Option Bool}(aep:lK Fs f ⟨l.map AF.sh,kJ l,[(false,[.bool])],[.bool],0,F⟩)(hF:∀x,okL (kJ l) x->F x=some true){args:Array Value}{ds:List (DataW H)}{ps:List MemPlace}(hval:∀(j:Nat)(p:AF)v,l[j]?=some p->args[j]?=some v->Value.okWide P w .any b p.1 v)(hargs:DataW.TrodAll enc P w 0 sp held (l.map (·.1)) args.toList ds ps)(hlt:∀x∈ps,x.block<w.heap.size):Calls P f args w λe w'=>e=.returned (.bool true)/\Below w.heap.size w w':=by
 obtain⟨dd,aU,us,g1,g2,g3,g4,g5,_⟩:=H8 R9 (ps:=ps) hp (λj p v hj hv=>hval j p v hj (by simpa using hv)) hargs (λ_ h=>h);obtain⟨x,hx⟩:∃x,pack (kJ l) dd=some x:=g2▸zi dd;have hu:=dU hx;have hok:okL (kJ l) x:=by unfold okL;rw[hu];exact g1
 obtain⟨vs,h1,h2⟩:=aep x true (hF x hok);simp[hu]at h1;have h5:=g5 [];rw[dv,h1]at h5;cases h5;obtain⟨n0,r,cm,ts,nv,h3,h4⟩:=h2 aU g4;obtain⟨a',h6,h7⟩:=(h4 [(false,[.bool true])] rfl).1 (show(0:Nat)≠65535by decide) (.c (.bool true)) rfl 0 0 0;have ha:a'=.d (.sc (.bool true)):=h7 ρ0 0 [];subst ha;have hr:=Gn h6;subst hr;obtain⟨_,hc⟩:=By hO aeo ic EK n0 f aU [.lf] .lf 0 _ cm ts nv (h3 n0 (bd _)) (TV w ps) args (OO hg ps hlt) (λ_ _=>rfl) g3;refine hc.mono ?_;rintro e w'⟨Y,u,rfl,rfl,hx,hv,_⟩;cases hv;exact⟨rfl,hx.below.toBelow⟩
def Sa{B:Nat}{dF:Nat->Option TypeId}{md:Nat->bS.Mode}{Fs:Tb}{f:Nat}(aeo:P.follows .mixedOrders=true)(ic:∀f T,dF f=some T->kr P f T)(EK:Tj P dF md Fs.fs)(hO:eL P Fs.O)(hg:(∀b,LZ b->b<w.heap.size)/\gok w)(R9:QA P rv){k b:Nat}{l:List AF}(hp:∀p∈l,Kk P rv k p){F:(sL (kJ l)).den->Option Bool}(aep:lK Fs f ⟨l.map AF.sh,kJ l,[(false,[.bool])],[.bool],0,F⟩)(hF:∀x,okL (kJ l) x->ajq P B l x->F x=some true){args:Array Value}{ds:List (DataW H)}{ps:List MemPlace}(hval:∀(j:Nat)(p:AF)v,l[j]?=some p->args[j]?=some v->Value.okWide P w .any b p.1 v)(hargs:DataW.TrodAll enc P w 0 sp held (l.map (·.1)) args.toList ds ps)(hlt:∀x∈ps,x.block<w.heap.size)(hwt:(DataW.weightsEach P (l.map (·.1)) ds).all (λb=>decide (b<=B))=true):Calls P f args w λe w'=>e=.returned (.bool true)/\Below w.heap.size w w':=by
 obtain⟨dd,aU,us,g1,g2,g3,g4,g5,g6⟩:=H8 R9 (ps:=ps) hp (λj p v hj hv=>hval j p v hj (by simpa using hv)) hargs (λ_ h=>h);obtain⟨x,hx⟩:∃x,pack (kJ l) dd=some x:=g2▸zi dd;have hu:=dU hx;have hok:okL (kJ l) x:=by unfold okL;rw[hu];exact g1
 obtain⟨vs,h1,h2⟩:=aep x true (hF x hok (by unfold ajq;rw[hu];exact g6 B hwt));simp[hu]at h1;have h5:=g5 [];rw[dv,h1]at h5;cases h5;obtain⟨n0,r,cm,ts,nv,h3,h4⟩:=h2 aU g4;obtain⟨a',h6,h7⟩:=(h4 [(false,[.bool true])] rfl).1 (show(0:Nat)≠65535by decide) (.c (.bool true)) rfl 0 0 0;have ha:a'=.d (.sc (.bool true)):=h7 ρ0 0 [];subst ha;have hr:=Gn h6;subst hr;obtain⟨_,hc⟩:=By hO aeo ic EK n0 f aU [.lf] .lf 0 _ cm ts nv (h3 n0 (bd _)) (TV w ps) args (OO hg ps hlt) (λ_ _=>rfl) g3;refine hc.mono ?_;rintro e w'⟨Y,u,rfl,rfl,hx,hv,_⟩;cases hv;exact⟨rfl,hx.below.toBelow⟩
def Gp(hl:laidOutB P=true){W W':World}(hb:Below W.heap.size W W'):∀{ts:List TypeId}{vs:List Value}{ds:List (DataW H)}{ps:List MemPlace},(ts.all λt=>P.readableRec t&&decide (t<P.types.size))=true->DataW.TrodAll enc P W 0 (λ_=>true) true ts vs ds ps->(∀x∈ps,x.block<W.heap.size)->DataW.TrodAll enc P W' 0 (λb=>decide (b<W.heap.size)) true ts vs ds ps
 |[],vs,ds,ps,_,h,_=>by match vs,ds,h with|[],[],h=>exact h
 |t::ts,vs,ds,ps,ht,h,hlt=>by match vs,ds,h with|v::vs,d::ds,h=>obtain⟨p,q,h1,h2,rfl⟩:=h;rw[fg,ba,ba]at ht;exact⟨p,q,Below.trod hl ht.1.1 (dE ht.1.2) h1 hb (λx hx=>hlt x (dt _ hx)),Gp hl hb ht.2 h2 (λx hx=>hlt x (du _ hx)),rfl⟩
end
end Go.Sym
namespace Go.Sym
open Go Go.bS
def xY:Nat:=400
def ai.base(bE:Nat->Option rF)(Jz S3:Nat->Nat->Option aW)(Mz:Nat->Nat->Option (Nat×Ty))(unr:Nat->Nat->Bool)(Oq:Nat->Nat->Option Ty):ai:={fns:=bE,tI:=λ_=>none,loops:=λ_ _ _=>none,Jz,S3,Mz,unr,Oq}
def ai.jK(E:ai)(f:Nat)(c:Callee):ai:={E with tI:=λg=>match Nat.beq g f with|true=>some c|false=>E.tI g}
def ai.aa(E:ai)(N ctx i:Nat)(T:aX)(outs:aW):ai:={E with loops:=λctx' i' c=>match Nat.beq ctx' ctx&&Nat.beq i' i with|true=>some ⟨T,outs,Ou (CK E xY ctx i c T outs) N⟩|false=>E.loops ctx' i' c}
def aac(bE:Tb)(Jz S3:Nat->Nat->Option aW)(Mz:Nat->Nat->Option (Nat×Ty))(unr:Nat->Nat->Bool)(Oq:Nat->Nat->Option Ty):az bE (ai.base bE Jz S3 Mz unr Oq):=⟨rfl,λ_ _ h=>(by cases h),λ_ _ _ _ h=>(by cases h)⟩
def az.jK{bE:Tb}{E:ai}(h:az bE E){f:Nat}{c:Callee}(hc:lK bE f c):az bE (E.jK f c):=by
 refine⟨h.fns,λg d hd=>?_,h.loops⟩;simp only[ai.jK]at hd;split at hd;.rename_i he;rw[bb he];injection hd with hd;subst hd;exact hc
 .exact h.tI g d hd
def az.aa{bE:Tb}{E:ai}(h:az bE E)(N ctx i:Nat)(T:aX)(outs:aW):az bE (E.aa N ctx i T outs):=by
 refine⟨h.fns,h.tI,λctx' i' c L hL=>?_⟩;simp only[ai.aa]at hL;split at hL;.injection hL with hL;subst hL;exact ON h xY ctx i c T outs N
 .exact h.loops ctx' i' c L hL
def lK.plain{Fs:Tb}{f:Nat}{args:List vo}{ta tr:List Ty}{res:List (Bool×List iB)}{rk:Nat}{F G:(sL ta).den->Option (sL tr).den}(h:lK Fs f ⟨args,ta,res,tr,rk,F⟩)(e:G=F):lK Fs f ⟨args,ta,res,tr,rk,G⟩:=by subst e;exact h
def CM:List (Nat×rF)->Nat->Option rF|[],_=>none|(g,fn)::r,f=>match Nat.beq g f with|true=>some fn|false=>CM r f
inductive xL(P:Program)(dF:Nat->Option TypeId)(md:Nat->bS.Mode):List (Nat×rF)->Prop where|nil:xL P dF md []|cons{g:Nat}{fn:rF}{r:List (Nat×rF)}:Pp P dF md g=some fn->xL P dF md r->xL P dF md ((g,fn)::r)
def Tc{P:Program}{dF:Nat->Option TypeId}{md:Nat->bS.Mode}{l:List (Nat×rF)}(h:xL P dF md l):∀f fn,CM l f=some fn->Pp P dF md f=some fn:=by induction h with|nil=>intro f fn h;cases h|@cons g fn' r h1 _ ih=>
 intro f fn h;simp only[CM]at h;split at h;.rename_i hb;have e:=bb hb;subst e;injection h with h;subst h;exact h1
 .exact ih f fn h
def fixF{α β:Type}(step:Nat->(α->Option β)->α->Option β):Nat->α->Option β|0,_=>none|n+1,x=>step n (fixF step n) x
def vW(t:Nat):AC->Nat->Option AC
 |.seq a b,i=>match Nat.blt t (i+vQ a)with|true=>vW t a i|false=>vW t b (i+vQ a)
 |.cond _ a b,i=>match Nat.blt t (i+1+vQ a)with|true=>vW t a (i+1)|false=>vW t b (i+1+vQ a)
 |.block _ c,i=>vW t c (i+1)|.loop c,i=>match Nat.beq t i with|true=>some c|false=>vW t c (i+1)
 |_,_=>none
def aeq(fn:rF)(t:Nat):AC:=(vW t fn.body 0).getD .skip
def iB.tys:iB->List Ty|.int k=>[.int k]|.bool=>[.bool]|.er=>[.bool]|.str=>[.str]|.sl t _=>[.sl t]|.gw t _=>[t]|_=>[]
def iB.SK:iB->iB|.sl t _=>.sl t .aY|c=>c
def cv(T:Ty):List iB:=(bq T).map iB.SK
def vo.tys:vo->List Ty|.c x=>x.tys|.agg l=>l.flatMap iB.tys|.box l=>l.flatMap iB.tys|.fL _=>[]
def uR.tys:uR->List Ty|.c x=>x.tys|.agg l=>l.flatMap iB.tys|.fL _ l=>l.flatMap iB.tys
def Oo.tys:Oo->List Ty|.row _ t=>[.sl t]|.box _ l=>l.flatMap iB.tys|.set _=>[.sl .str]
def ajr(l:List (Nat×uR)):List Ty:=l.flatMap λx=>x.2.tys
def tm(slots:List (Nat×uR))(outer:List (List (Nat×uR)))(mem:List (Nat×Nat×Oo))(lvs:Nat)(aO:List Nat)(nv:Nat):aX:=⟨slots,outer,mem,lvs,aO,nv,ajr slots++(outer.flatMap ajr++mem.flatMap λx=>x.2.2.tys)⟩
abbrev tmn(l:List (Nat×uR)):aX:=tm l [] [] 1 [] 0
abbrev tmv(l:List (Nat×uR))(a b:Nat):aX:=tm l [] [] 1 [a] b
abbrev tmz:aX:=tmn []
abbrev tmr(l:List (Nat×uR)):AX×aX:=(.ret,tmn l)
abbrev tmx:AX×aX:=(.exit 0,tmz)
abbrev tmI:=List Int
abbrev tmf(l:List iB):Bool×List iB:=(false,l)
structure bH where
 a:List vo
 r:List (Bool×List iB)k:Nat
 b:List (Nat×Nat×Nat×Ty)u:List (Nat×Nat)e:List (Nat×Nat×Ty)c:List (Nat×Nat×aW)
abbrev sg(a:List vo)(r:List (Bool×List iB)):bH:=⟨a,r,0,[],[],[],[]⟩
def bH.ta(s:bH):List Ty:=s.a.flatMap vo.tys
def bH.tr(s:bH):List Ty:=s.r.flatMap λx=>x.2.flatMap iB.tys
def bH.tI(s:bH)(F:(sL s.ta).den->Option (sL s.tr).den):Callee:=⟨s.a,s.ta,s.r,s.tr,s.k,F⟩
def lk{β:Type}:List (Nat×Nat×β)->Nat->Nat->Option β|[],_,_=>none|(a,b,x)::r,c,i=>match Nat.beq a c&&Nat.beq b i with|true=>some x|false=>lk r c i
def lkU:List (Nat×Nat)->Nat->Nat->Bool|[],_,_=>false|(a,b)::r,c,i=>Nat.beq a c&&Nat.beq b i||lkU r c i
def ai.on(E:ai)(s:bH):ai:={E with Jz:=lk s.c,Mz:=lk s.b,unr:=lkU s.u,Oq:=lk s.e}
def ai.fn(E:ai)(f:Nat)(s:bH):(sL s.ta).den->Option (sL s.tr).den:=abO E xY f s.a s.ta s.r s.tr s.k
def ai.put(E:ai)(f:Nat)(s:bH)(F:(sL s.ta).den->Option (sL s.tr).den):ai:=E.jK f (s.tI F)
def az.on{bE:Tb}{E:ai}(h:az bE E)(s:bH):az bE (E.on s):=⟨h.fns,h.tI,h.loops⟩
def az.put{bE:Tb}{E E':ai}(h:az bE E)(h':az bE E')(f:Nat)(s:bH)(F:(sL s.ta).den->Option (sL s.tr).den)(e:F=E'.fn f s):az bE (E.put f s F):=h.jK ((Kh h' xY f s.a s.ta s.r s.tr s.k).plain e)
def az.o{bE:Tb}{E:ai}{s:bH}(h:az bE E):az bE (E.on s):=h.on s
def az.l{bE:Tb}{E:ai}{N c i T O}(h:az bE E):az bE (E.aa N c i T O):=h.aa ..
def az.pl{bE:Tb}{E:ai}(h:az bE E){f:Nat}{s:bH}{F:(sL s.ta).den->Option (sL s.tr).den}(e:F=(E.on s).fn f s):az bE (E.put f s F):=h.put (h.on s) f s F e
def az.pu{bE:Tb}{E:ai}(h:az bE E)(E':ai)(h':az bE E'){f:Nat}{s:bH}{F:(sL s.ta).den->Option (sL s.tr).den}(e:F=E'.fn f s):az bE (E.put f s F):=h.put h' f s F e
def lp(E:ai)(c i:Nat)(fn:rF)(t:Nat)(T:aX)(O:aW):Nat->(sL T.tys).den->Option (p9 O).den:=Ou (CK E xY c i (aeq fn t) T O)
def lpI{α β:Type}{s:(α->Option β)->α->Option β}{f:Nat->α->Option β}(h0:∀x,f 0 x=none)(h:∀k,f (k+1)=s (f k)):∀k,f k=Ou s k|0=>funext h0|k+1=>by rw[h,lpI h0 h k];rfl
def H9:List Nat->Nat->Bool|[],_=>false|a::r,f=>Nat.beq a f||H9 r f
def QC(l:List Nat)(tq:Nat->rF)(f:Nat):Option rF:=match H9 l f with|true=>some (tq f)|false=>none
def aer{P:Program}{dF:Nat->Option TypeId}{md:Nat->bS.Mode}{tq:Nat->rF}{l:List Nat}(hq:∀f,tq f=(LS P dF md f).getD default)(h:l.all (λf=>(LS P dF md f).isSome)=true):∀f fn,QC l tq f=some fn->LS P dF md f=some fn:=by
 have key:∀l:List Nat,l.all (λf=>(LS P dF md f).isSome)=true->∀f,H9 l f=true->(LS P dF md f).isSome=true:=by intro l h f hm;induction l with|nil=>cases hm|cons a r ih=>
  simp only[fg,ba]at h;simp only[H9,ib]at hm;rcases hm with hm|hm;.rw[<-bb hm];exact h.1
  .exact ih h.2 hm
 intro f fn hf;unfold QC at hf;split at hf;.rename_i hm;have:=key l h f hm;injection hf with hf;subst hf;rw[hq];cases he:LS P dF md f with|none=>rw[he]at this;cases this|some x=>rfl
 .cases hf
def OR(P:Program)(dF:Nat->Option TypeId)(md:Nat->bS.Mode)(l:List Nat)(f:Nat):Bool:=match Td P dF md f with|some d=>H9 l d.g|none=>true
def aad{P:Program}{dF:Nat->Option TypeId}{md:Nat->bS.Mode}{tq:Nat->rF}{l:List Nat}(hq:∀f,tq f=(LS P dF md f).getD default)(h:l.all (λf=>(LS P dF md f).isSome)=true)(hd:l.all (OR P dF md l)=true):Tj P dF md (QC l tq):=by
 refine⟨aer hq h,λf d hf hdf=>?_⟩;have hm:H9 l f=true:=by
  unfold QC at hf;split at hf;.rename_i hm;exact hm
  .cases hf
 have key:∀r:List Nat,(r.all (OR P dF md l)=true)->H9 r f=true->H9 l d.g=true:=by intro r h hm;induction r with|nil=>cases hm|cons a r ih=>
   simp only[fg,ba]at h;simp only[H9,ib]at hm;rcases hm with hm|hm;.have:=h.1;unfold OR at this;rw[bb hm,hdf]at this;exact this
   .exact ih h.2 hm
 simp[QC,key l hd hm]
abbrev Sb(a:Int):Int:=IntKind.u8.wrap a
abbrev aAs(a:Int):Int:=IntKind.u16.wrap a
abbrev aAt(a:Int):Int:=IntKind.u32.wrap a
abbrev aK(a:Int):Int:=IntKind.u64.wrap a
abbrev wi8(a:Int):Int:=IntKind.i8.wrap a
abbrev aAu(a:Int):Int:=IntKind.i16.wrap a
abbrev aAv(a:Int):Int:=IntKind.i32.wrap a
abbrev au(a:Int):Int:=IntKind.i64.wrap a
def tZ(k:IntKind)(a b:Int):Int:=k.wrap (BitVec.ofInt k.bits a&&&BitVec.ofInt k.bits b).toNat
def BD(k:IntKind)(a b:Int):Int:=k.wrap (BitVec.ofInt k.bits a|||BitVec.ofInt k.bits b).toNat
def aae(k:IntKind)(a b:Int):Int:=k.wrap (BitVec.ofInt k.bits a^^^BitVec.ofInt k.bits b).toNat
def qf(k:IntKind)(a b:Int):Int:=k.wrap (BitVec.ofInt k.bits a&&&~~~(BitVec.ofInt k.bits b)).toNat
def TX{d:gr}{r:List gr}:okD (d::r)↔d.t.ok d.v/\okD r:=by simp[okD]
def AG{H:Type}{enc:TypeId×Value->H}{P:Program}{w:World}{base:Nat}{sp:Nat->Bool}{held:Bool}:∀{ts:List TypeId}{vs:List Value}{ds:List (DataW H)}{ps:List MemPlace},DataW.TrodAll enc P w base sp held ts vs ds ps->ds.length=ts.length|[],[],[],_,_=>rfl|_::_,_::_,_::_,_,h=>by obtain⟨p,q,_,h2,_⟩:=h;simp[AG h2]|[],_::_,_,_,h=>h.elim|[],[],_::_,_,h=>h.elim|_::_,[],_,_,h=>h.elim|_::_,_::_,[],_,h=>h.elim
def aaf{P:Program}{W:World}{b:Nat}{args:Array Value}{params:Array TypeId}{l:List AF}(hp:params=(l.map (·.1)).toArray)(h:∀(j:Nat)t v,params[j]?=some t->args[j]?=some v->Value.okWide P W .any b t v):∀(j:Nat)(p:AF)v,l[j]?=some p->args[j]?=some v->Value.okWide P W .any b p.1 v:=λj p v hj hv=>h j p.1 v (by grind) hv
end Go.Sym
namespace Go.Proofs
open Go.Shelf
def Tryz.Kl:Go.Shelf.Ren:=⟨λ|189=>262|125=>278|257=>277|128=>289|129=>290|294=>280|295=>281|296=>282|297=>283|298=>284|299=>285|216=>286|300=>287|301=>288|328=>291|329=>292|330=>293|331=>294|332=>295|215=>296|343=>297|n=>n,λ|28=>60|3=>3|46=>147|0=>0|51=>347|53=>29|4=>4|183=>341|182=>340|131=>161|5=>5|9=>9|218=>349|222=>353|228=>355|229=>212|n=>n,λ|n=>n⟩
def Tryz.aag:Go.Proofs.Lays.n189 Tryz.prog Tryz.Kl:={
 mixed:=by kernel_rfl
 f125:=Tryz.func278.trans (kw some (by kernel_rfl))
 f128:=Tryz.func289.trans (kw some (by kernel_rfl))
 f129:=Tryz.func290.trans (kw some (by kernel_rfl))
 f189:=Tryz.func262.trans (kw some (by kernel_rfl))
 f215:=Tryz.func296.trans (kw some (by kernel_rfl))
 f216:=Tryz.func286.trans (kw some (by kernel_rfl))
 f257:=Tryz.func277.trans (kw some (by kernel_rfl))
 f294:=Tryz.func280.trans (kw some (by kernel_rfl))
 f295:=Tryz.func281.trans (kw some (by kernel_rfl))
 f296:=Tryz.func282.trans (kw some (by kernel_rfl))
 f297:=Tryz.func283.trans (kw some (by kernel_rfl))
 f298:=Tryz.func284.trans (kw some (by kernel_rfl))
 f299:=Tryz.func285.trans (kw some (by kernel_rfl))
 f300:=Tryz.func287.trans (kw some (by kernel_rfl))
 f301:=Tryz.func288.trans (kw some (by kernel_rfl))
 f328:=Tryz.func291.trans (kw some (by kernel_rfl))
 f329:=Tryz.func292.trans (kw some (by kernel_rfl))
 f330:=Tryz.func293.trans (kw some (by kernel_rfl))
 f331:=Tryz.func294.trans (kw some (by kernel_rfl))
 f332:=Tryz.func295.trans (kw some (by kernel_rfl))
 f343:=Tryz.func297.trans (kw some (by kernel_rfl))
 t0:=Tryz.underlying0
 a0:=Tryz.isAgg0
 z0:=Tryz.sizeOf0
 v0:=Tryz.zeroValue0
 t3:=Tryz.underlying3
 a3:=Tryz.isAgg3
 z3:=Tryz.sizeOf3
 v3:=Tryz.zeroValue3
 t4:=Tryz.underlying4
 a4:=Tryz.isAgg4
 z4:=Tryz.sizeOf4
 v4:=Tryz.zeroValue4
 t5:=Tryz.underlying5
 a5:=Tryz.isAgg5
 z5:=Tryz.sizeOf5
 v5:=Tryz.zeroValue5
 t9:=Tryz.underlying9
 a9:=Tryz.isAgg9
 z9:=Tryz.sizeOf9
 v9:=Tryz.zeroValue9
 t28:=Tryz.underlying60
 a28:=Tryz.isAgg60
 z28:=Tryz.sizeOf60
 v28:=Tryz.zeroValue60
 t46:=Tryz.underlying147
 a46:=Tryz.isAgg147
 z46:=Tryz.sizeOf147
 v46:=Tryz.zeroValue147
 t51:=Tryz.underlying347
 a51:=Tryz.isAgg347
 z51:=Tryz.sizeOf347
 v51:=Tryz.zeroValue347
 t53:=Tryz.underlying29
 a53:=Tryz.isAgg29
 z53:=Tryz.sizeOf29
 v53:=Tryz.zeroValue29
 t131:=Tryz.underlying161
 a131:=Tryz.isAgg161
 z131:=Tryz.sizeOf161
 v131:=Tryz.zeroValue161
 t182:=Tryz.underlying340
 a182:=Tryz.isAgg340
 z182:=Tryz.sizeOf340
 v182:=Tryz.zeroValue340
 t183:=Tryz.underlying341
 a183:=Tryz.isAgg341
 z183:=Tryz.sizeOf341
 v183:=Tryz.zeroValue341
 t218:=Tryz.underlying349
 a218:=Tryz.isAgg349
 z218:=Tryz.sizeOf349
 v218:=Tryz.zeroValue349
 t222:=Tryz.underlying353
 a222:=Tryz.isAgg353
 z222:=Tryz.sizeOf353
 v222:=Tryz.zeroValue353
 t228:=Tryz.underlying355
 a228:=Tryz.isAgg355
 z228:=Tryz.sizeOf355
 v228:=Tryz.zeroValue355
 t229:=Tryz.underlying212
 a229:=Tryz.isAgg212
 z229:=Tryz.sizeOf212
 v229:=Tryz.zeroValue212}
def Tryz.MW:Go.Shelf.Ren:=⟨λ|20=>263|n=>n,λ|22=>60|3=>3|4=>4|0=>0|n=>n,λ|n=>n⟩
def Tryz.aes:Go.Proofs.Lays2.n20 Tryz.prog Tryz.MW:={
 mixed:=by kernel_rfl
 f20:=Tryz.func263.trans (kw some (by kernel_rfl))
 t0:=Tryz.underlying0
 a0:=Tryz.isAgg0
 z0:=Tryz.sizeOf0
 v0:=Tryz.zeroValue0
 t3:=Tryz.underlying3
 a3:=Tryz.isAgg3
 z3:=Tryz.sizeOf3
 v3:=Tryz.zeroValue3
 t4:=Tryz.underlying4
 a4:=Tryz.isAgg4
 z4:=Tryz.sizeOf4
 v4:=Tryz.zeroValue4
 t22:=Tryz.underlying60
 a22:=Tryz.isAgg60
 z22:=Tryz.sizeOf60
 v22:=Tryz.zeroValue60
 i3:=by kernel_rfl}
end Go.Proofs
namespace Go.Sym
open Go Go.bS
noncomputable section
def TY(sz:Nat):rF:=⟨1,9,[.t 2],(.seq (.region [⟨(some 2),.IV (.c (.own [] .full)),none,0,0⟩] false) (.seq (.region [⟨(some 3),.IV (.t 0),none,0,0⟩,⟨(some 4),.IV (.t 0),none,0,0⟩,⟨(some 5),.len (.t 4),none,0,0⟩,⟨(some 6),.IV (.t 0),none,0,0⟩,⟨(some 7),.len (.t 6),none,0,0⟩,⟨(some 8),.slice sz (.t 3) none (some (.t 5)) (some (.t 7)),none,0,0⟩,⟨(some 2),.IV (.t 8),none,0,0⟩] false) .ret)),false⟩
def aet(a:AV)(n:Nat):St:={slots:=oa (oa (oa (oa (oa (oa (ep 0 [a] .lf) (some 2) (.own [] .full)) (some 3) a) (some 4) a) (some 5) (qF n)) (some 6) a) (some 7) (qF n),mem:=[.lf],aO:=.lf,nv:=8}
def ajs(a:AV)(n:Nat)(call:bS.Call)(sh:Nat->Bool)(o:Option AV):Option (AV×List (Tr bM)×Tr Unit×Nat):=match(match Option.map (λs'=>(AX.normal,s')) (match o.bind gu.pure with|none=>none|some e=>jz call sh 1 6 [⟨(some 2),.IV (.t 8),none,0,0⟩] ((aet a n).app (some 8) e))with|some (.normal,s')=>exec call sh 47 .ret s'|r=>r)with|some (.normal,s)|some (.ret,s)=>(kg s [.t 2]).map λvs=>(jq vs,s.mem,s.aO,s.nv)|_=>none
def zj{T:Tb}{f:Nat}{fn:rF}(hf:T.fs f=some fn)(n:Nat)(args:List AV)(mem:List (Tr bM))(aO:Tr Unit)(nv:Nat):jF T (n+1) f args mem aO nv=(match Nat.beq args.length fn.np with|false=>none|true=>match exec (jF T n) (λg=>((T.fs g).map (·.sh)).getD false) n fn.body {slots:=ep 0 args .lf,mem,aO,nv}with|some (.normal,s)|some (.ret,s)=>(kg s fn.res).map λvs=>(jq vs,s.mem,s.aO,s.nv)|_=>none):=by simp[jF,hf];rfl
def TZ{T:Tb}{f sz:Nat}(hf:T.fs f=some (TY sz))(els:List (List D))(a:AV)(hs:els.all (λe=>e.length==sz)=true)(h:a=.d (.sl els)\/∃o,o≠.aY/\a=.own els o):∃cm ts nv,jF T 50 f [a] [.lf] .lf 0=some (.own els .full,cm,ts,nv):=by
 have go:∀a:AV,jF T 50 f [a] [.lf] .lf 0=ajs a els.length (jF T 49) (λg=>((T.fs g).map (·.sh)).getD false) (fO sz a 0 (some els.length) (some els.length))->fO sz a 0 (some els.length) (some els.length)=some (.own els .full)->∃cm ts nv,jF T 50 f [a] [.lf] .lf 0=some (.own els .full,cm,ts,nv):=by intro a h1 h2;rw[h2]at h1;exact⟨_,_,_,h1⟩
 rcases h with rfl|⟨o,ho,rfl⟩;.refine go _ ?_ (by simp[fO,hs]);rw[show(50:Nat)=49+1from rfl,zj hf];kernel_rfl
 .cases o with|aY=>exact absurd rfl ho|full=>refine go _ ?_ (by simp[fO,hs]);rw[show(50:Nat)=49+1from rfl,zj hf];kernel_rfl|cT=>refine go _ ?_ (by simp[fO,hs]);rw[show(50:Nat)=49+1from rfl,zj hf];kernel_rfl
def BE(t:Ty):Callee:=⟨[.c (.sl t .d)],[.sl t],[(false,[.sl t .full])],[.sl t],65535,λl=>some l⟩
def MX{T:Tb}{f:Nat}{t:Ty}(hf:T.fs f=some (TY t.size)):lK T f (BE t):=by refineλl y hy=>⟨[.c (.sl t l .d)],rfl,λxs has=>?_⟩;cases hy;match xs,has with
 |[a],ha=>
  obtain⟨cm,ts,nv,hr⟩:=TZ hf (bB t l) a (gY t l) ha.1;refine⟨50,_,cm,ts,nv,λm hm=>OA 50 m hm _ _ _ _ _ _ hr,λws CR=>⟨λh=>absurd rfl h,λrow lv sl av p EA us w _ Gl _ hp _ hw=>?_⟩⟩;have:ws=[(false,[.sl t l .full])]:=by have:oA (BE t).res (unpack (BE t).tr l)=some ([(false,[.sl t l .full])],[]):=rfl<;>grind
  subst this;cases hp;have hw:w=.c (.sl t l .full):=by cases hw;grind
  subst hw;have Gl:row%65536=65535:=Gl;refine⟨.own (bB t l) .full,?_,λ_ _ _ _=>rfl⟩;simp only[jc,mF,bC,Gl,i6,show Nat.beq 1 65535=false from rfl,show Nat.beq 65535 65535=true from rfl,xa];rfl
end
def arA:Callee:=⟨[],[],[(false,[.bool])],[.bool],0,λ_=>some true⟩
end Go.Sym
namespace Go.Proofs.YtnfdnnplfbfgaaaGreat
open Go Go.bS Go.Sym
def md:Nat->bS.Mode:=λf=>match f with|113=>⟨[],true⟩|62=>⟨[],true⟩|123=>⟨[(27,2),(44,2),(65,2),(104,2)],false⟩|124=>⟨[(3,6),(17,1)],false⟩|76=>⟨[(13,1)],false⟩|75=>⟨[(9,1)],false⟩|266=>⟨[],true⟩|279=>⟨[],true⟩|265=>⟨[],true⟩|240=>⟨[],true⟩|246=>⟨[(6,16122249221)],true⟩|207=>⟨[(2,65540)],false⟩|161=>⟨[],true⟩|162=>⟨[],true⟩|206=>⟨[],true⟩|160=>⟨[],true⟩|210=>⟨[(20,65537)],false⟩|163=>⟨[],true⟩|184=>⟨[],true⟩|236=>⟨[(28,1)],false⟩|183=>⟨[(24,3),(40,1),(10,1)],true⟩|150=>⟨[(13,1)],false⟩|155=>⟨[(2,65540),(38,1)],false⟩|151=>⟨[(13,65537)],false⟩|190=>⟨[(6,2)],true⟩|189=>⟨[],true⟩|192=>⟨[(6,2)],true⟩|193=>⟨[(11,2)],false⟩|238=>⟨[(6,2)],true⟩|152=>⟨[(37,2),(86,2),(119,2),(126,2),(133,2),(139,2),(152,2),(165,2),(182,2),(218,2)],false⟩|196=>⟨[(19,131071)],false⟩|153=>⟨[(45,3),(105,1),(28,1),(25,1),(91,1),(31,1)],false⟩|201=>⟨[],true⟩|154=>⟨[(74,1),(39,1)],false⟩|66=>⟨[],true⟩|158=>⟨[(22,1)],false⟩|118=>⟨[(37,1)],false⟩|37=>⟨[],true⟩|36=>⟨[],true⟩|12=>⟨[(2,14),(45,14),(17,1)],true⟩|126=>⟨[(33,3),(14,1),(55,1),(19,1)],false⟩|79=>⟨[(12,2)],false⟩|127=>⟨[],true⟩|80=>⟨[],true⟩|5=>⟨[(41,131071)],false⟩|179=>⟨[(2,65540),(3,65540),(28,1),(12,1)],false⟩|216=>⟨[(2,65540),(19,1),(3,65540),(12,1)],false⟩|213=>⟨[(2,65540),(5,65537)],false⟩|215=>⟨[(6,65537)],false⟩|214=>⟨[(7,65537)],false⟩|219=>⟨[(9,65537)],false⟩|172=>⟨[(13,65537)],false⟩|221=>⟨[(10,1)],false⟩|223=>⟨[(27,1),(24,1)],false⟩|224=>⟨[(20,1)],false⟩|229=>⟨[],true⟩|175=>⟨[(11,131071)],false⟩|132=>⟨[(19,10)],false⟩|233=>⟨[(8,1),(5,1)],false⟩|178=>⟨[(9,65538),(19,1)],false⟩|136=>⟨[(35,65538)],false⟩|97=>⟨[(18,65538)],false⟩|54=>⟨[(26,1)],false⟩|141=>⟨[(5,65537)],false⟩|101=>⟨[(14,1)],false⟩|_=>⟨[],false⟩
def dF:Nat->Option TypeId:=λf=>match f with|29=>some 30|30=>some 33|31=>some 34|262=>some 1000000|263=>some 1000001|_=>none
def aah:List Nat:=[21,10,4,165,113,62,211,166,167,123,124,74,76,75,85,40,266,279,265,245,240,241,242,243,244,203,204,202,77,78,35,205,159,246,207,161,162,206,160,208,209,210,163,119,71,182,184,236,183,150,155,185,186,187,151,188,264,237,191,190,189,192,193,194,238,195,152,239,122,199,196,197,198,153,200,201,154,156,111,112,60,22,61,63,23,64,24,114,115,116,65,25,66,67,157,128,82,158,117,84,86,118,68,26,69,27,70,32,34,73,37,36,13,33,164,120,121,72,28,11,12,168,169,125,170,126,79,38,127,80,81,83,39,41,87,129,88,130,90,89,91,92,42,14,5,267,247,248,234,179,235,180,140,139,105,251,252,268,249,250,212,171,216,213,215,214,217,253,218,219,172,131,220,254,221,225,269,255,270,271,272,273,274,275,256,222,276,258,100,230,257,223,259,260,224,173,261,229,231,175,226,227,228,174,132,93,43,133,94,44,45,48,134,135,95,46,96,176,232,177,233,178,136,97,47,49,51,99,54,53,52,106,137,138,98,50,15,16,17,18,20,143,104,57,141,101,55,142,102,103,56,58,144,181,149,147,110,145,107,146,148,108,109,59,19,6,7,8,9,3]
@[irreducible]noncomputable def tq(f:Nat):rF:=(LS Tryz.prog dF md f).getD default
noncomputable def tmq(E:ai)(i f:Nat)(T:aX)(O:aW):Nat->(sL T.tys).den->Option (p9 O).den:=lp E 0 i (tq f) i T O
def arB:Go.bS.Call:=Ti
noncomputable def bE:Tb:=⟨QC aah tq,arB⟩
def ajt(f:Nat):tq f=(LS Tryz.prog dF md f).getD default:=by kernel_rfl
set_option maxRecDepth 100000in theorem aai:aah.all (λf=>(LS Tryz.prog dF md f).isSome)=true:=by kernel_rfl
set_option maxRecDepth 100000in theorem aaj:aah.all (OR Tryz.prog dF md aah)=true:=by kernel_rfl
def aju:Tj Tryz.prog dF md bE.fs:=aad ajt aai aaj
def aak:kr Tryz.prog 29 30:=⟨λ_ _=>⟨_,Tryz.func29,by kernel_rfl,by kernel_rfl,by kernel_rfl,by kernel_rfl⟩,λh=>absurd h (by decide),λh=>absurd h (by decide)⟩
def aal:kr Tryz.prog 30 33:=⟨λ_ _=>⟨_,Tryz.func30,by kernel_rfl,by kernel_rfl,by kernel_rfl,by kernel_rfl⟩,λh=>absurd h (by decide),λh=>absurd h (by decide)⟩
def aam:kr Tryz.prog 31 34:=⟨λ_ _=>⟨_,Tryz.func31,by kernel_rfl,by kernel_rfl,by kernel_rfl,by kernel_rfl⟩,λh=>absurd h (by decide),λh=>absurd h (by decide)⟩
def T0:kr Tryz.prog 262 1000000:=⟨λh=>absurd rfl h,λ_=>PJ Tryz.aag ⟨_,Tryz.func262,by kernel_rfl,by kernel_rfl⟩,λh=>absurd h (by decide)⟩
def T1:kr Tryz.prog 263 1000001:=⟨λ_ h=>absurd rfl h,λh=>absurd h (by decide),λ_=>Hq Tryz.aes ⟨_,Tryz.func263,by kernel_rfl,by kernel_rfl⟩⟩
def ajv:∀f T,dF f=some T->kr Tryz.prog f T:=by
 intro f T h;unfold dF at h;split at h;.injection h with h;subst h;exact aak
 .injection h with h;subst h;exact aal
 .injection h with h;subst h;exact aam
 .injection h with h;subst h;exact T0
 .injection h with h;subst h;exact T1
 .cases h
end Go.Proofs.YtnfdnnplfbfgaaaGreat
