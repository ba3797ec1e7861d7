/- The machine over typed data: regions, code, loops, functions. -/
import Derived.Test.YtkdilffhbejjaaaGreatSymJ
import Derived.Test.YtkdilffhbejjaaaGreatSymGM
set_option linter.unusedVariables false
set_option linter.unusedSimpArgs false
namespace Go.Sym
open Go Go.bM
section
variable{Fs:Tb}{E:ah}{wk:Wk}{α:Type}{ρ:bD}{nx rem p:Nat}{os:List (Tr AV)}{s2:S2}{s:St}{ctx row d:Nat}{K:gY->Option α}{r:α}
theorem GU(hwk:LI Fs wk)(hE:az Fs E)(hi:RI ρ nx (rem+1) os s2 s p){op:ct}(h:cY E wk ctx s2 row d nx op K=some r):∃r2 e,(∃n0,∀n,n0<=n->op.run (jo Fs n) (AP Fs) s row d p=some e)/\o9 ρ nx os s2 s r2 e/\K r2=some r:=by
 have fU:ρ nx=some p:=by simpa using hi.Ay 0 (by omega)
 have hm:=hi.mem;have ht:=hi.aK;have cj:=hi.slots;have hB:nx<=nx:=bc _;have zL:nx<=nx+1:=by omega
 have hinj:=hi.au.inj;have conv:dX ρ nx (nx+1) s2 s op row d p K r->∃r2 e,(∃n0,∀n,n0<=n->op.run (jo Fs n) (AP Fs) s row d p=some e)/\o9 ρ nx os s2 s r2 e/\K r2=some r:=by rintro⟨E',e,h1,h2,h3⟩;exact⟨.ck E',.ck e,⟨0,λn _=>h1 _ _⟩,h2,h3⟩
 cases op with
 |HS x=>exact conv (Sc hm ht cj hB fU h)|compact x=>exact conv (GN hm ht cj hB fU h)|pick c a b=>exact conv (O1 hm ht cj zL h)|alloc z=>exact conv (LB hm ht hB fU h)|box x=>exact conv (Sb hm ht cj hB fU h)|build z ps=>exact conv (Lw hm ht cj zL h)|buildSlice sz n z ps=>exact conv (Ax hm ht cj hB fU h)|load sz agg x=>exact conv (Pa hm ht cj hB h)|store sz x v=>exact conv (LC hm ht cj hB h)|nilCheck x=>exact conv (DX hm ht cj zL h)|bin op x y=>exact conv (R7 hm ht cj zL h)|W6 neg x y=>exact conv (R8 hm ht cj zL h)|W7 neg sz l x y=>exact conv (R9 hm ht cj zL h)|un op x=>exact conv (XU hm ht cj zL h)|conv k x=>exact conv (O3 hm ht cj zL h)|field off sz agg x=>exact conv (LA hm ht cj zL h)|fieldAddr off x=>exact conv (Cb hm ht cj zL h)|indexAddr sz x i=>exact conv (Cc hm ht cj zL h)|kJ n sz x i=>exact conv (DY hm ht cj zL h)|qE n sz agg x i=>exact conv (IZ hm ht cj zL h)|qF x i=>exact conv (I1 hm ht cj zL h)|slice sz x lo hi mx=>exact conv (LD hm ht cj hB fU h)|qG x lo hi=>exact conv (I2 hm ht cj zL h)|extract x i=>exact conv (GK hm ht cj zL h)|len x=>exact conv (Sa hm ht cj zL h)|FO x=>exact conv (O6 hm ht cj zL h)|HT x=>exact conv (O5 hm ht cj zL h)|DN n=>exact conv (O7 hm ht zL h)|FP x y=>exact conv (O8 hm ht cj zL h)|FQ x y=>exact conv (O9 hm ht cj zL h)|append sz bytes x y=>exact conv (I6 hm ht cj hB fU hinj h)|oP sz bytes z x n=>exact conv (GM hm ht cj hB fU hinj h)|clone sz bytes x=>exact conv (LF hm ht cj hB fU hinj h)|sort x=>exact conv (Pe hm ht cj hB h)|copy sz x y=>exact conv (Pc hm ht cj hB h)|makeSlice sz bytes z l c=>exact conv (Cg hm ht cj hB fU h)|makeFunc f cap=>exact conv (DZ hm ht cj zL h)|clear sz z x=>exact conv (LG hm ht cj hB h)|grow sz x n=>exact conv (Pf hm ht cj hB fU h)|call f args=>
  simp[cY]at h;split at h;.rename_i h7 h8 h9 WZ;obtain⟨vs,hv,h⟩:=aB h;obtain⟨r2,e,⟨n0,h1⟩,h2,h3⟩:=Cl hwk hE hi (by omega) h (oZ cj hv);exact⟨r2,e,⟨n0,λn hn=>by simp only[ct.run,h7,h8,h9,WZ];exact h1 n hn⟩,h2,h3⟩
  .rename_i h7 h8 h9;obtain⟨vs,hv,h⟩:=aB h;obtain⟨r2,e,⟨n0,h1⟩,h2,h3⟩:=Sl hE hi h (oZ cj hv);exact⟨r2,e,⟨n0,λn hn=>by simp only[ct.run,h7,h8,h9];exact h1 n hn⟩,h2,h3⟩
  .rename_i h7 h8 h9 WZ;obtain⟨vs,hv,h⟩:=aB h;obtain⟨r2,e,⟨n0,h1⟩,h2,h3⟩:=Sm hE hi h (oZ cj hv);exact⟨r2,e,⟨n0,λn hn=>by simp only[ct.run,h7,h8,h9,WZ];exact h1 n hn⟩,h2,h3⟩
  grind|vF f args=>
  obtain⟨vs,hv,h⟩:=aB h;have hse:E.sh f=AP Fs f:=by simp[ah.sh,AP,hE.fns]
  rw[hse]at h;cases ZD:AP Fs f with|true=>rw[ZD]at h;obtain⟨r2,e,⟨n0,h1⟩,h2,h3⟩:=Cl hwk hE hi (by omega) h (oZ cj hv);refine⟨r2,e,⟨n0,λn hn=>?_⟩,h2,h3⟩;have:=h1 n hn;rw[ZD]at this;simp[ct.run,ZD,this]|false=>rw[ZD]at h;obtain⟨r2,e,⟨n0,h1⟩,h2,h3⟩:=Pm hE hi h (oZ cj hv);exact⟨r2,e,⟨n0,λn hn=>by simp only[ct.run,ZD,h1 n hn]⟩,h2,h3⟩
 |yS x args=>
  simp[cY]at h;split at h
  .rename_i f cap hx;obtain⟨vs,hv,h⟩:=aB h;obtain⟨aO,he,hc⟩:=bt cj hx;have hc:aE (RV ρ nx s2.mem) (cap.map .c) aO:=by
    have:∀{cs:List Cell}{aO:List AV},aE (RC ρ nx s2.mem) cs aO->aE (RV ρ nx s2.mem) (cs.map .c) aO:=by intro cs;induction cs with
     |nil=>intro aO h;match aO,h with|[],_=>trivial
     |cons c cs ih=>intro aO h;match aO,h with|a::aO,h=>exact⟨h.1,ih h.2⟩
    grind
   obtain⟨r2,e,⟨n0,h1⟩,h2,h3⟩:=Cl hwk hE hi (by omega) h ((oZ cj hv).append hc);exact⟨r2,e,⟨n0,λn hn=>by simp only[ct.run,he];exact h1 n hn⟩,h2,h3⟩
  grind|sliceB n sz x=>exact conv (I3 hm ht cj zL h)|Zr x=>exact conv (Sr hm ht cj hB h)|Zs x=>exact conv (Ss hm ht cj hB h)|mkSet=>exact conv (LM hm ht hB fU h)|HU x y=>exact conv (Pn hm ht cj hB h)|HV x y=>exact conv (Po hm ht cj hB h)|yR neg x=>exact conv (Lz hm ht cj zL h)|r9 lo n sz x=>exact conv (IY hm ht cj zL h)|bad=>simp[cY]at h
theorem RI.Su(hi:RI ρ nx rem os s2 s p){g:Nat}{t:Bool}(hg:dz s.slots g=.d (.sc (.bool t))):RI ρ nx rem os {s2 with slots:=s2.slots.set g (some (.c (.bool t)))} s p:=by
 refine⟨λk v hk=>?_,hi.outer,hi.mem,hi.aK,hi.au,hi.Ay,hi.nv,hi.pn⟩;rw[Tr.cy]at hk;split at hk;.subst_vars;cases hk;exact hg
 .exact hi.slots k v hk
theorem Jl(hwk:LI Fs wk)(hE:az Fs E)(hi:RI ρ nx (rem+1) os s2 s p){o:bE}{K:S2->gY->Option α}(h:Nj E wk ctx s2 nx o K=some r):∃s2' r2 e,(∃n0,∀n,n0<=n->o.step (jo Fs n) (AP Fs) s p=some e)/\RI ρ nx (rem+1) os s2' s p/\o9 ρ nx os s2' s r2 e/\K s2' r2=some r:=by
 have skip:∀{s2'},RI ρ nx (rem+1) os s2' s p->o9 ρ nx os s2' s (kS (.jF [])) (.ck {val:=kg,di:=[],cK:=[],rd:=[]}):=λhi'=>oA.xT hi'.mem hi'.aK (by omega) mY aW.nil;unfold Nj at h;split at h;.rename_i hg;obtain⟨r2,e,⟨n0,h1⟩,h2,h3⟩:=GU hwk hE hi h;refine⟨s2,r2,e,⟨n0,λn hn=>?_⟩,hi,h2,h3⟩;simp[bE.step,iY,hg]<;>grind
 .rename_i g b hg;split at h;.rename_i t ht;have hv:dz s.slots g=.d (.sc (.bool t)):=hi.slots g _ ht;have hi':=hi.Su hv;cases t with
   |true=>cases b with|true=>obtain⟨r2,e,⟨n0,h1⟩,h2,h3⟩:=GU hwk hE hi' h;refine⟨_,r2,e,⟨n0,λn hn=>?_⟩,hi',h2,h3⟩;simp[bE.step,iY,hg,hv,i9]<;>grind|false=>refine⟨_,_,_,⟨0,λn _=>?_⟩,hi',skip hi',h⟩;simp[bE.step,iY,hg,hv];rfl
   |false=>cases b with|true=>refine⟨_,_,_,⟨0,λn _=>?_⟩,hi',skip hi',h⟩;simp[bE.step,iY,hg,hv];rfl|false=>obtain⟨r2,e,⟨n0,h1⟩,h2,h3⟩:=GU hwk hE hi' h;refine⟨_,r2,e,⟨n0,λn hn=>?_⟩,hi',h2,h3⟩;simp[bE.step,iY,hg,hv,i9]<;>grind
  .rename_i ht;obtain⟨aO,hv,_⟩:=hi.slots g _ ht;refine⟨_,_,_,⟨0,λn _=>?_⟩,hi,skip hi,h⟩;simp[bE.step,iY,hg,hv];rfl
  grind
theorem NB{B:Nat}{m:List (Tr E2)}{t:Tr V2}{o:Tr AV}(h:va ρ B m t o){v:V2}{a:AV}(hv:RV ρ B m v a)(dst:Option Nat):va ρ B m (XE t dst v) (nE o dst a):=by cases dst with|none=>exact h|some n=>
 intro k w hk;simp[XE]at hk;simp[nE,dz];rw[Tr.cy]at hk⊢;split at hk;.grind
 .rename_i hne;rw[be hne];exact h k w hk
theorem RI.ck(hi:RI ρ nx (rem+1) os s2 s p){E':ID}{e:fT}(h:oA ρ nx (nx+1) s2 s E' e)(dst:Option Nat):RI ρ (nx+1) rem os (s2.app dst (.ck E')) (s.app dst (.ck e)) (p+1):=by
 refine⟨?_,?_,h.mem,h.aK,hi.au,λj hj=>?_,?_,?_⟩;.exact NB (hi.slots.move h.agd (by omega) λ_ _=>rfl) h.val dst
 .exact iU h.agd (by omega) (λ_ _=>rfl) hi.outer
 .have:=hi.Ay (j+1) (by omega)<;>grind
 .have:=hi.nv;show nx+1+rem=s2.nv;omega
 .have:=hi.pn;show p+1+rem<=s.nv;omega
theorem RI.all(hi:RI ρ nx (rem+1) os s2 s p){v:V2}{t2:S2}{a:AV}{m:List (Tr bH)}{t:Tr Unit}{n:Nat}(h:o9 ρ nx os s2 s (.all v t2) (.all a m t n))(dst:Option Nat):∃ρ',RI ρ' t2.nv rem os {t2.app dst (.all v t2)with nv:=t2.nv+rem} (s.app dst (.all a m t n)) (p+1)/\Fr ρ (nx+1) s.nv ρ' t2.nv/\s.nv<=n:=by
 obtain⟨ρ1,hs,hv,hf,hn⟩:=h;have hpn:=hi.pn;let ρ':bD:=λv=>if v<t2.nv then ρ1 v else if v<t2.nv+rem then some (p+1+(v-t2.nv))else some (n+(v-(t2.nv+rem)));have e1:∀v,v<t2.nv->ρ' v=ρ1 v:=λv h=>bb h;have e3:∀v,t2.nv+rem<=v->ρ' v=some (n+(v-(t2.nv+rem))):=λv h=>by show(if v<t2.nv then _ else _)=_;rw[be (by omega),be (by omega)]
 have apart:∀v u,v<t2.nv->ρ1 v=some u->u<p+1\/p+1+rem<=u:=by
  intro v u hv hu;rcases hf v u hv hu with⟨w,hw,GS⟩|h'
  .rcases f6 u (p+1)with h1|h1;.grind
   .rcases f6 u (p+1+rem)with h2|h2;.have:=hi.Ay (u-p) (by omega);rw[show p+(u-p)=u from by omega]at this;have:=hi.au.inj _ _ _ GS this<;>omega
    omega
  omega
 refine⟨ρ',⟨?_,?_,?_,?_,?_,λj hj=>?_,rfl,?_⟩,?_,hn⟩;.exact NB (hs.slots.move (fA.refl _ _) (bc _) e1) (hv.move (fA.refl _ _) (bc _) e1) dst
 .exact iU (fA.refl _ _) (bc _) e1 hs.outer
 .exact hs.mem.ren e1
 .intro v hv;obtain⟨h1,h2⟩:=hs.aK v hv;exact⟨h1,λu hu=>h2 u (by rw[<-e1 v h1];exact hu)⟩
 .refine⟨λv u hv hu=>?_,λv hv=>e3 v hv,λv v' u hu lF=>?_⟩
  .show u<n;rcases f6 v t2.nv with h1|h1;.rw[e1 v h1]at hu;exact hs.au.low v u h1 hu
   grind
  .rcases f6 v t2.nv with h1|h1
   .rw[e1 v h1]at hu;have vR:=hs.au.low v u h1 hu;rcases f6 v' t2.nv with h2|h2;.rw[e1 v' h2]at lF;exact hs.au.inj v v' u hu lF
    grind
   .rcases f6 v (t2.nv+rem)with h3|h3;.grind
    .simp_all;rcases f6 v' t2.nv with h2|h2;.rw[e1 v' h2]at lF;have:u<n:=hs.au.low v' u h2 lF<;>omega
     grind
 .grind
 .show p+1+rem<=n;omega
 .intro v u hv hu;rw[e1 v hv]at hu;exact hf v u hv hu
theorem RI.done(hi:RI ρ nx 0 os s2 s p):AM ρ os s2 s:=by have:nx=s2.nv:=hi.nv;subst this;exact⟨hi.slots,hi.outer,hi.mem,hi.aK,hi.au,bc _⟩
def Sv(ρ:bD)(nx:Nat)(os:List (Tr AV))(lo n:Nat)(K:S2->Option α)(r:α)(s':St):Prop:=∃ρ' s2',AM ρ' os s2' s'/\Fr ρ nx lo ρ' s2'.nv/\n<=s'.nv/\K s2'=some r
theorem ve(hwk:LI Fs wk)(hE:az Fs E){K:S2->Option α}{lN lo:Nat}:∀{ops:List bE}{i nx:Nat}{ρ:bD}{s2:S2}{s:St},AI E wk ctx nx ops s2 K=some r->RI ρ nx ops.length os s2 s (lN+i)->lo<=lN->∃s',(∃n0,∀n,n0<=n->ji (jo Fs n) (AP Fs) lN i ops s=some s')/\Sv ρ nx os lo s.nv K r s'|[],i,nx,ρ,s2,s,h,hi,_=>⟨s,⟨0,λ_ _=>rfl⟩,ρ,s2,hi.done,by have:nx=s2.nv:=hi.nv;subst this;exact Fr.refl _ _ _,bc _,h⟩|o::ops,i,nx,ρ,s2,s,h,hi,hlo=>by obtain⟨s2',r2,e,⟨n0,h1⟩,h2,h3,h4⟩:=Jl hwk hE hi h;cases r2 with
 |ck E'=>cases e with
  |ck e=>
    have hi':=h2.ck h3 o.dst;rw[ed]at hi';obtain⟨s',⟨n1,g1⟩,ρ',s3,g2,g3,g4,g5⟩:=ve hwk hE h4 hi' hlo;refine⟨s',⟨max n0 n1,λn hn=>?_⟩,ρ',s3,g2,λv u hv hu=>?_,g4,g5⟩;.simp[ji,h1 n (by omega)]<;>grind
    .rcases g3 v u hv hu with⟨w,hw,GS⟩|h'
     .by_cases hwn:w=nx;.have:=hi.Ay 0 (by simp)<;>grind
      grind
     omega|all=>exact h3.elim
 |all v t2=>cases e with|ck e=>exact h3.elim|all a m t n'=>
    obtain⟨ρ1,hi',hf,hn'⟩:=h2.all h3 o.dst;rw[ed]at hi';obtain⟨s',⟨n1,g1⟩,ρ',s3,g2,g3,g4,g5⟩:=ve hwk hE h4 hi' hlo;have hsn:lo<=s.nv:=by have:=hi.pn;omega
    refine⟨s',⟨max n0 n1,λn hn=>?_⟩,ρ',s3,g2,λv u hv hu=>?_,ml hn' g4,g5⟩;.simp[ji,h1 n (by omega)]<;>grind
    .rcases g3 v u hv hu with⟨w,hw,GS⟩|h'
     .rcases hf w u hw GS with⟨w',M5,am2⟩|h'
      .by_cases hwn:w'=nx;.have:=hi.Ay 0 (by simp)<;>grind
       grind
      omega
     omega
def sW(ρ:bD):gY->gT->Prop|.ck E,.ck e=>aW ρ E.rd e.rd/\aW ρ E.wr e.wr|.all _ _,_=>True|_,_=>False
def NC(ρ:bD):List (Nat×gY)->List (Nat×gT)->Prop:=aE λx y=>x.1=y.1/\sW ρ x.2 y.2
theorem Sw{a b:Nat×Nat×Nat}:keq a b=true↔a=b:=by obtain⟨a1,a2,a3⟩:=a;obtain⟨b1,b2,b3⟩:=b;simp[keq,and_assoc]
theorem KR.inj(hinj:∀v v' u,ρ v=some u->ρ v'=some u->v=v'){a b k:Nat×Nat×Nat}(ha:KR ρ a k)(hb:KR ρ b k):a=b:=by
 rcases ha with⟨rfl,h⟩|⟨v,u,rfl,rfl,hu⟩
 .rcases hb with⟨rfl,_⟩|⟨v',u',rfl,rfl,_⟩;.rfl
  .cases h
 .rcases hb with⟨rfl,h⟩|⟨v',u',rfl,h,lF⟩;.cases h
  .have:u=u':=by simpa[kH]using h
   grind
theorem Cm(hinj:∀v v' u,ρ v=some u->ρ v'=some u->v=v'){a2 b2 a b:List (Nat×Nat×Nat)}(ha:aW ρ a2 a)(hb:aW ρ b2 b)(h:xP a2 b2=false):meets a b=false:=by
 rw[t7];intro hm;unfold meets at hm;rw[ls]at hm;obtain⟨k,hk,hc⟩:=hm;obtain⟨k2,h1,h2⟩:=ha k hk;obtain⟨k2',h3,h4⟩:=hb k (by simpa using hc);have:=KR.inj hinj h2 h4;subst this;have:xP a2 b2=true:=by unfold xP;rw[ls];exact⟨k2,h1,by rw[ls];exact⟨k2,h3,Sw.2 rfl⟩⟩
 rw[h]at this;cases this
theorem keys_nil{l:List (Nat×Nat×Nat)}(h:aW ρ [] l):l=[]:=by cases l with|nil=>rfl|cons k l=>obtain⟨_,h1,_⟩:=h k cb<;>grind
theorem quiet{E':ID}{e:fT}(h:qg (.ck E')=false)(hr:sW ρ (.ck E') (.ck e)):e.rd=[]/\e.di=[]/\e.cK=[]:=by
 simp[qg,ph,am,ul]at h;obtain⟨⟨h1,h2⟩,h3⟩:=h;obtain⟨k1,k2⟩:=hr;rw[h1]at k1;have hw:E'.wr=[]:=by simp[ID.wr,h2,h3]
 rw[hw]at k2;have:=keys_nil k2;simp[fT.wr,List.append_eq_nil_iff,List.map_eq_nil_iff]at this;exact⟨keys_nil k1,this.1,this.2⟩
theorem LN{e:fT}(h:e.rd=[]/\e.di=[]/\e.cK=[]):lH (.ck e)=false:=by grind[lH]
theorem zM{x:gT}{e:fT}(h:e.rd=[]/\e.di=[]/\e.cK=[]):vH x (.ck e)=false/\vH (.ck e) x=false:=by
 have hl:=LN h;obtain⟨h1,h2,h3⟩:=h;have hw:e.wr=[]:=by simp[fT.wr,h2,h3]
 cases x with|ck a=>simp[vH,h1,hw,meets]|all=>simp[vH,hl]
theorem Sx(hinj:∀v v' u,ρ v=some u->ρ v'=some u->v=v'){x2 r2:gY}{x e:gT}(hx:sW ρ x2 x)(he:sW ρ r2 e)(hr:∀v t,r2=.all v t->∃a m tt n,e=.all a m tt n)(h:xQ x2 r2=false):vH x e=false:=by cases r2 with
 |ck E'=>cases e with|all=>exact he.elim|ck e=>cases x2 with
   |ck X=>cases x with|all=>exact hx.elim|ck x=>simp[xQ,gg]at h;simp[vH,gg];exact⟨⟨Cm hinj hx.1 he.2 h.1.1,Cm hinj hx.2 he.1 h.1.2⟩,Cm hinj hx.2 he.2 h.2⟩
   |all v t=>
    have:qg (.ck E')=false:=by simpa[xQ,qg]using h
    exact(zM (quiet this he)).1
 |all v t=>cases x2 with
  |ck X=>cases x with|all=>exact hx.elim|ck x=>
    have:qg (.ck X)=false:=by simpa[xQ,qg]using h
    exact(zM (quiet this hx)).2
  |all v' t'=>simp[xQ,qg]at h
theorem vW(hinj:∀v v' u,ρ v=some u->ρ v'=some u->v=v'){n9:Nat}{r2:gY}{e:gT}(he:sW ρ r2 e)(hr:∀v t,r2=.all v t->∃a m tt n,e=.all a m tt n):∀{zz:List (Nat×gY)}{eg:List (Nat×gT)},NC ρ zz eg->GF n9 r2 zz=true->clear n9 e eg=true|[],[],_,_=>rfl|(i,x2)::r2',(j,x)::r',hp,h=>by obtain⟨⟨h1,h2⟩,h3⟩:=hp;subst h1;simp[GF,am,f5,eK]at h;simp[clear,am,f5,eK];exact⟨h.1.imp id (Sx hinj h2 he hr),vW hinj he hr h3 h.2⟩|[],_::_,h,_=>h.elim|_::_,[],h,_=>h.elim
theorem Jm{ρ':bD}:∀{l2:List (Nat×gY)}{l:List (Nat×gT)},NC ρ l2 l->NC ρ' (zz l2) l
 |[],[],_=>trivial|(i,x2)::r2',(j,x)::r',hp=>by obtain⟨⟨h1,h2⟩,h3⟩:=hp;refine⟨⟨h1,?_⟩,Jm h3⟩;show sW ρ' (match qg x2 with|true=>_|false=>x2) x;cases hl:qg x2 with|true=>trivial|false=>cases x2 with|all=>simp[qg]at hl|ck X=>cases x with|all=>exact h2.elim|ck x=>
     obtain⟨q1,q2,q3⟩:=quiet hl h2;refine⟨?_,?_⟩;.rw[q1];exact aW.nil
     .have:x.wr=[]:=by simp[fT.wr,q2,q3]
      rw[this];exact aW.nil
 |[],_::_,h=>h.elim|_::_,[],h=>h.elim
theorem o9.key{r2:gY}{e:gT}(h:o9 ρ nx os s2 s r2 e):sW ρ r2 e/\∀v t,r2=.all v t->∃a m tt n,e=.all a m tt n:=by cases r2 with
 |ck E'=>cases e with|ck e=>exact⟨⟨h.rd,h.wr⟩,λ_ _ h=>by cases h⟩|all=>exact h.elim
 |all v t=>cases e with|ck e=>exact h.elim|all a m tt n=>simp_all[o9,bD,sW]
theorem vf(hwk:LI Fs wk)(hE:az Fs E){K:S2->Option α}{lN lo:Nat}:∀{ops:List bE}{i nx:Nat}{ρ:bD}{s2:S2}{s:St}{zz:List (Nat×gY)}{eg:List (Nat×gT)},AJ E wk ctx i nx ops zz s2 K=some r->NC ρ zz eg->RI ρ nx ops.length os s2 s (lN+i)->lo<=lN->∃s',(∃n0,∀n,n0<=n->jU (jo Fs n) (AP Fs) lN i ops eg s=some s')/\Sv ρ nx os lo s.nv K r s'
 |[],i,nx,ρ,s2,s,_,_,h,_,hi,_=>⟨s,⟨0,λ_ _=>rfl⟩,ρ,s2,hi.done,by have:nx=s2.nv:=hi.nv;subst this;exact Fr.refl _ _ _,bc _,h⟩|o::ops,i,nx,ρ,s2,s,pa2,eg,h,hp,hi,hlo=>by
  obtain⟨s2',r2,e,⟨n0,h1⟩,h2,h3,h4⟩:=Jl hwk hE hi h;split at h4;.rename_i nM;have hkey:=h3.key;have nM:=vW hi.au.inj hkey.1 hkey.2 hp nM;cases r2 with
   |ck E'=>cases e with
    |ck e=>
     have hi':=h2.ck h3 o.dst;obtain⟨s',⟨n1,g1⟩,ρ',s3,g2,g3,g4,g5⟩:=vf hwk hE h4 (eg:=(i,.ck e)::eg) ⟨⟨rfl,hkey.1⟩,hp⟩ hi' hlo;refine⟨s',⟨max n0 n1,λn hn=>?_⟩,ρ',s3,g2,λv u hv hu=>?_,g4,g5⟩;.simp[jU,h1 n (by omega),nM]<;>grind
     .rcases g3 v u hv hu with⟨w,hw,GS⟩|h'
      .by_cases hwn:w=nx;.have:=hi.Ay 0 (by simp)<;>grind
       grind
      omega|all=>exact h3.elim
   |all v t2=>cases e with|ck e=>grind|all a m t n'=>
     obtain⟨ρ1,hi',hf,hn'⟩:=h2.all h3 o.dst;obtain⟨s',⟨n1,g1⟩,ρ',s3,g2,g3,g4,g5⟩:=vf hwk hE h4 (eg:=(i,.all a m t n')::eg) ⟨⟨rfl,trivial⟩,Jm hp⟩ hi' hlo;have hsn:lo<=s.nv:=by have:=hi.pn;omega
     refine⟨s',⟨max n0 n1,λn hn=>?_⟩,ρ',s3,g2,λv u hv hu=>?_,ml hn' g4,g5⟩;.simp[jU,h1 n (by omega),nM]<;>grind
     .rcases g3 v u hv hu with⟨w,hw,GS⟩|h'
      .rcases hf w u hw GS with⟨w',M5,am2⟩|h'
       .by_cases hwn:w'=nx;.have:=hi.Ay 0 (by simp)<;>grind
        grind
       omega
      omega
  grind
theorem GV(hwk:LI Fs wk)(hE:az Fs E){ops:List bE}{draw:Bool}{K:S2->Option α}(h:XJ E wk ctx ops draw s2 K=some r)(hs:AM ρ os s2 s):∃s',Ev Fs (.region ops draw) s (.normal,s')/\Sv ρ s2.nv os s.nv s.nv K r s':=by
 have start:RI ρ s2.nv ops.length os {s2 with nv:=s2.nv+ops.length} {s with nv:=s.nv+ops.length} (s.nv+0):=by
  refine⟨hs.slots,hs.outer,hs.mem,hs.aK,⟨λv u hv hu=>?_,λv hv=>?_,hs.au.inj⟩,λj hj=>?_,rfl,bc _⟩
  .show u<s.nv+ops.length;rcases f6 v s2.nv with h1|h1;.have:=hs.au.low v u h1 hu;omega
   .rw[hs.au.high v h1]at hu<;>grind
  .have hv:s2.nv+ops.length<=v:=hv;rw[hs.au.high v (by omega)]<;>grind
  .rw[hs.au.high _ (by omega)]<;>grind
 have lift:∀{s':St},Sv ρ s2.nv os s.nv (s.nv+ops.length) K r s'->Sv ρ s2.nv os s.nv s.nv K r s':=by rintro s'⟨ρ',s3,g2,g3,g4,g5⟩;exact⟨ρ',s3,g2,g3,by omega,g5⟩
 cases draw with|false=>obtain⟨s',⟨n0,h1⟩,g⟩:=ve hwk hE (lo:=s.nv) h start (bc _);refine⟨s',⟨n0+1,λk n hk hn=>?_⟩,lift g⟩;obtain⟨n,rfl⟩:∃q,n=q+1:=⟨n-1,by omega⟩;simp[exec,gh,h1 k (by omega),ca]|true=>obtain⟨s',⟨n0,h1⟩,g⟩:=vf hwk hE (lo:=s.nv) (eg:=[]) h trivial start (bc _);refine⟨s',⟨n0+1,λk n hk hn=>?_⟩,lift g⟩;obtain⟨n,rfl⟩:∃q,n=q+1:=⟨n-1,by omega⟩;simp[exec,gh,h1 k (by omega),ca]
end
section
variable{Fs:Tb}{E:ah}
theorem SR.u9{ρ:bD}{os:List (Tr AV)}{s2:S2}{s:St}{c:cc}{b:Bool}(hs:AM ρ os s2 s)(hb:jH (c.ev s.slots)=some b):AM ρ os (u9 s2 c b) s:=by cases c with|c v=>exact hs|t n=>
 have he:dz s.slots n=.d (.sc (.bool b)):=by
  unfold jH at hb;split at hb;.rename_i b' e;simp_all;exact e
  .cases hb
 refine⟨λk v hk=>?_,hs.outer,hs.mem,hs.aK,hs.au,hs.le⟩;simp[Go.Sym.u9]at hk;rw[Tr.cy]at hk;split at hk;.subst_vars;cases hk;exact he
 .exact hs.slots k v hk
theorem Sy{call:bM.Call}{sh:Nat->Bool}{s:St}{dst aT:Nat}{op:ct}{e:gT}(hm:RR sh op=true)(h:op.run call sh s 0 dst aT=some e):∃v rd,e=.ck {val:=v,di:=[],cK:=[],rd}:=by
 have pure:∀{v:AV},fT.pure v=some e->∃v rd,e=.ck {val:=v,di:=[],cK:=[],rd}:=λh=>by injection h with h;exact⟨_,_,h.symm⟩
 have ZT:∀{α:Type}{o:Option α}{k:α->Option gT},Option.bind o k=some e->∃x,k x=some e:=λ{α o k}h=>by cases o with|none=>cases h|some x=>exact⟨x,h⟩
 cases op with
 |HS x=>injection h with h;exact⟨_,_,h.symm⟩|load sz agg x=>obtain⟨cs,h⟩:=ZT h;cases hw:gX agg cs with|none=>rw[hw]at h;cases h|some v=>simp_all;exact⟨_,_,h.symm⟩
 |vF f args=>
  simp[RR,eK]at hm;simp[ct.run,hm,kL]at h;split at h;.cases h
  .split at h;.cases h
   .split at h
    .split at h;.simp_all;exact⟨_,_,h.symm⟩
     .cases h
    .cases h|slice sz x lo hi mx=>
  simp[ct.run]at h;split at h
  .split at h;.rename_i hz;simp at hz
   .obtain⟨v,h⟩:=ZT h;exact pure h
  .cases h|_=>first|(cases hm;done)|(simp only[ct.run]at h;repeat'(first|split at h|(simp only[kb]at h;obtain⟨_,_,h⟩:=h)|(cases h;done)|exact pure h))
structure sX(l:List Nat)(s s':St):Prop where
 mem:s'.mem=s.mem
 aK:s'.aK=s.aK
 nv:s.nv<=s'.nv
 slots:∀k,¬k∈l->dz s'.slots k=dz s.slots k
theorem sX.refl(l:List Nat)(s:St):sX l s s:=⟨rfl,rfl,bc _,λ_ _=>rfl⟩
theorem sX.trans{l:List Nat}{s s' s'':St}(h:sX l s s')(k:sX l s' s''):sX l s s'':=⟨k.mem.trans h.mem,k.aK.trans h.aK,ml h.nv k.nv,λi hi=>(k.slots i hi).trans (h.slots i hi)⟩
theorem sX.mono{l l':List Nat}{s s':St}(h:sX l s s')(hl:∀k,k∈l->k∈l'):sX l' s s':=⟨h.mem,h.aK,h.nv,λk hk=>h.slots k λh'=>hk (hl k h')⟩
theorem Fh{call:bM.Call}{sh:Nat->Bool}{s:St}{aT:Nat}{o:bE}{e:gT}(hm:EW sh o=true)(h:o.step call sh s aT=some e):sX o.dst.toList s (s.app o.dst e):=by
 simp only[EW,am]at hm;have hr:=aw hm.1;have key:∃v rd,e=.ck {val:=v,di:=[],cK:=[],rd}:=by
  simp[bE.step]at h;split at h;.cases h
  .rw[hr]at h;exact Sy hm.2 h
  .injection h with h;exact⟨_,_,h.symm⟩
 obtain⟨v,rd,rfl⟩:=key;refine⟨rfl,rfl,bc _,λk hk=>?_⟩;simp[St.app,nE];cases hd:o.dst with|none=>rfl|some n=>simp[dz,Tr.cy]<;>grind
theorem Jn{call:bM.Call}{sh:Nat->Bool}{lN:Nat}:∀{ops:List bE}{i:Nat}{s s':St},ops.all (EW sh)=true->ji call sh lN i ops s=some s'->sX (ops.flatMap λo=>o.dst.toList) s s'
 |[],_,s,s',_,h=>by cases h;exact sX.refl _ _|o::r,i,s,s',hm,h=>by
  simp only[d9,am]at hm;simp[ji]at h;split at h;.cases h
  .rename_i e he;exact((Fh hm.1 he).mono λk hk=>by simp only[d7,bj];exact .inl hk).trans ((Jn hm.2 h).mono λk hk=>by simp only[d7,bj];exact .inr hk)
theorem Jo{call:bM.Call}{sh:Nat->Bool}{lN:Nat}:∀{ops:List bE}{i:Nat}{eg:List (Nat×gT)}{s s':St},ops.all (EW sh)=true->jU call sh lN i ops eg s=some s'->sX (ops.flatMap λo=>o.dst.toList) s s'
 |[],_,_,s,s',_,h=>by cases h;exact sX.refl _ _|o::r,i,eg,s,s',hm,h=>by
  simp only[d9,am]at hm;simp[jU]at h;split at h;.cases h
  .rename_i e he;split at h;.exact((Fh hm.1 he).mono λk hk=>by simp only[d7,bj];exact .inl hk).trans ((Jo hm.2 h).mono λk hk=>by simp only[d7,bj];exact .inr hk)
   grind
theorem lX{call:bM.Call}{sh:Nat->Bool}:∀{n:Nat}{c:AC}{s s':St}{ax:AX},sJ sh c=true->exec call sh n c s=some (ax,s')->sX (qh c) s s'|0,_,_,_,_,_,h=>by cases h|n+1,c,s,s',ax,hm,h=>by cases c with
 |skip=>cases h;exact sX.refl _ _|region ops draw=>simp only[exec]at h;cases hr:gh call sh ops draw s with|none=>grind|some t=>rw[hr]at h;cases h;cases draw with|false=>have g:=Jn hm hr;exact⟨g.mem,g.aK,by have:=g.nv;simp only at this;omega,g.slots⟩|true=>have g:=Jo hm hr;exact⟨g.mem,g.aK,by have:=g.nv;simp only at this;omega,g.slots⟩
 |seq a b=>
  simp[sJ,am]at hm;simp[exec]at h;split at h;.rename_i t ht;exact((lX hm.1 ht).mono λk hk=>by simp only[qh,bj];exact .inl hk).trans ((lX hm.2 h).mono λk hk=>by simp only[qh,bj];exact .inr hk)
  .exact(lX hm.1 h).mono λk hk=>by simp only[qh,bj];exact .inl hk|cond c a b=>
  simp[sJ,am]at hm;simp[exec]at h;split at h;.exact(lX hm.1 h).mono λk hk=>by simp only[qh,bj];exact .inl hk
  .exact(lX hm.2 h).mono λk hk=>by simp only[qh,bj];exact .inr hk
  grind|block=>cases hm|loop=>cases hm|exit=>cases hm|ret=>cases hm
theorem Fi:∀(l:List Nat)(t:Tr V2)(k:Nat)(v:V2),(II l t).get? k=some v->¬k∈l/\t.get? k=some v|[],t,k,v,h=>⟨by simp,h⟩|n::r,t,k,v,h=>by obtain⟨h1,h2⟩:=Fi r _ k v h;rw[Tr.cy]at h2<;>grind
theorem Jp{ρ:bD}{B:Nat}{m:List (Tr E2)}{t:Ty}{c c':Cell}{x:t.den}{a:AV}(h:GG t c=some x)(h':Ls t x=some c')(hc:RC ρ B m c a):∀{ρ':bD}{B':Nat}{m':List (Tr E2)},RC ρ' B' m' c' a:=by
 unfold GG at h;split at h
 .split at h;.rename_i e _;cases h;subst e;cases h';exact hc
  .cases h
 .cases h;cases h';exact hc
 .cases h;cases h';exact hc
 .cases h
theorem Cn{t:Ty}{m:Nat}{ax:AX}{s2:S2}{x:t.den}(h:IJ t m ax s2=some x):ax=.normal/\∃c,s2.slots.get? m=some (.c c)/\GG t c=some x:=by unfold IJ at h<;>grind
theorem Co{ρ:bD}{os:List (Tr AV)}{s2:S2}{s t:St}{l:List Nat}{m:Nat}{y:Cell}(hs:AM ρ os s2 s)(hm:sX l s t)(hy:∀{ρ':bD}{B':Nat}{m':List (Tr E2)},RC ρ' B' m' y (dz t.slots m)):∃ρ',AM ρ' os {s2 with slots:=(II l s2.slots).set m (some (.c y))} t/\Fr ρ s2.nv s.nv ρ' s2.nv:=by
 let ρ':bD:=λv=>if v<s2.nv then ρ v else some (t.nv+(v-s2.nv));have hρ:∀v,v<s2.nv->ρ' v=ρ v:=λv hv=>bb hv;have hρ2:∀v,s2.nv<=v->ρ' v=some (t.nv+(v-s2.nv)):=λv hv=>be (by omega);have BC:=hm.nv;refine⟨ρ',⟨λk v hk=>?_,hs.outer.mono λ_ _ h=>h.move (fA.refl _ _) (bc _) hρ,?_,λv hv=>?_,⟨λv u hv hu=>?_,λv hv=>hρ2 v hv,λv v' u hu lF=>?_⟩,bc _⟩,λv u hv hu=>.inl ⟨v,hv,by rw[<-hρ v hv];exact hu⟩⟩
 .rw[Tr.cy]at hk;split at hk;.subst_vars;cases hk;exact hy
  .obtain⟨h1,h2⟩:=Fi _ _ _ _ hk;rw[hm.slots k h1];exact(hs.slots k v h2).move (fA.refl _ _) (bc _) hρ
 .rw[hm.mem];refine⟨hs.mem.len,λlv sl e2 he=>?_⟩;obtain⟨e,h1,h2⟩:=hs.mem.fZ lv sl e2 he;exact⟨e,h1,RE.mono (bc _) hρ (λ_ _=>RC.move (fA.refl _ _) (bc _) hρ) h2⟩
 .rw[hm.aK];obtain⟨h1,h2⟩:=hs.aK v hv<;>grind
 .rw[hρ v hv]at hu;have:=hs.au.low v u hv hu;omega
 .by_cases h1:v<s2.nv
  .rw[hρ v h1]at hu;by_cases h2:v'<s2.nv;.rw[hρ v' h2]at lF;exact hs.au.inj _ _ _ hu lF
   .simp_all;have:=hs.au.low v u h1 hu<;>omega
  .simp_all;by_cases h2:v'<s2.nv;.rw[hρ v' h2]at lF;have:=hs.au.low v' u h2 lF<;>omega
   grind
theorem GW(hE:az Fs E):∀n,LI Fs (walk E n)
 |0=>λ_ _ _ _ _ _ _ h=>by cases h|n+1=>by
  have ih:=GW hE n;intro α ctx i c s2 K r h ρ os s hs;simp[walk]at h;have meet:∀{outs:bn}{y:(oY outs).den}{ax:AX}{t2:S2}{ρ':bD}{t:St},nO outs ax t2=some y->AM ρ' os t2 t->Fr ρ s2.nv s.nv ρ' t2.nv->s.nv<=t.nv->qf outs y K=some r->∃t3 ρ3,AM ρ3 os t3 t/\Fr ρ s2.nv s.nv ρ3 t3.nv/\K ax t3=some r:=by intro outs y ax t2 ρ' t hy xZ hfr hn hk;obtain⟨t3,ρ3,g1,g2,g3⟩:=AO xZ hy;exact⟨t3,ρ3,g1,hfr.trans g2 hn,(g3 K).symm.trans hk⟩
  cases c with
  |skip=>exact⟨.normal,s2,ρ,s,⟨1,λk n _ hn=>by obtain⟨n,rfl⟩:∃q,n=q+1:=⟨n-1,by omega⟩;rfl⟩,hs,Fr.refl _ _ _,bc _,h⟩|exit id=>exact⟨.exit id,s2,ρ,s,⟨1,λk n _ hn=>by obtain⟨n,rfl⟩:∃q,n=q+1:=⟨n-1,by omega⟩;rfl⟩,hs,Fr.refl _ _ _,bc _,h⟩|ret=>exact⟨.ret,s2,ρ,s,⟨1,λk n _ hn=>by obtain⟨n,rfl⟩:∃q,n=q+1:=⟨n-1,by omega⟩;rfl⟩,hs,Fr.refl _ _ _,bc _,h⟩|region ops draw=>
   simp at h;split at h
   .rename_i m _;split at h
    .rename_i Cp;have hsh:E.sh=AP Fs:=by funext g;simp[ah.sh,AP,hE.fns]
     rw[hsh]at Cp;obtain⟨y,hy,h⟩:=bind_some h;obtain⟨s',⟨n0,pZ⟩,ρ',s3,g2,g3,g4,g5⟩:=GV ih hE hy hs;obtain⟨_,c',DH,g5⟩:=Cn g5;obtain⟨y',hy',h⟩:=aB h;obtain⟨ρ3,q1,q2⟩:=Co hs (lX (c:=.region ops draw) Cp (pZ n0 n0 (bc _) (bc _))) (Jp g5 hy' (show RC _ _ _ c' _ from g2.slots m.1 _ DH));exact⟨.normal,_,ρ3,s',⟨n0,pZ⟩,q1,q2,g4,h⟩
    grind
   split at h;.obtain⟨s',pZ,ρ',s3,g2,g3,g4,g5⟩:=GV ih hE h hs<;>grind
   .obtain⟨y,hy,h⟩:=bind_some h;obtain⟨s',pZ,ρ',s3,g2,g3,g4,g5⟩:=GV ih hE hy hs<;>grind|seq a b=>obtain⟨ax,t2,ρ',t,⟨n0,pZ⟩,g2,g3,g4,g5⟩:=ih _ _ _ _ _ _ _ h _ _ _ hs;cases ax with|normal=>obtain⟨ax',t3,ρ3,t',⟨n1,agl⟩,q2,q3,q4,q5⟩:=ih _ _ _ _ _ _ _ g5 _ _ _ g2;refine⟨ax',t3,ρ3,t',⟨max n0 n1+1,λk m hk hm=>?_⟩,q2,g3.trans q3 g4,ml g4 q4,q5⟩;obtain⟨m,rfl⟩:∃q,m=q+1:=⟨m-1,by omega⟩;simp[exec,pZ k m (by omega) (by omega)]<;>grind|exit id=>refine⟨.exit id,t2,ρ',t,⟨n0+1,λk m hk hm=>?_⟩,g2,g3,g4,g5⟩;obtain⟨m,rfl⟩:∃q,m=q+1:=⟨m-1,by omega⟩;simp[exec,pZ k m (by omega) (by omega)]|ret=>refine⟨.ret,t2,ρ',t,⟨n0+1,λk m hk hm=>?_⟩,g2,g3,g4,g5⟩;obtain⟨m,rfl⟩:∃q,m=q+1:=⟨m-1,by omega⟩;simp[exec,pZ k m (by omega) (by omega)]
  |cond c a b=>
   have way:∀{β:Type}{K':AX->S2->Option β}{r':β},(wD (jG s2 c) λt=>cond t (walk E n β ctx (i+1) a (u9 s2 c true) K') (walk E n β ctx (i+1+u7 a) b (u9 s2 c false) K'))=some r'->
     ∃ax t2 ρ' t,Ev Fs (.cond c a b) s (ax,t)/\AM ρ' os t2 t/\Fr ρ s2.nv s.nv ρ' t2.nv/\s.nv<=t.nv/\K' ax t2=some r':=by intro β K' r' h;obtain⟨t,ht,h⟩:=qW h;have hb:=qX (bt hs.slots ht);cases t with|true=>
     have BC:(u9 s2 c true).nv=s2.nv:=by cases c<;>rfl
     obtain⟨ax,t2,ρ',t,⟨n0,pZ⟩,g2,g3,g4,g5⟩:=ih _ _ _ _ _ _ _ h _ _ _ (hs.u9 hb);rw[BC]at g3;refine⟨ax,t2,ρ',t,⟨n0+1,λk m hk hm=>?_⟩,g2,g3,g4,g5⟩;obtain⟨m,rfl⟩:∃q,m=q+1:=⟨m-1,by omega⟩;simp[exec,hb]<;>grind|false=>
     have BC:(u9 s2 c false).nv=s2.nv:=by cases c<;>rfl
     obtain⟨ax,t2,ρ',t,⟨n0,pZ⟩,g2,g3,g4,g5⟩:=ih _ _ _ _ _ _ _ h _ _ _ (hs.u9 hb);rw[BC]at g3;refine⟨ax,t2,ρ',t,⟨n0+1,λk m hk hm=>?_⟩,g2,g3,g4,g5⟩;obtain⟨m,rfl⟩:∃q,m=q+1:=⟨m-1,by omega⟩;simp[exec,hb]<;>grind
   simp at h;split at h
   .rename_i m _;split at h
    .rename_i Cp;simp at Cp;have hsh:E.sh=AP Fs:=by funext g;simp[ah.sh,AP,hE.fns]
     rw[hsh]at Cp;obtain⟨y,hy,h⟩:=bind_some h;obtain⟨ax,t2,ρ',t,⟨n0,pZ⟩,g2,g3,g4,g5⟩:=way hy;obtain⟨rfl,c',DH,g5⟩:=Cn g5;obtain⟨y',hy',h⟩:=aB h;have hmd:sJ (AP Fs) (.cond c a b)=true:=by simp[sJ,Cp.1,Cp.2,kp]
     obtain⟨ρ3,q1,q2⟩:=Co hs (lX hmd (pZ n0 n0 (bc _) (bc _))) (Jp g5 hy' (show RC _ _ _ c' _ from g2.slots m.1 _ DH));exact⟨.normal,_,ρ3,t,⟨n0,pZ⟩,q1,q2,g4,h⟩
    grind
   .split at h;.exact way h
    .obtain⟨y,hy,h⟩:=bind_some h;obtain⟨ax,t2,ρ',t,pZ,g2,g3,g4,g5⟩:=way hy<;>grind|block id c=>
   have way:∀{β:Type}{K':AX->S2->Option β}{r':β},(walk E n β ctx (i+1) c s2 λax s'=>match ax with
      |.exit id'=>match Nat.beq id' id with|true=>K' .normal s'|false=>K' (.exit id') s'
      |ax=>K' ax s')=some r'->∃ax t2 ρ' t,Ev Fs (.block id c) s (ax,t)/\AM ρ' os t2 t/\Fr ρ s2.nv s.nv ρ' t2.nv/\s.nv<=t.nv/\K' ax t2=some r':=by intro β K' r' h;obtain⟨ax,t2,ρ',t,⟨n0,pZ⟩,g2,g3,g4,g5⟩:=ih _ _ _ _ _ _ _ h _ _ _ hs;cases ax with|normal=>refine⟨.normal,t2,ρ',t,⟨n0+1,λk m hk hm=>?_⟩,g2,g3,g4,g5⟩;obtain⟨m,rfl⟩:∃q,m=q+1:=⟨m-1,by omega⟩;simp[exec,pZ k m (by omega) (by omega)]|ret=>refine⟨.ret,t2,ρ',t,⟨n0+1,λk m hk hm=>?_⟩,g2,g3,g4,g5⟩;obtain⟨m,rfl⟩:∃q,m=q+1:=⟨m-1,by omega⟩;simp[exec,pZ k m (by omega) (by omega)]|exit id'=>simp at g5;cases hb:Nat.beq id' id with|true=>rw[hb]at g5;refine⟨.normal,t2,ρ',t,⟨n0+1,λk m hk hm=>?_⟩,g2,g3,g4,g5⟩;obtain⟨m,rfl⟩:∃q,m=q+1:=⟨m-1,by omega⟩;simp[exec,pZ k m (by omega) (by omega),hb]|false=>rw[hb]at g5;refine⟨.exit id',t2,ρ',t,⟨n0+1,λk m hk hm=>?_⟩,g2,g3,g4,g5⟩;obtain⟨m,rfl⟩:∃q,m=q+1:=⟨m-1,by omega⟩;simp[exec,pZ k m (by omega) (by omega),hb]
   simp at h;split at h;.exact way h
   .obtain⟨y,hy,h⟩:=bind_some h;obtain⟨ax,t2,ρ',t,pZ,g2,g3,g4,g5⟩:=way hy<;>grind|loop c=>
   simp at h;split at h;.obtain⟨ax,t2,ρ',t,⟨n0,pZ⟩,g2,g3,g4,g5⟩:=ih _ _ _ _ _ _ _ h _ _ _ hs;cases ax with|normal=>obtain⟨ax',t3,ρ3,t',⟨n1,agl⟩,q2,q3,q4,q5⟩:=ih _ _ _ _ _ _ _ g5 _ _ _ g2;refine⟨ax',t3,ρ3,t',⟨max n0 n1+1,λk m hk hm=>?_⟩,q2,g3.trans q3 g4,ml g4 q4,q5⟩;obtain⟨m,rfl⟩:∃q,m=q+1:=⟨m-1,by omega⟩;simp[exec,pZ k m (by omega) (by omega)]<;>grind|exit id=>refine⟨.exit id,t2,ρ',t,⟨n0+1,λk m hk hm=>?_⟩,g2,g3,g4,g5⟩;obtain⟨m,rfl⟩:∃q,m=q+1:=⟨m-1,by omega⟩;simp[exec,pZ k m (by omega) (by omega)]|ret=>refine⟨.ret,t2,ρ',t,⟨n0+1,λk m hk hm=>?_⟩,g2,g3,g4,g5⟩;obtain⟨m,rfl⟩:∃q,m=q+1:=⟨m-1,by omega⟩;simp[exec,pZ k m (by omega) (by omega)]
   obtain⟨L,hL,h⟩:=aB h;obtain⟨ds,hd,h⟩:=aB h;obtain⟨x,hx,h⟩:=aB h;obtain⟨y,hy,h⟩:=bind_some h;obtain⟨t2,ρ',g1,g2,g3⟩:=AN hd hs;obtain⟨ax,t3,ρ3,t,q1,q2,q3,q4,q5⟩:=hE.loops ctx _ c L hL x y hy t2 (by rw[dJ hx];exact g1) _ _ _ g2;exact⟨ax,t3,ρ3,t,q1,q2,g3.trans q3 (bc _),q4,(q5 K).symm.trans h⟩
theorem ND(hE:az Fs E)(N ctx i:Nat)(body:AC)(T:bq)(outs:bn):∀k,Sk Fs body ⟨T,outs,Nk (BZ E N ctx i body T outs) k⟩
 |0=>λx y h=>by cases h|k+1=>by
  have ih:=ND hE N ctx i body T outs k;intro x y h s2 hst ρ os s hs;obtain⟨s2',agm,h⟩:=aB h;rw[hst]at agm;cases agm;obtain⟨ax,t2,ρ',t,⟨n0,pZ⟩,g2,g3,g4,g5⟩:=GW hE N _ _ _ _ _ _ _ h _ _ _ hs;have leave:∀{ax:AX},ax≠.normal->Ev Fs body s (ax,t)->nO outs ax t2=some y->∃ax s2' ρ' s',Ev Fs (.loop body) s (ax,s')/\AM ρ' os s2' s'/\Fr ρ s2.nv s.nv ρ' s2'.nv/\s.nv<=s'.nv/\∀{α:Type}(K:AX->S2->Option α),qf outs y K=K ax s2':=by rintro ax RY⟨n0,pZ⟩hy;obtain⟨t3,ρ3,q1,q2,q3⟩:=AO g2 hy;refine⟨ax,t3,ρ3,t,⟨n0+1,λk m hk hm=>?_⟩,q1,g3.trans q2 g4,g4,q3⟩;obtain⟨m,rfl⟩:∃q,m=q+1:=⟨m-1,by omega⟩;simp[exec,pZ k m (by omega) (by omega)]<;>grind
  cases ax with|normal=>obtain⟨ds,hd,g5⟩:=aB g5;obtain⟨x',hx,g5⟩:=aB g5;obtain⟨t3,ρ3,q1,q2,q3⟩:=AN hd g2;obtain⟨ax',t4,ρ4,t',⟨n1,agl⟩,w2,w3,w4,w5⟩:=ih x' y g5 t3 (by simp only;rw[dJ hx];exact q1) _ _ _ q2;refine⟨ax',t4,ρ4,t',⟨max n0 n1+1,λk m hk hm=>?_⟩,w2,(g3.trans q3 g4).trans w3 g4,ml g4 w4,w5⟩;obtain⟨m,rfl⟩:∃q,m=q+1:=⟨m-1,by omega⟩;simp[exec,pZ k m (by omega) (by omega)]<;>grind|exit id=>exact leave (λh=>by cases h) ⟨n0,pZ⟩ g5|ret=>exact leave (λh=>by cases h) ⟨n0,pZ⟩ g5
theorem Xv(x:Cell):XG 0 x=true:=by cases x<;>first|rfl|exact Nat.ble_eq.2 (vd _)
theorem Ya{ρ:bD}{B:Nat}{m2:List (Tr E2)}{m:List (Tr bH)}(hm:MR ρ B m2 m){top k lv sl au:Nat}{c:gZ}{x x':Cell}{ks:List (Nat×Nat)}{a:AV}{d:List fS}(hh:XG top x=true)(h:Ln m2 x=some (x',ks))(hd:uc c x'=some d)(hx:RC ρ B m2 x a):∃y x2,bA m top 0 k lv sl au a=some (.d y,[])/\(∀rest,c.fill (d++rest)=some (x2,rest))/\∀(ρ:bD)(B:Nat)(m:List (Tr E2)),RC ρ B m x2 (.d y):=by
 have imp:∃y,ov x'=some y/\bA m top 0 k lv sl au a=some (.d y,[]):=by
  unfold Ln at h;split at h;.cases h;cases hx;exact⟨_,rfl,rfl⟩
  .cases h;cases hx;exact⟨_,rfl,rfl⟩
  .cases h;cases hx;exact⟨_,rfl,rfl⟩
  .cases h;cases hx;exact⟨_,rfl,rfl⟩
  .cases h;rcases(hU (m:=m) hx).2with rfl|⟨o,ho,rfl⟩;.exact⟨_,rfl,rfl⟩
   .exact⟨_,rfl,wP ho⟩
  .cases h
  .rename_i t l o hne;cases h;rcases(iW (m:=m) hx).2.2 (λe=>hne e)with rfl|⟨o',ho,rfl⟩;.exact⟨_,rfl,rfl⟩
   .exact⟨_,rfl,wP ho⟩
  .split at h;.rename_i r hr;cases h;have he:=mK hm hx hr;obtain⟨_,u,n,hu,rfl,hn⟩:=hx;refine⟨_,rfl,?_⟩;simp only[XG]at hh;simp[bA,he,hh,beq_true.2 rfl]
   grind
  .split at h;.rename_i r hr;cases h;have he:=j3 hm hx hr (hx.2.choose_spec.2.2 r hr);obtain⟨_,u,hu,rfl,hn⟩:=hx;refine⟨_,rfl,?_⟩;simp only[XG]at hh;simp[bA,he,hh,beq_true.2 rfl]
   grind
  grind
 obtain⟨y,h1,h2⟩:=imp;obtain⟨x2,h3,h4⟩:=GR hd h1<;>simp_all
theorem Cq{ρ:bD}{B:Nat}{m2:List (Tr E2)}{m:List (Tr bH)}(hm:MR ρ B m2 m){top lv sl au:Nat}:∀{cs:List gZ}{xs xs':List Cell}{ks:List (Nat×Nat)}{aO:List AV}{d:List fS}{k:Nat},(∀x∈xs,XG top x=true)->mN m2 xs=some (xs',ks)->gu cs xs'=some d->aE (RC ρ B m2) xs aO->∃as' ya,dH m top 0 lv sl au k aO=some (as',[])/\(∀rest,dx cs (d++rest)=some (ya,rest))/\as'.all Q3=true/\∀(ρ:bD)(B:Nat)(m:List (Tr E2)),aE (RC ρ B m) ya as'
 |cs,[],xs',ks,aO,d,k,_,h,hd,ha=>by cases h;match aO,ha with|[],_=>match cs,hd with|[],hd=>cases hd;exact⟨[],[],rfl,λ_=>rfl,rfl,λ_ _ _=>trivial⟩
 |cs,x::xs,xs',ks,aO,d,k,hh,h,hd,ha=>by
  simp[mN]at h;split at h;.rename_i y k1 ys k2 h1 h2;cases h;match aO,ha with|a::aO,ha=>match cs,hd with
   |[],hd=>simp[gu]at hd|c::cs,hd=>
    simp[gu]at hd;split at hd;.rename_i d1 d2 h5 h6;cases hd;obtain⟨a',x2,g1,g2,g3⟩:=Ya hm (k:=k) (lv:=lv) (sl:=sl) (au:=au) (hh x cb) h1 h5 ha.1;obtain⟨as',ya,g4,g5,g7,g6⟩:=Cq hm (lv:=lv) (sl:=sl) (au:=au) (k:=k+1) (λx hx=>hh x (dl _ hx)) h2 h6 ha.2;exact⟨.d a'::as',x2::ya,by simp only[dH,g1,g4,dt],λrest=>by simp only[dx,bi,g2,g5],by rw[d9,g7];rfl,λρ B m=>⟨g3 _ _ _,g6 _ _ _⟩⟩
    grind
  grind
theorem Yb{ρ:bD}{B:Nat}{m2:List (Tr E2)}{m:List (Tr bH)}(hm:MR ρ B m2 m){top lv sl au k:Nat}{b:Bool}{cs:List gZ}{xs xs':List Cell}{ks:List (Nat×Nat)}{a:AV}{d:List fS}(hh:∀x∈xs,XG top x=true)(h:mN m2 xs=some (xs',ks))(hd:gu cs xs'=some d)(ha:R1 ρ B m2 (b,xs) a):∃a' ya,lM m top 0 lv sl au k a=some (a',[])/\(∀rest,dx cs (d++rest)=some (ya,rest))/\FT a'=true/\∀(ρ:bD)(B:Nat)(m:List (Tr E2)),R1 ρ B m (b,ya) a':=by cases b with|true=>obtain⟨aO,rfl,ha⟩:=ha;obtain⟨as',ya,g1,g2,g4,g3⟩:=Cq hm (k:=k) (lv:=lv) (sl:=sl) (au:=au) hh h hd ha;exact⟨.agg as',ya,by simp only[lM,g1,ca],g2,g4,λρ B m=>⟨as',rfl,g3 _ _ _⟩⟩|false=>
 obtain⟨c,rfl,ha⟩:=ha;obtain⟨as',ya,g1,g2,g0,g3⟩:=Cq hm (k:=k) (lv:=lv) (sl:=sl) (au:=au) (aO:=[a]) hh h hd ⟨ha,trivial⟩;simp[dH]at g1;have hc:=RC.cell ha;split at g1;.rename_i y u ys us h1 h2;cases h2;injection g1 with g1;injection g1 with g4 g5;subst g4;simp at g5;subst g5;have hx:=g3 ρ B m2;match ya,hx with|[x2],_=>refine⟨y,[x2],?_,g2,(by cases y<;>first|rfl|cases g0),λρ B m=>⟨x2,rfl,(g3 ρ B m).1⟩⟩;cases a<;>first|exact h1|cases hc.2.1
 grind
theorem Fj{ρ:bD}{B:Nat}{m2:List (Tr E2)}{m:List (Tr bH)}(hm:MR ρ B m2 m){top lv sl au:Nat}:∀{res:List (Bool×List gZ)}{vs:List (Bool×List Cell)}{aO:List AV}{ds:List fS}{k:Nat},(∀v∈vs,∀x∈v.2,XG top x=true)->lS m2 res vs=some ds->aE (R1 ρ B m2) vs aO->∃as' ws,fX m top 0 lv sl au k aO=some (as',[])/\(∀rest,nN res (ds++rest)=some (ws,rest))/\ws.length=aO.length/\as'.all FT=true/\∀(ρ:bD)(B:Nat)(m:List (Tr E2)),aE (R1 ρ B m) ws as'
 |[],[],aO,ds,k,_,h,ha=>by cases h;match aO,ha with|[],_=>exact⟨[],[],rfl,λ_=>rfl,rfl,rfl,λ_ _ _=>trivial⟩
 |(a,l)::ps,(b,cs)::vs,aO,ds,k,hh,h,ha=>by
  simp[lS]at h;split at h
  .rename_i cs' ks ds2 hab hf hr;obtain⟨d,hd,rfl⟩:=aQ h;have hab:a=b:=by grind
   subst hab;match aO,ha with|x::aO,ha=>obtain⟨a',ya,g1,g2,g8,g3⟩:=Yb hm (k:=k) (lv:=lv) (sl:=sl) (au:=au) (hh _ cb) hf hd ha.1;obtain⟨as',ws,g4,g5,g6,g9,g7⟩:=Fj hm (lv:=lv) (sl:=sl) (au:=au) (k:=k+64) (λv hv=>hh v (dl _ hv)) hr ha.2;exact⟨a'::as',(a,ya)::ws,by simp only[fX,g1,g4,dt],λrest=>by simp only[nN,bi,g2,g5],by simp[g6],by rw[d9,g8,g9];rfl,λρ B m=>⟨g3 _ _ _,g7 _ _ _⟩⟩
  grind|[],_::_,_,_,_,_,h,_=>by simp[lS]at h|_::_,[],_,_,_,_,h,_=>by simp[lS]at h
theorem Yc{ρ:bD}{B:Nat}{m2:List (Tr E2)}{m:List (Tr bH)}(hm:MR ρ B m2 m){top lv sl au:Nat}{res:List (Bool×List gZ)}{vs:List (Bool×List Cell)}{aO:List AV}{ds:List fS}(hh:∀v∈vs,∀x∈v.2,XG top x=true)(h:lS m2 res vs=some ds)(ha:aE (R1 ρ B m2) vs aO){ws:List (Bool×List Cell)}{w:V2}(hw:nN res ds=some (ws,[]))(ht:qe ws=some w):∃a',iN m top 0 lv sl au (iZ aO)=some (a',[])/\abc a'=true/\∀(ρ:bD)(B:Nat)(m:List (Tr E2)),RV ρ B m w a':=by obtain⟨as',DL,g1,g2,g3,g0,g4⟩:=Fj hm (lv:=lv) (sl:=sl) (au:=au) (k:=1) hh h ha;have D1:=g2 [];rw[dt,hw]at D1;cases D1;match aO,ha,g1,g3 with
 |[],_,g1,g3=>match ws,g3 with|[],_=>cases ht;exact⟨.jF [],rfl,rfl,λ_ _ _=>⟨[],rfl,trivial⟩⟩
 |[a],ha,g1,g3=>match ws,g3 with
  |[(b,cs)],_=>
   simp[fX]at g1;split at g1
   .rename_i y u ys us h1 h2;cases h2;injection g1 with g1;injection g1 with g5 g6;subst g5;simp at g6;subst g6;simp at g0;refine⟨y,?_,(by cases y<;>first|exact g0|cases g0),λρ B m=>?_⟩;.match vs,ha with|[(b',cs')],ha=>have hn:=R1.fY ha.1;cases a<;>first|exact h1|cases hn
    .have hx:=(g4 ρ B m).1;cases b with|true=>obtain⟨bs,rfl,g7⟩:=hx;cases ht;exact⟨bs,rfl,g7⟩|false=>obtain⟨c,rfl,g7⟩:=hx;cases ht;exact g7
   grind
 |a::b::aO,ha,g1,g3=>match ws,g3 with|x::y::ws,_=>cases ht;exact⟨.jF as',by simp only[iZ,iN,g1,ca],g0,λρ B m=>⟨as',rfl,g4 _ _ _⟩⟩
theorem Sz{ρ:bD}{B:Nat}{m2:List (Tr E2)}{m:List (Tr bH)}(hm:MR ρ B m2 m){k lv sl au p row rk:Nat}(h0:rk≠0)(Fk:row%65536=rk)(pP:row/65536≠0)(zJ:row%65536≠65535){c:gZ}{x x':Cell}{ks:List (Nat×Nat)}{a:AV}{d:List fS}(hk:Lr m2 rk k x=true)(h:Ln m2 x=some (x',ks))(hd:uc c x'=some d)(hx:RC ρ B m2 x a):∃x2,(∀rest,c.fill (d++rest)=some (x2,rest))/\∀x3 us,EO rk lv sl au k x2=some (x3,us)->(∀u∈us,row/65536=u.t.size)->∃a',bA m 0 row k lv sl p a=some (a',us.map λu=>bx u.t u.l)/\∀(ρ:bD)(B:Nat)(m:List (Tr E2)),kV ρ B m lv sl au p us->RC ρ B m x3 a':=by
 have hrow:Nat.beq row 0=false:=beq_false.2 (by intro e;subst e;simp at pP);have hsz:(!Nat.beq (row/65536) 0)=true:=by rw[beq_false.2 pP];rfl
 have fin:∀{y:D},ov x'=some y->∃x2,(∀rest,c.fill (d++rest)=some (x2,rest))/\∀(ρ:bD)(B:Nat)(m:List (Tr E2)),RC ρ B m x2 (.d y):=by
  intro y hy;unfold uc at hd;split at hd
  .split at hd;.cases hd;cases hy;exact⟨_,λ_=>rfl,λ_ _ _=>rfl⟩
   .cases hd
  .cases hd;cases hy;exact⟨_,λ_=>rfl,λ_ _ _=>rfl⟩
  .cases hd;cases hy;exact⟨_,λ_=>rfl,λ_ _ _=>rfl⟩
  .cases hd;cases hy;exact⟨_,λ_=>rfl,λ_ _ _=>.inl rfl⟩
  .cases hd;cases hy;exact⟨_,λ_=>rfl,λ_ _ _=>.inl rfl⟩
  .cases hd
 have off:k≠rk->(∃y,ov x'=some y/\bA m 0 row k lv sl p a=some (.d y,[]))->∃x2,(∀rest,c.fill (d++rest)=some (x2,rest))/\∀x3 us,EO rk lv sl au k x2=some (x3,us)->(∀u∈us,row/65536=u.t.size)->∃a',bA m 0 row k lv sl p a=some (a',us.map λu=>bx u.t u.l)/\∀(ρ:bD)(B:Nat)(m:List (Tr E2)),kV ρ B m lv sl au p us->RC ρ B m x3 a':=by rintro hne⟨y,h1,h2⟩;obtain⟨x2,h3,h4⟩:=fin h1;refine⟨x2,h3,λx3 us hp _=>?_⟩;simp[EO,beq_false.2 hne,eI,eb]at hp;obtain⟨rfl,rfl⟩:=hp;exact⟨_,h2,λ_ _ _ _=>h4 _ _ _⟩
 have nk:(!Nat.beq k rk)=true->k≠rk:=by intro h e;rw[e,beq_true.2 rfl]at h;cases h
 have ZU:oR 0 row=false:=by unfold oR;cases Nat.beq row 0<;>rfl
 have own:k≠rk->∀{els:List (List D)}{o:WV},o≠.bC->bA m 0 row k lv sl p (.own els o)=some (.d (.sl els),[]):=by intro hne els o ho;cases o with|bC=>exact absurd rfl ho|cK=>simp[bA,ZU]|full=>simp[bA,Fk,beq_false.2 hne,f0,ZU,beq_false.2 (show rk≠65535by rw[<-Fk];exact zJ),xt]
 unfold Ln at h;split at h;.cases h;cases hx;exact off (nk hk) ⟨_,rfl,rfl⟩
 .cases h;cases hx;exact off (nk hk) ⟨_,rfl,rfl⟩
 .cases h;cases hx;exact off (nk hk) ⟨_,rfl,rfl⟩
 .cases h;cases hx;exact off (nk hk) ⟨_,rfl,rfl⟩
 .rename_i f;cases h;cases f with|false=>
   rcases(hU (m:=m) hx).2with rfl|⟨o,ho,rfl⟩;.exact off (nk hk) ⟨_,rfl,rfl⟩
   .exact off (nk hk) ⟨_,rfl,own (nk hk) ho⟩|true=>
   subst hx;by_cases hne:k=rk
   .subst hne;have hc:∃t,c=.sl t .d/\d=[⟨.sl t,[]⟩]:=by cases c with
     |sl t o=>cases o<;>first|(injection hd with hd;exact⟨t,rfl,hd.symm⟩)|cases hd
     |_=>cases hd
    obtain⟨t,rfl,rfl⟩:=hc
    .refine⟨.sl t [] .d,λ_=>rfl,λx3 us hp hu=>?_⟩;simp[EO,beq_true.2 rfl,eI,eb]at hp;obtain⟨rfl,rfl⟩:=hp;have hu:=hu _ (bo.2 rfl);refine⟨.ref lv sl p 0 0 (row/65536),?_,λρ B m hf=>⟨hf.1,p,0,hf.2.1,by rw[hu],λr hr=>?_⟩⟩;.simp[bA,Fk,hsz,beq_true.2 rfl,kp];rfl
     .have:=hf.2.2 _ (bo.2 rfl) r hr;simpa using this.symm
   .exact off hne ⟨_,rfl,own hne (λh=>by cases h)⟩
 .cases h
 .rename_i t l o hne;cases h;rcases(iW (m:=m) hx).2.2 (λe=>hne e)with rfl|⟨o',ho,rfl⟩;.exact off (nk hk) ⟨_,rfl,rfl⟩
  .exact off (nk hk) ⟨_,rfl,own (nk hk) ho⟩
 .rename_i cM cZ gF t;split at h
  .rename_i r hr;cases h;have he:=mK hm hx hr;obtain⟨_,u,n,hu,rfl,hn⟩:=hx;simp only[Lr,hr,am]at hk;obtain⟨hk1,hk2⟩:=hk;have hk1:=beq_true.1 hk1;have hk2:=beq_true.1 hk2;subst hk1;obtain⟨e,g1,g2⟩:=hm.fZ _ _ _ (cJ hr);obtain⟨_,u',g3,rfl⟩:=g2;rw[hu]at g3;cases g3;have hat:bM.rowAt m cM cZ u=some (bx r.t r.l):=by unfold bM.rowAt;rw[g1];simp[beq_true.2 rfl]
   have hc:∃t0,c=.sl t0 .d/\d=[⟨.sl r.t,r.l⟩]:=by cases c with
    |sl t o=>cases o<;>first|(injection hd with hd;exact⟨t,rfl,hd.symm⟩)|cases hd
    |_=>cases hd
   obtain⟨t0,rfl,rfl⟩:=hc
   .refine⟨.sl r.t r.l .d,λ_=>rfl,λx3 us hp hu=>?_⟩;simp[EO,beq_true.2 rfl,eI,eb]at hp;obtain⟨rfl,rfl⟩:=hp;refine⟨.ref lv sl p 0 n t.size,?_,λρ B m hf=>⟨hf.1,p,n,hf.2.1,by rw[hk2],λr' hr'=>?_⟩⟩;.simp[bA,he,hrow,Fk,beq_true.2 rfl,hat];rfl
    .rw[hf.2.2 _ (bo.2 rfl) r' hr'];exact hn r hr
  .cases h
 .cases hk
 .cases h
theorem yb{ρ:bD}{B:Nat}{m2:List (Tr E2)}{m:List (Tr bH)}(hm:MR ρ B m2 m){lv sl au p row rk:Nat}(h0:rk≠0)(Fk:row%65536=rk)(pP:row/65536≠0)(zJ:row%65536≠65535):∀{cs:List gZ}{xs xs':List Cell}{ks:List (Nat×Nat)}{aO:List AV}{d:List fS}{k:Nat},XH m2 rk k xs=true->mN m2 xs=some (xs',ks)->gu cs xs'=some d->aE (RC ρ B m2) xs aO->∃ya,(∀rest,dx cs (d++rest)=some (ya,rest))/\∀HN us,sI rk lv sl au k ya=some (HN,us)->(∀u∈us,row/65536=u.t.size)->∃as',dH m 0 row lv sl p k aO=some (as',us.map λu=>bx u.t u.l)/\∀(ρ:bD)(B:Nat)(m:List (Tr E2)),kV ρ B m lv sl au p us->aE (RC ρ B m) HN as'
 |cs,[],xs',ks,aO,d,k,_,h,hd,ha=>by cases h;match aO,ha with|[],_=>match cs,hd with|[],hd=>cases hd;refine⟨[],λ_=>rfl,λHN us hp _=>?_⟩;cases hp;exact⟨[],rfl,λ_ _ _ _=>trivial⟩|_::_,hd=>simp[gu]at hd
 |cs,x::xs,xs',ks,aO,d,k,hk,h,hd,ha=>by
  simp[XH,am]at hk;simp[mN]at h;split at h;.rename_i y k1 ys k2 h1 h2;cases h;match aO,ha with|a::aO,ha=>match cs,hd with
   |[],hd=>simp[gu]at hd|c::cs,hd=>
     simp[gu]at hd;split at hd
     .rename_i d1 d2 h5 h6;cases hd;obtain⟨x2,g2,g3⟩:=Sz hm (k:=k) (lv:=lv) (sl:=sl) (au:=au) (p:=p) h0 Fk pP zJ hk.1 h1 h5 ha.1;obtain⟨ya,g5,g6⟩:=yb hm (lv:=lv) (sl:=sl) (au:=au) (p:=p) h0 Fk pP zJ (k:=k+1) hk.2 h2 h6 ha.2;refine⟨x2::ya,λrest=>by simp only[dx,bi,g2,g5],λHN us hp hu=>?_⟩;simp[sI]at hp;split at hp;.rename_i z u1 zs u2 p1 p2;cases hp;obtain⟨a',q1,q2⟩:=g3 _ _ p1 (λu h=>hu u (dp _ h));obtain⟨as',q3,q4⟩:=g6 _ _ p2 (λu h=>hu u (dq _ h));exact⟨a'::as',by simp only[dH,q1,q3,fw],λρ B m hf=>⟨q2 _ _ _ ⟨hf.1,hf.2.1,λu h=>hf.2.2 u (dp _ h)⟩,q4 _ _ _ ⟨hf.1,hf.2.1,λu h=>hf.2.2 u (dq _ h)⟩⟩⟩
      grind
     grind
  grind
theorem Pp{m:List (Tr bH)}{row lv sl p k:Nat}{a:AV}(h:jI a=true)(h2:bM.fY a=true):lM m 0 row lv sl p k a=bA m 0 row k lv sl p a:=by cases a<;>first|rfl|cases h
theorem Cr{ρ:bD}{B:Nat}{m2:List (Tr E2)}{m:List (Tr bH)}(hm:MR ρ B m2 m){lv sl au p row rk:Nat}(h0:rk≠0)(Fk:row%65536=rk)(pP:row/65536≠0)(zJ:row%65536≠65535):∀{res:List (Bool×List gZ)}{vs:List (Bool×List Cell)}{aO:List AV}{ds:List fS}{k:Nat},EN m2 rk k vs=true->lS m2 res vs=some ds->aE (R1 ρ B m2) vs aO->∃ws,(∀rest,nN res (ds++rest)=some (ws,rest))/\ws.length=aO.length/\∀DL us,ER rk lv sl au k ws=some (DL,us)->(∀u∈us,row/65536=u.t.size)->∃as',fX m 0 row lv sl p k aO=some (as',us.map λu=>bx u.t u.l)/\DL.length=aO.length/\∀(ρ:bD)(B:Nat)(m:List (Tr E2)),kV ρ B m lv sl au p us->aE (R1 ρ B m) DL as'
 |[],[],aO,ds,k,_,h,ha=>by cases h;match aO,ha with|[],_=>refine⟨[],λ_=>rfl,rfl,λDL us hp _=>?_⟩;cases hp;exact⟨[],rfl,rfl,λ_ _ _ _=>trivial⟩
 |(a,l)::ps,(b,cs)::vs,aO,ds,k,hk,h,ha=>by
  simp[EN,am]at hk;simp[lS]at h;split at h
  .rename_i cs' ks ds2 hab hf hr;obtain⟨d,hd,rfl⟩:=aQ h;have hab:a=b:=by grind
   subst hab;match aO,ha with
   |x::aO,ha=>
    obtain⟨ws,g5,g6,g7⟩:=Cr hm (lv:=lv) (sl:=sl) (au:=au) (p:=p) h0 Fk pP zJ (k:=k+64) hk.2 hr ha.2;have one:∃ya,(∀rest,dx l (d++rest)=some (ya,rest))/\∀HN us,sI rk lv sl au k ya=some (HN,us)->(∀u∈us,row/65536=u.t.size)->∃a',lM m 0 row lv sl p k x=some (a',us.map λu=>bx u.t u.l)/\∀(ρ:bD)(B:Nat)(m:List (Tr E2)),kV ρ B m lv sl au p us->R1 ρ B m (a,HN) a':=by cases a with|true=>obtain⟨as2,rfl,ha2⟩:=ha.1;obtain⟨ya,q1,q2⟩:=yb hm (k:=k) (lv:=lv) (sl:=sl) (au:=au) (p:=p) h0 Fk pP zJ hk.1 hf hd ha2;refine⟨ya,q1,λHN us hp hu=>?_⟩;obtain⟨as',q3,q4⟩:=q2 HN us hp hu;exact⟨.agg as',by simp only[lM,q3,ca],λρ B m hf=>⟨as',rfl,q4 _ _ _ hf⟩⟩|false=>
      obtain⟨c,rfl,ha2⟩:=ha.1;obtain⟨ya,q1,q2⟩:=yb hm (k:=k) (lv:=lv) (sl:=sl) (au:=au) (p:=p) h0 Fk pP zJ (aO:=[x]) hk.1 hf hd ⟨ha2,trivial⟩;refine⟨ya,q1,λHN us hp hu=>?_⟩;obtain⟨as',q3,q4⟩:=q2 HN us hp hu;have hc:=RC.cell ha2;simp[dH]at q3;split at q3
      .rename_i y u ys us' h1 h2;cases h2;simp at q3;obtain⟨rfl,rfl⟩:=q3;have hlen:∃x3,HN=[x3]:=by
        have hq:=q1 [];have h1:∀{l:List gZ}{d:List fS}{xs:List Cell},dx l d=some (xs,[])->xs.length=l.length:=by intro l;induction l with|nil=>intro d xs h;cases h;rfl|cons c l ih=>intro d xs h;simp[dx]at h<;>grind
        have h2:∀{k:Nat}{xs HN:List Cell}{us:List SL},sI rk lv sl au k xs=some (HN,us)->HN.length=xs.length:=by intro k xs;induction xs generalizing k with|nil=>intro HN us h;simp[sI,eI,eb]at h<;>grind|cons c l ih=>intro HN us h;simp[sI]at h<;>grind
        have h3:l.length=1:=by
         have xG:∀{cs:List gZ}{xs:List Cell}{d:List fS},gu cs xs=some d->cs.length=xs.length:=by intro cs;induction cs with
          |nil=>intro xs d h;cases xs with|nil=>rfl|cons _ _=>simp[gu]at h
          |cons c cs ih=>intro xs d h;cases xs with|nil=>simp[gu]at h|cons x xs=>simp[gu]at h<;>grind
         simp[mN]at hf<;>grind
        have:=h2 hp;rw[h1 hq,h3]at this;match HN,this with|[x3],_=>grind
       obtain⟨x3,rfl⟩:=hlen;exact⟨y,by rw[Pp hc.2.1 hc.2.2];exact h1,λρ B m hf=>⟨x3,rfl,(q4 _ _ _ hf).1⟩⟩
      grind
    obtain⟨ya,q1,q2⟩:=one;refine⟨(a,ya)::ws,λrest=>by simp only[nN,bi,q1,g5],by simp[g6],λDL us hp hu=>?_⟩;simp[ER]at hp;split at hp;.rename_i z u1 zs u2 p1 p2;cases hp;obtain⟨a',q3,q4⟩:=q2 _ _ p1 (λu h=>hu u (dp _ h));obtain⟨as',q5,q6,q7⟩:=g7 _ _ p2 (λu h=>hu u (dq _ h));exact⟨a'::as',by simp only[fX,q3,q5,fw],by simp[q6],λρ B m hf=>⟨q4 _ _ _ ⟨hf.1,hf.2.1,λu h=>hf.2.2 u (dp _ h)⟩,q7 _ _ _ ⟨hf.1,hf.2.1,λu h=>hf.2.2 u (dq _ h)⟩⟩⟩
    grind
  grind|[],_::_,_,_,_,_,h,_=>by simp[lS]at h|_::_,[],_,_,_,_,h,_=>by simp[lS]at h
theorem SA{ρ:bD}{B:Nat}{m2:List (Tr E2)}{m:List (Tr bH)}(hm:MR ρ B m2 m){lv sl au p row rk:Nat}(h0:rk≠0)(Fk:row%65536=rk)(pP:row/65536≠0)(zJ:row%65536≠65535){res:List (Bool×List gZ)}{vs ws DL:List (Bool×List Cell)}{aO:List AV}{ds:List fS}{us:List SL}{w:V2}(hk:EN m2 rk 1 vs=true)(h:lS m2 res vs=some ds)(ha:aE (R1 ρ B m2) vs aO)(hw:nN res ds=some (ws,[]))(hp:ER rk lv sl au 1 ws=some (DL,us))(hu:∀u∈us,row/65536=u.t.size)(ht:qe DL=some w):∃a',iN m 0 row lv sl p (iZ aO)=some (a',us.map λu=>bx u.t u.l)/\∀(ρ:bD)(B:Nat)(m:List (Tr E2)),kV ρ B m lv sl au p us->RV ρ B m w a':=by obtain⟨ws1,g2,g3,g4⟩:=Cr hm (lv:=lv) (sl:=sl) (au:=au) (p:=p) h0 Fk pP zJ (k:=1) hk h ha;have D1:=g2 [];rw[dt,hw]at D1;cases D1;obtain⟨as',g1,g5,g6⟩:=g4 _ _ hp hu;match aO,ha,g1,g5 with
 |[],_,g1,g5=>match DL,g5 with|[],_=>cases ht;simp only[fX,eI,eb]at g1;obtain⟨rfl,g7⟩:=g1;exact⟨.jF [],by simp only[iZ,iN,fX,ca];rw[<-g7],λ_ _ _ _=>⟨[],rfl,trivial⟩⟩
 |[a],ha,g1,g5=>match DL,g5 with
  |[(b,cs)],_=>
   simp[fX]at g1;split at g1
   .rename_i y u ys us' h1 h2;cases h2;simp at g1;obtain⟨rfl,rfl⟩:=g1;refine⟨y,?_,λρ B m hf=>?_⟩;.match vs,ha with|[(b',cs')],ha=>have hn:=R1.fY ha.1;cases a<;>first|exact h1|cases hn
    .have hx:=(g6 ρ B m hf).1;cases b with|true=>obtain⟨bs,rfl,g7⟩:=hx;cases ht;exact⟨bs,rfl,g7⟩|false=>obtain⟨c,rfl,g7⟩:=hx;cases ht;exact g7
   grind
 |a::b::aO,ha,g1,g5=>match DL,g5 with|x::y::DL,_=>cases ht;exact⟨.jF as',by simp only[iZ,iN,g1,ca],λρ B m hf=>⟨as',rfl,g6 _ _ _ hf⟩⟩
theorem Yd{f:Nat}{fn:qC}{aO:List AV}{KF:List AV}{mem:List (Tr bH)}{nv n0:Nat}{ax:AX}{t:St}(hf:Fs f=some fn)(hnp:Nat.beq aO.length fn.np=true)(RY:∀id,ax≠.exit id)(q1:jV t fn.res=some KF)(pZ:∀k n,n0<=k->n0<=n->exec (jo Fs k) (AP Fs) n fn.body {slots:=dS 0 aO .lf,mem,aK:=.lf,nv}=some (ax,t)):∀n,n0+1<=n->jo Fs n f aO mem .lf nv=some (iZ KF,t.mem,t.aK,t.nv):=by intro n hn;obtain⟨n,rfl⟩:∃k,n=k+1:=⟨n-1,by omega⟩;simp[jo,hf,hnp];have:=pZ n n (by omega) (by omega);unfold AP at this;cases ax with|normal=>grind|ret=>grind|exit id=>grind
theorem ZV(hE:az Fs E)(N f:Nat)(args:List uD)(ta:List Ty)(res:List (Bool×List gZ))(tr:List Ty)(rk:Nat):o8 Fs f ⟨args,ta,res,tr,rk,ZN E N f args ta res tr rk⟩:=by
 intro x y h;obtain⟨fn,hf,h⟩:=aB h;rw[hE.fns]at hf;split at h
 .rename_i vs hvs;split at h
  .rename_i hnp;refine⟨vs,hvs,λaO has=>?_⟩;let ρ:bD:=λv=>some v;have start:AM ρ [] {slots:=kD 0 vs .lf,outer:=[],mem:=[.lf],aK:=.lf,nv:=0} {slots:=dS 0 aO .lf,mem:=[.lf],aK:=.lf,nv:=0}:=by
    refine⟨wQ (has.mono λ_ _=>RV.move (λ_ _ _ _ h=>absurd h (by omega)) (bc _) λ_ h=>absurd h (by omega)),trivial,⟨rfl,λlv sl e he=>?_⟩,λv hv=>?_,⟨λv u hv=>?_,λv _=>?_,λv v' u h h'=>?_⟩,bc _⟩;.have:=sV 1 lv sl<;>grind
    .simp at hv
    .grind
    .grind
    grind
   obtain⟨ax,t2,ρ',t,⟨n0,pZ⟩,g2,g3,g4,g5⟩:=GW hE N _ _ _ _ _ _ _ h _ _ _ start;have RY:∀id,ax≠.exit id:=by grind
   have g5:(ES t2 fn.res λvs=>match abN t2.mem rk vs&&!Nat.beq rk 65535with|true=>cu (lS t2.mem res vs) λds=>pack tr ds|false=>none)=some y:=by grind
   obtain⟨vs1,KF,q1,q2,g5⟩:=Cj g2.mem g2.slots g5;split at g5;case h_2=>cases g5
   rename_i DM;simp at DM;obtain⟨DM,zJ⟩:=DM;have zJ:rk≠65535:=by intro e;simp_all
   obtain⟨ds,q3,q4⟩:=aB g5;refine⟨n0+1,iZ KF,t.mem,t.aK,t.nv,λn hn=>?_,λws B6=>⟨λ_ w hw lv sl aT=>?_,λrow lv sl au p DL us w h0 Fk pP hp hu hw=>?_⟩⟩;.exact Yd hf (by rw[<-has.length];exact hnp) RY q1 pZ n hn
   .rw[dJ q4]at B6;obtain⟨a',p1,_,p2⟩:=Yc (top:=0) g2.mem (λ_ _ _ _=>Xv _) q3 q2 B6 hw;exact⟨a',p1,p2⟩
   .rw[dJ q4]at B6;have DM:EN t2.mem rk 1 vs1=true:=by unfold abN at DM;rw[beq_false.2 h0]at DM<;>omega
    exact SA g2.mem h0 Fk pP (by rw[Fk];exact zJ) DM q3 q2 B6 hp hu hw
  grind
 grind
end
end Go.Sym
