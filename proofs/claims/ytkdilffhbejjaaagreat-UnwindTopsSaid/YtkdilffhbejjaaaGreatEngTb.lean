/- A part of the proof: EngDh, EngMono, EngTb. -/
import Derived.Test.YtkdilffhbejjaaaGreatSymB
set_option linter.unusedVariables false
set_option linter.unusedSimpArgs false
namespace Go.bM
open Go Go.RowKit
section
variable{P:Program}{X:Cx}{call:Go.bM.Call}{sh:Nat->Bool}
theorem Nq{n:Nat}{c:AC}{s s':St}{ax:AX}(hr:ZO c=true)(h:exec call sh n c s=some (ax,s')):ax=.normal:=by cases n with|zero=>cases h|succ m=>
 cases c<;>first|cases hr|skip
 simp_all[exec,Call]
theorem XN{n:Nat}{d:DFn}{s0 s3:St}{ax:AX}(hk:abR d=true)(hsh:sh d.g=true)(h:exec call sh n (mkD d).body s0=some (ax,s3))(RY:ax=.normal\/ax=.ret):∃n1 s1 n2 s2 ax2 rg cm ts nv3,exec call sh n1 d.pre s0=some (.normal,s1)/\(d.caps.map (dz s1.slots)).all jI=true/\exec call sh n2 d.body {s1 with slots:=nE s1.slots (some d.dst) (.fk d.g (d.caps.map (dz s1.slots))),nv:=s1.nv+1}=some (ax2,s2)/\(ax2=.normal\/ax2=.ret)/\call d.g (d.caps.map (dz s1.slots)) (s2.mem++[.lf]) s2.aK (s2.nv+1)=some (rg,cm,ts,nv3)/\(rg=.jF []->s3={slots:=s2.slots,mem:=cm.take s2.mem.length,aK:=ts,nv:=nv3}):=by
 simp[abR,am]at hk;obtain⟨⟨amM,hne⟩,hkeep⟩:=hk;obtain⟨m,e1,g1⟩:=B2 h;rcases g1 with⟨s1,h1,h⟩|⟨h1,hn⟩;case inr=>exact absurd (Nq amM h1) hn
 obtain⟨m2,e2,g2⟩:=B2 h;rcases g2 with⟨s1',h2,h⟩|⟨h2,hn⟩;case inr=>exact absurd (Nq rfl h2) hn
 obtain⟨m3,e3,g3⟩:=B2 h;clear h;subst e3;rcases g3 with⟨s2,h3,h⟩|⟨h3,hn⟩;case inr=>
  rcases RY with rfl|rfl;.exact absurd rfl hn
  .exact absurd h3 (OX hne)
 obtain⟨m4,ax2,h5,abT⟩:=GH hne h3;have pZ:∀(t:Tr AV),DF t (d.caps.map .t)=d.caps.map (dz t):=λt=>by unfold DF;rw[po];rfl
 have q:(d.caps.map (dz s1.slots)).all jI=true/\s1'={s1 with slots:=nE s1.slots (some d.dst) (.fk d.g (d.caps.map (dz s1.slots))),nv:=s1.nv+1}:=by
  simp only[exec,fd]at h2;obtain⟨s4,h6,h7⟩:=h2;cases h7;simp only[gh,ji,bE.step,iY,ct.run,pZ]at h6;by_cases hc:(d.caps.map (dz s1.slots)).all jI=true;.rw[bb hc]at h6;simp[fT.pure,eI]at h6;exact⟨hc,h6.symm⟩
  grind
 obtain⟨hc,rfl⟩:=q;have amN:dz s2.slots d.dst=.fk d.g (d.caps.map (dz s1.slots)):=by rw[gi m4 d.body _ _ _ hkeep h5];simp[dz,nE,Tr.cy]
 cases m3 with|zero=>cases h|succ m5=>
 simp only[exec,fd]at h;obtain⟨s4,h6,h7⟩:=h;cases h7;simp[gh,ji,bE.step,iY,ct.run,cc.ev,amN,hsh,DF,kw,gc,gA]at h6;split at h6;.cases h6
 rename_i e he;split at he;.cases he
 split at he;.cases he
 rename_i rg cm ts nv3 cH;refine⟨_,s1,_,s2,ax2,rg,cm,ts,nv3,h1,hc,h5,abT,cH,?_⟩;rintro rfl;have hi:∀k aT,iN cm k 0 (s2.mem.length-1) 0 aT (.jF [])=some (.jF [],[]):=λ_ _=>rfl;cases he;cases h6;rfl
theorem RZ(cH:eo P call){dm:Nat->Option TypeId}{md:Nat->Mode}{Fs:Nat->Option qC}(hm:P.follows .mixedOrders=true)(gP:∀f T,dm f=some T->jZ P f T)(hgo:∀g gf,Og P dm md g=some gf->Fs g=some gf->∀args mem aK nv x,call g args mem aK nv=some x->∃call' n',eo P call'/\wG call' Fs n' g args mem aK nv=some x)(DW:∀f fn,Fs f=some fn->KE P dm md f=some fn)(hgs:∀f d,(Fs f).isSome=true->RW P dm md f=some d->(Fs d.g).isSome=true)(n:Nat):eo P (wG call Fs n):=by intro f args mem aK nv r mem' oV HJ h X cL hmem hdom hargs;cases hfp:Og P dm md f with|some fp=>obtain⟨pf,c,h1,h2,h3,h4⟩:=B0 (md:=md) cH hm gP n (λfn hfn=>by have:=DW f fn hfn;simp only[KE,hfp]at this;rw[hfp];exact this) h X cL hmem hdom hargs;exact⟨⟨pf,h1,by rw[h2];rfl,h3⟩,calls_of_wp h1 h2 h4⟩|none=>
 have h0:=h;simp only[wG]at h;split at h;.cases h
 rename_i fn hfn;have hq:=DW f fn hfn;simp only[KE,hfp,af5]at hq;split at hq;.cases hq
 rename_i d hdf;split at hq;case h_2=>cases hq
 rename_i gf hok hgf;split at hq;case h_2=>cases hq
 rename_i hgk;injection hq with hq;subst hq;rw[am]at hgk;obtain⟨amP,af8⟩:=hgk;have ZP:Fs d.g=some gf:=by have:=hgs f d (by rw[hfn];rfl) hdf;cases hg:Fs d.g with|none=>rw[hg]at this;cases this|some gf'=>have:=DW d.g gf' hg;simp only[KE,hgf]at this;rw[this]
 split at h;.cases h
 rename_i hnp;have hnp:=aw hnp;have hrun:∃ax s3,exec call (λg=>((Fs g).map (·.sh)).getD false) n (mkD d).body {slots:=dS 0 args .lf,mem,aK,nv}=some (ax,s3)/\(ax=.normal\/ax=.ret)/\(jV s3 d.res).map (λvs=>(iZ vs,s3.mem,s3.aK,s3.nv))=some (r,mem',oV,HJ):=by
  split at h;.rename_i s3 he;exact⟨_,s3,he,.inl rfl,h⟩
  .rename_i s3 he;exact⟨_,s3,he,.inr rfl,h⟩
  .cases h
 clear h;obtain⟨ax,s3,he,RY,hres⟩:=hrun;obtain⟨n1,s1,n2,s2,ax2,rg,cm,ts,nv3,Zx,hcell,he2,abT,hcg,abU⟩:=XN hok (by simp[ZP,amP]) he RY;obtain⟨call',n',abV,hg⟩:=hgo d.g gf hgf ZP _ _ _ _ _ hcg;have hrg:rg=.jF []:=by
  have hg2:=hg;simp only[wG,ZP]at hg2;split at hg2;.cases hg2
  have As:gf.res=[]:=ul.1 af8;split at hg2;.simp only[As,jV,iZ,ca,eI,eb]at hg2;exact hg2.1.symm
  .simp only[As,jV,iZ,ca,eI,eb]at hg2;exact hg2.1.symm
  .cases hg2
 have abU:=abU hrg;subst abU;unfold RW at hdf;split at hdf;.cases hdf
 rename_i pf hpf;split at hdf;.cases hdf
 rename_i c hbody;split at hdf;.cases hdf
 rename_i hname;split at hdf;case h_2=>cases hdf
 rename_i r1 g caps dd rest rs af9 QK;split at hdf;case h_2=>cases hdf
 rename_i pre body hpre Bx;split at hdf;case isFalse=>cases hdf
 rename_i hle;injection hdf with hdf;subst hdf;simp only[mkD]at hnp Zx he2 hcell hres hg hgf ZP;obtain⟨⟨id,o1,o2,cap,vE,rfl,ho1,WX,hg1,ho2,Gf,hg2,hc1,pY,hcap⟩⟩:=IK af9;refine⟨⟨pf,hpf,by rw[hbody];rfl,by simpa using hname⟩,?_⟩;have hlen:=hargs.length;simp only[ft]at hlen;have start:fu X ⟨pf.ntmps,[]⟩ {slots:=dS 0 args .lf,mem,aK,nv} {tmps:=cL++Array.replicate (pf.ntmps-cL.size) undef,defers:=[]}:=⟨λt=>Nl hargs _ t,by simp;omega,rfl,hmem⟩;refine calls_of_wp_defers hpf hbody (wp_seq ?_);refine(AG (nt:=⟨pf.ntmps,[]⟩) hm cH gP n1).1 r1 pre X _ _ (.normal,s1) _ hpre Zx start hdom λY a1 hxY hsY hnY hdY=>?_;show Code.wp P _ _ _ _;refine wp_seq (wp_region ?_);show wpOps P #[o1,o2] _ [0,1] _ _;have ZQ:DF s1.slots (caps.map .t)=caps.map (dz s1.slots):=by unfold DF;rw[po];rfl
 obtain⟨fv,aga,hfv⟩:=yW (P:=P) hsY ho1 hcap (by rw[ZQ];exact hcell);rw[ZQ]at hfv;refine iS (o:=o1) rfl hg1 (qQ aga ?_);rw[WX];have amR:=hfv;obtain⟨vs,rfl,hvs⟩:=hfv;let dfd:Deferred:={target:=.fn (.func g) vs,args:=#[]};have QN:a1.tmps.size=pf.ntmps:=hsY.size;have hle2:=hle.2;have pZ:(a1.put (some dd) (.func (.func g) #[] vs)).eval (.tmp dd)=.func (.func g) #[] vs:=by simp[Act.eval,Act.put];intro h;omega
 have agb:(execOp (a1.put (some dd) (.func (.func g) #[] vs)).eval o2).run P Y.w=.ok (.defer dfd) Y.w:=by simp[execOp,ho2,resolve,hc1,pY,pZ,Deferred.ofValue,dfd]
 refine iS (o:=o2) rfl hg2 ?_;unfold Oper.wp;rw[agb];rw[Oper.upon_defer,Gf];show Code.wp P _ _ _ _;let a2:Act:={(a1.put (some dd) (.func (.func g) #[] vs))with defers:=[dfd]};have ha2:({(a1.put (some dd) (.func (.func g) #[] vs))with defers:=dfd::(a1.put (some dd) (.func (.func g) #[] vs)).defers}:Act).put none undef=a2:=by have:a1.defers=[]:=hsY.defers;simp only[Act.put,this,a2]
 rw[ha2];let s1':St:={s1 with slots:=nE s1.slots (some dd) (.fk g (caps.map (dz s1.slots))),nv:=s1.nv+1};have amS:fu Y ⟨pf.ntmps,[dfd]⟩ s1' a2:=by
  refine⟨λt=>?_,?_,rfl,hsY.mem⟩
  .show VR Y (dz (nE s1.slots (some dd) _) t) ((a1.tmps.setIfInBounds dd _).getD t undef);have hz:=hsY.size;simp only at hz;by_cases htd:t=dd
   .subst htd;have e1:dz (nE s1.slots (some t) (.fk g (caps.map (dz s1.slots)))) t=.fk g (caps.map (dz s1.slots)):=by simp[dz,nE,Tr.cy]
    rw[e1,i5,Array.getElem?_setIfInBounds_self_of_lt (by omega)];exact amR
   .have e1:dz (nE s1.slots (some dd) (.fk g (caps.map (dz s1.slots)))) t=dz s1.slots t:=by unfold dz nE;simp only;rw[Tr.cy,be (λq=>htd q.symm)]
    rw[e1,i5,Array.getElem?_setIfInBounds_ne (λq=>htd q.symm),<-i5];exact hsY.slots t
  .show(a1.tmps.setIfInBounds dd _).size=_;rw[Array.size_setIfInBounds];exact hsY.size
 have ZR:∀v,s1.nv+1<=v->Y.ρ v=none:=λv hv=>by cases hz:Y.ρ v with|none=>rfl|some L=>
   rcases hdY v L hz with h|h;.rw[hdom v (by simp at hnY;omega)]at h;cases h
   .simp at h;omega
 refine(AG (nt:=⟨pf.ntmps,[dfd]⟩) hm cH gP n2).1 rest body Y s1' a2 (ax2,s2) _ Bx he2 amS ZR λZ a3 Gm W0 hnZ hdZ=>?_;have fin:Leaves P pf a3.tmps (λe w'=>∃Y v,e=.returned v/\Y.w=w'/\Ext X Y/\VR Y r v/\aH Y mem' oV/\nv<=HJ/\∀u L,Y.ρ u=some L->X.ρ u=some L\/(nv<=u/\u<HJ)) a3.defers .returning Z.w:=by
  obtain⟨ws,B6,he⟩:=aQ hres;simp only[eb]at he;obtain⟨rfl,rfl,rfl,rfl⟩:=he;have avb:s1.nv+1<=s2.nv:=hnZ;have agc:∀v,s2.nv+1<=v->Z.ρ v=none:=λv hv=>by cases hz:Z.ρ v with|none=>rfl|some L=>
    rcases hdZ v L hz with h|h;.rw[ZR v (by omega)]at h;cases h
    .simp at h;omega
  have hm0:aH Z (s2.mem++[.lf]) s2.aK:=W0.mem.congr (λlv sl=>lR _ _ _) λ_=>rfl;have amU:aE (V1 Z) (caps.map (dz s1.slots)) vs.toList:=hvs.mono λ_ _ h=>((h.ext Gm).V1);obtain⟨pg,cg,g1,g2,g3,g4⟩:=B0 abV hm gP n' (λfn hfn=>by rw[ZP]at hfn;injection hfn with hfn;rw[<-hfn];exact hgf) hg Z vs hm0 agc amU;rw[W0.defers];have hinv:(invoke (.fn (.func g) vs) #[]).run P Z.w=.ok (.enter g vs) Z.w:=by have:=oq (P:=P) (args:=vs) (w:=Z.w) g1 (by rw[g2];rfl) g3;simpa[invoke]using this
  refine leaves_cons (λh=>by cases h) hinv ((callsD_of_wp g1 g2 g4).mono ?_);rintro e u' w'⟨rfl,V,v,rfl,rfl,hxV,hvV,hmV,hnV,hdV⟩;have hxX:Ext X V:=(hxY.trans Gm).trans hxV;have Bg:aH V (cm.take s2.mem.length) ts:=hmV.less (λlv sl e he=>by
   rw[mS]at he;split at he;.exact he
   .cases he) λ_ h=>h;have hs3:fu V ⟨pf.ntmps,[dfd]⟩ {slots:=s2.slots,mem:=cm.take s2.mem.length,aK:=ts,nv:=nv3} a3:=⟨λt=>(W0.slots t).ext hxV,W0.size,W0.defers,Bg⟩;obtain⟨us,q1,q2⟩:=xR hs3 QK B6;refine⟨_,?_,V,_,rfl,rfl,hxX,RS q2,Bg,by simp at hnY;omega,λu L hu=>?_⟩
  .have e:results pf a3.tmps=(do let vs<-pf.results.mapM (EY a3)pure (if h:vs.size=1then vs[0]else .tuple vs)):=by unfold results;congr 1
   rw[e,<-Array.toArray_toList (xs:=pf.results),List.mapM_toArray];simp[q1]
  .rcases hdV u L hu with h|h
   .rcases hdZ u L h with h|h
    .rcases hdY u L h with h|h;.exact .inl h
     .right;simp at h;omega
    .right;have:s1.nv+1<=u/\u<s2.nv:=h;simp at hnY;omega
   .right;simp at hnY;omega
 rcases abT with rfl|rfl;.exact fin
 .exact fin
end
end Go.bM
namespace Go.bM
open Go
def nJ(a b:Call):Prop:=∀f x m t n r,a f x m t n=some r->b f x m t n=some r
variable{call call':Call}{sh:Nat->Bool}
theorem sK(hc:nJ call call'){b:Bool}{row:Nat}{s:St}{lv sl aT f:Nat}{args:List AV}{r:gT}(h:gA call b row s lv sl aT f args=some r):gA call' b row s lv sl aT f args=some r:=by
 unfold gA at h⊢;cases b with|false=>
  simp at h⊢;split at h;.cases h
  .split at h;.cases h
   .rename_i r' cm ts n he;rw[hc _ _ _ _ _ _ he]<;>omega|true=>
  simp at h⊢;split at h;.cases h
  .split at h;.cases h
   .rename_i r' cm ts n he;rw[hc _ _ _ _ _ _ he]<;>omega
theorem zB(hc:nJ call call'){s:St}{f:Nat}{args:List AV}{r:gT}(h:kL call s f args=some r):kL call' s f args=some r:=by
 unfold kL at h⊢;split at h;.cases h
 .split at h;.cases h
  .rename_i r' cm ts n he;rw[hc _ _ _ _ _ _ he]<;>omega
theorem IS(hc:nJ call call'){s:St}{f:Nat}{args:List AV}{r:gT}(h:qI call s f args=some r):qI call' s f args=some r:=by
 unfold qI at h⊢;split at h;.cases h
 .split at h;.cases h
  .rename_i r' cm ts n he;rw[hc _ _ _ _ _ _ he]<;>omega
theorem IT(hc:nJ call call'){s:St}{aT f:Nat}{args:List AV}{r:gT}(h:oa call s aT f args=some r):oa call' s aT f args=some r:=by
 unfold oa at h⊢;split at h;.cases h
 .split at h;.cases h
  .rename_i r' cm ts n he;rw[hc _ _ _ _ _ _ he]<;>omega
theorem IU(hc:nJ call call'){s:St}{aT f:Nat}{args:List AV}{r:gT}(h:od call s aT f args=some r):od call' s aT f args=some r:=by
 unfold od at h⊢;split at h;.cases h
 .split at h;.cases h
  .rename_i r' cm ts n he;rw[hc _ _ _ _ _ _ he]<;>omega
theorem R0(hc:nJ call call'){s:St}{row dst aT:Nat}{o:ct}{r:gT}(h:o.run call sh s row dst aT=some r):o.run call' sh s row dst aT=some r:=by cases o with
 |call f args=>
  simp[ct.run]at h⊢;split at h;.exact zB hc h
  .split at h;.exact IS hc h
   .split at h;.exact IT hc h
    split at h;.exact IU hc h
    .exact sK hc h|vF f args=>
  simp[ct.run]at h⊢;split at h;.exact sK hc h
  .exact zB hc h|yS x args=>
  simp[ct.run]at h⊢;split at h;.exact sK hc h
  .cases h|_=>exact h
theorem E0(hc:nJ call call'){s:St}{aT:Nat}{o:bE}{r:gT}(h:o.step call sh s aT=some r):o.step call' sh s aT=some r:=by
 unfold bE.step at h⊢;split at h;.cases h
 .exact R0 hc h
 .exact h
theorem zC(hc:nJ call call'){lN:Nat}:∀{l:List bE}{i:Nat}{s r:St},ji call sh lN i l s=some r->ji call' sh lN i l s=some r
 |[],_,_,_,h=>h|o::l,i,s,r,h=>by
  unfold ji at h⊢;split at h;.cases h
  .rename_i e he;rw[E0 hc he];exact zC hc h
theorem zD(hc:nJ call call'){lN:Nat}:∀{l:List bE}{i:Nat}{p:List (Nat×gT)}{s r:St},jU call sh lN i l p s=some r->jU call' sh lN i l p s=some r
 |[],_,_,_,_,h=>h|o::l,i,p,s,r,h=>by
  unfold jU at h⊢;split at h;.cases h
  .rename_i e he;rw[E0 hc he];simp;split at h;.exact zD hc h
   omega
theorem B7(hc:nJ call call'){l:List bE}{d:Bool}{s r:St}(h:gh call sh l d s=some r):gh call' sh l d s=some r:=by cases d with|false=>exact zC hc h|true=>exact zD hc h
theorem wI(hc:nJ call call'):∀(n m:Nat)(c:AC)(s:St)(r:AX×St),n<=m->exec call sh n c s=some r->exec call' sh m c s=some r|0,_,_,_,_,_,h=>by cases h|n+1,0,_,_,_,hn,_=>by omega|n+1,m+1,c,s,r,hn,h=>by have ih:=wI hc n m;unfold exec at h⊢;cases c with
 |skip=>exact h|region ops d=>simp at h⊢;cases hr:gh call sh ops d s with|none=>grind|some s'=>rw[hr]at h;rw[B7 hc hr];exact h
 |seq a b=>grind|cond c a b=>grind|block id c=>grind|loop c=>grind|exit id=>exact h|ret=>exact h
end Go.bM
namespace Go.bM
open Go Go.RowKit
structure Tb where
 fs:Nat->Option qC
 O:Go.bM.Call
instance:CoeFun Tb λ_=>Nat->Option qC:=⟨Tb.fs⟩
instance:Coe Tb (Nat->Option qC):=⟨Tb.fs⟩
def R2:Go.bM.Call:=λ_ _ _ _ _=>none
def jo(T:Tb):Nat->Go.bM.Call|0,_,_,_,_,_=>none|n+1,f,args,mem,aK,nv=>match T.fs f with|none=>T.O f args mem aK nv|some fn=>match Nat.beq args.length fn.np with|false=>none|true=>match exec (jo T n) (λg=>((T.fs g).map (·.sh)).getD false) n fn.body {slots:=dS 0 args .lf,mem,aK,nv}with|some (.normal,s)|some (.ret,s)=>(jV s fn.res).map λvs=>(iZ vs,s.mem,s.aK,s.nv)|_=>none
theorem OZ{P:Program}:eo P R2:=λ_ _ _ _ _ _ _ _ _ h=>by cases h
def R3(P:Program)(dm:Nat->Option TypeId)(md:Nat->Mode)(Fs:Nat->Option qC):Prop:=(∀f fn,Fs f=some fn->KE P dm md f=some fn)/\∀f d,(Fs f).isSome=true->RW P dm md f=some d->(Fs d.g).isSome=true
theorem AK{P:Program}{T:Tb}(hO:eo P T.O){dm:Nat->Option TypeId}{md:Nat->Mode}(hm:P.follows .mixedOrders=true)(gP:∀f T,dm f=some T->jZ P f T)(DW:R3 P dm md T.fs):∀n,eo P (jo T n)|0=>λ_ _ _ _ _ _ _ _ _ h=>by cases h|n+1=>by intro f args mem aK nv r mem' oV HJ h;cases hf:T.fs f with|none=>simp[jo,hf]at h;exact hO f args mem aK nv r mem' oV HJ h|some fn=>
 refine RZ (AK hO hm gP DW n) hm gP (λg gf _ ZP args mem aK nv x hx=>?_) DW.1 DW.2 n f args mem aK nv r mem' oV HJ ?_;.match n,hx with|0,hx=>cases hx|m+1,hx=>refine⟨jo T m,m,AK hO hm gP DW m,?_⟩;simp only[jo,ZP]at hx;simp only[wG,ZP];exact hx
 simp[jo,hf]at h;simp[wG,hf];exact h
theorem Nr{T:Tb}:∀(n m:Nat),n<=m->nJ (jo T n) (jo T m)
 |0,_,_=>λ_ _ _ _ _ _ h=>by cases h|n+1,0,hn=>by omega|n+1,m+1,hn=>λf x mm t nv r h=>by
  have ih:=Nr (T:=T) n m (by omega);unfold jo at h⊢;split at h;.exact h
  .rename_i fn hf;split at h;.cases h
   .cases he:exec (jo T n) (λg=>((T.fs g).map (·.sh)).getD false) n fn.body {slots:=dS 0 x .lf,mem:=mm,aK:=t,nv}with|none=>grind|some y=>rw[wI ih n m fn.body _ y (by omega) he]<;>grind
end Go.bM
