/- Parts of the proof. -/
import Derived.Test.YtclkonemhghbkaaGreatSymA
import Derived.Test.YtclkonemhghbkaaGreatEngF
import Derived.Defers
import Derived.Laws.Strings
set_option linter.unusedVariables false
set_option linter.unusedSimpArgs false
set_option linter.defProp false
namespace Go.bK
open Go Go.RowKit
section
variable{P:Program}{X:Cx}{nt:NT}{s:St}{a:Act}
def GG(a:Act):ResultVar->Sem Value|.tmp t=>pure (a.tmps.getD t undef)|.cell c t=>do loadVar t (<-asAddr (a.tmps.getD c undef))
def aaH(hs:fI X nt s a){rv:ResultVar}{ar:BN}{v:AV}(hp:aen P rv=some ar)(hr:JP s ar=some v):∃u,(GG a rv).run P X.w=.ok u X.w/\V1 X v u:=by cases rv with
 |tmp t=>
  cases hp;simp[JP]at hr;split at hr;.rename_i hn;cases hr;exact⟨_,rfl,V1.Gc hn (hs.slots t)⟩
  grind|cell c t=>
  simp[aen]at hp;split at hp
  .rename_i sz agg hsz Av;split at hp;.rename_i h1;cases hp;obtain⟨cs,hcs,hw⟩:=aV hr;obtain⟨b,off,vs,hv,hc,h2,hlen⟩:=JQ hs.mem (hs.slots c) hcs;obtain⟨u,hrun,hV⟩:=CD (P:=P) hsz Av h1 hc h2 hlen hw;exact⟨u,by simp only[GG,hv];simp[asAddr,hrun],hV⟩
   grind
  grind
def zw(hs:fI X nt s a):∀{l:List ResultVar}{rs:List BN}{vs:List AV},FN P l=some rs->kf s rs=some vs->∃us,(l.mapM (GG a)).run P X.w=.ok us X.w/\aC (V1 X) vs us
 |[],rs,vs,hp,hr=>by simp_all[kf,FN,V1,aC,GG]|rv::r,rs,vs,hp,hr=>by
  simp[FN]at hp;split at hp
  .rename_i y ys h1 h2;cases hp;simp[kf]at hr;split at hr;.rename_i v vs' h3 h4;cases hr;obtain⟨u,g1,g2⟩:=aaH hs h1 h3;obtain⟨us,g3,g4⟩:=zw hs h2 h4;refine⟨u::us,?_,g2,g4⟩<;>simp_all
   grind
  grind
def r6:∀(l:List AV)(i:Nat)(t:Tr AV)(k:Nat),dV (eA i l t) k=if h:i<=k/\k<i+l.length then l[k-i]'(by omega)else dV t k
 |[],i,t,k=>by grind[eA,dV]|x::r,i,t,k=>by
  rw[eA,r6 r (i+1)];by_cases h1:i+1<=k/\k<i+1+r.length;.grind
  .rw[xf h1];by_cases h2:k=i;.subst h2;simp[dV,Tr.cK]
   .rw[xf (by simp;omega)];unfold dV;rw[Tr.cK,be (pv h2)]
def PN{args:List AV}{bR:Array Value}(h:aC (V1 X) args bR.toList)(n:Nat)(t:Nat):VR X (dV (eA 0 args .lf) t) ((bR++Array.replicate n undef).getD t undef):=by
 rw[r6];have hl:=h.length;simp at hl;by_cases ht:0<=t/\t<0+args.length
 .rw[dif_pos ht];obtain⟨b,hb,hr⟩:=h.get t args[t] (aw (by omega));have:(bR++Array.replicate n undef).getD t undef=b:=by rw[kh,rp (by omega)]<;>grind
  rw[this];exact .vK hr
 .rw[xf ht];have:(bR++Array.replicate n undef).getD t undef=undef:=by rw[kh,Array.getElem?_append_right (by omega),Array.getElem?_replicate]<;>grind
  rw[this];exact oY
def Ut{vs:List AV}{us:List Value}(h:aC (V1 X) vs us):VR X (jt vs) (if h:us.toArray.size=1then us.toArray[0]else .tuple us.toArray):=by match vs,us,h with|[],[],_=>grind[V1,aC,jt,VR]|[v],[u],h=>exact .vK h.1|v::w::r,u::x::q,h=>grind[V1,aC,jt,VR]
def yf(call:Go.bK.Call)(Fs:Nat->Option qu)(n:Nat):Go.bK.Call:=λf args mem aI nv=>match Fs f with|none=>none|some fn=>match Nat.beq args.length fn.np with|false=>none|true=>match exec call (λg=>((Fs g).map (·.sh)).getD false) n fn.body {slots:=eA 0 args .lf,mem,aI,nv}with|some (.normal,s)|some (.ret,s)=>(kf s fn.res).map λvs=>(jt vs,s.mem,s.aI,s.nv)|_=>none
def Dn{call:Go.bK.Call}(cG:cB P call){dw:Nat->Option TypeId}{md:Nat->Mode}{Fs:Nat->Option qu}(hm:P.follows .mixedOrders=true)(ic:∀f T,dw f=some T->kB P f T)(n:Nat){f:Nat}(Fo:∀fn,Fs f=some fn->QW P dw md f=some fn){args:List AV}{mem:List (Tr bq)}{aI:Tr Unit}{nv:Nat}{r:AV}{mem':List (Tr bq)}{kC:Tr Unit}{BU:Nat}(h:yf call Fs n f args mem aI nv=some (r,mem',kC,BU))(X:Cx)(bR:Array Value)(hmem:aF X mem aI)(hdom:∀v,nv<=v->X.ρ v=none)(hargs:aC (V1 X) args bR.toList):∃pf c,P.funcs[f]?=some pf/\pf.body=some c/\(pf.name== "runtime.NumGoroutine")=false/\c.wp P (bodyPost P pf (λe w'=>∃Y v,e=.returned v/\Y.w=w'/\Ext X Y/\VR Y r v/\aF Y mem' kC/\nv<=BU/\∀u L,Y.ρ u=some L->X.ρ u=some L\/(nv<=u/\u<BU))) {tmps:=bR++Array.replicate (pf.ntmps-bR.size) undef,defers:=[]} X.w:=by
  simp only[yf]at h;split at h;.cases h
  .rename_i fn hfn;split at h;.cases h
   .rename_i hnp;have hnp:=am hnp;have hf:=Fo fn hfn;unfold QW at hf;split at hf;.cases hf
    .rename_i pf hpf;split at hf;.cases hf
     .rename_i c hbody;split at hf;.cases hf
      .rename_i hname;split at hf
       .rename_i b rs hc Tl;simp only at hf;split at hf
        .rename_i hle;injection hf with hf;subst hf;refine⟨pf,c,hpf,hbody,by simpa using hname,?_⟩;have hlen:=hargs.length;simp only[fw]at hlen;simp only at hnp h;have start:fI X ⟨pf.ntmps,[]⟩ {slots:=eA 0 args .lf,mem,aI,nv} {tmps:=bR++Array.replicate (pf.ntmps-bR.size) undef,defers:=[]}:=⟨λt=>PN hargs _ t,by simp;omega,rfl,hmem⟩;have fin:∀(x:AX)(s:St),(kf s rs).map (λvs=>(jt vs,s.mem,s.aI,s.nv))=some (r,mem',kC,BU)->∀(Y:Cx)(a':Act),Ext X Y->fI Y ⟨pf.ntmps,[]⟩ s a'->nv<=s.nv->(∀v L,Y.ρ v=some L->X.ρ v=some L\/(nv<=v/\v<s.nv))->a'.defers=[]/\∃v,(results pf a'.tmps).run P Y.w=.ok v Y.w/\∃Z u,Ending.returned v=.returned u/\Z.w=Y.w/\Ext X Z/\VR Z r u/\aF Z mem' kC/\nv<=BU/\∀u L,Z.ρ u=some L->X.ρ u=some L\/(nv<=u/\u<BU):=by
          intro x s hres Y a' hx hs' hn hd;obtain⟨vs,hvs,he⟩:=aJ hres;simp only[eJ]at he;obtain⟨rfl,rfl,rfl,rfl⟩:=he;obtain⟨us,g1,g2⟩:=zw hs' Tl hvs;refine⟨hs'.defers,_,?_,Y,_,rfl,rfl,hx,Ut g2,hs'.mem,hn,hd⟩;have e:results pf a'.tmps=(do let vs<-pf.results.mapM (GG a')pure (if h:vs.size=1then vs[0]else .tuple vs)):=by unfold results;congr 1
          rw[e,<-Array.toArray_toList (xs:=pf.results),List.mapM_toArray];simp[g1]
         split at h;.rename_i s he;refine(B6 (nt:=⟨pf.ntmps,[]⟩) hm cG ic n).1 c b X _ _ (.normal,s) _ hc he start hdom λY a' hx hs' hn hd=>?_;exact fin .normal s h Y a' hx hs' hn hd
         .rename_i s he;refine(B6 (nt:=⟨pf.ntmps,[]⟩) hm cG ic n).1 c b X _ _ (.ret,s) _ hc he start hdom λY a' hx hs' hn hd=>?_;exact fin .ret s h Y a' hx hs' hn hd
         .cases h
        .cases hf
       .cases hf
def Uu{call:Go.bK.Call}(cG:cB P call){dw:Nat->Option TypeId}{md:Nat->Mode}{Fs:Nat->Option qu}(hm:P.follows .mixedOrders=true)(ic:∀f T,dw f=some T->kB P f T)(Fo:∀f fn,Fs f=some fn->QW P dw md f=some fn)(n:Nat):cB P (yf call Fs n):=by intro f args mem aI nv r mem' kC BU h X bR hmem hdom hargs;obtain⟨pf,c,h1,h2,h3,h4⟩:=Dn cG hm ic n (Fo f) h X bR hmem hdom hargs;exact⟨⟨pf,h1,by rw[h2];rfl,h3⟩,calls_of_wp h1 h2 h4⟩
def PO{dw:Nat->Option TypeId}{md:Nat->Mode}{Fs:Nat->Option qu}(hm:P.follows .mixedOrders=true)(ic:∀f T,dw f=some T->kB P f T)(Fo:∀f fn,Fs f=some fn->QW P dw md f=some fn):∀n,cB P (Z1 Fs n)|0=>λ_ _ _ _ _ _ _ _ _ h=>by simp[Z1]at h|n+1=>Uu (PO hm ic Fo n) hm ic Fo n
end
def cx0(w:World):Cx:={w,F:=λ_ _=>False,ρ:=λ_=>none,old:=λb=>b<w.heap.size}
def aaI(w:World)(hg:(∀b,M6 b->b<w.heap.size)/\gok w)(m:List (Tr bq))(hm:∀lv sl,aH m lv sl=none):aF (cx0 w) m .lf where
 fE lv sl e he:=by rw[hm]at he;cases he
 aI v hv:=by simp at hv
 apart k k' v v' L L' a b:=by
  rcases a with⟨_,_,_,_,he,_⟩|⟨_,he⟩;.rw[hm]at he;cases he
  .simp at he
 nG b o h:=h.elim;pX:=⟨λ_ h=>h,hg.1,hg.2⟩
def zx(lv sl:Nat):aH [.lf] lv sl=none:=by unfold aH;cases lv<;>simp
def ae2{P:Program}{dw:Nat->Option TypeId}{md:Nat->Mode}{Fs:Nat->Option qu}{n f:Nat}(hm:P.follows .mixedOrders=true)(ic:∀f T,dw f=some T->kB P f T)(Fo:∀f fn,Fs f=some fn->QW P dw md f=some fn)(h:(Z1 Fs n f [] [.lf] .lf 0).map (·.1)=some (.d (.sc (.bool true))))(w:World)(hg:(∀b,M6 b->b<w.heap.size)/\gok w):Calls P f #[] w λe w'=>e=.returned (.bool true)/\Below w.heap.size w w':=by obtain⟨⟨r,m,t,v⟩,hr,he⟩:=aJ h;obtain⟨_,hc⟩:=PO hm ic Fo n f [] [.lf] .lf 0 r m t v hr (cx0 w) #[] (aaI w hg _ zx) (λ_ _=>rfl) trivial;refine hc.mono ?_;rintro e w'⟨Y,u,rfl,rfl,hx,hv,_⟩;subst he;cases hv;exact⟨rfl,hx.below.toBelow⟩
def Dp:List (Nat×qu)->Nat->Option qu|[],_=>none|(g,fn)::r,f=>match Nat.beq g f with|true=>some fn|false=>Dp r f
inductive yg(P:Program)(dw:Nat->Option TypeId)(md:Nat->Mode):List (Nat×qu)->Prop where|nil:yg P dw md []|cons{g:Nat}{fn:qu}{r:List (Nat×qu)}:QW P dw md g=some fn->yg P dw md r->yg P dw md ((g,fn)::r)
def Uv{P:Program}{dw:Nat->Option TypeId}{md:Nat->Mode}{l:List (Nat×qu)}(h:yg P dw md l):∀f fn,Dp l f=some fn->QW P dw md f=some fn:=by induction h with|nil=>intro f fn h;cases h|@cons g fn' r h1 _ ih=>intro f fn h;simp[Dp]at h;split at h<;>simp_all
def yh{α β:Type}(f:α->Option β):List α->Option (List β)|[]=>some []|x::r=>match f x,yh f r with|some y,some ys=>some (y::ys)|_,_=>none
def A2(m:List (Tr bq)):Nat->AV->Option D|0,_=>none|k+1,x=>match x with
 |.d x=>some x|.own els .full=>some (.sl els)|.own els (.cR _ _)=>some (.sl els)|.ref lv sl ak off n sz=>(dL m (.ref lv sl ak off n sz)).map .sl|.dx lv sl ak off n sz=>match j3 m lv sl ak with|some cs=>if off+n*sz<=cs.length then(yh (A2 m k) ((cs.drop off).take (n*sz))).map λds=>.sl (chunk sz n ds)else none|none=>none
 |_=>none
def ajU(call:Go.bK.Call):Go.bK.Call:=λf args mem aI nv=>match call f args mem aI nv with|some (.agg cs,cm,_,n)=>(yh (A2 cm 9) cs).map λds=>(.agg (ds.map .d),[.lf],.lf,n)|_=>none
def Cx.given(X:Cx):Cx:={w:=X.w,F:=λb o=>X.F b o\/(¬X.old b/\b<X.w.heap.size),ρ:=X.ρ,old:=X.old}
def PR{α β:Type}{f:α->Option β}:∀{xs:List α}{ys:List β},yh f xs=some ys->ys.length=xs.length/\∀(k:Nat)(y:β),ys[k]?=some y->∃a,xs[k]?=some a/\f a=some y
 |[],ys,h=>by simp only[yh]at h;injection h with h;subst h;exact⟨rfl,λk y hk=>by simp at hk⟩|a::xs,ys,h=>by
  simp only[yh]at h;split at h;.rename_i z zs h1 h2;injection h with h;subst h;obtain⟨g1,g2⟩:=PR h2;refine⟨by simp[g1],λk y hk=>?_⟩;cases k with|zero=>simp only[List.getElem?_cons_zero,dT]at hk;subst hk;exact⟨a,rfl,h1⟩|succ k=>simpa using g2 k y (by simpa using hk)
  .cases h
section
variable{X:Cx}{m:List (Tr bq)}{t:Tr Unit}
def Dq(h:aF X m t):∀(k:Nat){x:AV}{y:D}{v:Value},A2 m k x=some y->VC X x v->DR X.w X.given.F y v
 |0,_,_,_,hx,_=>by cases hx|k+1,x,y,v,hx,hv=>by
  have hsub:∀b o,X.F b o->X.given.F b o:=λb o hb=>.inl hb;have J7:∀{els:List (List D)}{a:Option Addr}{cap sz b o:Nat},v=.slice a els.length cap->els.length<=cap->(0<els.length->a=some ⟨b,o,none⟩)->eX X.w X.F X.F els b o sz->DR X.w X.given.F (.sl els) v:=by rintro els a cap sz b o rfl h2 h3 h4;exact DR.gF (h4.mono hsub λq _ hq=>.inl hq) rfl h2 h3
  unfold A2 at hx;split at hx;.injection hx with hx;subst hx;exact DR.mono hsub hv
  .injection hx with hx;subst hx;obtain⟨a,b,o,sz,h1,h2,h3⟩:=hv;exact J7 h1 (bc _) h2 h3
  .injection hx with hx;subst hx;obtain⟨a,b,o,sz,cap,h1,h2,h3,h4,_⟩:=hv;exact J7 h1 h2 (λh=>h3 (by omega)) h4
  .rename_i lv sl ak off len sz;obtain⟨els,he,rfl⟩:=aJ hx;have hv0:=hv;obtain⟨L,a,cap,hL,hsz,rfl,hcap,hat⟩:=hv;unfold dL at he;obtain⟨es,hrd,he⟩:=aV he;split at he;case isFalse=>cases he
   rename_i hoff;injection he with he;subst he;have hlen:((es.drop off).take len).length=len:=by rw[ft,lw];omega
   have key:eX X.w X.F X.given.F es L.b L.o L.sz->DR X.w X.given.F (.sl ((es.drop off).take len)) (.slice a len cap):=by intro Ng;refine DR.gF (b:=L.b) (o:=L.o+off*L.sz) (sz:=L.sz) ((Ng.sub off len).mono hsub λ_ _ h=>h) hlen hcap λhq=>?_;rw[(hat (by omega)).1,hsz]
   unfold qJ at hrd;split at hrd
   .rename_i v' els' hg;split at hrd;.rename_i hvv;injection hrd with hrd;subst hrd;have hvv:=am hvv;subst hvv;obtain⟨L',hL',h1,h2,h3,h4⟩:=h.fE _ _ _ hg;have hL':X.ρ v'=some L':=hL';rw[hL]at hL';injection hL' with hL';subst hL';refine key ⟨h2,λi e j x h5 h6=>?_⟩;have hi:i<els'.length:=(cb.1 h5).1;have hb:=(h3 (by omega)).1;exact⟨.inr ⟨hb.1,hb.lt⟩,h4 i e j x h5 h6⟩
    .cases hrd
   .rename_i v' els' hg;split at hrd;.rename_i hvv;injection hrd with hrd;subst hrd;have hvv:=am hvv;subst hvv;obtain⟨L',hL',h1,h2⟩:=h.fE _ _ _ hg;have hL':X.ρ v'=some L':=hL';rw[hL]at hL';injection hL' with hL';subst hL';exact key (h2.region hsub)
    .cases hrd
   .cases hrd
  .rename_i lv sl ak off n sz;split at hx
   .rename_i cs hb;split at hx
    .rename_i hoff;obtain⟨ds,hd,rfl⟩:=aJ hx;obtain⟨L,aab,hL,rfl,hcap,hn,_⟩:=hv;obtain⟨L',hL',hE⟩:=h.fE lv sl _ (qP hb);have hL':X.ρ ak=some L':=hL';rw[hL]at hL';injection hL' with hL';subst hL';obtain⟨_,hblk,hno,hcell⟩:=hE;obtain⟨hdl,cell⟩:=PR hd;have hdl:ds.length=n*sz:=by rw[hdl,ft,lw];omega
     obtain⟨c1,c2,c3⟩:=zi hdl;refine DR.gF (b:=L.b) (o:=L.o+off) (sz:=sz) ⟨c2,λi e j x h1 h2=>?_⟩ c1 hcap λ_=>rfl;obtain⟨g1,g2,g3⟩:=c3 i j e x h1 h2;refine⟨.inr ⟨hblk.1,hblk.lt⟩,?_⟩;obtain⟨a,ha,hca⟩:=cell _ _ g3;rw[fa]at ha;split at ha;.rw[mn]at ha;obtain⟨u,hu,hvc⟩:=hcell _ _ ha;refine⟨u,?_,Dq h k hca hvc⟩;rw[show L.o+off+i*sz+j=L.o+(off+(i*sz+j))by omega];exact hu
     .cases ha
    .cases hx
   .cases hx
  .cases hx
def GH(h:aF X m t){k:Nat}:∀{xs:List AV}{ys:List D}{vs:List Value},yh (A2 m k) xs=some ys->aC (VC X) xs vs->aC (VC X.given) (ys.map .d) vs
 |[],ys,[],hx,_=>by simp only[yh]at hx;injection hx with hx;subst hx;trivial|x::xs,ys,v::vs,hx,hv=>by
  simp only[yh]at hx;split at hx;.rename_i y ys' h1 h2;injection hx with hx;subst hx;exact⟨Dq h k h1 hv.1,GH h h2 hv.2⟩
  .cases hx|[],_,_::_,_,hv=>hv.elim|_::_,_,[],_,hv=>hv.elim
end
def KA{Y:Cx}(hF:∀b o,Y.F b o->b<Y.w.heap.size)(hl:Low Y):aF Y [.lf] .lf:=by
 refine⟨λlv sl e he=>?_,λv hv=>by simp at hv,λk k' v v' L L' a _ _ _ _ _=>?_,hF,hl⟩;.exfalso;unfold aH at he;cases lv with|zero=>simp at he|succ lv=>simp at he
 .exfalso;rcases a with⟨lv,_,_,_,he,_⟩|⟨_,he⟩;.unfold aH at he;cases lv with|zero=>simp at he|succ lv=>simp at he
  .simp at he
def GI(cm:List (Tr bq)):AV->Option AV|.agg cs=>(yh (A2 cm 9) cs).map λds=>.agg (ds.map .d)|.fk _=>none|x=>(A2 cm 9 x).map .d
def PT(cm:List (Tr bq)):AV->Option AV|.fk vs=>(yh (GI cm) vs).map .fk|x=>GI cm x
def KB(call:Go.bK.Call):Go.bK.Call:=λf args mem aI nv=>match call f args mem aI nv with|some (r,cm,_,n)=>(PT cm r).map λv=>(v,[.lf],.lf,n)|none=>none
def KC{X:Cx}{m:List (Tr bq)}{t:Tr Unit}(h:aF X m t){x y:AV}{v:Value}(hx:GI m x=some y)(hv:V1 X x v):V1 X.given y v:=by
 have one:∀{x:AV},(A2 m 9 x).map AV.d=some y->VC X x v->V1 X.given y v:=by intro x hx hv;obtain⟨d,h1,rfl⟩:=aJ hx;exact .k9 (Dq h 9 h1 hv)
 cases x with|agg cs=>simp only[GI]at hx;obtain⟨ds,h1,rfl⟩:=aJ hx;obtain⟨vs,rfl,h3⟩:=hv;exact⟨vs,rfl,GH h h1 h3⟩|fk cs=>cases hx|_=>simp only[GI]at hx;exact one hx hv
def GJ{X:Cx}{m:List (Tr bq)}{t:Tr Unit}(h:aF X m t):∀{xs ys:List AV}{vs:List Value},yh (GI m) xs=some ys->aC (V1 X) xs vs->aC (V1 X.given) ys vs
 |[],ys,[],hx,_=>by simp only[yh]at hx;injection hx with hx;subst hx;trivial|x::xs,ys,v::vs,hx,hv=>by
  simp only[yh]at hx;split at hx;.rename_i y ys' h1 h2;injection hx with hx;subst hx;exact⟨KC h h1 hv.1,GJ h h2 hv.2⟩
  .cases hx|[],_,_::_,_,hv=>hv.elim|_::_,_,[],_,hv=>hv.elim
def Uw{X:Cx}{m:List (Tr bq)}{t:Tr Unit}(h:aF X m t){x y:AV}{v:Value}(hx:PT m x=some y)(hv:VR X x v):VR X.given y v:=by cases x with|fk xs=>simp only[PT]at hx;obtain⟨ys,h1,rfl⟩:=aJ hx;obtain⟨vs,rfl,h3⟩:=hv;exact⟨vs,rfl,GJ h h1 h3⟩|_=>simp only[PT]at hx;exact .vK (KC h hx hv)
def cS{P:Program}{call:Go.bK.Call}(hc:cB P call):cB P (KB call):=by
 intro f args mem aI nv r mem' kC BU h X bR hmem hdom hargs;unfold KB at h;split at h
 .rename_i rv cm ct n cG;obtain⟨y,hd,he⟩:=aJ h;simp only[eJ]at he;obtain⟨rfl,rfl,rfl,rfl⟩:=he;obtain⟨hfn,lu⟩:=hc f args mem aI nv _ _ _ _ cG X bR hmem hdom hargs;refine⟨hfn,lu.mono ?_⟩;rintro e w'⟨Y,v,rfl,rfl,hx,hv,hm,hn,hρ⟩;refine⟨Y.given,_,rfl,rfl,⟨hx.base,hx.below,λb o hb=>.inl (hx.TE b o hb),hx.keep,hx.loc,λb o hb=>?_⟩,Uw hm hd hv,KA (λb o hb=>?_) ⟨hm.pX.lt,hm.pX.gb,hm.pX.gk⟩,hn,hρ⟩
  .rcases hb with hb|hb;.exact hx.new b o hb
   .exact .inr (hx.base▸hb.1)
  .rcases hb with hb|hb;.exact hm.nG b o hb
   .exact hb.2
 .cases h
def vo(a b:Go.bK.Call):Go.bK.Call:=λf args mem aI nv=>match a f args mem aI nv with|some r=>some r|none=>b f args mem aI nv
def II{P:Program}{a b:Go.bK.Call}(ha:cB P a)(hb:cB P b):cB P (vo a b):=by
 intro f args mem aI nv r mem' kC BU h;unfold vo at h;split at h;.rename_i he;injection h with h;subst h;exact ha f args mem aI nv _ mem' kC BU he
 .exact hb f args mem aI nv r mem' kC BU h
def KD(l:List Nat)(a:Go.bK.Call):Go.bK.Call:=λf args mem aI nv=>match l.any (Nat.beq f)with|true=>a f args mem aI nv|false=>none
def IJ{P:Program}{l:List Nat}{a:Go.bK.Call}(ha:cB P a):cB P (KD l a):=by
 intro f args mem aI nv r mem' kC BU h;unfold KD at h;split at h;.exact ha f args mem aI nv r mem' kC BU h
 .cases h
end Go.bK
namespace Go.Sym
open Go Go.bK
abbrev bH:=Nat->Option Nat
def bD(t:Ty)(l:List t.den):List (List D):=l.map (fu t)
def RC(ρ:bH)(B:Nat)(m:List (Tr E2)):Cell->AV->Prop|.int k a,x=>x=.d (.sc (.int k a))|.bool b,x=>x=.d (.sc (.bool b))|.er b,x=>x=.d (match b with|true=>.er|false=>.sc .nilIface)|.str s,x=>x=.d (.sc (.string ⟨s.toArray⟩))|.raw v,x=>x=.d (.sc v)|.nil true,x=>x=.own [] .full|.nil false,x=>x=.d (.sl [])\/∃o,o≠.bG/\x=.own [] o|.sl t l .d,x=>x=.d (.sl (bD t l))\/∃o,o≠.bG/\x=.own (bD t l) o|.sl t l .bG,x=>x=.d (.sl (bD t l))\/∃o,x=.own (bD t l) o|.sl t l .full,x=>x=.own (bD t l) .full|.sl t l (.app v),x=>v<B/\((ρ v=none/\x=.own (bD t l) .full)\/∃u,ρ v=some u/\x=.own (bD t l) (.cR u t.size))|.ref lv sl ak t,x=>ak<B/\∃u n,ρ ak=some u/\x=.ref lv sl u 0 n t.size/\∀r,rowOf m lv sl ak=some r->n=r.l.length|.kj lv sl ak t off len,x=>ak<B/\∃u,ρ ak=some u/\x=.ref lv sl u off len t.size/\∀r,rowOf m lv sl ak=some r->off+len<=r.l.length|.ptr lv sl ak i off,x=>ak<B/\∃u,ρ ak=some u/\x=.ptr lv sl u i off|.eZ t e off,x=>x=.eZ (fu t e) off|.dx lv sl ak off n sz,x=>ak<B/\∃u,ρ ak=some u/\x=.dx lv sl u off n sz|.mp lv sl ak,x=>ak<B/\∃u,ρ ak=some u/\x=.mp lv sl u
def R1(ρ:bH)(B:Nat)(m:List (Tr E2)):Bool×List Cell->AV->Prop|(true,cs),a=>∃aK,a=.agg aK/\aC (RC ρ B m) cs aK|(false,cs),a=>∃c,cs=[c]/\RC ρ B m c a
def RV(ρ:bH)(B:Nat)(m:List (Tr E2)):V2->AV->Prop|.c x,a=>RC ρ B m x a|.agg cs,a=>∃aK,a=.agg aK/\aC (RC ρ B m) cs aK|.fG f cs,a=>∃aK,a=.fG f aK/\aC (RC ρ B m) cs aK|.fk vs,a=>∃aK,a=.fk aK/\aC (R1 ρ B m) vs aK
def RE(ρ:bH)(B:Nat)(m:List (Tr E2)):E2->bq->Prop|.row ak t l,e=>ak<B/\∃u,ρ ak=some u/\e=.row u (bD t l)|.box ak cs,e=>ak<B/\∃u aK,ρ ak=some u/\e=.box u aK/\aC (RC ρ B m) cs aK|.set ak l,e=>ak<B/\∃u,ρ ak=some u/\e=.mp u l
structure MR(ρ:bH)(B:Nat)(m2:List (Tr E2))(m:List (Tr bq)):Prop where
 len:m2.length=m.length
 fE:∀lv sl e2,jY m2 lv sl=some e2->∃e,aH m lv sl=some e/\RE ρ B m2 e2 e
def TR(ρ:bH)(B:Nat)(t2 t:Tr Unit):Prop:=∀v,t2.get? v=some ()->v<B/\∀u,ρ v=some u->t.get? u=some ()
structure VOK(ρ:bH)(n2 n:Nat):Prop where
 low:∀v u,v<n2->ρ v=some u->u<n
 high:∀v,n2<=v->ρ v=some (n+(v-n2))inj:∀v v' u,ρ v=some u->ρ v'=some u->v=v'
def wG(ρ:bH)(B:Nat)(m:List (Tr E2))(t:Tr V2)(o:Tr AV):Prop:=∀k v,t.get? k=some v->RV ρ B m v (dV o k)
structure SR(ρ:bH)(B:Nat)(os:List (Tr AV))(s2:S2)(s:St):Prop where
 slots:wG ρ B s2.mem s2.slots s.slots
 outer:aC (wG ρ B s2.mem) s2.outer os
 mem:MR ρ B s2.mem s.mem
 aI:TR ρ B s2.aI s.aI
 ak:VOK ρ s2.nv s.nv
 le:B<=s2.nv
def fW(B:Nat)(m m':List (Tr E2)):Prop:=∀lv sl ak r',ak<B->rowOf m' lv sl ak=some r'->∃r,rowOf m lv sl ak=some r/\r.l.length=r'.l.length
def fW.refl(B:Nat)(m:List (Tr E2)):fW B m m:=λ_ _ _ r _ h=>⟨r,h,rfl⟩
def fW.trans{B:Nat}{m m' m'':List (Tr E2)}(h:fW B m m')(k:fW B m' m''):fW B m m'':=by grind[fW]
def RC.move{ρ ρ':bH}{B B':Nat}{m m':List (Tr E2)}(hs:fW B m m')(hB:B<=B')(hρ:∀v,v<B->ρ' v=ρ v):∀{c:Cell}{x:AV},RC ρ B m c x->RC ρ' B' m' c x:=by intro c x h;cases c with
 |nil f=>cases f<;>exact h|sl t l o=>cases o with|app v=>obtain⟨hv,h⟩:=h;refine⟨by omega,?_⟩<;>grind|d=>exact h|full=>exact h|bG=>exact h
 |ref lv sl ak t=>obtain⟨hv,u,n,hu,hx,hr⟩:=h;refine⟨by omega,u,n,by rw[hρ ak hv];exact hu,hx,λr' hr'=>?_⟩;obtain⟨r,h1,h2⟩:=hs _ _ _ _ hv hr'<;>grind|kj lv sl ak t off len=>obtain⟨hv,u,hu,hx,hr⟩:=h;refine⟨by omega,u,by rw[hρ ak hv];exact hu,hx,λr' hr'=>?_⟩;obtain⟨r,h1,h2⟩:=hs _ _ _ _ hv hr'<;>grind|ptr lv sl ak i off=>obtain⟨hv,u,hu,hx⟩:=h;exact⟨by omega,u,by rw[hρ ak hv];exact hu,hx⟩|dx lv sl ak off n sz=>obtain⟨hv,u,hu,hx⟩:=h;exact⟨by omega,u,by rw[hρ ak hv];exact hu,hx⟩|mp lv sl ak=>obtain⟨hv,u,hu,hx⟩:=h;exact⟨by omega,u,by rw[hρ ak hv];exact hu,hx⟩|_=>exact h
def R1.mono{ρ ρ':bH}{B B':Nat}{m m':List (Tr E2)}(hc:∀c x,RC ρ B m c x->RC ρ' B' m' c x):∀{v:Bool×List Cell}{x:AV},R1 ρ B m v x->R1 ρ' B' m' v x|(true,_),_,⟨aK,h1,h2⟩=>⟨aK,h1,h2.mono hc⟩|(false,_),_,⟨c,h1,h2⟩=>⟨c,h1,hc _ _ h2⟩
def RV.mono{ρ ρ':bH}{B B':Nat}{m m':List (Tr E2)}(hc:∀c x,RC ρ B m c x->RC ρ' B' m' c x):∀{v:V2}{x:AV},RV ρ B m v x->RV ρ' B' m' v x:=by intro v x h;cases v with|c c=>exact hc _ _ h|agg cs=>obtain⟨aK,h1,h2⟩:=h;exact⟨aK,h1,h2.mono hc⟩|fG f cs=>obtain⟨aK,h1,h2⟩:=h;exact⟨aK,h1,h2.mono hc⟩|fk vs=>obtain⟨aK,h1,h2⟩:=h;exact⟨aK,h1,h2.mono λ_ _=>R1.mono hc⟩
def RE.mono{ρ ρ':bH}{B B':Nat}{m m':List (Tr E2)}(hB:B<=B')(hρ:∀v,v<B->ρ' v=ρ v)(hc:∀c x,RC ρ B m c x->RC ρ' B' m' c x):∀{e2:E2}{e:bq},RE ρ B m e2 e->RE ρ' B' m' e2 e:=by intro e2 e h;cases e2 with|row ak t l=>obtain⟨hv,u,h1,h2⟩:=h;exact⟨by omega,u,by rw[hρ ak hv];exact h1,h2⟩|box ak cs=>obtain⟨hv,u,aK,h1,h2,h3⟩:=h;exact⟨by omega,u,aK,by rw[hρ ak hv];exact h1,h2,h3.mono hc⟩|set ak l=>obtain⟨hv,u,h1,h2⟩:=h;exact⟨by omega,u,by rw[hρ ak hv];exact h1,h2⟩
def wG.mono{ρ ρ':bH}{B B':Nat}{m m':List (Tr E2)}(hc:∀c x,RC ρ B m c x->RC ρ' B' m' c x){t:Tr V2}{o:Tr AV}(h:wG ρ B m t o):wG ρ' B' m' t o:=λk v hk=>RV.mono hc (h k v hk)
def RV.move{ρ ρ':bH}{B B':Nat}{m m':List (Tr E2)}(hs:fW B m m')(hB:B<=B')(hρ:∀v,v<B->ρ' v=ρ v){v:V2}{x:AV}(h:RV ρ B m v x):RV ρ' B' m' v x:=RV.mono (λ_ _=>RC.move hs hB hρ) h
def wG.move{ρ ρ':bH}{B B':Nat}{m m':List (Tr E2)}(hs:fW B m m')(hB:B<=B')(hρ:∀v,v<B->ρ' v=ρ v){t:Tr V2}{o:Tr AV}(h:wG ρ B m t o):wG ρ' B' m' t o:=wG.mono (λ_ _=>RC.move hs hB hρ) h
def qY:∀l:List rJ,Gt l=l.map NH|[]=>by simp[Gt]|v::r=>by simp[Gt,qY r]
def fy:∀(t:Ty)(x:t.den),(fu t x).length=t.size|.val,v=>by cases v;simp[fu,NH,Ty.size]|.int _,_=>rfl|.bool,_=>rfl|.str,_=>rfl|.sl _,_=>rfl|.unit,_=>rfl|.prod a b,x=>by simp[fu,Ty.size,fy a,fy b]|.sum _ _,_=>rfl
def mI{ρ:bH}{B:Nat}{m:List (Tr E2)}:∀(t:Ty)(x:t.den),aC (RC ρ B m) (jD t x) ((fu t x).map .d)|.val,v=>by cases v;refine⟨rfl,rfl,rfl,.inl ?_,rfl,trivial⟩;simp[bD,rJ.list,qY,fu]|.int _,_=>⟨rfl,trivial⟩|.bool,_=>⟨rfl,trivial⟩|.str,_=>⟨rfl,trivial⟩|.sl _,_=>⟨.inl rfl,trivial⟩|.unit,_=>trivial|.prod a b,x=>by simp[jD,fu,f9];exact(mI a x.1).append (mI b x.2)|.sum _ _,_=>trivial
def Dr{a b:Ty}{l:List a.den}{l':List b.den}(h:j6 a b l=some l'):∃e:a=b,l'=e▸l:=by unfold j6 at h;split at h<;>grind
def Rs{a b:Ty}{l:a.den}{l':b.den}(h:wA a b l=some l'):∃e:a=b,l'=e▸l:=by unfold wA at h;split at h<;>grind
def pq:Cell->Option D|.int k a=>some (.sc (.int k a))|.bool b=>some (.sc (.bool b))|.str s=>some (.sc (.string ⟨s.toArray⟩))|.raw v=>some (.sc v)|.nil _=>some (.sl [])|.sl t l _=>some (.sl (bD t l))|_=>none
def cI:List Cell->Option (List D)|[]=>some []|c::r=>match pq c,cI r with|some x,some xs=>some (x::xs)|_,_=>none
def ny:∀{l l':List Cell}{ds ds':List D},cI l=some ds->cI l'=some ds'->cI (l++l')=some (ds++ds')
 |[],_,_,_,h,h'=>by cases h<;>grind|c::r,l',ds,ds',h,h'=>by
  simp[cI]at h;split at h;.rename_i x xs h1 h2;cases h;simp[nn,cI,h1,ny h2 h']
  grind
def iG{c:Cell}{r:List Cell}{ds:List D}(h:cI (c::r)=some ds):∃x xs,pq c=some x/\cI r=some xs/\ds=x::xs:=by grind[cI,pq]
def Ds{k:IntKind}{cs r:List Cell}{x:Int}{ds:List D}(h:Ks k cs=some (x,r))(hd:cI cs=some ds):∃ds',ds=.sc (.int k x)::ds'/\cI r=some ds':=by
 unfold Ks at h;split at h
 .split at h;.obtain⟨y,ys,h1,h2,rfl⟩:=iG hd;cases h1<;>grind
  grind
 grind
def GK{cs r:List Cell}{x:Bool}{ds:List D}(h:Iy cs=some (x,r))(hd:cI cs=some ds):∃ds',ds=.sc (.bool x)::ds'/\cI r=some ds':=by
 unfold Iy at h;split at h;.obtain⟨y,ys,h1,h2,rfl⟩:=iG hd;cases h1<;>grind
 grind
def KE{cs r:List Cell}{x:List UInt8}{ds:List D}(h:PE cs=some (x,r))(hd:cI cs=some ds):∃ds',ds=.sc (.string ⟨x.toArray⟩)::ds'/\cI r=some ds':=by
 unfold PE at h;split at h;.obtain⟨y,ys,h1,h2,rfl⟩:=iG hd;cases h1<;>grind
 grind
def PU{t:Ty}{cs r:List Cell}{x:List t.den}{ds:List D}(h:aay t cs=some (x,r))(hd:cI cs=some ds):∃ds',ds=.sl (bD t x)::ds'/\cI r=some ds':=by
 unfold aay at h;split at h;.cases h;obtain⟨y,ys,h1,h2,rfl⟩:=iG hd;cases h1;exact⟨ys,rfl,h2⟩
 .split at h;.rename_i hc;obtain⟨e,hl⟩:=Dr hc;obtain⟨y,ys,h1,h2,rfl⟩:=iG hd;cases h1<;>grind
  grind
 grind
def Dt:∀(t:Ty){cs r:List Cell}{x:t.den},AU t cs=some (x,r)->∀{ds:List D},cI cs=some ds->∃ds',ds=fu t x++ds'/\cI r=some ds'
 |.val,cs,r,x,h,ds,hd=>by
  simp[AU,acZ]at h;split at h
  .rename_i k r1 h1;split at h
   .rename_i i r2 h2;split at h
    .rename_i s r3 h3;split at h
     .rename_i l r4 h4;split at h
      .rename_i c r5 h5;cases h;obtain⟨d1,rfl,e1⟩:=Ds h1 hd;obtain⟨d2,rfl,e2⟩:=Ds h2 e1;obtain⟨d3,rfl,e3⟩:=KE h3 e2;obtain⟨d4,rfl,e4⟩:=PU h4 e3;obtain⟨d5,rfl,e5⟩:=GK h5 e4;refine⟨d5,?_,e5⟩;have:bD .val l=Gt l:=by rw[qY];rfl
       simp[fu,NH,this]
      grind
     grind
    grind
   grind
  grind|.int k,_,_,_,h,_,hd=>Ds h hd|.bool,_,_,_,h,_,hd=>GK h hd|.str,_,_,_,h,_,hd=>KE h hd|.sl t,_,_,_,h,_,hd=>PU h hd|.unit,_,_,_,h,ds,hd=>by cases h;exact⟨ds,rfl,hd⟩|.prod a b,cs,r,x,h,ds,hd=>by
  simp[AU]at h;split at h
  .rename_i x1 r1 h1;split at h;.rename_i x2 r2 h2;cases h;obtain⟨d1,rfl,e1⟩:=Dt a h1 hd;obtain⟨d2,rfl,e2⟩:=Dt b h2 e1<;>simp_all[AU,cI,Ty.den,fu]
   grind
  grind|.sum _ _,_,_,_,h,_,_=>by simp[AU]at h
def qZ{t:Ty}{cs:List Cell}{x:t.den}{ds:List D}(h:AW t cs=some x)(hd:cI cs=some ds):ds=fu t x:=by
 unfold AW at h;split at h;.rename_i y h1;cases h;obtain⟨ds',rfl,e⟩:=Dt t h1 hd;cases e;simp
 grind
end Go.Sym
namespace Go.bK
open Go
structure DFn where
 np:Nat
 nt:Nat
 pre:AC
 g:Nat
 caps:List Nat
 dst:Nat
 body:AC
 res:List BN
 sh:Bool deriving Inhabited
def tmpsOf:List Operand->Option (List Nat)|[]=>some []|.tmp t::r=>(tmpsOf r).map (t::·)|_=>none
def NO:Code->Option (Code×Nat×List Nat×Nat×Code)
 |.seq r1 (.seq (.region _ ⟨[o1,o2]⟩ false) rest)=>match o1.op,o1.dst,o1.guard,o2.op,o2.dst,o2.guard with
  |.makeFunc (.func g) ⟨[]⟩ ⟨cap⟩,some d,none,.defer c,none,none=>match c.callee,c.args with
   |.value (.tmp d'),⟨[]⟩=>match Nat.beq d' d,tmpsOf cap with|true,some l=>some (r1,g,l,d,rest)|_,_=>none
   |_,_=>none
  |_,_,_,_,_,_=>none
 |_=>none
def KF(P:Program)(dw:Nat->Option TypeId)(md:Nat->Mode)(f:Nat):Option DFn:=match P.funcs[f]?with|none=>none|some fn=>match fn.body with|none=>none|some c=>if fn.name== "runtime.NumGoroutine"then none else match NO c,FN P fn.results.toList with
 |some (r1,g,caps,d,rest),some rs=>match TJ P dw fn.ntmps (md f).rows r1,TJ P dw fn.ntmps (md f).rows rest with|some pre,some body=>if fn.params.size+fn.nfree<=fn.ntmps/\d<fn.ntmps then some {np:=fn.params.size+fn.nfree,nt:=fn.ntmps,pre,g,caps,dst:=d,body,res:=rs,sh:=(md f).sh}else none|_,_=>none
 |_,_=>none
def pz(id:Nat):AC->AC|.seq a b=>.seq (pz id a) (pz id b)|.cond c a b=>.cond c (pz id a) (pz id b)|.block i c=>.block i (pz id c)|.loop c=>.loop (pz id c)|.ret=>.exit id|c=>c
def q8(id:Nat):AC->Bool|.seq a b=>q8 id a&&q8 id b|.cond _ a b=>q8 id a&&q8 id b|.block i c=>!Nat.beq i id&&q8 id c|.loop c=>q8 id c|.exit i=>!Nat.beq i id|_=>true
def sZ(t:Nat):AC->Bool
 |.region ops _=>ops.all λo=>match o.dst with|some d=>!Nat.beq d t|none=>true
 |.seq a b=>sZ t a&&sZ t b|.cond _ a b=>sZ t a&&sZ t b|.block _ c=>sZ t c|.loop c=>sZ t c|_=>true
def gdf:Nat:=1099511627776
def ac7:AC->Bool|.region _ _=>true|_=>false
def mkD(d:DFn):qu:={np:=d.np,nt:=d.nt,res:=d.res,sh:=d.sh,body:=.seq d.pre (.seq (.region [⟨some d.dst,.makeFunc d.g (d.caps.map .t),none,0,0⟩] false) (.seq (.block gdf (pz gdf d.body)) (.region [⟨none,.Ar (.t d.dst) [],none,0,0⟩] false)))}
def ae4(d:DFn):Bool:=ac7 d.pre&&q8 gdf d.body&&sZ d.dst d.body
def ajW(P:Program)(dw:Nat->Option TypeId)(md:Nat->Mode)(f:Nat):Option qu:=match KF P dw md f with|none=>none|some d=>match ae4 d,QW P dw md d.g with
 |true,some g=>match g.sh&&g.res.isEmpty with|true=>some (mkD d)|false=>none
 |_,_=>none
def Fe(P:Program)(dw:Nat->Option TypeId)(md:Nat->Mode)(f:Nat):Option qu:=match QW P dw md f with|some x=>some x|none=>ajW P dw md f
end Go.bK
namespace Go.bK
open Go Go.RowKit
section
variable{P:Program}{X:Cx}
def A3:∀{l:List Operand}{ts:List Nat},tmpsOf l=some ts->jx l=some (ts.map .t)|[],ts,h=>by simp only[tmpsOf]at h;injection h with h;subst h;rfl|.tmp t::r,ts,h=>by simp only[tmpsOf]at h;obtain⟨ys,h1,rfl⟩:=aJ h;simp only[jx,dD,A3 h1,f1]|.const _::_,_,h=>by simp[tmpsOf]at h|.global _::_,_,h=>by simp[tmpsOf]at h|.func _::_,_,h=>by simp[tmpsOf]at h
def E8.V1{x:AV}{v:Value}(h:E8 X x v):Go.bK.V1 X x v:=by cases x<;>first|exact h|exact h.elim
structure ajX(c r1 rest:Code)(g:Nat)(caps:List Nat)(d:Nat):Prop where code:∃id o1 o2 cap ye,c=.seq r1 (.seq (.region id #[o1,o2] false) rest)/\o1.op=.makeFunc (.func g) #[] cap/\o1.dst=some d/\o1.guard=none/\o2.op=.defer ye/\o2.dst=none/\o2.guard=none/\ye.callee=.value (.tmp d)/\ye.args=#[]/\jx cap.toList=some (caps.map .t)
def KG{c r1 rest:Code}{g d:Nat}{caps:List Nat}(h:NO c=some (r1,g,caps,d,rest)):ajX c r1 rest g caps d:=by
 unfold NO at h;split at h;case h_2=>cases h
 rename_i r1' id o1 o2 rest';split at h;case h_2=>cases h
 rename_i g' cap d' ye h1 h2 h3 h4 h5 h6;split at h;case h_2=>cases h
 rename_i d'' h7 h8;split at h;case h_2=>cases h
 rename_i l hb hl;have hb:=am hb;subst hb;simp only[dT,eJ]at h;obtain⟨rfl,rfl,rfl,rfl,rfl⟩:=h;exact⟨⟨id,o1,o2,⟨cap⟩,ye,rfl,h1,h2,h3,h4,h5,h6,h7,h8,A3 hl⟩⟩
end
def Fp(id:Nat):AX->AX|.ret=>.exit id|x=>x
section
variable{call:Go.bK.Call}{sh:Nat->Bool}{id:Nat}
def NP{a b:Nat}(h:Nat.beq a b=false):a≠b:=na h
def iK:∀(n:Nat)(c:AC)(s:St),q8 id c=true->exec call sh n (pz id c) s=(exec call sh n c s).map λr=>(Fp id r.1,r.2)
 |0,_,_,_=>rfl|n+1,.skip,s,_=>rfl|n+1,.region ops draw,s,_=>by simp only[pz,exec];cases gi call sh ops draw s<;>rfl|n+1,.seq a b,s,h=>by simp only[q8,al]at h;simp only[pz,exec,iK n a s h.1];cases exec call sh n a s with|none=>rfl|some r=>obtain⟨x,s'⟩:=r;cases x<;>simp[Fp,iK n b s' h.2]
 |n+1,.cond c a b,s,h=>by simp only[q8,al]at h;simp only[pz,exec,iK n a s h.1,iK n b s h.2];cases jq (c.ev s.slots)with|none=>rfl|some t=>cases t<;>rfl
 |n+1,.block i c,s,h=>by simp only[q8,al,d6]at h;simp only[pz,exec,iK n c s h.2];cases exec call sh n c s with|none=>rfl|some r=>
  obtain⟨x,s'⟩:=r
  cases x with|normal=>rfl|ret=>
   have:Nat.beq id i=false:=by have:=NP h.1;cases hq:Nat.beq id i with|false=>rfl|true=>exact absurd (am hq).symm this
   simp[Fp,this]|exit j=>simp only[Fp,cf];cases Nat.beq j i<;>rfl
 |n+1,.loop c,s,h=>by simp only[q8]at h;simp only[pz,exec,iK n c s h];cases exec call sh n c s with|none=>rfl|some r=>obtain⟨x,s'⟩:=r;cases x with|normal=>exact iK n (.loop c) s' h|ret=>rfl|exit j=>rfl
 |n+1,.exit i,s,h=>rfl|n+1,.ret,s,_=>rfl
def jZ:∀(n:Nat)(c:AC)(s s':St),q8 id c=true->exec call sh n c s=some (.exit id,s')->False
 |0,_,_,_,_,h=>by cases h|n+1,.skip,s,_,_,h=>by simp[exec]at h|n+1,.region ops draw,s,_,_,h=>by simp[exec]at h|n+1,.seq a b,s,s',h0,h=>by
  simp only[q8,al]at h0;simp only[exec]at h;split at h;.exact jZ n b _ _ h0.2 h
  .exact jZ n a _ _ h0.1 h|n+1,.cond c a b,s,s',h0,h=>by
  simp only[q8,al]at h0;simp only[exec]at h;split at h;.exact jZ n a _ _ h0.1 h
  .exact jZ n b _ _ h0.2 h
  .cases h|n+1,.block i c,s,s',h0,h=>by
  simp only[q8,al]at h0;simp only[exec]at h;split at h
  .rename_i j s2 he;split at h;.simp at h
   .simp only[dT,eJ,AX.exit.injEq]at h;rw[h.1]at he;exact jZ n c _ _ h0.2 he
  .exact jZ n c _ _ h0.2 h|n+1,.loop c,s,s',h0,h=>by
  have h1:=h0;simp only[q8]at h0;simp only[exec]at h;split at h;.exact jZ n (.loop c) _ _ h1 h
  .exact jZ n c _ _ h0 h|n+1,.exit i,s,s',h0,h=>by simp only[q8,d6]at h0;simp only[exec,dT,eJ,AX.exit.injEq]at h;exact NP h0 h.1|n+1,.ret,s,_,_,h=>by simp[exec]at h
def KH{s:St}{dst:Option Nat}{e:hU}{t:Nat}(h:(match dst with|some d=>!Nat.beq d t|none=>true)=true):dV (s.app dst e).slots t=dV s.slots t:=by
 have:∀v,dV (n9 s.slots dst v) t=dV s.slots t:=λv=>by cases dst with|none=>rfl|some d=>simp only[d6]at h;have:=NP h;simp[dV,n9,Tr.cK,this]
 cases e<;>exact this _
def KI{mC t:Nat}:∀{l:List bI}{i:Nat}{s s':St},(l.all λo=>match o.dst with|some d=>!Nat.beq d t|none=>true)=true->jA call sh mC i l s=some s'->dV s'.slots t=dV s.slots t
 |[],_,_,_,_,h=>by cases h;rfl|o::r,i,s,s',h0,h=>by
  simp only[dv,al]at h0;simp only[jA]at h;split at h;.cases h
  .rw[KI h0.2 h];exact KH h0.1
def KJ{mC t:Nat}:∀{l:List bI}{i:Nat}{eR:List (Nat×hU)}{s s':St},(l.all λo=>match o.dst with|some d=>!Nat.beq d t|none=>true)=true->ke call sh mC i l eR s=some s'->dV s'.slots t=dV s.slots t
 |[],_,_,_,_,_,h=>by cases h;rfl|o::r,i,eR,s,s',h0,h=>by
  simp only[dv,al]at h0;simp only[ke]at h;split at h;.cases h
  .split at h;.rw[KJ h0.2 h];exact KH h0.1
   .cases h
def gD{t:Nat}:∀(n:Nat)(c:AC)(s:St)(x:AX)(s':St),sZ t c=true->exec call sh n c s=some (x,s')->dV s'.slots t=dV s.slots t
 |0,_,_,_,_,_,h=>by cases h|n+1,.skip,s,_,_,_,h=>by cases h;rfl|n+1,.region ops draw,s,x,s',h0,h=>by simp only[exec,fb]at h;obtain⟨s2,h1,h2⟩:=h;cases h2;unfold gi at h1;cases draw with|false=>exact KI (s:={s with nv:=s.nv+ops.length}) h0 h1|true=>exact KJ (s:={s with nv:=s.nv+ops.length}) h0 h1
 |n+1,.seq a b,s,x,s',h0,h=>by
  simp only[sZ,al]at h0;simp only[exec]at h;split at h;.rename_i s2 he;rw[gD n b _ _ _ h0.2 h,gD n a _ _ _ h0.1 he]
  .exact gD n a _ _ _ h0.1 h|n+1,.cond c a b,s,x,s',h0,h=>by
  simp only[sZ,al]at h0;simp only[exec]at h;split at h;.exact gD n a _ _ _ h0.1 h
  .exact gD n b _ _ _ h0.2 h
  .cases h|n+1,.block i c,s,x,s',h0,h=>by
  simp only[sZ]at h0;simp only[exec]at h;split at h
  .rename_i j s2 he;split at h;.cases h;exact gD n c _ _ _ h0 he
   .cases h;exact gD n c _ _ _ h0 he
  .exact gD n c _ _ _ h0 h|n+1,.loop c,s,x,s',h0,h=>by
  have h1:=h0;simp only[sZ]at h0;simp only[exec]at h;split at h;.rename_i s2 he;rw[gD n (.loop c) _ _ _ h1 h,gD n c _ _ _ h0 he]
  .exact gD n c _ _ _ h0 h|n+1,.exit i,s,x,s',_,h=>by cases h;rfl|n+1,.ret,s,x,s',_,h=>by cases h;rfl
end
section
variable{P:Program}{X:Cx}{call:Go.bK.Call}{sh:Nat->Bool}
def Du{n:Nat}{a b:AC}{s:St}{r:AX×St}(h:exec call sh n (.seq a b) s=some r):∃m,n=m+1/\((∃s1,exec call sh m a s=some (.normal,s1)/\exec call sh m b s1=some r)\/(exec call sh m a s=some r/\r.1≠.normal)):=by cases n with|zero=>cases h|succ m=>
 refine⟨m,rfl,?_⟩;simp only[exec]at h;split at h;.rename_i s1 he;exact .inl ⟨s1,he,h⟩
 .rename_i hne;exact .inr ⟨h,λe=>hne r.2 (by rw[h,<-e])⟩
def IK{n:Nat}{c:AC}{s s2:St}(hc:q8 gdf c=true)(h:exec call sh n (.block gdf (pz gdf c)) s=some (.normal,s2)):∃m ax,exec call sh m c s=some (ax,s2)/\(ax=.normal\/ax=.ret):=by cases n with|zero=>cases h|succ m=>simp only[exec,iK m c s hc]at h;cases he:exec call sh m c s with|none=>rw[he]at h;simp at h|some r=>obtain⟨ax,s3⟩:=r;rw[he]at h;cases ax with|normal=>simp[Fp]at h;subst h;exact⟨m,_,he,.inl rfl⟩|ret=>simp[Fp]at h;subst h;exact⟨m,_,he,.inr rfl⟩|exit j=>
 simp only[Fp,cf]at h;split at h;.rename_i hb;cases am hb;exact(jZ m c s s3 hc he).elim
 .simp at h
def Rt{n:Nat}{c:AC}{s s2:St}(hc:q8 gdf c=true):exec call sh n (.block gdf (pz gdf c)) s≠some (.ret,s2):=by intro h;cases n with|zero=>cases h|succ m=>simp only[exec,iK m c s hc]at h;cases he:exec call sh m c s with|none=>rw[he]at h;simp at h|some r=>obtain⟨ax,s3⟩:=r;rw[he]at h;cases ax with|normal=>simp[Fp]at h|ret=>simp[Fp]at h|exit j=>simp only[Fp,cf]at h;split at h<;>simp at h
end
section
variable{P:Program}{X:Cx}{call:Go.bK.Call}{sh:Nat->Bool}
def PV{n:Nat}{c:AC}{s s':St}{ax:AX}(hr:ac7 c=true)(h:exec call sh n c s=some (ax,s')):ax=.normal:=by cases n with|zero=>cases h|succ m=>
 cases c<;>first|cases hr|skip
 simp only[exec,fb]at h;obtain⟨_,_,h⟩:=h;cases h;rfl
def aaK{n:Nat}{d:DFn}{s0 s3:St}{ax:AX}(hk:ae4 d=true)(hsh:sh d.g=true)(h:exec call sh n (mkD d).body s0=some (ax,s3))(Ux:ax=.normal\/ax=.ret):∃n1 s1 n2 s2 ax2 rg cm ts nv3,exec call sh n1 d.pre s0=some (.normal,s1)/\(d.caps.map (dV s1.slots)).all jS=true/\exec call sh n2 d.body {s1 with slots:=n9 s1.slots (some d.dst) (.fG d.g (d.caps.map (dV s1.slots))),nv:=s1.nv+1}=some (ax2,s2)/\(ax2=.normal\/ax2=.ret)/\call d.g (d.caps.map (dV s1.slots)) (s2.mem++[.lf]) s2.aI (s2.nv+1)=some (rg,cm,ts,nv3)/\(rg=.fk []->s3={slots:=s2.slots,mem:=cm.take s2.mem.length,aI:=ts,nv:=nv3}):=by
 simp only[ae4,al]at hk;obtain⟨⟨ar9,hne⟩,hkeep⟩:=hk;obtain⟨m,e1,g1⟩:=Du h;clear h;subst e1;rcases g1 with⟨s1,h1,h⟩|⟨h1,hn⟩;case inr=>exact absurd (PV ar9 h1) hn
 obtain⟨m2,e2,g2⟩:=Du h;clear h;subst e2;rcases g2 with⟨s1',h2,h⟩|⟨h2,hn⟩;case inr=>exact absurd (PV rfl h2) hn
 obtain⟨m3,e3,g3⟩:=Du h;clear h;subst e3;rcases g3 with⟨s2,h3,h⟩|⟨h3,hn⟩;case inr=>
  rcases Ux with rfl|rfl;.exact absurd rfl hn
  .exact absurd h3 (Rt hne)
 obtain⟨m4,ax2,h5,ae6⟩:=IK hne h3;have qI:∀(t:Tr AV),As t (d.caps.map .t)=d.caps.map (dV t):=λt=>by unfold As;rw[px];rfl
 have q:(d.caps.map (dV s1.slots)).all jS=true/\s1'={s1 with slots:=n9 s1.slots (some d.dst) (.fG d.g (d.caps.map (dV s1.slots))),nv:=s1.nv+1}:=by
  simp only[exec,fb]at h2;obtain⟨s4,h6,h7⟩:=h2;cases h7;simp only[gi,jA,bI.step,js,cF.run,qI]at h6;by_cases hc:(d.caps.map (dV s1.slots)).all jS=true;.rw[ba hc]at h6;simp only[fD.pure,dT]at h6;exact⟨hc,h6.symm⟩
  .rw[be hc]at h6;cases h6
 obtain⟨hc,rfl⟩:=q;have asa:dV s2.slots d.dst=.fG d.g (d.caps.map (dV s1.slots)):=by rw[gD m4 d.body _ _ _ hkeep h5];simp[dV,n9,Tr.cK]
 cases m3 with|zero=>cases h|succ m5=>
 simp only[exec,fb]at h;obtain⟨s4,h6,h7⟩:=h;cases h7;simp only[gi,jA,bI.step,js,cF.run,cu.ev,asa,hsh,As,lA,ii,gV]at h6;split at h6;.cases h6
 rename_i e he;split at he;.cases he
 split at he;.cases he
 rename_i rg cm ts nv3 cG;refine⟨_,s1,_,s2,ax2,rg,cm,ts,nv3,h1,hc,h5,ae6,cG,?_⟩;rintro rfl;have hi:∀k row lv sl aP,gU cm k row lv sl aP (.fk [])=some (.fk [],[]):=λ_ _ _ _ _=>rfl;simp only[Option.getD_none,hi,j9,dT,aT]at he;subst he;simp only[dT]at h6;subst h6;rfl
def Uy(cG:cB P call){dw:Nat->Option TypeId}{md:Nat->Mode}{Fs:Nat->Option qu}(hm:P.follows .mixedOrders=true)(ic:∀f T,dw f=some T->kB P f T)(hgo:∀g gf,QW P dw md g=some gf->Fs g=some gf->∀args mem aI nv x,call g args mem aI nv=some x->∃call' n',cB P call'/\yf call' Fs n' g args mem aI nv=some x)(Fo:∀f fn,Fs f=some fn->Fe P dw md f=some fn)(hgs:∀f d,(Fs f).isSome=true->KF P dw md f=some d->(Fs d.g).isSome=true)(n:Nat):cB P (yf call Fs n):=by intro f args mem aI nv r mem' kC BU h X bR hmem hdom hargs;cases hfp:QW P dw md f with|some fp=>obtain⟨pf,c,h1,h2,h3,h4⟩:=Dn (md:=md) cG hm ic n (λfn hfn=>by have:=Fo f fn hfn;simp only[Fe,hfp]at this;rw[hfp];exact this) h X bR hmem hdom hargs;exact⟨⟨pf,h1,by rw[h2];rfl,h3⟩,calls_of_wp h1 h2 h4⟩|none=>
 have h0:=h;simp only[yf]at h;split at h;.cases h
 rename_i fn hfn;have hq:=Fo f fn hfn;simp only[Fe,hfp,ajW]at hq;split at hq;.cases hq
 rename_i d hdf;split at hq;case h_2=>cases hq
 rename_i gf hok hgf;split at hq;case h_2=>cases hq
 rename_i hgk;injection hq with hq;subst hq;rw[al]at hgk;obtain⟨asc,ajY⟩:=hgk;have hFg:Fs d.g=some gf:=by have:=hgs f d (by rw[hfn];rfl) hdf;cases hg:Fs d.g with|none=>rw[hg]at this;cases this|some gf'=>have:=Fo d.g gf' hg;simp only[Fe,hgf]at this;rw[this]
 split at h;.cases h
 rename_i hnp;have hnp:=am hnp;have hrun:∃ax s3,exec call (λg=>((Fs g).map (·.sh)).getD false) n (mkD d).body {slots:=eA 0 args .lf,mem,aI,nv}=some (ax,s3)/\(ax=.normal\/ax=.ret)/\(kf s3 d.res).map (λvs=>(jt vs,s3.mem,s3.aI,s3.nv))=some (r,mem',kC,BU):=by
  split at h;.rename_i s3 he;exact⟨_,s3,he,.inl rfl,h⟩
  .rename_i s3 he;exact⟨_,s3,he,.inr rfl,h⟩
  .cases h
 clear h;obtain⟨ax,s3,he,Ux,hres⟩:=hrun;obtain⟨n1,s1,n2,s2,ax2,rg,cm,ts,nv3,he1,hcell,he2,ae6,hcg,ae7⟩:=aaK hok (by simp[hFg,asc]) he Ux;obtain⟨call',n',ae8,hg⟩:=hgo d.g gf hgf hFg _ _ _ _ _ hcg;have hrg:rg=.fk []:=by
  have hg2:=hg;simp only[yf,hFg]at hg2;split at hg2;.cases hg2
  have BS:gf.res=[]:=se.1 ajY;split at hg2;.simp only[BS,kf,jt,cf,dT,eJ]at hg2;exact hg2.1.symm
  .simp only[BS,kf,jt,cf,dT,eJ]at hg2;exact hg2.1.symm
  .cases hg2
 have ae7:=ae7 hrg;subst ae7;unfold KF at hdf;split at hdf;.cases hdf
 rename_i pf hpf;split at hdf;.cases hdf
 rename_i c hbody;split at hdf;.cases hdf
 rename_i hname;split at hdf;case h_2=>cases hdf
 rename_i r1 g caps dd rest rs ajZ Tl;split at hdf;case h_2=>cases hdf
 rename_i pre body hpre CT;split at hdf;case isFalse=>cases hdf
 rename_i hle;injection hdf with hdf;subst hdf;simp only[mkD]at hnp he1 he2 hcell hres hg hgf hFg;obtain⟨⟨id,o1,o2,cap,ye,rfl,ho1,ZM,hg1,ho2,H9,hg2,hc1,ou,hcap⟩⟩:=KG ajZ;refine⟨⟨pf,hpf,by rw[hbody];rfl,by simpa using hname⟩,?_⟩;have hlen:=hargs.length;simp only[fw]at hlen;have start:fI X ⟨pf.ntmps,[]⟩ {slots:=eA 0 args .lf,mem,aI,nv} {tmps:=bR++Array.replicate (pf.ntmps-bR.size) undef,defers:=[]}:=⟨λt=>PN hargs _ t,by simp;omega,rfl,hmem⟩;refine calls_of_wp_defers hpf hbody (wp_seq ?_);refine(B6 (nt:=⟨pf.ntmps,[]⟩) hm cG ic n1).1 r1 pre X _ _ (.normal,s1) _ hpre he1 start hdom λY a1 hxY hsY hnY hdY=>?_;show Code.wp P _ _ _ _;refine wp_seq (wp_region ?_);show wpOps P #[o1,o2] _ [0,1] _ _;have ac9:As s1.slots (caps.map .t)=caps.map (dV s1.slots):=by unfold As;rw[px];rfl
 obtain⟨fv,aj0,hfv⟩:=Ax (P:=P) hsY ho1 hcap (by rw[ac9];exact hcell);rw[ac9]at hfv;refine ef (o:=o1) rfl hg1 (kg aj0 ?_);rw[ZM];have ase:=hfv;obtain⟨vs,rfl,hvs⟩:=hfv;let dfd:Deferred:={target:=.fn (.func g) vs,args:=#[]};have To:a1.tmps.size=pf.ntmps:=hsY.size;have hle2:=hle.2;have qI:(a1.put (some dd) (.func (.func g) #[] vs)).eval (.tmp dd)=.func (.func g) #[] vs:=by simp[Act.eval,Act.put];intro h;omega
 have aj1:(execOp (a1.put (some dd) (.func (.func g) #[] vs)).eval o2).run P Y.w=.ok (.defer dfd) Y.w:=by simp[execOp,ho2,resolve,hc1,ou,qI,Deferred.ofValue,dfd]
 refine ef (o:=o2) rfl hg2 ?_;unfold Oper.wp;rw[aj1];rw[Oper.upon_defer,H9];show Code.wp P _ _ _ _;let a2:Act:={(a1.put (some dd) (.func (.func g) #[] vs))with defers:=[dfd]};have ha2:({(a1.put (some dd) (.func (.func g) #[] vs))with defers:=dfd::(a1.put (some dd) (.func (.func g) #[] vs)).defers}:Act).put none undef=a2:=by have:a1.defers=[]:=hsY.defers;simp only[Act.put,this,a2]
 rw[ha2];let s1':St:={s1 with slots:=n9 s1.slots (some dd) (.fG g (caps.map (dV s1.slots))),nv:=s1.nv+1};have asf:fI Y ⟨pf.ntmps,[dfd]⟩ s1' a2:=by
  refine⟨λt=>?_,?_,rfl,hsY.mem⟩
  .show VR Y (dV (n9 s1.slots (some dd) _) t) ((a1.tmps.setIfInBounds dd _).getD t undef);have hz:=hsY.size;simp only at hz;by_cases htd:t=dd
   .subst htd;have e1:dV (n9 s1.slots (some t) (.fG g (caps.map (dV s1.slots)))) t=.fG g (caps.map (dV s1.slots)):=by simp[dV,n9,Tr.cK]
    rw[e1,kh,Array.getElem?_setIfInBounds_self_of_lt (by omega)];exact ase
   .have e1:dV (n9 s1.slots (some dd) (.fG g (caps.map (dV s1.slots)))) t=dV s1.slots t:=by unfold dV n9;simp only;rw[Tr.cK,be (λq=>htd q.symm)]
    rw[e1,kh,Array.getElem?_setIfInBounds_ne (λq=>htd q.symm),<-kh];exact hsY.slots t
  .show(a1.tmps.setIfInBounds dd _).size=_;rw[Array.size_setIfInBounds];exact hsY.size
 have ada:∀v,s1.nv+1<=v->Y.ρ v=none:=λv hv=>by cases hz:Y.ρ v with|none=>rfl|some L=>
   rcases hdY v L hz with h|h;.rw[hdom v (by simp at hnY;omega)]at h;cases h
   .simp at h;omega
 refine(B6 (nt:=⟨pf.ntmps,[dfd]⟩) hm cG ic n2).1 rest body Y s1' a2 (ax2,s2) _ CT he2 asf ada λZ a3 Il ZP hnZ hdZ=>?_;have fin:Leaves P pf a3.tmps (λe w'=>∃Y v,e=.returned v/\Y.w=w'/\Ext X Y/\VR Y r v/\aF Y mem' kC/\nv<=BU/\∀u L,Y.ρ u=some L->X.ρ u=some L\/(nv<=u/\u<BU)) a3.defers .returning Z.w:=by
  obtain⟨ws,yj,he⟩:=aJ hres;simp only[eJ]at he;obtain⟨rfl,rfl,rfl,rfl⟩:=he;have azU:s1.nv+1<=s2.nv:=hnZ;have aj2:∀v,s2.nv+1<=v->Z.ρ v=none:=λv hv=>by cases hz:Z.ρ v with|none=>rfl|some L=>
    rcases hdZ v L hz with h|h;.rw[ada v (by omega)]at h;cases h
    .simp at h;omega
  have hm0:aF Z (s2.mem++[.lf]) s2.aI:=ZP.mem.congr (λlv sl=>mG _ _ _) λ_=>rfl;have ash:aC (V1 Z) (caps.map (dV s1.slots)) vs.toList:=hvs.mono λ_ _ h=>((h.ext Il).V1);obtain⟨pg,cg,g1,g2,g3,g4⟩:=Dn ae8 hm ic n' (λfn hfn=>by rw[hFg]at hfn;injection hfn with hfn;rw[<-hfn];exact hgf) hg Z vs hm0 aj2 ash;rw[ZP.defers];have hinv:(invoke (.fn (.func g) vs) #[]).run P Z.w=.ok (.enter g vs) Z.w:=by have:=o9 (P:=P) (args:=vs) (w:=Z.w) g1 (by rw[g2];rfl) g3;simpa[invoke]using this
  refine leaves_cons (λh=>by cases h) hinv ((callsD_of_wp g1 g2 g4).mono ?_);rintro e u' w'⟨rfl,V,v,rfl,rfl,hxV,hvV,hmV,hnV,hdV⟩;have hxX:Ext X V:=(hxY.trans Il).trans hxV;have CF:aF V (cm.take s2.mem.length) ts:=hmV.less (λlv sl e he=>by
   rw[nM]at he;split at he;.exact he
   .cases he) λ_ h=>h;have hs3:fI V ⟨pf.ntmps,[dfd]⟩ {slots:=s2.slots,mem:=cm.take s2.mem.length,aI:=ts,nv:=nv3} a3:=⟨λt=>(ZP.slots t).ext hxV,ZP.size,ZP.defers,CF⟩;obtain⟨us,q1,q2⟩:=zw hs3 Tl yj;refine⟨_,?_,V,_,rfl,rfl,hxX,Ut q2,CF,by simp at hnY;omega,λu L hu=>?_⟩
  .have e:results pf a3.tmps=(do let vs<-pf.results.mapM (GG a3)pure (if h:vs.size=1then vs[0]else .tuple vs)):=by unfold results;congr 1
   rw[e,<-Array.toArray_toList (xs:=pf.results),List.mapM_toArray];simp[q1]
  .rcases hdV u L hu with h|h
   .rcases hdZ u L h with h|h
    .rcases hdY u L h with h|h;.exact .inl h
     .right;simp at h;omega
    .right;have:s1.nv+1<=u/\u<s2.nv:=h;simp at hnY;omega
   .right;simp at hnY;omega
 rcases ae6 with rfl|rfl;.exact fin
 .exact fin
end
end Go.bK
namespace Go.bK
open Go
def mJ(a b:Call):Prop:=∀f x m t n r,a f x m t n=some r->b f x m t n=some r
variable{call call':Call}{sh:Nat->Bool}
def uh(hc:mJ call call'){b:Bool}{row:Nat}{s:St}{lv sl aP f:Nat}{args:List AV}{r:hU}(h:gV call b row s lv sl aP f args=some r):gV call' b row s lv sl aP f args=some r:=by
 unfold gV at h⊢;cases b with|false=>
  simp at h⊢;split at h;.cases h
  .split at h;.cases h
   .rename_i r' cm ts n he;rw[hc _ _ _ _ _ _ he]<;>omega|true=>
  simp at h⊢;split at h;.cases h
  .split at h;.cases h
   .rename_i r' cm ts n he;rw[hc _ _ _ _ _ _ he]<;>omega
def A4(hc:mJ call call'){s:St}{f:Nat}{args:List AV}{r:hU}(h:lJ call s f args=some r):lJ call' s f args=some r:=by
 unfold lJ at h⊢;split at h;.cases h
 .split at h;.cases h
  .rename_i r' cm ts n he;rw[hc _ _ _ _ _ _ he]<;>omega
def KK(hc:mJ call call'){s:St}{f:Nat}{args:List AV}{r:hU}(h:rO call s f args=some r):rO call' s f args=some r:=by
 unfold rO at h⊢;split at h;.cases h
 .split at h;.cases h
  .rename_i r' cm ts n he;rw[hc _ _ _ _ _ _ he]<;>omega
def KL(hc:mJ call call'){s:St}{aP f:Nat}{args:List AV}{r:hU}(h:oT call s aP f args=some r):oT call' s aP f args=some r:=by
 unfold oT at h⊢;split at h;.cases h
 .split at h;.cases h
  .rename_i r' cm ts n he;rw[hc _ _ _ _ _ _ he]<;>omega
def KM(hc:mJ call call'){s:St}{aP f:Nat}{args:List AV}{r:hU}(h:oU call s aP f args=some r):oU call' s aP f args=some r:=by
 unfold oU at h⊢;split at h;.cases h
 .split at h;.cases h
  .rename_i r' cm ts n he;rw[hc _ _ _ _ _ _ he];exact h
def A5(hc:mJ call call'){row:Nat}{kp kr:List (Nat×Nat)}{s:St}{lv sl aP f:Nat}{args:List AV}{r:hU}(h:qw call row kp kr s lv sl aP f args=some r):qw call' row kp kr s lv sl aP f args=some r:=by
 unfold qw at h⊢;split at h;.cases h
 .split at h;.cases h
  .rename_i r' cm ts n he;rw[hc _ _ _ _ _ _ he];exact h
def Uz(hc:mJ call call'){s:St}{row dst aP:Nat}{o:cF}{r:hU}(h:o.run call sh s row dst aP=some r):o.run call' sh s row dst aP=some r:=by cases o with
 |call f args=>
  simp[cF.run]at h⊢;split at h;.exact A5 hc h
  split at h;.exact A4 hc h
  .split at h;.exact KK hc h
   .split at h;.exact KL hc h
    split at h;.exact KM hc h
    .exact uh hc h|xk f args=>
  simp[cF.run]at h⊢;split at h;.exact A5 hc h
  split at h;.exact uh hc h
  .exact A4 hc h|Ar x args=>
  simp[cF.run]at h⊢;split at h;.exact uh hc h
  .cases h|_=>exact h
def GL(hc:mJ call call'){s:St}{aP:Nat}{o:bI}{r:hU}(h:o.step call sh s aP=some r):o.step call' sh s aP=some r:=by
 unfold bI.step at h⊢;split at h;.cases h
 .exact Uz hc h
 .exact h
def A6(hc:mJ call call'){mC:Nat}:∀{l:List bI}{i:Nat}{s r:St},jA call sh mC i l s=some r->jA call' sh mC i l s=some r
 |[],_,_,_,h=>h|o::l,i,s,r,h=>by
  unfold jA at h⊢;split at h;.cases h
  .rename_i e he;rw[GL hc he];exact A6 hc h
def A7(hc:mJ call call'){mC:Nat}:∀{l:List bI}{i:Nat}{p:List (Nat×hU)}{s r:St},ke call sh mC i l p s=some r->ke call' sh mC i l p s=some r
 |[],_,_,_,_,h=>h|o::l,i,p,s,r,h=>by
  unfold ke at h⊢;split at h;.cases h
  .rename_i e he;rw[GL hc he];simp;split at h;.exact A7 hc h
   omega
def Dv(hc:mJ call call'){l:List bI}{d:Bool}{s r:St}(h:gi call sh l d s=some r):gi call' sh l d s=some r:=by cases d with|false=>exact A6 hc h|true=>exact A7 hc h
def yl(hc:mJ call call'):∀(n m:Nat)(c:AC)(s:St)(r:AX×St),n<=m->exec call sh n c s=some r->exec call' sh m c s=some r|0,_,_,_,_,_,h=>by cases h|n+1,0,_,_,_,hn,_=>by omega|n+1,m+1,c,s,r,hn,h=>by have ih:=yl hc n m;unfold exec at h⊢;cases c with
 |skip=>exact h|region ops d=>simp at h⊢;cases hr:gi call sh ops d s with|none=>grind|some s'=>rw[hr]at h;rw[Dv hc hr];exact h
 |seq a b=>grind|cond c a b=>grind|block id c=>grind|loop c=>grind|exit id=>exact h|ret=>exact h
end Go.bK
namespace Go.bK
open Go Go.RowKit
structure Tb where
 fs:Nat->Option qu
 O:Go.bK.Call
instance:CoeFun Tb λ_=>Nat->Option qu:=⟨Tb.fs⟩
instance:Coe Tb (Nat->Option qu):=⟨Tb.fs⟩
def NQ:Go.bK.Call:=λ_ _ _ _ _=>none
def fX(T:Tb):Nat->Go.bK.Call|0,_,_,_,_,_=>none|n+1,f,args,mem,aI,nv=>match T.fs f with|none=>T.O f args mem aI nv|some fn=>match Nat.beq args.length fn.np with|false=>none|true=>match exec (fX T n) (λg=>((T.fs g).map (·.sh)).getD false) n fn.body {slots:=eA 0 args .lf,mem,aI,nv}with|some (.normal,s)|some (.ret,s)=>(kf s fn.res).map λvs=>(jt vs,s.mem,s.aI,s.nv)|_=>none
def Ru{P:Program}:cB P NQ:=λ_ _ _ _ _ _ _ _ _ h=>by cases h
def Rw(P:Program)(dw:Nat->Option TypeId)(md:Nat->Mode)(Fs:Nat->Option qu):Prop:=(∀f fn,Fs f=some fn->Fe P dw md f=some fn)/\∀f d,(Fs f).isSome=true->KF P dw md f=some d->(Fs d.g).isSome=true
def lU{P:Program}{T:Tb}(hO:cB P T.O){dw:Nat->Option TypeId}{md:Nat->Mode}(hm:P.follows .mixedOrders=true)(ic:∀f T,dw f=some T->kB P f T)(Fo:Rw P dw md T.fs):∀n,cB P (fX T n)|0=>λ_ _ _ _ _ _ _ _ _ h=>by cases h|n+1=>by intro f args mem aI nv r mem' kC BU h;cases hf:T.fs f with|none=>simp[fX,hf]at h;exact hO f args mem aI nv r mem' kC BU h|some fn=>
 refine Uy (lU hO hm ic Fo n) hm ic (λg gf _ hFg args mem aI nv x hx=>?_) Fo.1 Fo.2 n f args mem aI nv r mem' kC BU ?_;.match n,hx with|0,hx=>cases hx|m+1,hx=>refine⟨fX T m,m,lU hO hm ic Fo m,?_⟩;simp only[fX,hFg]at hx;simp only[yf,hFg];exact hx
 simp[fX,hf]at h;simp[yf,hf];exact h
def IL{T:Tb}:∀(n m:Nat),n<=m->mJ (fX T n) (fX T m)
 |0,_,_=>λ_ _ _ _ _ _ h=>by cases h|n+1,0,hn=>by omega|n+1,m+1,hn=>λf x mm t nv r h=>by
  have ih:=IL (T:=T) n m (by omega);unfold fX at h⊢;split at h;.exact h
  .rename_i fn hf;split at h;.cases h
   .cases he:exec (fX T n) (λg=>((T.fs g).map (·.sh)).getD false) n fn.body {slots:=eA 0 x .lf,mem:=mm,aI:=t,nv}with|none=>grind|some y=>rw[yl ih n m fn.body _ y (by omega) he]<;>grind
end Go.bK
namespace Go.Sym
open Go Go.bK
section
variable{ρ:bH}{B:Nat}{m2:List (Tr E2)}{m:List (Tr bq)}
def aD{α β:Type}{o:Option β}{k:β->Option α}{r:α}(h:cH o k=some r):∃x,o=some x/\k x=some r:=by cases o with|none=>cases h|some x=>exact⟨x,rfl,h⟩
def cJ{α:Type}{b:Bool}{k:Option α}{r:α}(h:aL b k=some r):b=true/\k=some r:=by grind[aL]
def bind_some{α β:Type}{o:Option β}{k:β->Option α}{r:α}(h:Option.bind o k=some r):∃x,o=some x/\k x=some r:=by cases o with|none=>cases h|some x=>grind
def cP{α:Type}{v:Option V2}{k:Cell->Option α}{r:α}(h:jE v k=some r):∃x,v=some (.c x)/\k x=some r:=by unfold jE at h<;>grind
def vp{α:Type}{v:Option V2}{k:Int->Option α}{r:α}(h:Rq v k=some r):∃kd n,v=some (.c (.int kd n))/\k n=some r:=by unfold Rq at h<;>grind
def mK{α:Type}{v:Option V2}{k:Nat->Option α}{r:α}(h:IB v k=some r):∃kd n,v=some (.c (.int kd n))/\0<=n/\k n.toNat=some r:=by obtain⟨kd,n,h1,h2⟩:=vp h;grind[aL,IB]
def r7{α:Type}{v:Option V2}{k:Bool->Option α}{r:α}(h:yc v k=some r):∃b,v=some (.c (.bool b))/\k b=some r:=by unfold yc at h<;>grind
def PW(v:Value):RC ρ B m2 (aeS v) (.d (.sc v)):=by cases v<;>first|rfl|exact rfl
def PX{x:AV}{c:Cell}(h:aaz x=some c):RC ρ B m2 c x:=by
 unfold aaz at h;split at h;.cases h;exact PW _
 .cases h;rfl
 grind
def ym:∀{l:List AV}{cs:List Cell},Da l=some cs->aC (RC ρ B m2) cs l
 |[],cs,h=>by cases h;trivial|x::r,cs,h=>by
  simp[Da]at h;split at h;.rename_i y ys h1 h2;cases h;exact⟨PX h1,ym h2⟩
  grind
def aaL{x:AV}{v:V2}(h:aeT x=some v):RV ρ B m2 v x:=by
 unfold aeT at h;split at h;.obtain⟨cs,h1,rfl⟩:=aJ h;exact⟨_,rfl,ym h1⟩
 .cases h;exact⟨[],rfl,trivial⟩
 .cases h;exact⟨[],rfl,trivial⟩
 .obtain⟨c,h1,rfl⟩:=aJ h;exact PX h1
def aaM{x:D}{c:Cell}(h:aaA x=some c):RC ρ B m2 c (.d x):=by
 unfold aaA at h;split at h;.cases h;exact PW _
 .cases h;exact .inl rfl
 grind
def KN:∀{l:List D}{cs:List Cell},ud l=some cs->aC (RC ρ B m2) cs (l.map .d)
 |[],cs,h=>by cases h;trivial|x::r,cs,h=>by
  simp[ud]at h;split at h;.rename_i y ys h1 h2;cases h;exact⟨aaM h1,KN h2⟩
  grind
def q9:∀{l:List D}{cs:List Cell},ud l=some cs->cI cs=some l
 |[],cs,h=>by cases h;rfl|x::r,cs,h=>by
  simp[ud]at h;split at h
  .rename_i y ys h1 h2;cases h;have:pq y=some x:=by
    unfold aaA at h1;split at h1;.rename_i v;cases h1;cases v<;>rfl
    .cases h1;rfl
    grind
   simp[cI,this,q9 h2]
  grind
def bx{s2:S2}{sl:Tr AV}(hs:wG ρ B m2 s2.slots sl){x:cu}{v:V2}(h:jR s2 x=some v):RV ρ B m2 v (x.ev sl):=by cases x with|t n=>exact hs n v h|c a=>exact aaL h
def qb{s2:S2}{sl:Tr AV}(hs:wG ρ B m2 s2.slots sl):∀{l:List cu}{vs:List V2},IA s2 l=some vs->aC (RV ρ B m2) vs (As sl l)
 |[],vs,h=>by cases h;trivial|x::r,vs,h=>by
  simp[IA]at h;split at h;.rename_i y ys h1 h2;cases h;exact⟨bx hs h1,qb hs h2⟩
  grind
def RC.cell{c:Cell}{a:AV}(h:RC ρ B m2 c a):cellsOf a=some [a]/\jS a=true/\fU a=true:=by cases c with
 |nil f=>cases f with|true=>cases h;exact⟨rfl,rfl,rfl⟩|false=>rcases h with rfl|⟨o,_,rfl⟩<;>exact⟨rfl,rfl,rfl⟩
 |sl t l o=>cases o with|app v=>rcases h with⟨_,⟨_,rfl⟩|⟨u,_,rfl⟩⟩<;>exact⟨rfl,rfl,rfl⟩|d=>rcases h with rfl|⟨o,_,rfl⟩<;>exact⟨rfl,rfl,rfl⟩|full=>cases h;exact⟨rfl,rfl,rfl⟩|bG=>rcases h with rfl|⟨o,rfl⟩<;>exact⟨rfl,rfl,rfl⟩
 |ref lv sl ak t=>obtain⟨_,u,n,_,rfl,_⟩:=h;exact⟨rfl,rfl,rfl⟩|kj lv sl ak t off len=>obtain⟨_,u,_,rfl,_⟩:=h;exact⟨rfl,rfl,rfl⟩|ptr lv sl ak i off=>obtain⟨_,u,_,rfl⟩:=h;exact⟨rfl,rfl,rfl⟩|dx lv sl ak off n sz=>obtain⟨_,u,_,rfl⟩:=h;exact⟨rfl,rfl,rfl⟩|mp lv sl ak=>obtain⟨_,u,_,rfl⟩:=h;exact⟨rfl,rfl,rfl⟩|_=>cases h;exact⟨rfl,rfl,rfl⟩
def yo{v:V2}{a:AV}{cs:List Cell}(h:V2.cells? v=some cs)(hv:RV ρ B m2 v a):∃aK,cellsOf a=some aK/\aC (RC ρ B m2) cs aK:=by cases v with|c x=>cases h;exact⟨[a],(RC.cell hv).1,hv,trivial⟩|agg l=>cases h;obtain⟨aK,rfl,h2⟩:=hv;exact⟨aK,rfl,h2⟩|_=>cases h
def Dw{agg:Bool}{cs:List Cell}{aK:List AV}{v:V2}(h:Dc agg cs=some v)(hc:aC (RC ρ B m2) cs aK):∃a,iI agg aK=some a/\RV ρ B m2 v a:=by cases agg with|true=>cases h;exact⟨_,rfl,aK,rfl,hc⟩|false=>
 simp[Dc]at h;split at h;.cases h;match aK,hc with|[a],hc=>exact⟨a,rfl,hc.1⟩
 grind
def lC(m:List (Tr E2))(lv sl cy cU:Nat)(e:Option E2):jY (Db m lv sl e) cy cU=if lv=cy/\sl=cU/\lv<m.length then e else jY m cy cU:=by
 unfold jY Db;rw[List.getElem?_modify];by_cases h:lv=cy;.subst h;cases hm:m[lv]?with|none=>grind|some t=>
  have:lv<m.length:=by grind
  simp[Tr.cK,this]
 grind
def uj(m:List (Tr E2))(lv sl:Nat)(e:Option E2):(Db m lv sl e).length=m.length:=by simp[Db]
def nu(m:List (Tr bq))(lv sl:Nat)(e:Option bq):(bJ m lv sl e).length=m.length:=by simp[bJ]
def A8:∀(l:List (Nat×Nat×Option E2))(m:List (Tr E2)),(gK m l).length=m.length|[],_=>rfl|(lv,sl,e)::r,m=>by rw[gK,A8 r,uj]
def dX:∀(l:List (Nat×Nat×Option bq))(m:List (Tr bq)),(aT m l).length=m.length|[],_=>rfl|(lv,sl,e)::r,m=>by rw[aT,dX r,nu]
def OE(ρ:bH)(B:Nat)(m:List (Tr E2))(x:Option E2)(y:Option bq):Prop:=∀e2,x=some e2->∃e,y=some e/\RE ρ B m e2 e
def Rx(ρ:bH)(B:Nat)(m:List (Tr E2))(x:Nat×Nat×Option E2)(y:Nat×Nat×Option bq):Prop:=x.1=y.1/\x.2.1=y.2.1/\OE ρ B m x.2.2 y.2.2
def PY{B':Nat}{mf:List (Tr E2)}:∀{IM:List (Nat×Nat×Option E2)}{us:List (Nat×Nat×Option bq)}{m2:List (Tr E2)}{m:List (Tr bq)},aC (Rx ρ B' mf) IM us->m2.length=m.length->(∀lv sl,OE ρ B' mf (jY m2 lv sl) (aH m lv sl))->∀lv sl,OE ρ B' mf (jY (gK m2 IM) lv sl) (aH (aT m us) lv sl)|[],[],_,_,_,_,h=>h|(lv2,sl2,e2)::r2,(lv,sl,e)::r,m2,m,hu,hl,h=>by obtain⟨⟨h1,h2,h3⟩,hr⟩:=hu;subst h1 h2;refine PY (m2:=Db m2 lv2 sl2 e2) (m:=bJ m lv2 sl2 e) hr (by rw[uj,nu,hl]) λcy cU=>?_;rw[lC,cO,hl]<;>grind|[],_::_,_,_,hu,_,_=>hu.elim|_::_,[],_,_,hu,_,_=>hu.elim
def MR.dn{B':Nat}{IM:List (Nat×Nat×Option E2)}{us:List (Nat×Nat×Option bq)}(h:MR ρ B m2 m)(hB:B<=B')(hst:fW B m2 (gK m2 IM))(hu:aC (Rx ρ B' (gK m2 IM)) IM us):MR ρ B' (gK m2 IM) (aT m us):=by refine⟨by rw[A8,dX,h.len],λlv sl e2 he=>PY hu h.len (λlv sl e2 he=>?_) lv sl e2 he⟩;obtain⟨e,h1,h2⟩:=h.fE lv sl e2 he;exact⟨e,h1,RE.mono hB (λ_ _=>rfl) (λ_ _=>RC.move hst hB λ_ _=>rfl) h2⟩
def cW{lv sl ak:Nat}{r:SL}(h:rowOf m2 lv sl ak=some r):jY m2 lv sl=some (.row ak r.t r.l):=by
 unfold rowOf at h;split at h
 .split at h;.cases h<;>simp_all
  grind
 grind
def ij{lv sl ak:Nat}{r:SL}:rowOf m2 lv sl ak=some r↔jY m2 lv sl=some (.row ak r.t r.l):=by refine⟨cW,λh=>?_⟩<;>simp_all[jY,rowOf]
def uk(n:Nat):Nat.beq n n=true:=by simp
def jF(hm:MR ρ B m2 m){lv sl ak u:Nat}{r:SL}(h:rowOf m2 lv sl ak=some r)(hu:ρ ak=some u):aH m lv sl=some (.row u (bD r.t r.l))/\bK.rowAt m lv sl u=some (bD r.t r.l):=by obtain⟨e,h1,_,u',h2,rfl⟩:=hm.fE _ _ _ (cW h);unfold bK.rowAt<;>simp_all
def KO(hm:MR ρ B m2 m){lv sl ak u:Nat}{r:SL}(h:rowOf m2 lv sl ak=some r)(hu:ρ ak=some u):bK.qJ m lv sl u=some (bD r.t r.l):=by have h1:=(jF hm h hu).1<;>simp_all[rowOf,bH,bD,qJ]
def bB(t:Ty)(l:List t.den):(bD t l).length=l.length:=by simp[bD]
def ir(t:Ty)(l:List t.den):(bD t l).all (λe=>e.length==t.size)=true:=by simp[bD,eQ,fy]
def Dx(t:Ty)(l:List t.den)(i:Nat):(bD t l)[i]?=(l[i]?).map (fu t):=by simp[bD]
def nS(t:Ty)(l l':List t.den):bD t (l++l')=bD t l++bD t l':=by simp[bD]
def nA(hm:MR ρ B m2 m){lv sl ak:Nat}{t:Ty}{r:SL}{a:AV}(h:RC ρ B m2 (.ref lv sl ak t) a)(hr:rowOf m2 lv sl ak=some r):dL m a=some (bD r.t r.l):=by obtain⟨_,u,n,hu,rfl,hn⟩:=h;have:=KO hm hr hu;simp[dL,this,ae];rw[hn r hr];simp[bB,fx]
def kE(hm:MR ρ B m2 m){lv sl ak off len:Nat}{t:Ty}{r:SL}{a:AV}(h:RC ρ B m2 (.kj lv sl ak t off len) a)(hr:rowOf m2 lv sl ak=some r)(hl:off+len<=r.l.length):dL m a=some (bD r.t ((r.l.drop off).take len)):=by obtain⟨_,u,hu,rfl,_⟩:=h;have:=KO hm hr hu<;>simp_all[rowOf,bH,Ty.den,bD,Ty.size,dL]
def jo{t:Ty}{l:List t.den}{o:Ow}{a:AV}(h:RC ρ B m2 (.sl t l o) a):dL m a=some (bD t l)/\(a=.d (.sl (bD t l))\/∃o',a=.own (bD t l) o')/\(o≠.bG->a=.d (.sl (bD t l))\/∃o',o'≠.bG/\a=.own (bD t l) o'):=by cases o with|app v=>rcases h with⟨_,⟨_,rfl⟩|⟨u,_,rfl⟩⟩<;>exact⟨rfl,.inr ⟨_,rfl⟩,λ_=>.inr ⟨_,by simp,rfl⟩⟩|d=>rcases h with rfl|⟨o,ho,rfl⟩<;>simp_all[RC,Ty.den,bH,bD,dL]|full=>simp_all[RC,Ty.den,bH,bD,dL]|bG=>rcases h with rfl|⟨o,rfl⟩<;>simp_all[RC,Ty.den,bH,bD,dL]
def iL{f:Bool}{a:AV}(h:RC ρ B m2 (.nil f) a):dL m a=some []/\(a=.d (.sl [])\/∃o',o'≠.bG/\a=.own [] o'):=by cases f with|true=>simp_all[RC,bH,dL]|false=>rcases h with rfl|⟨o,ho,rfl⟩<;>simp_all[RC,bH,dL]
def PZ{els:List (List D)}{o:ZK}(h:o≠.bG):BO m (.own els o)=some (.sl els,[]):=by cases o with|bG=>grind|_=>rfl
def aaN(hm:MR ρ B m2 m){c c':Cell}{a:AV}{ks:List (Nat×Nat)}(h:NI m2 c=some (c',ks))(hc:RC ρ B m2 c a):∃d,BO m a=some (d,ks)/\pq c'=some d:=by
 unfold NI at h;split at h;.cases h<;>simp_all[RC,bH,pq,BO]
 .cases h<;>simp_all[RC,bH,pq,BO]
 .cases h<;>simp_all[RC,bH,pq,BO]
 .cases h<;>simp_all[RC,bH,pq,BO]
 .cases h;rcases(iL (m:=m) hc).2with rfl|⟨o,ho,rfl⟩;.exact⟨_,rfl,rfl⟩
  .exact⟨_,PZ ho,rfl⟩
 .cases h
 .rename_i t l o hne;cases h;rcases(jo (m:=m) hc).2.2 (λe=>hne e)with rfl|⟨o',ho,rfl⟩;.exact⟨_,rfl,rfl⟩
  .exact⟨_,PZ ho,rfl⟩
 .split at h;.rename_i r hr;cases h;have he:=nA hm hc hr;obtain⟨_,u,n,hu,rfl,hn⟩:=hc;refine⟨.sl (bD r.t r.l),?_,rfl⟩;simp[BO,he,cf]
  grind
 .rename_i lv sl ak t off len;split at h;.rename_i r hr;cases h;have he:=kE hm hc hr (hc.2.choose_spec.2.2 r hr);obtain⟨_,u,hu,rfl,hn⟩:=hc;refine⟨.sl (bD r.t ((r.l.drop off).take len)),?_,rfl⟩;simp[BO,he,cf]
  grind
 grind
def NR(hm:MR ρ B m2 m):∀{cs cs':List Cell}{aK:List AV}{ks:List (Nat×Nat)},nD m2 cs=some (cs',ks)->aC (RC ρ B m2) cs aK->∃ds,Fh m aK=some (ds,ks)/\cI cs'=some ds
 |[],cs',aK,ks,h,ha=>by match aK,ha with|[],_=>cases h;exact⟨[],rfl,rfl⟩
 |c::r,cs',aK,ks,h,ha=>by match aK,ha with
  |a::aK,⟨ha,hr⟩=>
   simp[nD]at h;split at h;.rename_i y k ys k' h1 h2;cases h;obtain⟨d,g1,g2⟩:=aaN hm h1 ha;obtain⟨ds,g3,g4⟩:=NR hm h2 hr;exact⟨d::ds,by simp only[Fh,g1,g3],by simp only[cI,g2,g4]⟩
   grind
def lV{α:Type}(hm:MR ρ B m2 m){x:Cell}{a:AV}{e:Option Ty}{K:SL->Option α}{r:α}(h:p8 m2 x e K=some r)(hx:RC ρ B m2 x a):∃n,gW m a=some (bD n.t n.l)/\K n=some r:=by
 have key:∀{a:AV}{els:List (List D)},dL m a=some els->(∀b,a≠.d (.sc (.string b)))->gW m a=some els:=by simp_all[RC,p8,bH,gW,dL]
 unfold p8 at h;split at h;.rename_i t l o;refine⟨⟨t,l⟩,key (jo hx).1 λb hb=>?_,h⟩;have:=(jo (m:=m) hx).1;rw[hb]at this;cases this
 .obtain⟨t,rfl,h⟩:=aD h;refine⟨⟨t,[]⟩,key (iL hx).1 λb hb=>?_,h⟩;have:=(iL (m:=m) hx).1;rw[hb]at this;cases this
 .obtain⟨r',hr,h⟩:=aD h;refine⟨r',key (nA hm hx hr) λb hb=>?_,h⟩;simp_all[rowOf,cH,RC,gW,dL,bH]
 .rename_i lv sl ak t off len;obtain⟨r',hr,h⟩:=aD h;obtain⟨hl,h⟩:=cJ h;have hl:=du hl;refine⟨⟨r'.t,(r'.l.drop off).take len⟩,key (kE hm hx hr hl) λb hb=>?_,h⟩;have:=kE hm hx hr hl;rw[hb]at this;cases this
 .rename_i s;cases hx;exact⟨⟨.int .u8,bN s⟩,by simp[gW,bD,bN,fu,px,Function.comp_def],h⟩
 grind
end
def KR(ρ:bH)(k2 k:Nat×Nat×Nat):Prop:=(k2=k/\k.1=0)\/∃v u,k2=ku v/\k=ku u/\ρ v=some u
def aX(ρ:bH)(l2 l:List (Nat×Nat×Nat)):Prop:=∀k∈l,∃k2∈l2,KR ρ k2 k
structure pE(ρ:bH)(B B':Nat)(s2:S2)(s:St)(E:Kt)(e:fD):Prop where
 val:RV ρ B' (gK s2.mem E.dn) E.val e.val
 mem:MR ρ B' (gK s2.mem E.dn) (aT s.mem e.dn)aI:TR ρ B' (eV s2.aI E.cR) (eV s.aI e.cR)aj3:fW B s2.mem (gK s2.mem E.dn)rd:aX ρ E.rd e.rd
 wr:aX ρ E.wr e.wr
def eE{α:Type}(ρ:bH)(B B':Nat)(s2:S2)(s:St)(op:cF)(row dst p:Nat)(K:iJ->Option α)(r:α):Prop:=∃E e,(∀call sh,op.run call sh s row dst p=some (.bT e))/\pE ρ B B' s2 s E e/\K (.bT E)=some r
section
variable{α:Type}{ρ:bH}{B B':Nat}{s2:S2}{s:St}{op:cF}{row dst p nx:Nat}{K:iJ->Option α}{r:α}
def MR.mono{m2:List (Tr E2)}{m:List (Tr bq)}(h:MR ρ B m2 m)(hB:B<=B'):MR ρ B' m2 m:=⟨h.len,λlv sl e2 he=>by obtain⟨e,h1,h2⟩:=h.fE lv sl e2 he;exact⟨e,h1,RE.mono hB (λ_ _=>rfl) (λ_ _=>RC.move (fW.refl _ _) hB λ_ _=>rfl) h2⟩⟩
def TR.up{t2 t:Tr Unit}(h:TR ρ B t2 t)(hB:B<=B'):TR ρ B' t2 t:=λv hv=>⟨by have:=(h v hv).1;omega,(h v hv).2⟩
def RV.up{m:List (Tr E2)}{v:V2}{a:AV}(h:RV ρ B m v a)(hB:B<=B'):RV ρ B' m v a:=h.move (fW.refl _ _) hB λ_ _=>rfl
def RC.up{m:List (Tr E2)}{v:Cell}{a:AV}(h:RC ρ B m v a)(hB:B<=B'):RC ρ B' m v a:=h.move (fW.refl _ _) hB λ_ _=>rfl
def aX.nil{l2:List (Nat×Nat×Nat)}:aX ρ l2 []:=λ_ h=>by cases h
def aX.append{a b c d:List (Nat×Nat×Nat)}(h:aX ρ a b)(k:aX ρ c d):aX ρ (a++c) (b++d):=by
 intro x hx;rcases bj.1 hx with hx|hx;.obtain⟨y,h1,h2⟩:=h x hx;exact⟨y,dk _ h1,h2⟩
 .obtain⟨y,h1,h2⟩:=k x hx;exact⟨y,dt _ h1,h2⟩
def aX.j7{a b:List (Nat×Nat×Nat)}(lv sl:Nat)(h:aX ρ a b):aX ρ (bU lv sl::a) (bU lv sl::b):=by
 intro x hx;rcases dj.1 hx with rfl|hx;.simp_all[aX,bH,KR,bU]
 .obtain⟨y,h1,h2⟩:=h x hx<;>grind
def aX.jy(ks:List (Nat×Nat)):aX ρ (jy ks) (jy ks):=by intro x hx;refine⟨x,hx,.inl ⟨rfl,?_⟩⟩;obtain⟨k,_,rfl⟩:=i6.1 hx;rfl
def vq{m:List (Tr E2)}{c:Cell}{a:AV}(h:RC ρ B m c a):aX ρ (ue c) (cV a):=by cases c with
 |nil f=>cases f with|true=>cases h;exact aX.nil|false=>rcases h with rfl|⟨o,_,rfl⟩<;>exact aX.nil
 |sl t l o=>rcases(jo (m:=[]) h).2.1with rfl|⟨o',rfl⟩<;>exact aX.nil|ref lv sl ak t=>obtain⟨_,u,n,_,rfl,_⟩:=h;exact aX.j7 _ _ aX.nil|kj lv sl ak t off len=>obtain⟨_,u,_,rfl,_⟩:=h;exact aX.j7 _ _ aX.nil|ptr lv sl ak i off=>obtain⟨_,u,_,rfl⟩:=h;exact aX.j7 _ _ aX.nil|dx lv sl ak off n sz=>obtain⟨_,u,_,rfl⟩:=h;exact aX.j7 _ _ aX.nil|mp lv sl ak=>obtain⟨_,u,_,rfl⟩:=h;exact aX.j7 _ _ aX.nil|_=>cases h;exact aX.nil
def yp{m:List (Tr E2)}:∀{cs:List Cell}{aK:List AV},aC (RC ρ B m) cs aK->aX ρ (cs.flatMap ue) (aK.flatMap cV)|[],[],_=>aX.nil|c::cs,a::aK,h=>by exact(vq h.1).append (yp h.2)|[],_::_,h=>h.elim|_::_,[],h=>h.elim
def KP{a:AV}(h:cellsOf a=some [a])(h0:jS a=true):fH a=cV a:=by cases a<;>first|rfl|cases h0
def P0{m:List (Tr E2)}{v:V2}{a:AV}(h:RV ρ B m v a):aX ρ (Iz v) (fH a):=by cases v with|c c=>rw[KP (RC.cell h).1 (RC.cell h).2.1];exact vq h|agg cs=>obtain⟨aK,rfl,h2⟩:=h;exact yp h2|fG f cs=>obtain⟨aK,rfl,h2⟩:=h;exact aX.nil|fk vs=>obtain⟨aK,rfl,h2⟩:=h;exact aX.nil
def pE.zy(hs:MR ρ B s2.mem s.mem)(ht:TR ρ B s2.aI s.aI)(hB:B<=B'){v:V2}{a:AV}{UA rd:List (Nat×Nat×Nat)}(hv:RV ρ B s2.mem v a)(hr:aX ρ UA rd):pE ρ B B' s2 s {val:=v,dn:=[],cR:=[],rd:=UA} {val:=a,dn:=[],cR:=[],rd:=rd}:=⟨hv.up hB,hs.mono hB,ht.up hB,fW.refl _ _,hr,aX.nil⟩
variable(hm:MR ρ B s2.mem s.mem)(ht:TR ρ B s2.aI s.aI)(cv:wG ρ B s2.mem s2.slots s.slots)(hB:B<=B')
include hm ht hB
theorem eE.pure{v:V2}{a:AV}(hrun:∀call sh,op.run call sh s row dst p=fD.pure a)(hv:RV ρ B s2.mem v a)(hK:K (lS v)=some r):eE ρ B B' s2 s op row dst p K r:=⟨_,_,hrun,.zy hm ht hB hv aX.nil,hK⟩
include cv
omit hm ht hB cv in theorem r8{m:List (Tr E2)}{b:Bool}{a:AV}(h:RV ρ B m (.c (.bool b)) a):jq a=some b:=by cases h;rfl
omit hm ht hB cv in theorem um{m:List (Tr E2)}{k:IntKind}{n:Int}{a:AV}(h:RV ρ B m (.c (.int k n)) a):a=.d (.sc (.int k n)):=h
omit hm ht hB cv in theorem jG{m:List (Tr E2)}{k:IntKind}{n:Int}{a:AV}(h:RV ρ B m (.c (.int k n)) a)(h0:0<=n):gT a=some n.toNat:=by cases h;simp[gT,tE,h0]
theorem Ry{c a b:cu}{E:ah}{wk:Wk}{ctx:Nat}(h:dm E wk ctx s2 row dst nx (.pick c a b) K=some r):eE ρ B B' s2 s (.pick c a b) row dst p K r:=by
 obtain⟨t,hc,h⟩:=r7 h;have hb:=r8 (bx cv hc);have hrun:∀call sh,cF.run call sh s row dst p (.pick c a b)=fD.pure (if t then a.ev s.slots else b.ev s.slots):=λ_ _=>by simp[cF.run,hb]
 split at h;.rename_i x y hx hy;refine .pure hm ht hB hrun (v:=.c (.bool (cond t x y))) ?_ h;cases t with|true=>exact bx cv hx|false=>exact bx cv hy
 .rename_i x y _ hx hy;cases t with|true=>exact .pure hm ht hB hrun (bx cv hx) h|false=>exact .pure hm ht hB hrun (bx cv hy) h
 .rename_i x hx _;obtain⟨rfl,h⟩:=cJ h;exact .pure hm ht hB hrun (bx cv hx) h
 .rename_i y _ hy;obtain⟨ht',h⟩:=cJ h;cases t with|true=>cases ht'|false=>exact .pure hm ht hB hrun (bx cv hy) h
 grind
omit hm ht hB cv in theorem zz{m:List (Tr E2)}{cs new:List Cell}{aK as':List AV}(h:aC (RC ρ B m) cs aK)(h':aC (RC ρ B m) new as')(off:Nat):aC (RC ρ B m) (bK.splice cs off new) (bK.splice aK off as'):=by unfold bK.splice;rw[h'.length];first|exact((h.take off).append h').append (h.drop _)|exact(h.take off).append (h'.append (h.drop _))
omit hm ht hB in theorem Dy:∀{ps:List (Nat×Nat×cu)}{cs cs':List Cell}{aK:List AV},Gu s2 cs ps=some cs'->aC (RC ρ B s2.mem) cs aK->∃as',qL s.slots aK ps=some as'/\aC (RC ρ B s2.mem) cs' as'
 |[],cs,cs',aK,h,ha=>by cases h;exact⟨aK,rfl,ha⟩|(off,sz,x)::ps,cs,cs',aK,h,ha=>by
  simp[Gu]at h;split at h
  .rename_i new hn;obtain⟨v,hv,hc⟩:=aV hn;split at h;.rename_i hb;rw[al]at hb;have h1:=am hb.1;have h2:=fr hb.2;obtain⟨M1,g1,g2⟩:=yo hc (bx cv hv);obtain⟨as',g3,g4⟩:=Dy h (zz ha g2 off);refine⟨as',?_,g4⟩;simp only[qL,g1];rw[ba ⟨by rw[<-g2.length];exact h1,by rw[<-ha.length];exact h2⟩]<;>omega
   grind
  grind
theorem NS{z:List AV}{ps:List (Nat×Nat×cu)}(h:(cH ((Da z).bind λcs=>Gu s2 cs ps) λcs=>K (lS (.agg cs)))=some r):eE ρ B B' s2 s (.build z ps) row dst p K r:=by obtain⟨cs,hc,h⟩:=aD h;obtain⟨cs0,h0,h1⟩:=aV hc;obtain⟨as',g1,g2⟩:=Dy cv h1 (ym h0);exact .pure hm ht hB (λ_ _=>by simp[cF.run,g1]) (v:=.agg cs) ⟨as',rfl,g2⟩ h
theorem Fq{x:cu}{E:ah}{wk:Wk}{ctx:Nat}(h:dm E wk ctx s2 row dst nx (.nilCheck x) K=some r):eE ρ B B' s2 s (.nilCheck x) row dst p K r:=by
 obtain⟨v,hv,h⟩:=aD h;have hr:=bx cv hv;split at h;.have hr':=hr;obtain⟨_,u,_,he⟩:=hr;exact .pure hm ht hB (λ_ _=>by simp only[cF.run,he]) hr' h
 .have hr':=hr;have he:x.ev s.slots=_:=hr;exact .pure hm ht hB (λ_ _=>by simp only[cF.run,he]) hr' h
 .have hr':=hr;obtain⟨aK,he,_⟩:=hr;exact .pure hm ht hB (λ_ _=>by simp[cF.run,he]) hr' h
 grind
omit hm ht hB cv in theorem aaO{k k':IntKind}{a b:Int}{UB:BinOp}{K:Cell->Option α}(h:aeU UB k a k' b K=some r):∃v c,HN UB k a k' b=some v/\K c=some r/\∀(m:List (Tr E2)),RC ρ B m c (.d (.sc v)):=by
 unfold aeU at h;split at h;.obtain⟨h1,h⟩:=cJ h;refine⟨_,_,?_,h,λ_=>rfl⟩<;>simp_all[aL,bH,RC,HN]
 .obtain⟨h1,h⟩:=cJ h;refine⟨_,_,?_,h,λ_=>rfl⟩<;>simp_all[aL,bH,RC,HN]
 .split at h;.cases h
  .subst_vars;split at h;case h_4|h_5=>
    obtain⟨h1,h⟩:=cJ h;refine⟨_,_,?_,h,λ_=>rfl⟩;have:¬b=0:=by simpa using h1
    simp[HN,this]
   all_goals first|(refine⟨_,_,?_,h,λ_=>rfl⟩;simp[HN,FI];done)|cases h
omit hm ht hB cv in theorem ai1(s:List UInt8):(⟨s.toArray⟩:ByteArray).toList=s:=by simp_all
end
section
variable{α:Type}{ρ:bH}{B B':Nat}{s2:S2}{s:St}{op:cF}{row dst p nx:Nat}{K:iJ->Option α}{r:α}{E:ah}{wk:Wk}{ctx:Nat}
def Rz(x y:List UInt8):(⟨x.toArray⟩:ByteArray)++⟨y.toArray⟩=⟨(x++y).toArray⟩:=by apply ByteArray.ext;simp
def IN(x:List UInt8):(⟨x.toArray⟩:ByteArray).size=x.length:=by simp[ByteArray.size]
def NU(x:List UInt8)(a b:Nat):(⟨x.toArray⟩:ByteArray).extract a b=⟨((x.drop a).take (b-a)).toArray⟩:=by apply ByteArray.ext;simp_all
def aaP{x y:List UInt8}{UB:BinOp}{K:Cell->Option α}(h:aeV UB x y K=some r):∃v c,M5 UB ⟨x.toArray⟩ ⟨y.toArray⟩=some v/\K c=some r/\∀(m:List (Tr E2)),RC ρ B m c (.d (.sc v)):=by
 unfold aeV at h;split at h
 .obtain⟨h1,h⟩:=cJ h;refine⟨_,_,?_,h,λ_=>rfl⟩;have:¬((x.length+y.length:Nat):Int)>IntKind.i64.max:=by simpa using h1
  simp only[M5,IN,Rz];rw[be this]
 all_goals first|(refine⟨_,_,?_,h,λ_=>rfl⟩;simp[M5,ByteArray.toList_eq];done)|cases h
def aaQ{x y:Cell}{a b:AV}{UB:BinOp}{m:List (Tr E2)}{K:Cell->Option α}(h:aeW UB x y K=some r)(hx:RC ρ B m x a)(hy:RC ρ B m y b):∃v c,Tx UB a b=some v/\K c=some r/\RC ρ B m c (.d (.sc v)):=by
 unfold aeW at h;split at h;.cases hx;cases hy;obtain⟨v,c,h1,h2,h3⟩:=aaO (ρ:=ρ) (B:=B) h;exact⟨v,c,h1,h2,h3 m⟩
 .cases hx;cases hy;obtain⟨v,c,h1,h2,h3⟩:=aaP (ρ:=ρ) (B:=B) h;exact⟨v,c,h1,h2,h3 m⟩
 grind
def UC{kd:Nat}{x y:Cell}{a b:AV}{m:List (Tr E2)}{t:Bool}(h:Ul kd x y=some t)(hx:RC ρ B m x a)(hy:RC ρ B m y b):JM kd a b=some t:=by
 unfold Ul at h;split at h;.split at h<;>simp_all[RC,bH,JM]
 .split at h;.split at h<;>simp_all[RC,bH,JM]
  grind
 .split at h;.cases h
  .cases h
  .rename_i x y n _ _;cases hx;cases hy;have:((⟨x.toArray⟩:ByteArray)==⟨y.toArray⟩)=(x==y):=by rw[m9];show(x.toArray==y.toArray)=true↔_;simp
   unfold JM<;>grind
 grind
def GM{xs ys:List Cell}{aK bs:List AV}{m:List (Tr E2)}(hx:aC (RC ρ B m) xs aK)(hy:aC (RC ρ B m) ys bs):∀{l:List (Nat×Nat)}{t:Bool},IC xs ys l=some t->nB aK bs l=some t
 |[],t,h=>h|o::l,t,h=>by
  simp[IC]at h;split at h;.rename_i x y b' h1 h2 h3;obtain⟨b,h4,rfl⟩:=aJ h;obtain⟨a,g1,g2⟩:=hx.get _ _ h1;obtain⟨a',g3,g4⟩:=hy.get _ _ h2;simp[nB,g1,g3,UC h4 g2 g4];cases b with|true=>simpa using GM hx hy h3|false=>rfl
  grind
def afb{x:Cell}{a:AV}{m:List (Tr E2)}{uop:UnOp}{K:Cell->Option α}(h:unK uop x K=some r)(hx:RC ρ B m x a):∃v c,unA uop a=some v/\K c=some r/\RC ρ B m c (.d (.sc v)):=by
 unfold unK at h;split at h
 .split at h;.cases hx;exact⟨_,_,rfl,h,rfl⟩
  grind
 .split at h;.cases hx;exact⟨_,_,rfl,h,rfl⟩
  .cases hx;exact⟨_,_,by simp[unA,FI],h,rfl⟩
  grind
 grind
section
variable(hm:MR ρ B s2.mem s.mem)(ht:TR ρ B s2.aI s.aI)(hB:B<=B')
include hm ht hB
theorem eE.int{k:IntKind}{n:Int}(hrun:∀call sh,op.run call sh s row dst p=fD.pure (.d (.sc (.int k n))))(hK:K (eO (.int k n))=some r):eE ρ B B' s2 s op row dst p K r:=.pure hm ht hB hrun (v:=.c (.int k n)) rfl hK
theorem eE.str{x:List UInt8}(hrun:∀call sh,op.run call sh s row dst p=fD.pure (.d (.sc (.string ⟨x.toArray⟩))))(hK:K (eO (.str x))=some r):eE ρ B B' s2 s op row dst p K r:=.pure hm ht hB hrun (v:=.c (.str x)) rfl hK
theorem eE.eZ{t:Ty}{x:t.den}{off:Nat}(hrun:∀call sh,op.run call sh s row dst p=fD.pure (.eZ (fu t x) off))(hK:K (eO (.eZ t x off))=some r):eE ρ B B' s2 s op row dst p K r:=.pure hm ht hB hrun (v:=.c (.eZ t x off)) rfl hK
theorem eE.ptr{lv sl ak u i off:Nat}(hv:ak<B)(hu:ρ ak=some u)(hrun:∀call sh,op.run call sh s row dst p=fD.pure (.ptr lv sl u i off))(hK:K (eO (.ptr lv sl ak i off))=some r):eE ρ B B' s2 s op row dst p K r:=.pure hm ht hB hrun (v:=.c (.ptr lv sl ak i off)) ⟨hv,u,hu,rfl⟩ hK
end
variable(hm:MR ρ B s2.mem s.mem)(ht:TR ρ B s2.aI s.aI)(cv:wG ρ B s2.mem s2.slots s.slots)(hB:B<=B')
include hm ht hB cv
theorem UD{UB:BinOp}{x y:cu}(h:dm E wk ctx s2 row dst nx (.bin UB x y) K=some r):eE ρ B B' s2 s (.bin UB x y) row dst p K r:=by obtain⟨a,ha,h⟩:=cP h;obtain⟨b,hb,h⟩:=cP h;obtain⟨v,c,h1,h2,h3⟩:=aaQ h (bx cv ha) (bx cv hb);exact .pure hm ht hB (λ_ _=>by simp only[cF.run,h1,ae,nC]) (v:=.c c) h3 h2
theorem UE{neg:Bool}{x y:cu}(h:dm E wk ctx s2 row dst nx (.ZZ neg x y) K=some r):eE ρ B B' s2 s (.ZZ neg x y) row dst p K r:=by obtain⟨a,ha,h⟩:=r7 h;obtain⟨b,hb,h⟩:=r7 h;have h1:=r8 (bx cv ha);have h2:=r8 (bx cv hb);refine .pure hm ht hB (a:=.d (.sc (.bool (if neg then !(a==b)else a==b)))) (λ_ _=>by simp only[cF.run,h1,h2,nC]) (v:=.c _) ?_ h;cases neg<;>rfl
theorem NV{neg:Bool}{x:cu}(h:dm E wk ctx s2 row dst nx (.Aq neg x) K=some r):eE ρ B B' s2 s (.Aq neg x) row dst p K r:=by
 simp[dm]at h;split at h;.rename_i b hx;have h1:x.ev s.slots=_:=bx cv hx;cases neg with|true=>refine .pure hm ht hB (a:=.d (.sc (.bool b))) (λ_ _=>by cases b<;>(simp only[cF.run,h1,nC]<;>try rfl)) (v:=.c _) ?_ h;rfl|false=>refine .pure hm ht hB (a:=.d (.sc (.bool !b))) (λ_ _=>by cases b<;>(simp only[cF.run,h1,nC]<;>try rfl)) (v:=.c _) ?_ h;rfl
 grind
theorem KQ{lo n sz:Nat}{x:cu}(h:dm E wk ctx s2 row dst nx (.tC lo n sz x) K=some r):eE ρ B B' s2 s (.tC lo n sz x) row dst p K r:=by
 simp[dm]at h;split at h
 .rename_i lv sl ak i off hx;split at h;.rename_i hc;obtain⟨hv,u,hu,h1⟩:=bx cv hx;exact .pure hm ht hB (a:=.dx lv sl u (off+lo*sz) (n-lo) sz) (λ_ _=>by simp only[cF.run,h1,hc]) (v:=.c (.dx lv sl ak (off+lo*sz) (n-lo) sz)) ⟨hv,u,hu,rfl⟩ h
  grind
 grind
theorem UF{neg:Bool}{sz:Nat}{l:List (Nat×Nat)}{x y:cu}(h:dm E wk ctx s2 row dst nx (.QV neg sz l x y) K=some r):eE ρ B B' s2 s (.QV neg sz l x y) row dst p K r:=by
 simp[dm]at h;split at h
 .rename_i xs ys hx hy;split at h
  .rename_i b h1 h2;obtain⟨aK,e1,r1⟩:=bx cv hx;obtain⟨bs,e2,r2⟩:=bx cv hy;have l1:aK.length=sz:=by rw[<-r1.length]<;>simp_all
   have l2:bs.length=sz:=by rw[<-r2.length]<;>simp_all
   refine .pure hm ht hB (a:=.d (.sc (.bool (if neg then !b else b)))) (λ_ _=>by simp only[cF.run,e1,e2];rw[be (by simp[l1,l2]),GM r1 r2 h2];rfl) (v:=.c _) ?_ h;cases neg<;>rfl
  grind
 grind
theorem aaR{uop:UnOp}{x:cu}(h:dm E wk ctx s2 row dst nx (.un uop x) K=some r):eE ρ B B' s2 s (.un uop x) row dst p K r:=by obtain⟨a,ha,h⟩:=cP h;obtain⟨v,c,h1,h2,h3⟩:=afb h (bx cv ha);exact .pure hm ht hB (λ_ _=>by simp only[cF.run,h1,ae,nC]) (v:=.c c) h3 h2
theorem RA{k:IntKind}{x:cu}(h:dm E wk ctx s2 row dst nx (.conv k x) K=some r):eE ρ B B' s2 s (.conv k x) row dst p K r:=by obtain⟨kd,n,ha,h⟩:=vp h;have e:=um (bx cv ha);exact .int hm ht hB (λ_ _=>by simp only[cF.run,e,tE,ae,nC]) h
theorem NW{off sz:Nat}{agg:Bool}{x:cu}(h:dm E wk ctx s2 row dst nx (.field off sz agg x) K=some r):eE ρ B B' s2 s (.field off sz agg x) row dst p K r:=by
 simp[dm]at h;split at h
 .rename_i cs hx;split at h;.rename_i v h1 h2;have h1:=fr h1;obtain⟨aK,e1,r1⟩:=bx cv hx;obtain⟨a,g1,g2⟩:=Dw h2 ((r1.drop off).take sz);refine .pure hm ht hB (λ_ _=>?_) g2 h;simp[cF.run,e1];rw[ba (by rw[<-r1.length];exact h1),g1];rfl
  grind
 grind
theorem Dz{off:Nat}{x:cu}(h:dm E wk ctx s2 row dst nx (.fieldAddr off x) K=some r):eE ρ B B' s2 s (.fieldAddr off x) row dst p K r:=by
 simp[dm]at h;split at h;.rename_i hx;obtain⟨hv,u,hu,e⟩:=bx cv hx;exact .ptr hm ht hB hv hu (λ_ _=>by simp only[cF.run,e]) h
 .rename_i hx;have e:x.ev s.slots=_:=bx cv hx;exact .eZ hm ht hB (λ_ _=>by simp only[cF.run,e]) h
 grind
omit hm ht hB cv in theorem vr:∀{n k:Nat}{F:Nat->Option α},Rp n k F=some r->k<n/\F k=some r|0,_,_,h=>by cases h|n+1,k,F,h=>by unfold Rp at h;cases hb:Nat.beq k n with|true=>simp_all|false=>rw[hb]at h;obtain⟨h1,h2⟩:=vr h<;>grind
theorem Ft{n sz:Nat}{x i:cu}(h:dm E wk ctx s2 row dst nx (.lG n sz x i) K=some r):eE ρ B B' s2 s (.lG n sz x i) row dst p K r:=by
 simp[dm]at h;obtain⟨kd,k,hi,h0,h⟩:=mK h;have hk:=jG (bx cv hi) h0;split at h;.rename_i hx;obtain⟨hlt,h⟩:=vr h;obtain⟨hv,u,hu,e⟩:=bx cv hx;exact .ptr hm ht hB hv hu (λ_ _=>by simp only[cF.run,hk,ae,e,ba hlt]) h
 .rename_i hx;obtain⟨hlt,h⟩:=vr h;have e:x.ev s.slots=_:=bx cv hx;exact .eZ hm ht hB (λ_ _=>by simp only[cF.run,hk,ae,e,ba hlt]) h
 grind
theorem KS{n sz:Nat}{agg:Bool}{x i:cu}(h:dm E wk ctx s2 row dst nx (.rK n sz agg x i) K=some r):eE ρ B B' s2 s (.rK n sz agg x i) row dst p K r:=by
 simp[dm]at h;obtain⟨kd,k,hi,h0,h⟩:=mK h;have hk:=jG (bx cv hi) h0;split at h
 .rename_i cs hx;obtain⟨hlt,h⟩:=vr h;split at h;.rename_i v h1 h2;have h1:=fr h1;obtain⟨aK,e1,r1⟩:=bx cv hx;obtain⟨a,g1,g2⟩:=Dw h2 ((r1.drop (k.toNat*sz)).take sz);refine .pure hm ht hB (λ_ _=>?_) g2 h;simp[cF.run,hk,ae,e1];rw[ba ⟨hlt,by rw[<-r1.length];exact h1⟩,g1]<;>grind
  grind
 grind
omit hm ht hB cv in theorem uo{β:Type}{l:List β}{i:Int}{x:β}(h:idx l i=some x):0<=i/\l[i.toNat]?=some x:=by grind[idx]
omit hm ht hB cv in theorem KT{i:Int}{n:Nat}(h:gB i n=true):0<=i/\i.toNat<n:=by simpa[gB]using h
theorem DA{sz:Nat}{x i:cu}(h:dm E wk ctx s2 row dst nx (.indexAddr sz x i) K=some r):eE ρ B B' s2 s (.indexAddr sz x i) row dst p K r:=by
 obtain⟨kd,n,hi,h⟩:=vp h;have hi:=bx cv hi;split at h
 .rename_i t l o hx;split at h
  .rename_i hz;have hz:=am hz;obtain⟨e,he,h⟩:=bind_some h;obtain⟨h0,he⟩:=uo he;have hn:=jG hi h0;have hg:(bD t l)[n.toNat]?=some (fu t e):=by rw[Dx,he];rfl
   have hx:=(jo (m:=s.mem) (bx cv hx)).2.1;refine .eZ hm ht hB (t:=t) (x:=e) (off:=0) (λ_ _=>?_) h;rcases hx with e1|⟨o',e1⟩;.simp[cF.run,hn,ae,e1,hg,fy,hz,i5]
   .simp[cF.run,hn,ae,e1,hg,fy,hz,i5]
  grind
 .rename_i lv sl ak t hx;split at h;.rename_i hz;have hz:=am hz;obtain⟨r',hr,h⟩:=aD h;obtain⟨h1,h⟩:=cJ h;obtain⟨h0,h1⟩:=KT h1;have hn:=jG hi h0;obtain⟨hv,u,k,hu,e1,hk⟩:=bx cv hx;refine .ptr hm ht hB hv hu (λ_ _=>?_) h;simp only[cF.run,hn,ae,e1]<;>grind
  grind
 .rename_i lv sl ak t off len hx;split at h;.rename_i hz;have hz:=am hz;obtain⟨h1,h⟩:=cJ h;obtain⟨h0,h1⟩:=KT h1;have hn:=jG hi h0;obtain⟨hv,u,hu,e1⟩:=bx cv hx;refine .ptr hm ht hB hv hu (λ_ _=>?_) h;simp only[cF.run,hn,ae,e1]<;>grind
  grind
 grind
theorem KU{x i:cu}(h:dm E wk ctx s2 row dst nx (.rL x i) K=some r):eE ρ B B' s2 s (.rL x i) row dst p K r:=by
 obtain⟨kd,n,hi,h⟩:=vp h;have hi:=bx cv hi;split at h;.rename_i b hx;obtain⟨c,hc,h⟩:=bind_some h;obtain⟨h0,hc⟩:=uo hc;have hn:=jG hi h0;have e:x.ev s.slots=_:=bx cv hx;refine .int hm ht hB (λ_ _=>?_) h;simp[cF.run,hn,ae,e,hc,nC]
 grind
omit hm ht hB in theorem ri{β:Type}{x:Option cu}{K:Option Nat->Option β}{r:β}(h:wB x s2 K=some r):∃n,(∀d,gn x s.slots d=some (n.getD d))/\(n.isSome=x.isSome)/\K n=some r:=by unfold wB at h;cases x with|none=>exact⟨none,λ_=>rfl,rfl,h⟩|some o=>obtain⟨kd,n,hv,h0,h⟩:=mK h;exact⟨some n.toNat,λ_=>by simp[gn,jG (bx cv hv) h0],rfl,h⟩
omit hm ht hB cv in theorem jH{n:Nat}{lo hi:Option Nat}(h:oh n lo hi=true):lo.getD 0<=hi.getD n/\hi.getD n<=n:=by unfold oh at h<;>grind
omit hm ht hB cv in theorem DB{β:Type}{l:List β}{lo hi:Option Nat}(h:oh l.length lo hi=true):p9 l lo hi=(l.drop (lo.getD 0)).take (hi.getD l.length-lo.getD 0):=by unfold p9;cases lo<;>cases hi<;>simp_all;.rw[fx (by simp)]
omit hm ht hB cv in theorem zA{t:Ty}{l:List t.den}{lo hi:Option Nat}(h:oh l.length lo hi=true):bD t (p9 l lo hi)=((bD t l).drop (lo.getD 0)).take (hi.getD (bD t l).length-lo.getD 0):=by rw[DB h]<;>simp_all[oh,Ty.den,p9,bD]
omit hm ht hB cv in theorem RB{sz:Nat}{x:Cell}{a:AV}{lo hi mx:Option Nat}{K:Cell->Option α}(h:NK s2.mem sz x lo hi mx K=some r)(hx:RC ρ B s2.mem x a)(l h' k:Nat)(hl:l=lo.getD 0)(hh:∀n,hi=some n->h'=n)(hk:∀n,mx=some n->k=n):∃a' c,fV sz a l (hi.map λ_=>h') (mx.map λ_=>k)=some a'/\RC ρ B s2.mem c a'/\K c=some r:=by
 have ehi:hi.map (λ_=>h')=hi:=by cases hi with|none=>rfl|some n=>grind
 have emx:mx.map (λ_=>k)=mx:=by cases mx with|none=>rfl|some n=>grind
 rw[ehi,emx];subst hl;unfold NK at h;split at h
 .rename_i t l o;split at h
  .rename_i hz;have hz:=am hz;have hall:(bD t l).all (λe=>e.length==sz)=true:=by rw[<-hz];exact ir t l
   split at h
   .obtain⟨hp,h⟩:=cJ h;have B5:=jH hp;have he:=zA (t:=t) hp;rw[bB]at he;have c1:lo.getD 0<=hi.getD (bD t l).length/\hi.getD (bD t l).length<=(bD t l).length/\(bD t l).all (λe=>e.length==sz)=true:=by rw[bB]<;>grind
    have awi:∀{o:Ow},(o=.bG\/o=.d)->RC ρ B s2.mem (.sl t (p9 l lo hi) o) (.d (.sl ((bD t l).drop (lo.getD 0)|>.take (hi.getD (bD t l).length-lo.getD 0)))):=by intro o ho;rw[bB,<-he];rcases ho with rfl|rfl<;>exact .inl rfl
    have dat:fV sz (.d (.sl (bD t l))) (lo.getD 0) hi none=some (.d (.sl ((bD t l).drop (lo.getD 0)|>.take (hi.getD (bD t l).length-lo.getD 0)))):=by simp only[fV]<;>grind
    have own:∀o',o'≠.bG->∃a',fV sz (.own (bD t l) o') (lo.getD 0) hi none=some a'/\RC ρ B s2.mem (.sl t (p9 l lo hi) .d) a':=by intro o' ho';cases o' with
     |bG=>grind|full=>
      simp only[fV];rw[ba c1];split;.rename_i e;refine⟨_,rfl,.inr ⟨.full,by simp,?_⟩⟩;rw[he,show hi.getD l.length=l.length from by rw[bB]at e;exact e];rw[fx (by simp[bB])]
      grind|cR v z=>simp only[fV]<;>grind
    split at h
    .rcases hx with rfl|⟨o',rfl⟩;.grind
     .by_cases ho':o'=.bG;.subst ho';refine⟨_,_,by simp only[fV];rw[ba c1],?_,h⟩;refine .inr ⟨.bG,?_⟩;rw[he,bB]
      .obtain⟨a',g1,g2⟩:=own o' ho';refine⟨a',_,g1,?_,h⟩;rcases g2 with rfl|⟨o2,_,rfl⟩;.exact .inl rfl
       .exact .inr ⟨_,rfl⟩
    .split at h
     .cases hx;refine⟨.own ((bD t l).drop (lo.getD 0)) .full,_,?_,?_,h⟩;.simp only[fV]<;>grind
      .show _=_;rw[he];rw[fx (by simp[bB])]
     .cases hx;obtain⟨a',g1,g2⟩:=own .full (by simp)<;>grind
    .rename_i asj azZ;rcases(jo (m:=[]) hx).2.2 (λe=>asj e)with rfl|⟨o',ho',rfl⟩;.grind
     .obtain⟨a',g1,g2⟩:=own o' ho'<;>grind
   .rename_i mm;split at h;.cases h
    .cases h
    .rename_i hi' hne;obtain⟨hp,h⟩:=cJ h;rw[al]at hp;obtain⟨hp,hmm⟩:=hp;have hmm:=am hmm;have B5:=jH hp;have he:=zA (t:=t) hp;simp[sd]at B5 he;have c1:lo.getD 0<=hi'/\hi'=mm/\hi'<=(bD t l).length/\(bD t l).all (λe=>e.length==sz)=true:=by rw[bB];exact⟨B5.1,hmm,B5.2,hall⟩
     refine⟨.own ((bD t l).drop (lo.getD 0)|>.take (hi'-lo.getD 0)) .full,_,?_,?_,h⟩
     .rcases(jo (m:=[]) hx).2.2 (λe=>hne e)with rfl|⟨o',ho',rfl⟩;.simp only[fV,sd];rw[ba c1]
      .cases o' with|bG=>exact(ho' rfl).elim|_=>simp only[fV,sd];rw[ba c1]
     .show _=_;rw[he]
  grind
 .rename_i f;split at h
  .obtain⟨hp,h⟩:=cJ h;have B5:=jH hp;have h0:hi.getD 0=0:=by omega
   have l0:lo.getD 0=0:=by omega
   cases f with|true=>cases hx;refine⟨.own [] .full,.nil true,?_,rfl,h⟩;simp[fV,h0,l0]|false=>
    rcases hx with rfl|⟨o,ho,rfl⟩;.exact⟨.d (.sl []),.nil false,by simp[fV,h0,l0],.inl rfl,h⟩
    .cases o with|bG=>grind|full=>exact⟨.own [] .full,.nil false,by simp[fV,h0,l0],.inr ⟨.full,by simp,rfl⟩,h⟩|cR v z=>exact⟨.d (.sl []),.nil false,by simp[fV,h0,l0],.inl rfl,h⟩
  grind
 .rename_i lv sl ak t;cases hz:Nat.beq t.size sz with|false=>grind|true=>
  split at h;.have hz:=am hz;obtain⟨r',hr,h⟩:=aD h;obtain⟨hp,h⟩:=cJ h;have B5:=jH hp;obtain⟨hv,u,n,hu,rfl,hn⟩:=hx;have hn:=hn r' hr;refine⟨_,.kj lv sl ak t (BV lo) (hi.getD r'.l.length-BV lo),?_,⟨hv,u,hu,rfl,λr2 qA=>by rw[hr]at qA;injection qA with qA;subst qA;have h1:=B5.1;have h2:=B5.2;simp only[BV]at h1 h2⊢;omega⟩,h⟩;simp only[fV,BV]<;>grind
  grind
 .rename_i lv sl ak t off len;cases hz:Nat.beq t.size sz with|false=>grind|true=>
  split at h;.have hz:=am hz;obtain⟨hp,h⟩:=cJ h;have B5:=jH hp;obtain⟨hv,u,hu,rfl,hlen⟩:=hx;refine⟨_,.kj lv sl ak t (off+BV lo) (hi.getD len-BV lo),?_,⟨hv,u,hu,rfl,λr2 qA=>by have h0:=hlen r2 qA;have h1:=B5.1;have h2:=B5.2;simp only[BV]at h1 h2⊢;omega⟩,h⟩;simp only[fV,BV]<;>grind
  grind
 grind
theorem KV{x:cu}{lo hi:Option cu}(h:dm E wk ctx s2 row dst nx (.rM x lo hi) K=some r):eE ρ B B' s2 s (.rM x lo hi) row dst p K r:=by
 simp[dm]at h;split at h;.rename_i b hx;obtain⟨l,el,il,h⟩:=ri cv h;obtain⟨h',eh,ih,h⟩:=ri cv h;obtain⟨hp,h⟩:=cJ h;have B5:=jH hp;have e:x.ev s.slots=_:=bx cv hx;refine .str hm ht hB (λ_ _=>?_) h;simp[cF.run,e,el,eh,IN];rw[ba B5,NU,DB hp];rfl
 grind
theorem IP{x:cu}{i:Nat}(h:dm E wk ctx s2 row dst nx (.extract x i) K=some r):eE ρ B B' s2 s (.extract x i) row dst p K r:=by
 simp[dm]at h;split at h
 .rename_i vs hx;split at h
  .rename_i a cs hi;obtain⟨v,hv,h⟩:=aD h;obtain⟨aK,e1,r1⟩:=bx cv hx;obtain⟨y,g1,g2⟩:=r1.get _ _ hi;have:RV ρ B s2.mem v y:=by cases a with|true=>obtain⟨as',rfl,g3⟩:=g2;cases hv;exact⟨as',rfl,g3⟩|false=>obtain⟨c,rfl,g3⟩:=g2;cases hv;exact g3
   exact .pure hm ht hB (λ_ _=>by simp only[cF.run,e1,g1,ae]) this h
  grind
 grind
theorem UG{x:cu}(h:dm E wk ctx s2 row dst nx (.len x) K=some r):eE ρ B B' s2 s (.len x) row dst p K r:=by
 obtain⟨c,hx,h⟩:=cP h;have hx:=bx cv hx;split at h;.refine .int hm ht hB (λ_ _=>?_) h;rcases(jo (m:=s.mem) hx).2.1with e|⟨o',e⟩<;>(simp only[cF.run,e,bB];rfl)
 .refine .int hm ht hB (λ_ _=>?_) h;rcases(iL (m:=s.mem) hx).2with e|⟨o',_,e⟩<;>(simp only[cF.run,e,m8];rfl)
 .obtain⟨r',hr,h⟩:=aD h;obtain⟨hv,u,n,hu,e,hn⟩:=hx;have hn:=hn r' hr;subst hn;exact .int hm ht hB (λ_ _=>by simp only[cF.run,e];rfl) h
 .obtain⟨hv,u,hu,e⟩:=hx;exact .int hm ht hB (λ_ _=>by simp only[cF.run,e];rfl) h
 grind
theorem RD{x:cu}(h:dm E wk ctx s2 row dst nx (.JJ x) K=some r):eE ρ B B' s2 s (.JJ x) row dst p K r:=by
 obtain⟨c,hx,h⟩:=cP h;have hx:=bx cv hx;split at h;.have e:x.ev s.slots=.own [] .full:=hx;exact .int hm ht hB (λ_ _=>by simp only[cF.run,e,m8];rfl) h
 .have e:x.ev s.slots=.own (bD _ _) .full:=hx;exact .int hm ht hB (λ_ _=>by simp only[cF.run,e,bB];rfl) h
 grind
theorem RF{x:cu}(h:dm E wk ctx s2 row dst nx (.HK x) K=some r):eE ρ B B' s2 s (.HK x) row dst p K r:=by
 simp[dm]at h;split at h;.rename_i b hx;have e:x.ev s.slots=_:=bx cv hx;exact .int hm ht hB (λ_ _=>by simp only[cF.run,e,IN];rfl) h
 grind
omit cv in theorem RG{n:Nat}(h:dm E wk ctx s2 row dst nx (.Fg n) K=some r):eE ρ B B' s2 s (.Fg n) row dst p K r:=by exact .int hm ht hB (λ_ _=>rfl) h
theorem KW{n sz:Nat}{x:cu}(h:dm E wk ctx s2 row dst nx (.sliceB n sz x) K=some r):eE ρ B B' s2 s (.sliceB n sz x) row dst p K r:=by
 obtain⟨c,hc,h⟩:=cP h;have hc:=bx cv hc;split at h
 .rename_i lv sl ak i off _;split at h;.rename_i hi;obtain⟨hv,u,hu,e⟩:=hc;refine .pure (a:=.dx lv sl u off n sz) hm ht hB (λ_ _=>?_) (show RV ρ B s2.mem (.c (.dx lv sl ak off n sz)) (.dx lv sl u off n sz)from⟨hv,u,hu,rfl⟩) h;simp[cF.run,e,hi]
  grind
 grind
theorem RH{x y:cu}(h:dm E wk ctx s2 row dst nx (.HL x y) K=some r):eE ρ B B' s2 s (.HL x y) row dst p K r:=by
 simp[dm]at h;split at h
 .rename_i k a k' b hx hy;split at h;.subst_vars;have e1:=um (bx cv hx);have e2:=um (bx cv hy);exact .int hm ht hB (λ_ _=>by simp only[cF.run,e1,e2,i5,nC]) h
  grind
 grind
theorem RJ{x y:cu}(h:dm E wk ctx s2 row dst nx (.HM x y) K=some r):eE ρ B B' s2 s (.HM x y) row dst p K r:=by
 simp[dm]at h;split at h
 .rename_i k a k' b hx hy;split at h;.subst_vars;have e1:=um (bx cv hx);have e2:=um (bx cv hy);exact .int hm ht hB (λ_ _=>by simp only[cF.run,e1,e2,i5,nC]) h
  grind
 grind
omit hm ht hB cv in theorem A9{m:List (Tr E2)}:∀{vs:List V2}{aK:List AV}{cs:List Cell},Dg vs=some cs->aC (RV ρ B m) vs aK->aC (RC ρ B m) cs aK/\aK.all jS=true
 |[],[],cs,h,_=>by cases h;exact⟨trivial,rfl⟩|v::vs,a::aK,cs,h,hv=>by cases v with|c x=>obtain⟨cs',h1,rfl⟩:=aJ h;obtain⟨g1,g2⟩:=A9 h1 hv.2;exact⟨⟨hv.1,g1⟩,by simp[(RC.cell hv.1).2.1,g2]⟩|_=>cases h
 |[],_::_,_,_,h=>h.elim|_::_,[],_,_,h=>h.elim
theorem Fu{f:Nat}{cap:List cu}(h:dm E wk ctx s2 row dst nx (.makeFunc f cap) K=some r):eE ρ B B' s2 s (.makeFunc f cap) row dst p K r:=by obtain⟨cs,hc,h⟩:=aD h;obtain⟨vs,h1,h2⟩:=aV hc;obtain⟨g1,g2⟩:=A9 h2 (qb cv h1);exact .pure hm ht hB (λ_ _=>by simp only[cF.run,g2,i5]) (v:=.fG f cs) ⟨_,rfl,g1⟩ h
end
section
variable{α:Type}{ρ:bH}{B B':Nat}{s2:S2}{s:St}{op:cF}{row dst p nx:Nat}{K:iJ->Option α}{r:α}{E:ah}{wk:Wk}{ctx:Nat}
def qc:∀(a b:List (Nat×Nat×Option E2))(m:List (Tr E2)),gK m (a++b)=gK (gK m a) b|[],_,_=>rfl|(lv,sl,e)::r,b,m=>by simp[nn,gK,qc r b]
def s9{m:List (Tr E2)}{lv sl cy cU ak:Nat}{r:SL}(h:rowOf (Db m lv sl none) cy cU ak=some r):rowOf m cy cU ak=some r:=by have:=cW h;rw[lC]at this<;>simp_all[jY,Db,rowOf]
def nT:∀{ks:List (Nat×Nat)}{m:List (Tr E2)}{lv sl ak:Nat}{r:SL},rowOf (gK m (lT ks)) lv sl ak=some r->rowOf m lv sl ak=some r|[],_,_,_,_,_,h=>h|(a,b)::ks,m,_,_,_,_,h=>s9 (nT (ks:=ks) (m:=Db m a b none) h)
def r9{m:List (Tr E2)}{ks:List (Nat×Nat)}:fW B m (gK m (lT ks)):=λ_ _ _ r _ h=>⟨r,nT h,rfl⟩
def afc(B:Nat)(m:List (Tr E2))(lv sl:Nat):E2->Prop|.box _ _=>True|.row ak _ l=>B<=ak\/∃r,rowOf m lv sl ak=some r/\r.l.length=l.length|.set _ _=>True
def fM{m:List (Tr E2)}{ks:List (Nat×Nat)}{lv sl:Nat}{e:E2}(h:afc B m lv sl e):fW B m (gK m (lT ks++[(lv,sl,some e)])):=by
 intro cy cU ak r' hv hr;rw[qc]at hr;simp[gK]at hr;have:=cW hr;rw[lC]at this;split at this;.simp_all;rcases h with h|⟨r,h1,h2⟩<;>grind
 .exact⟨r',nT (ij.2 this),rfl⟩
def jI{mf:List (Tr E2)}:∀{m:List (Tr bq)}{ks:List (Nat×Nat)},aC (Rx ρ B mf) (lT ks) (eW m ks)|_,[]=>trivial|m,k::ks=>⟨⟨rfl,rfl,λ_ h=>by cases h⟩,jI (m:=m) (ks:=ks)⟩
def fN{mf:List (Tr E2)}{lv sl:Nat}{e2:E2}{e:bq}(h:RE ρ B mf e2 e):aC (Rx ρ B mf) [(lv,sl,some e2)] [(lv,sl,some e)]:=⟨⟨rfl,rfl,λx hx=>by simp_all⟩,trivial⟩
def GN{mf:List (Tr E2)}:∀{IM:List (Nat×Nat×Option E2)}{us:List (Nat×Nat×Option bq)},aC (Rx ρ B mf) IM us->aX ρ (IM.map λu=>bU u.1 u.2.1) (us.map λu=>bU u.1 u.2.1)|[],[],_=>aX.nil|(a,b,c)::r2,(a',b',c')::r,h=>by obtain⟨⟨h1,h2,_⟩,h4⟩:=h;subst h1 h2;exact aX.j7 _ _ (GN h4)|[],_::_,h=>h.elim|_::_,[],h=>h.elim
def aX.DC{a b:List (Nat×Nat×Nat)}{v u:Nat}(hu:ρ v=some u)(h:aX ρ a b):aX ρ (ku v::a) (ku u::b):=by
 intro x hx;rcases dj.1 hx with rfl|hx;.simp_all[aX,bH,KR,ku]
 .obtain⟨y,h1,h2⟩:=h x hx<;>grind
def aX.skip{a b:List (Nat×Nat×Nat)}{k:Nat×Nat×Nat}(h:aX ρ a b):aX ρ (k::a) b:=λx hx=>by obtain⟨y,h1,h2⟩:=h x hx<;>grind
def pE.gX(hm:MR ρ B s2.mem s.mem)(ht:TR ρ B s2.aI s.aI)(hB:B<=B'){IM:List (Nat×Nat×Option E2)}{us:List (Nat×Nat×Option bq)}{v:V2}{a:AV}{UA rd:List (Nat×Nat×Nat)}(hst:fW B s2.mem (gK s2.mem IM))(hu:aC (Rx ρ B' (gK s2.mem IM)) IM us)(hv:RV ρ B' (gK s2.mem IM) v a)(hr:aX ρ UA rd):pE ρ B B' s2 s {val:=v,dn:=IM,cR:=[],rd:=UA} {val:=a,dn:=us,cR:=[],rd:=rd}:=⟨hv,hm.dn hB hst hu,ht.up hB,hst,hr,by exact(GN hu).append aX.nil⟩
def nU{m:List (Tr E2)}:RV ρ B m (.fk []) kP:=⟨[],rfl,trivial⟩
variable(hm:MR ρ B s2.mem s.mem)(ht:TR ρ B s2.aI s.aI)(cv:wG ρ B s2.mem s2.slots s.slots)(hB:B<=nx)(gz:ρ nx=some p)
include hm ht hB gz
theorem zB{lq d:Nat}{cs:List Cell}{aK:List AV}(hc:aC (RC ρ B s2.mem) cs aK)(hrun:∀call sh,op.run call sh s row dst p=some (.bT {val:=.ptr lq d p 0 0,dn:=[(lq,d,some (.box p aK))],cR:=[],rd:=[]}))(h:K (.bT {val:=.c (.ptr lq d nx 0 0),dn:=[(lq,d,some (.box nx cs))],cR:=[],rd:=[]})=some r):eE ρ B (nx+1) s2 s op row dst p K r:=by have hst:fW B s2.mem (gK s2.mem [(lq,d,some (.box nx cs))]):=fM (ks:=[]) (e:=.box nx cs) trivial;refine⟨_,_,hrun,.gX hm ht (by omega) hst (fN ⟨by omega,p,aK,gz,rfl,hc.mono λ_ _=>RC.move hst (by omega) λ_ _=>rfl⟩) (v:=.c (.ptr lq d nx 0 0)) ⟨by omega,p,gz,rfl⟩ aX.nil,h⟩
theorem NX{z:List AV}(h:dm E wk ctx s2 row dst nx (.alloc z) K=some r):eE ρ B (nx+1) s2 s (.alloc z) row dst p K r:=by obtain⟨cs,hc,h⟩:=aD h;rw[hm.len]at h;exact zB hm ht hB gz (ym hc) (λ_ _=>rfl) h
include cv in theorem UH{x:cu}(h:dm E wk ctx s2 row dst nx (.box x) K=some r):eE ρ B (nx+1) s2 s (.box x) row dst p K r:=by
 obtain⟨cs,hc,h⟩:=aD h;obtain⟨v,hv,h1⟩:=aV hc;obtain⟨aK,g1,g2⟩:=yo h1 (bx cv hv);rw[hm.len]at h;split at h;.rename_i hb;exact zB hm ht hB gz g2 (λ_ _=>by simp only[cF.run,hb,g1,cf]) h
 .rename_i hb;split at h;.cases h
  rename_i hb';exact zB hm ht hB gz g2 (λ_ _=>by simp only[cF.run,hb,hb',g1,cf]) h
omit gz hB ht in theorem KX{sz:Nat}{pc:Cell}{a:AV}{K:List Cell->Option α}(h:PI s2.mem sz pc K=some r)(hp:RC ρ B s2.mem pc a):∃cs aK,sX s.mem sz a=some aK/\aC (RC ρ B s2.mem) cs aK/\K cs=some r:=by
 unfold PI at h;split at h
 .rename_i lv sl ak i off;obtain⟨hv,u,hu,rfl⟩:=hp;split at h
  .rename_i v cs he;split at h;.rename_i hb;simp only[al]at hb;obtain⟨⟨KY,hi⟩,hl⟩:=hb;have KY:=am KY;have hi:=am hi;obtain⟨e,g1,_,u',aK,g2,rfl,g3⟩:=hm.fE _ _ _ he;simp_all;refine⟨_,(aK.drop off).take sz,?_,(g3.drop off).take sz,h⟩;simp only[sX,g1,uk];rw[ba (by rw[<-g3.length];exact hl)]
   grind
  .rename_i v t l he;split at h
   .rename_i hb;simp only[al]at hb;obtain⟨KY,hl⟩:=hb;have KY:=am KY;obtain⟨x,hx,h⟩:=bind_some h;obtain⟨e,g1,_,u',g2,rfl⟩:=hm.fE _ _ _ he;simp_all;refine⟨_,(((fu t x).map .d).drop off).take sz,?_,((mI t x).drop off).take sz,h⟩;have:(bD t l)[i]?=some (fu t x):=by rw[Dx,hx];rfl
    simp only[sX,g1,uk,this];rw[ba (by rw[fy];exact hl)]<;>simp_all
   grind
  .cases h
  grind
 .rename_i t x off;split at h;.rename_i hl;have hl:=fr hl;have e:a=_:=hp;refine⟨_,(((fu t x).map .d).drop off).take sz,?_,((mI t x).drop off).take sz,h⟩;rw[e];simp only[sX];rw[ba (by rw[fy];exact hl)]<;>simp_all
  grind
 grind
omit gz in include cv in theorem RK{sz:Nat}{agg:Bool}{x:cu}(h:dm E wk ctx s2 row dst nx (.load sz agg x) K=some r):eE ρ B (nx+1) s2 s (.load sz agg x) row dst p K r:=by obtain⟨pc,hx,h⟩:=cP h;have hx:=bx cv hx;obtain⟨cs,aK,g1,g2,h⟩:=KX hm h hx;obtain⟨v,hv,h⟩:=aD h;obtain⟨a,g3,g4⟩:=Dw hv g2;exact⟨_,_,λ_ _=>by simp only[cF.run,g1,g3,ae,cf],.zy hm ht (by omega) g4 (vq hx),h⟩
omit hm ht hB gz in theorem yq{ks:List (Nat×Nat)}{lv sl:Nat}(h:Dh ks lv sl=false):¬(lv,sl)∈ks:=by
 intro hk;have:Dh ks lv sl=true:=by simp_all[Dh]
 grind
omit hm ht hB gz in theorem qD:∀(t:Ty)(x:t.den),cI (jD t x)=some (fu t x)|.val,v=>by cases v;simp[jD,cI,pq,fu,NH,rJ.kind,rJ.int,rJ.text,rJ.list,rJ.cut,bD,qY]|.int _,_=>rfl|.bool,_=>rfl|.str,_=>rfl|.sl _,_=>rfl|.unit,_=>rfl|.prod a b,x=>ny (qD a x.1) (qD b x.2)|.sum _ _,_=>rfl
omit hm ht hB gz in theorem qE:∀{cs:List Cell}{ds:List D},cI cs=some ds->ds.length=cs.length|[],ds,h=>by cases h;rfl|c::r,ds,h=>by obtain⟨x,xs,h1,h2,rfl⟩:=iG h;simp[qE h2]
omit hm ht hB gz in theorem uq:∀{cs:List Cell}{ds:List D}(n:Nat),cI cs=some ds->cI (cs.take n)=some (ds.take n)|_,_,0,_=>by simp[cI]|[],ds,n+1,h=>by cases h;rfl|c::r,ds,n+1,h=>by obtain⟨x,xs,h1,h2,rfl⟩:=iG h;simp[List.take_succ_cons,cI,h1,uq n h2]
omit hm ht hB gz in theorem ur:∀{cs:List Cell}{ds:List D}(n:Nat),cI cs=some ds->cI (cs.drop n)=some (ds.drop n)|_,_,0,h=>by grind|[],ds,n+1,h=>by cases h;rfl|c::r,ds,n+1,h=>by obtain⟨x,xs,h1,h2,rfl⟩:=iG h;simpa using ur n h2
omit hm ht hB gz in theorem Fv{cs new:List Cell}{ds ds':List D}(h:cI cs=some ds)(h':cI new=some ds')(off:Nat):cI (bK.splice cs off new)=some (bK.splice ds off ds'):=by unfold bK.splice;rw[qE h'];exact ny (ny (uq off h) h') (ur _ h)
omit gz in theorem RL{sz:Nat}{pc:Cell}{new:List Cell}{a v:AV}{aK:List AV}(h:NJ s2.mem sz pc new K=some r)(hp:RC ρ B s2.mem pc a)(hv:cellsOf v=some aK)(hn:aC (RC ρ B s2.mem) new aK):∃E e,rP s.mem sz a v=some e/\pE ρ B (nx+1) s2 s E e/\K (.bT E)=some r:=by
 unfold NJ at h;split at h
 .rename_i lv sl ak i off hz;have hz:=am hz;rw[hn.length]at hz;obtain⟨Fi,u,hu,rfl⟩:=hp;split at h
  .rename_i vv cs he;split at h;.rename_i hb;simp only[al]at hb;obtain⟨⟨KY,hi⟩,hl⟩:=hb;have KY:=am KY;have hi:=am hi;have hl:=fr hl;subst KY hi;obtain⟨e,g1,_,u',bs,g2,rfl,g3⟩:=hm.fE _ _ _ he;rw[hu]at g2;cases g2;have hst:fW B s2.mem (gK s2.mem [(lv,sl,some (.box vv (bK.splice cs off new)))]):=fM (ks:=[]) (e:=.box _ _) trivial;refine⟨_,_,?_,.gX hm ht (B':=nx+1) (by omega) hst (fN (e:=.box u (bK.splice bs off aK)) ⟨by omega,u,_,hu,rfl,(zz g3 hn off).mono λ_ _=>RC.move hst (by omega) λ_ _=>rfl⟩) nU (aX.j7 lv sl aX.nil),h⟩;simp only[rP,hv,g1,uk];rw[ba hz,ba (by rw[<-g3.length];exact hl)]
   grind
  .rename_i vv t l he;split at h
   .rename_i new' ks hb hf;simp only[al]at hb;obtain⟨KY,hl⟩:=hb;have KY:=am KY;have hl:=fr hl;subst KY;split at h;.cases h
    .rename_i hk;obtain⟨x,hx,h⟩:=bind_some h;obtain⟨y,hy,h⟩:=aD h;obtain⟨e,g1,_,u',g2,rfl⟩:=hm.fE _ _ _ he;rw[hu]at g2;cases g2;obtain⟨ds,g3,g4⟩:=NR hm hf hn;have hy:=qZ hy (Fv (qD t x) g4 off);have hrow:rowOf s2.mem lv sl vv=some ⟨t,l⟩:=ij.2 he;have hst:fW B s2.mem (gK s2.mem (lT ks++[(lv,sl,some (.row vv t (l.set i y)))])):=fM (.inr ⟨_,hrow,by simp⟩);refine⟨_,_,?_,.gX hm ht (B':=nx+1) (by omega) hst ((jI (m:=s.mem)).append (fN (e:=.row u (bD t (l.set i y))) ⟨by omega,u,hu,rfl⟩)) nU (aX.j7 lv sl (aX.jy ks)),h⟩;have hg:(bD t l)[i]?=some (fu t x):=by rw[Dx,hx];rfl
     simp only[rP,hv,g1,uk,hg,g3];rw[ba hz,ba ⟨by rw[fy];exact hl,yq hk⟩,hy];simp[bD,List.map_set]
   grind
  .cases h
  grind
 grind
omit gz in include cv in theorem NY{sz:Nat}{x v:cu}(h:dm E wk ctx s2 row dst nx (.store sz x v) K=some r):eE ρ B (nx+1) s2 s (.store sz x v) row dst p K r:=by obtain⟨pc,hx,h⟩:=cP h;obtain⟨new,hn,h⟩:=aD h;obtain⟨w,hw,h1⟩:=aV hn;obtain⟨aK,g1,g2⟩:=yo h1 (bx cv hw);obtain⟨E',e,h2,h3,h4⟩:=RL hm ht hB h (bx cv hx) g1 g2;exact⟨E',e,λ_ _=>by simp only[cF.run,h2,cf],h3,h4⟩
end
section
variable{α:Type}{ρ:bH}{B B':Nat}{s2:S2}{s:St}{op:cF}{row dst p nx:Nat}{K:iJ->Option α}{r:α}{E:ah}{wk:Wk}{ctx:Nat}
def TR.fresh{t2 t:Tr Unit}(h:TR ρ B t2 t)(hB:B<=nx)(gz:ρ nx=some p):TR ρ (nx+1) (eV t2 [(nx,true)]) (eV t [(p,true)]):=by
 intro v hv;simp[eV,i5]at hv⊢;rw[Tr.cK]at hv;split at hv;.simp_all;rw[Tr.cK,ba rfl]
 .obtain⟨h1,h2⟩:=h v hv;refine⟨by omega,λu hu=>?_⟩;rw[Tr.cK]<;>grind
def TR.aj5{t2 t:Tr Unit}(h:TR ρ B t2 t)(v:Nat):TR ρ B (t2.set v none) t:=by
 intro v' hv;rw[Tr.cK]at hv;split at hv;.cases hv
 .exact h v' hv
def TR.drop{t2 t:Tr Unit}(h:TR ρ B t2 t)(hinj:∀v v' u,ρ v=some u->ρ v'=some u->v=v'){v u:Nat}(hu:ρ v=some u):TR ρ B (t2.set v none) (t.set u none):=by
 intro v' hv;rw[Tr.cK]at hv;split at hv;.cases hv
 .refine⟨(h v' hv).1,λu' lF=>?_⟩;rw[Tr.cK];split;.grind
  .exact(h v' hv).2 u' lF
def fO{a t:Ty}{l:List a.den}{l':List t.den}(h:j6 a t l=some l'):bD a l=bD t l'/\l.length=l'.length:=by obtain⟨e,he⟩:=Dr h<;>grind
def mL{n b:Nat}(h:room n b=true):n<=eU/\n*b<=jz:=by simpa[room]using h
def GO{m:List (Tr E2)}{mm:List (Tr bq)}(hm:MR ρ B m mm){x:Cell}{a:AV}{e:Option Ty}{K:SL->Option α}(h:p8 m x e K=some r)(hx:RC ρ B m x a)(hne:∀b,x≠.str b):∃els,dL mm a=some els:=by
 unfold p8 at h;split at h;.exact⟨_,(jo hx).1⟩
 .exact⟨_,(iL hx).1⟩
 .obtain⟨r',hr,h⟩:=aD h;exact⟨_,nA hm hx hr⟩
 .obtain⟨r',hr,h⟩:=aD h;have q:=cJ h;obtain⟨hl,h⟩:=q;exact⟨_,kE hm hx hr (du hl)⟩
 .grind
 grind
variable(hm:MR ρ B s2.mem s.mem)(ht:TR ρ B s2.aI s.aI)(cv:wG ρ B s2.mem s2.slots s.slots)(hB:B<=nx)(gz:ρ nx=some p)(hinj:∀v v' u,ρ v=some u->ρ v'=some u->v=v')
include hm ht hB gz
omit ht in theorem pE.DD{t:Ty}{l:List t.den}{els:List (List D)}{UA rd:List (Nat×Nat×Nat)}{tp2 tp:List (Nat×Bool)}(he:els=bD t l)(hr:aX ρ UA rd)(htp:TR ρ (nx+1) (eV s2.aI tp2) (eV s.aI tp))(hw:aX ρ (tp2.map λu=>ku u.1) (tp.map λu=>ku u.1)):pE ρ B (nx+1) s2 s {val:=.c (.sl t l (.app nx)),dn:=[],cR:=tp2,rd:=UA} {val:=.own els (.cR p t.size),dn:=[],cR:=tp,rd:=rd}:=by subst he;exact⟨⟨by omega,.inr ⟨p,gz,rfl⟩⟩,hm.mono (by omega),htp,fW.refl _ _,hr,by simpa[Kt.wr,fD.wr]using hw⟩
theorem pE.sj{t:Ty}{l:List t.den}{els:List (List D)}{n lv sl:Nat}{ks:List (Nat×Nat)}{UA rd:List (Nat×Nat×Nat)}(he:els=bD t l)(hn:n=l.length)(hr:aX ρ UA rd):pE ρ B (nx+1) s2 s {val:=.c (.ref lv sl nx t),dn:=lT ks++[(lv,sl,some (.row nx t l))],cR:=[],rd:=UA} {val:=.ref lv sl p 0 n t.size,dn:=eW s.mem ks++[(lv,sl,some (.row p els))],cR:=[],rd:=rd}:=by
 subst he hn;refine .gX hm ht (by omega) (fM (.inl hB)) (jI.append (fN ⟨by omega,p,gz,rfl⟩)) ⟨by omega,p,l.length,gz,rfl,λr' hr'=>?_⟩ hr;rw[qc]at hr';simp[gK]at hr';have:=cW hr';rw[lC]at this;split at this;.grind
 .have h1:=nT (ij.2 this);obtain⟨e,_,hlt,_⟩:=hm.fE _ _ _ (cW h1)<;>omega
include hinj in theorem IQ{afd:Bool}{lv sl sz bytes:Nat}{x y:Cell}{a b:AV}{e:Option Ty}(h:Rr s2 afd lv sl nx sz bytes x y e K=some r)(hx:RC ρ B s2.mem x a)(hy:RC ρ B s2.mem y b):∃E e,ew s afd lv sl p sz bytes a b=some e/\pE ρ B (nx+1) s2 s E e/\K (.bT E)=some r:=by
 unfold Rr at h;have Tp:=vq hy;split at h
 .obtain⟨n,hn,h⟩:=lV hm h hy;split at h
  .rename_i hz;have hz:=am hz;have q:=cJ h;obtain⟨hr,h⟩:=q;have hr:=mL hr;cases hx;split at h;.refine⟨_,_,?_,.DD hm hB gz (l:=n.l) (els:=[]++bD n.t n.l) rfl Tp (ht.fresh hB gz) (aX.DC gz aX.nil),h⟩;simp only[ew,<-hz,hn,ir,i5,wi,m8,jn,bB];rw[ba ⟨trivial,hr.1,hr.2⟩]
   .refine⟨_,_,?_,.sj hm ht hB gz (ks:=[]) (els:=[]++bD n.t n.l) rfl rfl Tp,h⟩;simp only[ew,<-hz,hn,ir,i5,wi,m8,jn,bB];rw[ba ⟨trivial,hr.1,hr.2⟩];simp[eW]
  .cases h
 .rename_i t l;have q:=lV hm h hy;obtain⟨n,hn,h⟩:=q;split at h
  .rename_i news hz hc;have hz:=am hz;obtain⟨hc,_⟩:=fO hc;rw[hc]at hn;have q:=cJ h;obtain⟨hr,h⟩:=q;have hr:=mL hr;cases hx;split at h;.refine⟨_,_,?_,.DD hm hB gz (l:=l++news) (els:=bD t l++bD t news) (nS ..).symm Tp (ht.fresh hB gz) (aX.DC gz aX.nil),h⟩;simp only[ew,<-hz,hn,ir,i5,bB];rw[ba ⟨trivial,hr.1,hr.2⟩]
   .obtain⟨hne,h⟩:=cJ h;refine⟨_,_,?_,.sj hm ht hB gz (ks:=[]) (l:=l++news) (n:=l.length+news.length) (els:=bD t l++bD t news) (nS ..).symm (by simp) Tp,h⟩;simp only[ew,<-hz,hn,ir,i5,bB];rw[ba ⟨trivial,hr.1,hr.2⟩,be (by
    intro hc;have h1:l.isEmpty=false:=by simpa[bD]using hc.1
    have h2:news.isEmpty=true:=by simpa[bD]using hc.2
    rw[h1,h2]at hne;cases hne)];simp[eW]
  .cases h
 .rename_i t l v;have q:=lV hm h hy;obtain⟨n,hn,h⟩:=q;cases hz:Nat.beq t.size sz with|false=>simp[hz]at h|true=>cases hc:j6 n.t t n.l with|none=>simp[hz,hc]at h|some news=>cases afd with|true=>simp[hz,hc]at h|false=>cases htip:s2.aI.get? v with|none=>simp[hz,hc,htip]at h|some un=>
  simp[hz,hc,htip]at h
  .have hz:=am hz;obtain⟨hc,_⟩:=fO hc;rw[hc]at hn;have q:=cJ h;obtain⟨hr,h⟩:=q;have hr:=mL hr;rcases hx with⟨hv,⟨hu,rfl⟩|⟨u,hu,rfl⟩⟩;.refine⟨_,_,?_,.DD hm hB gz (l:=l++news) (els:=bD t l++bD t news) (tp2:=[(v,false),(nx,true)]) (tp:=[(p,true)]) (nS ..).symm Tp.skip (TR.fresh (ht.aj5 v) hB gz) (aX.skip (aX.DC gz aX.nil)),h⟩;simp only[ew,<-hz,hn,ir,i5,bB];rw[ba ⟨trivial,hr.1,hr.2⟩]
   .refine⟨_,_,?_,.DD hm hB gz (l:=l++news) (els:=bD t l++bD t news) (tp2:=[(v,false),(nx,true)]) (tp:=[(u,false),(p,true)]) (nS ..).symm (aX.DC hu Tp) (TR.fresh (ht.drop hinj hu) hB gz) (aX.DC hu (aX.DC gz aX.nil)),h⟩;have:=(ht v htip).2 u hu;simp only[ew,<-hz,hn,ir,i5,bB];rw[ba ⟨trivial,hr.1,hr.2,by rw[this];rfl⟩]
 .rename_i cy cU ak t;have q:=aD h;obtain⟨r',hr',h⟩:=q;have q:=lV hm h hy;obtain⟨n,hn,h⟩:=q;split at h;.rename_i l news hz hc1 hc;have hz:=am hz;obtain⟨hc,_⟩:=fO hc;obtain⟨hc1,ou⟩:=fO hc1;rw[hc]at hn;have q:=cJ h;obtain⟨hr,h⟩:=q;have hr:=mL hr;obtain⟨hv,u,n',hu,rfl,hn'⟩:=hx;have hn':=hn' _ hr';rw[ou]at hn';subst hn';have hrow:=(jF hm hr' hu).2;rw[hc1]at hrow;refine⟨_,_,?_,.sj hm ht hB gz (ks:=[]) (l:=l++news) (n:=l.length+news.length) (els:=bD t l++bD t news) (nS ..).symm (by simp) (aX.j7 cy cU Tp),h⟩;simp only[ew,<-hz,hn,ir,i5,hrow,bB];rw[ba ⟨trivial,by omega,hr.1,hr.2⟩];simp[eW,fx,bB]
  .cases h
 .rename_i cy cU ak t off len;have q:=aD h;obtain⟨r',hr',h⟩:=q;have q:=lV hm h hy;obtain⟨n,hn,h⟩:=q;split at h;.rename_i l news hz hc1 hc;have hz:=am hz;obtain⟨hc,_⟩:=fO hc;obtain⟨hc1,ou⟩:=fO hc1;rw[hc]at hn;have q:=cJ h;obtain⟨hr,h⟩:=q;rw[al]at hr;have hl:=du hr.1;have hr:=mL hr.2;obtain⟨hv,u,hu,rfl,_⟩:=hx;have hrow:=(jF hm hr' hu).2;rw[hc1]at hrow;refine⟨_,_,?_,.sj hm ht hB gz (ks:=[]) (l:=(l.drop off).take len++news) (n:=len+news.length) (els:=((bD t l).drop off).take len++bD t news) (by simp[bD,sa,ut]) (by simp;omega) (aX.j7 cy cU Tp),h⟩;simp only[ew,<-hz,hn,ir,i5,hrow,bB];rw[ba ⟨trivial,hl,hr.1,hr.2⟩];simp[eW]
  .cases h
 .cases h
theorem aaS{sz:Nat}{x:Cell}{a:AV}{lo hi:Option Nat}(h:aeX s2.mem sz nx x lo hi K=some r)(hx:RC ρ B s2.mem x a)(l h':Nat)(hl:l=lo.getD 0)(hh:∀n,hi=some n->h'=n):∃E e,JN s p sz a l (hi.map λ_=>h')=some e/\pE ρ B (nx+1) s2 s E e/\K (.bT E)=some r:=by
 have ehi:hi.map (λ_=>h')=hi:=by cases hi with|none=>rfl|some n=>grind
 rw[ehi];subst hl;unfold aeX at h;split at h
 .rename_i lv sl ak t;have q:=aD h;obtain⟨r',hr',h⟩:=q;split at h
  .rename_i l' hz hc1;have hz:=am hz;obtain⟨hc1,ou⟩:=fO hc1;have q:=cJ h;obtain⟨hp,h⟩:=q;have B5:=jH hp;obtain⟨hv,u,n',hu,rfl,hn'⟩:=hx;have hn':=hn' _ hr';rw[ou]at hn';subst hn';have hrow:=(jF hm hr' hu).2;rw[hc1]at hrow;have he:=zA (t:=t) hp;rw[bB]at he;refine⟨_,_,?_,.sj hm ht hB gz (ks:=[]) (l:=p9 l' lo hi) (n:=hi.getD l'.length-lo.getD 0) (els:=((bD t l').drop (lo.getD 0)).take (hi.getD l'.length-lo.getD 0)) he.symm ?_ (aX.j7 lv sl aX.nil),h⟩;.simp only[JN,hrow,<-hz];rw[ba ⟨trivial,B5.1,B5.2,by rw[bB];omega⟩];simp[eW]
   .rw[DB hp,ft,lw];omega
  grind
 grind
omit hm ht hB gz in theorem RC.ot{m:List (Tr E2)}{c:Cell}{a:AV}(h:RC ρ B m c a):bK.ot a=c.ot:=by cases c with
 |nil f=>cases f with|false=>rcases h with rfl|⟨_,_,rfl⟩<;>rfl|true=>cases h;rfl
 |sl t l o=>cases o with|d=>rcases h with rfl|⟨_,_,rfl⟩<;>rfl|bG=>rcases h with rfl|⟨_,rfl⟩<;>rfl|full=>cases h;rfl|app v=>rcases h.2with⟨_,rfl⟩|⟨_,_,rfl⟩<;>rfl
 |ref=>obtain⟨_,_,_,_,rfl,_⟩:=h;rfl|kj=>obtain⟨_,_,_,rfl,_⟩:=h;rfl|ptr=>obtain⟨_,_,_,rfl⟩:=h;rfl|dx=>obtain⟨_,_,_,rfl⟩:=h;rfl|mp=>obtain⟨_,_,_,rfl⟩:=h;rfl|int=>cases h;rfl|bool=>cases h;rfl|er=>cases h;rfl|str=>cases h;rfl|raw=>cases h;rfl|eZ=>cases h;rfl
include cv in theorem NZ{sz:Nat}{x:cu}{lo hi mx:Option cu}(h:dm E wk ctx s2 row dst nx (.slice sz x lo hi mx) K=some r):eE ρ B (nx+1) s2 s (.slice sz x lo hi mx) row dst p K r:=by
 have q:=cP h;obtain⟨c,hx,h⟩:=q;have q:=ri cv h;obtain⟨l,el,il,h⟩:=q;have q:=ri cv h;obtain⟨h',eh,ih,h⟩:=q;have q:=ri cv h;obtain⟨k,ek,ik,h⟩:=q;have e1:hi.map (λ_=>h'.getD 0)=h'.map λ_=>h'.getD 0:=by cases hi<;>cases h'<;>simp_all
 have e2:mx.map (λ_=>k.getD 0)=k.map λ_=>k.getD 0:=by cases mx<;>cases k<;>simp_all
 have hir:=RC.ot (bx cv hx);split at h;.rename_i hq;rw[<-hir]at hq;obtain⟨E',e,g1,g2,g3⟩:=aaS hm ht hB gz h (bx cv hx) (l.getD 0) (h'.getD 0) rfl (λn e=>by rw[e];rfl);exact⟨E',e,λ_ _=>by simp only[cF.run,el,eh,ek,hq,e1,g1,cf],g2,g3⟩
 .rename_i hq;rw[<-hir]at hq;obtain⟨a',c',g1,g2,g3⟩:=RB h (bx cv hx) (l.getD 0) (h'.getD 0) (k.getD 0) rfl (λn e=>by rw[e];rfl) (λn e=>by rw[e];rfl);refine .pure hm ht (by omega) (a:=a') (λ_ _=>?_) (v:=.c c') g2 g3;simp[cF.run,el,eh,ek,hq,e1,e2,g1,ae]
include hinj cv in theorem KZ{sz bytes:Nat}{x y:cu}(h:dm E wk ctx s2 row dst nx (.append sz bytes x y) K=some r):eE ρ B (nx+1) s2 s (.append sz bytes x y) row dst p K r:=by
 simp only[dm]at h;split at h;.cases h
 rename_i h11;have q:=cP h;obtain⟨a,ha,h⟩:=q;have q:=cP h;obtain⟨b,hb,h⟩:=q;rw[hm.len]at h;obtain⟨E',e,h1,h2,h3⟩:=IQ hm ht hB gz hinj h (bx cv ha) (bx cv hb);exact⟨E',e,λ_ _=>by simp only[cF.run,h11,h1,cf],h2,h3⟩
include hinj cv in theorem IS{sz bytes:Nat}{z:List D}{x n:cu}(h:dm E wk ctx s2 row dst nx (.pZ sz bytes z x n) K=some r):eE ρ B (nx+1) s2 s (.pZ sz bytes z x n) row dst p K r:=by
 have q:=cP h;obtain⟨a,ha,h⟩:=q;have q:=mK h;obtain⟨kl,l',hl,hl0,h⟩:=q;have q:=aD h;obtain⟨t,_,h⟩:=q;have q:=aD h;obtain⟨z',Nc,h⟩:=q;obtain⟨zc,To,hz2⟩:=aV Nc;have hze:=qZ hz2 (q9 To);split at h;.rename_i hb;simp only[al]at hb;have h2:=am hb.2;have q:=cJ h;obtain⟨hr,h⟩:=q;have hr:=mL hr;rw[hm.len]at h;have hb:RC ρ B s2.mem (.sl t (List.replicate l'.toNat z') .d) (.d (.sl (List.replicate l'.toNat z))):=.inl (by simp[bD,hze]);obtain⟨E',e,h3,h4,h5⟩:=IQ hm ht hB gz hinj h (bx cv ha) hb;exact⟨E',e,λ_ _=>by simp only[cF.run,jG (bx cv hl) hl0,ae];rw[ba ⟨h2,hr.1,hr.2⟩,h3,cf],h4,h5⟩
 grind
include hinj cv in theorem N0{sz bytes:Nat}{x:cu}(h:dm E wk ctx s2 row dst nx (.clone sz bytes x) K=some r):eE ρ B (nx+1) s2 s (.clone sz bytes x) row dst p K r:=by
 simp only[dm]at h;split at h;.cases h
 rename_i h11;have q:=cP h;obtain⟨b,hb,h⟩:=q;have hb:=bx cv hb;split at h;.cases h
 .rename_i hne;rw[hm.len]at h;have he:∃els,dL s.mem (x.ev s.slots)=some els:=by unfold Rr at h;exact GO hm h hb (λb' e=>hne b' e)
  obtain⟨els,he⟩:=he;obtain⟨E',e,h1,h2,h3⟩:=IQ hm ht hB gz hinj h (show RC ρ B s2.mem (.nil true) (.own [] .full)from rfl) hb;exact⟨E',e,λ_ _=>by simp only[cF.run,h11,he,h1,cf],h2,h3⟩
omit gz hm ht hB in theorem GP{t:Ty}:∀l:List t.den,aC (RC ρ B s2.mem) (l.flatMap (jD t)) (((l.map (fu t)).flatten).map .d)|[]=>trivial|x::l=>by simp only[eb,f1,ph,f9];exact(mI t x).append (GP l)
omit gz in include cv in theorem RM{sz:Nat}{x y:cu}(h:dm E wk ctx s2 row dst nx (.copy sz x y) K=some r):eE ρ B (nx+1) s2 s (.copy sz x y) row dst p K r:=by
 have q:=cP h;clear h;obtain⟨a,ha,h⟩:=q;have q:=cP h;clear h;obtain⟨b,hb,h⟩:=q;have ha:=bx cv ha;have hb:=bx cv hb;have Tp:=vq hb;split at h
 .rename_i lv sl ak t _;have q:=aD h;obtain⟨r',hr',h⟩:=q;have q:=lV hm h hb;obtain⟨n,hn,h⟩:=q;split at h;.rename_i l news hz hc1 hc;have hz:=am hz;obtain⟨hc,_⟩:=fO hc;obtain⟨hc1,ou⟩:=fO hc1;rw[hc]at hn;obtain⟨hv,u,n',hu,ea,hn'⟩:=ha;have hn':=hn' _ hr';rw[ou]at hn';subst hn';have hrow:=(jF hm hr' hu).2;rw[hc1]at hrow;have hst:fW B s2.mem (gK s2.mem [(lv,sl,some (.row ak t (Dd news l)))]):=fM (ks:=[]) (.inr ⟨_,hr',by simp[Dd,ou];omega⟩);refine⟨_,_,λ_ _=>?_,.gX hm ht (by omega) hst (fN (e:=.row u (bD t (Dd news l))) ⟨by omega,u,hu,rfl⟩) (v:=.c (.int .i64 ((min news.length l.length:Nat):Int))) (a:=qK (min news.length l.length)) (show _=_ from rfl) (aX.j7 lv sl Tp),h⟩;simp[cF.run,<-hz,ea,hn,hrow,ir,bB];simp[Dd,bK.splice,bD,sa,ut]
  grind
 .rename_i lv sl ak t off len _;have q:=aD h;obtain⟨r',hr',h⟩:=q;have q:=lV hm h hb;obtain⟨n,hn,h⟩:=q;split at h;.rename_i l news hz hc1 hc;have hz:=am hz;obtain⟨hc,_⟩:=fO hc;obtain⟨hc1,ou⟩:=fO hc1;rw[hc]at hn;have q:=cJ h;obtain⟨hl,h⟩:=q;have hl:=du hl;obtain⟨hv,u,hu,ea⟩:=ha;have hrow:=(jF hm hr' hu).2;rw[hc1]at hrow;have hst:fW B s2.mem (gK s2.mem [(lv,sl,some (.row ak t (l.take off++(news.take (min news.length len)++l.drop (off+(news.take (min news.length len)).length)))))]):=fM (ks:=[]) (.inr ⟨_,hr',by simp[ou];omega⟩);refine⟨_,_,λ_ _=>?_,.gX hm ht (by omega) hst (fN (e:=.row u (bD t (l.take off++(news.take (min news.length len)++l.drop (off+(news.take (min news.length len)).length))))) ⟨by omega,u,hu,rfl⟩) (v:=.c (.int .i64 ((min news.length len:Nat):Int))) (a:=qK (min news.length len)) (show _=_ from rfl) (aX.j7 lv sl Tp),h⟩;simp only[cF.run,<-hz,ea,hn,hrow,ir,bB];rw[ba ⟨trivial,hl,trivial⟩];simp[bK.splice,bD,sa,ut]
  grind
 .rename_i lv sl ak off n sz' _;obtain⟨Fi,u,hu,ea⟩:=ha;split at h
  .rename_i v cs he;have q:=lV hm h hb;clear h;obtain⟨nw,hn,h⟩:=q;split at h
   .rename_i hq;simp only[al]at hq;obtain⟨⟨⟨KY,To⟩,hl⟩,hz⟩:=hq;have KY:=am KY;have To:=am To;have hl:=fr hl;have hz:=am hz;subst KY To;obtain⟨e,g1,_,u',bs,g2,rfl,g3⟩:=hm.fE _ _ _ he;rw[hu]at g2;cases g2;have hst:fW B s2.mem (gK s2.mem [(lv,sl,some (.box v (bK.splice cs off ((nw.l.take (min nw.l.length n)).flatMap (jD nw.t)))))]):=fM (ks:=[]) (e:=.box _ _) trivial;have CI:aC (RC ρ B s2.mem) ((nw.l.take (min nw.l.length n)).flatMap (jD nw.t)) ((((bD nw.t nw.l).take (min (bD nw.t nw.l).length n)).flatten).map .d):=by rw[bB];unfold bD;rw[<-sa];exact GP _
    refine⟨_,_,λ_ _=>?_,.gX hm ht (B':=nx+1) (by omega) hst (fN (e:=.box u (bK.splice bs off ((((bD nw.t nw.l).take (min (bD nw.t nw.l).length n)).flatten).map .d))) ⟨by omega,u,_,hu,rfl,(zz g3 CI off).mono λ_ _=>RC.move hst (by omega) λ_ _=>rfl⟩) (v:=.c (.int .i64 ((min nw.l.length n:Nat):Int))) (a:=qK (min nw.l.length n)) (show _=_ from rfl) (aX.j7 lv sl Tp),h⟩;have asl:bK.j3 s.mem lv sl u=some bs:=by simp[bK.j3,g1,uk]
    simp only[cF.run,ea,hn,asl];rw[ba ⟨trivial,by rw[<-g3.length];exact hl,by rw[<-hz];exact ir _ _⟩,bB]
   grind
  grind
 grind
include cv in theorem DE{sz bytes:Nat}{z:List D}{l c:cu}(h:dm E wk ctx s2 row dst nx (.makeSlice sz bytes z l c) K=some r):eE ρ B (nx+1) s2 s (.makeSlice sz bytes z l c) row dst p K r:=by
 simp[dm]at h;have q:=mK h;clear h;obtain⟨kl,l',hl,hl0,h⟩:=q;have q:=mK h;clear h;obtain⟨kc,c',hc,hc0,h⟩:=q;have q:=aD h;clear h;obtain⟨t,_,h⟩:=q;have q:=aD h;clear h;obtain⟨z',Nc,h⟩:=q;obtain⟨zc,To,hz2⟩:=aV Nc;have hze:=qZ hz2 (q9 To);split at h;.rename_i hb;simp only[al]at hb;have h1:=am hb.1;have h2:=am hb.2;subst h1;have q:=cJ h;obtain⟨hr,h⟩:=q;rw[al]at hr;have hle:=du hr.1;have hr:=mL hr.2;rw[hm.len]at h;refine⟨_,_,λ_ _=>?_,.sj hm ht hB gz (ks:=[]) (l:=List.replicate l'.toNat z') (n:=l'.toNat) (els:=List.replicate l'.toNat z) (by simp[bD,hze]) (by simp) aX.nil,h⟩;simp only[cF.run,jG (bx cv hl) hl0,jG (bx cv hc) hc0];rw[ba ⟨hle,by rw[y0];exact hr.2,hr.1,h2⟩];simp[eW]
 grind
omit gz in include cv in theorem N1{sz:Nat}{z:List D}{x:cu}(h:dm E wk ctx s2 row dst nx (.clear sz z x) K=some r):eE ρ B (nx+1) s2 s (.clear sz z x) row dst p K r:=by
 have q:=cP h;obtain⟨a,ha,h⟩:=q;have ha:=bx cv ha;split at h
 .rename_i lv sl ak t _;have q:=aD h;obtain⟨r',hr',h⟩:=q;have q:=aD h;obtain⟨z',Nc,h⟩:=q;obtain⟨zc,To,hz2⟩:=aV Nc;have hze:=qZ hz2 (q9 To);split at h;.rename_i l hb hc1;simp only[al]at hb;have h1:=am hb.1;have h2:=am hb.2;obtain⟨hc1,ou⟩:=fO hc1;obtain⟨hv,u,n',hu,ea,hn'⟩:=ha;have hn':=hn' _ hr';rw[ou]at hn';subst hn';have hrow:=(jF hm hr' hu).2;rw[hc1]at hrow;have hst:fW B s2.mem (gK s2.mem [(lv,sl,some (.row ak t (List.replicate l.length z')))]):=fM (ks:=[]) (.inr ⟨_,hr',by simp[ou]⟩);refine⟨_,_,λ_ _=>?_,.gX hm ht (by omega) hst (fN (e:=.row u (bD t (List.replicate l.length z'))) ⟨by omega,u,hu,rfl⟩) nU (aX.j7 lv sl aX.nil),h⟩;simp only[cF.run,<-h1,ea,hrow,bB];rw[ba ⟨trivial,by omega,by rw[h2,h1]⟩];simp[bK.splice,bD,hze]
  grind
 .rename_i lv sl ak t off len _;have q:=aD h;obtain⟨r',hr',h⟩:=q;have q:=aD h;obtain⟨z',Nc,h⟩:=q;obtain⟨zc,To,hz2⟩:=aV Nc;have hze:=qZ hz2 (q9 To);split at h;.rename_i l hb hc1;simp only[al]at hb;have h1:=am hb.1;have h2:=am hb.2;obtain⟨hc1,ou⟩:=fO hc1;have q:=cJ h;obtain⟨hd,h⟩:=q;have hd:=du hd;obtain⟨hv,u,hu,ea,_⟩:=ha;have hrow:=(jF hm hr' hu).2;rw[hc1]at hrow;have hst:fW B s2.mem (gK s2.mem [(lv,sl,some (.row ak t (l.take off++List.replicate len z'++l.drop (off+len))))]):=fM (ks:=[]) (.inr ⟨_,hr',by simp[ou];omega⟩);refine⟨_,_,λ_ _=>?_,.gX hm ht (by omega) hst (fN (e:=.row u (bD t (l.take off++List.replicate len z'++l.drop (off+len)))) ⟨by omega,u,hu,rfl⟩) nU (aX.j7 lv sl aX.nil),h⟩;simp only[cF.run,<-h1,ea,hrow,bB];rw[ba ⟨trivial,hd,by rw[h2,h1]⟩];simp[bK.splice,bD,hze,sa,ut]
  grind
 grind
omit hm ht hB gz in theorem sk:∀l:List Int,tF (jr l)=some l|[]=>rfl|z::l=>by show(tF (jr l)).map (z::·)=_;rw[sk l];rfl
omit hm ht hB gz in theorem RV.ot{m:List (Tr E2)}{v:V2}{a:AV}(h:RV ρ B m v a):bK.ot a=v.ot:=by cases v with|c c=>exact RC.ot h|agg=>obtain⟨_,rfl,_⟩:=h;rfl|fG=>obtain⟨_,rfl,_⟩:=h;rfl|fk=>obtain⟨_,rfl,_⟩:=h;rfl
omit hm ht hB gz in theorem RN{m:List (Tr E2)}{row lv d aP:Nat}{v:V2}{a:AV}(h:RV ρ B m v a)(h1:∀f,v≠.c (.nil f))(h2:∀t l o,v≠.c (.sl t l o)):BP row lv d aP a={val:=a,dn:=[],cR:=[],rd:=[]}:=by
 unfold BP;split;.cases v with
  |c x=>cases x with|nil f=>grind|sl t l o=>grind|ref=>obtain⟨_,_,_,_,e,_⟩:=h<;>grind|kj=>obtain⟨_,_,_,e,_⟩:=h<;>grind|ptr=>obtain⟨_,_,_,e⟩:=h<;>grind|dx=>obtain⟨_,_,_,e⟩:=h<;>grind|mp=>obtain⟨_,_,_,e⟩:=h<;>grind|int=>cases h|bool=>cases h|er=>cases h|str=>cases h|raw=>cases h|eZ=>cases h
  |agg=>obtain⟨_,e,_⟩:=h<;>grind|fG=>obtain⟨_,e,_⟩:=h<;>grind|fk=>obtain⟨_,e,_⟩:=h<;>grind
 .rfl
include cv in theorem UI{x:cu}(h:dm E wk ctx s2 row dst nx (.JI x) K=some r):eE ρ B (nx+1) s2 s (.JI x) row dst p K r:=by
 have q:=aD h;obtain⟨v,hv,h⟩:=q;have hv:=bx cv hv;have hir:=RV.ot hv;split at h
 .rename_i hq;rw[<-hir]at hq;split at h
  .rename_i lv sl ak t _;have q:=aD h;obtain⟨r',hr',h⟩:=q;have q:=aD h;obtain⟨l,hl,h⟩:=q;obtain⟨hc1,ou⟩:=fO hl;obtain⟨Fi,u,n',hu,ea,hn'⟩:=hv;have hn':=hn' _ hr';rw[ou]at hn';subst hn';have hrow:=(jF hm hr' hu).2;rw[hc1]at hrow;rw[hm.len]at h;have hst:fW B s2.mem (gK s2.mem [(lv,sl,none),(gZ s.mem.length dst,dst,some (.row nx t l))]):=fM (ks:=[(lv,sl)]) (e:=.row nx t l) (.inl hB);refine⟨_,_,λ_ _=>?_,.gX hm ht (B':=nx+1) (IM:=[(lv,sl,none),(gZ s.mem.length dst,dst,some (.row nx t l))]) (us:=[(lv,sl,none),(gZ s.mem.length dst,dst,some (.row p (bD t l)))]) (by omega) hst ⟨⟨rfl,rfl,λ_ h=>by cases h⟩,fN ⟨wt _,p,gz,rfl⟩⟩ (v:=.c (.ref (gZ s.mem.length dst) dst nx t)) (a:=.ref (gZ s.mem.length dst) dst p 0 l.length t.size) (show RC _ _ _ (.ref (gZ s.mem.length dst) dst nx t) _ from⟨wt _,p,l.length,gz,rfl,λr hr=>?_⟩) (aX.j7 lv sl aX.nil),h⟩;.rw[ea]at hq;simp only[cF.run,hq,ea,JO,hrow,jn,bB,List.drop_zero];rw[show Nat.ble l.length l.length=true from ml (bc _),<-bB (t:=t) (l:=l),f4];simp[bB]
   .have this:=cW hr;simp[gK]at this;rw[lC]at this;split at this;.injection this with this;injection this with _ h1 h2;obtain⟨t',l'⟩:=r;simp only at h1 h2;subst h1;cases h2;rfl
    .have h1:=s9 (ij.2 this);obtain⟨e,_,hlt,_⟩:=hm.fE _ _ _ (cW h1);omega
  grind
 rename_i hq;rw[<-hir]at hq;split at h;.rename_i hq4;refine .pure hm ht (by omega) (λ_ _=>?_) hv h;simp[cF.run,hq,BP,hq4];rfl
 .rename_i hq4;split at h
  .have e:x.ev s.slots=.own [] .full:=hv;have q:=aD h;obtain⟨t,_,h⟩:=q;split at h;.rename_i hsz;have hsz:=am hsz;rw[hm.len]at h;refine⟨_,_,λ_ _=>?_,.sj hm ht hB gz (ks:=[]) (l:=([]:List t.den)) (n:=0) (els:=[]) rfl rfl aX.nil,h⟩;rw[e]at hq;simp[cF.run,BP,hq,hq4,e,hsz];rfl
   grind
  .cases h
  .cases h
  .rename_i h1 h2 h3;refine .pure hm ht (by omega) (λ_ _=>?_) hv h;simp[cF.run,hq];rw[RN hv (λf hf=>h2 f hf) (λt l o hf=>h3 t l o hf)];rfl
include cv in theorem IT{x:cu}(h:dm E wk ctx s2 row dst nx (.compact x) K=some r):eE ρ B (nx+1) s2 s (.compact x) row dst p K r:=by
 have q:=cP h;obtain⟨a,ha,h⟩:=q;have ha:=bx cv ha;split at h;.have e:x.ev s.slots=.own [] .full:=ha;refine .pure hm ht (by omega) (a:=.own [] .full) (λ_ _=>?_) (v:=.c (.nil true)) rfl h;simp[cF.run,nF,e,cf];rfl
 .rename_i lv sl ak t _;have q:=aD h;obtain⟨r',hr',h⟩:=q;split at h;.rename_i l hb hc1;have h1:=am hb;obtain⟨hc1,ou⟩:=fO hc1;have q:=cJ h;obtain⟨hd,h⟩:=q;obtain⟨hv,u,n',hu,ea,hn'⟩:=ha;have hn':=hn' _ hr';rw[ou]at hn';subst hn';have hrow:=(jF hm hr' hu).2;rw[hc1]at hrow;refine⟨_,_,λ_ _=>?_,.sj hm ht hB gz (ks:=[]) (t:=.int .i64) (l:=j5 l) (n:=(j5 l).length) (els:=bD (.int .i64) (j5 l)) rfl rfl (aX.j7 lv sl aX.nil),h⟩;have he:bD (.int .i64) l=jr l:=rfl;simp only[cF.run,nF,ea,hrow,he,sk,ae,h1];rw[ba ⟨trivial,by simp[jr],trivial,by simpa[jr]using hd⟩];rfl
  grind
 grind
omit gz in include cv in theorem RO{x:cu}(h:dm E wk ctx s2 row dst nx (.sort x) K=some r):eE ρ B (nx+1) s2 s (.sort x) row dst p K r:=by
 have q:=cP h;obtain⟨a,ha,h⟩:=q;have ha:=bx cv ha;split at h;.have e:x.ev s.slots=.own [] .full:=ha;exact⟨_,_,λ_ _=>by simp only[cF.run,Au,e,cf],.gX (IM:=[]) (us:=[]) hm ht (by omega) (fW.refl _ _) trivial nU aX.nil,h⟩
 .rename_i lv sl ak t _;have q:=aD h;obtain⟨r',hr',h⟩:=q;split at h;.rename_i l hb hc1;have h1:=am hb;obtain⟨hc1,ou⟩:=fO hc1;have q:=cJ h;obtain⟨hd,h⟩:=q;obtain⟨hv,u,n',hu,ea,hn'⟩:=ha;have hn':=hn' _ hr';rw[ou]at hn';subst hn';have hrow:=(jF hm hr' hu).2;rw[hc1]at hrow;have hst:fW B s2.mem (gK s2.mem [(lv,sl,some (.row ak (.int .i64) (j4 l)))]):=fM (ks:=[]) (.inr ⟨_,hr',by rw[ou];exact(oE l).symm⟩);refine⟨_,_,λ_ _=>?_,.gX hm ht (by omega) hst (fN (e:=.row u (bD (.int .i64) (j4 l))) ⟨by omega,u,hu,rfl⟩) nU (aX.j7 lv sl aX.nil),h⟩;have he:bD (.int .i64) l=jr l:=rfl;simp only[cF.run,Au,ea,hrow,he,sk,ae,h1];rw[ba ⟨trivial,by simp[jr],trivial,by simpa[jr]using hd⟩];rfl
  grind
 grind
include cv in theorem RP{sz:Nat}{x n:cu}(h:dm E wk ctx s2 row dst nx (.grow sz x n) K=some r):eE ρ B (nx+1) s2 s (.grow sz x n) row dst p K r:=by
 have q:=cP h;obtain⟨a,ha,h⟩:=q;have q:=mK h;clear h;obtain⟨kn,n',hn,hn0,h⟩:=q;have ha:=bx cv ha;split at h
 .rename_i t AR _;split at h;.rename_i hz;have hz:=am hz;have ea:x.ev s.slots=_:=ha;refine⟨_,_,λ_ _=>?_,.DD hm hB gz (l:=([]:List t.den)) (els:=[]) rfl aX.nil (ht.fresh hB gz) (aX.DC gz aX.nil),h⟩;simp[cF.run,ea,jG (bx cv hn) hn0,hz]
  grind
 grind
omit ht hB gz in include cv in theorem K0{sz:Nat}:∀{ps:List (Nat×cu)}{zh P3:List (List Cell)}{els:List (List D)}{ks:List (Nat×Nat)},De s2 sz zh ps=some (P3,ks)->aC (λc d=>cI c=some d) zh els->∃els',qM s.mem s.slots sz els ps=some (els',ks)/\aC (λc d=>cI c=some d) P3 els'
 |[],zh,P3,els,ks,h,ha=>by cases h;exact⟨els,rfl,ha⟩|(i,x)::ps,zh,P3,els,ks,h,ha=>by
  simp[De]at h;split at h
  .rename_i e k hn;obtain⟨cs,h1,h2⟩:=aV hn;obtain⟨v,hv,h3⟩:=aV h1;obtain⟨aK,g1,g2⟩:=yo h3 (bx cv hv);obtain⟨ds,g3,g4⟩:=NR hm h2 g2;split at h
   .rename_i hb;rw[al]at hb;have hz:=am hb.1;have hi:i<zh.length:=by simp_all
    split at h
    .rename_i els' ks' h4;cases h;have ha':aC (λc d=>cI c=some d) (zh.set i e) (els.set i ds):=by
      refine .tH (by simp[ha.length]) λj c d hc hd=>?_;rw[oi]at hc hd;by_cases hij:i=j;.grind
      .rw[be hij]at hc hd;obtain⟨d',g5,g6⟩:=ha.get j c hc<;>grind
     obtain⟨aeu,g5,g6⟩:=K0 h4 ha';refine⟨aeu,?_,g6⟩;simp only[qM,FH,g1,ae,g3];rw[ba ⟨by rw[qE g4];exact hz,by rw[<-ha.length];exact hi⟩,g5]
    grind
   grind
  grind
omit hm ht hB gz in theorem zC{t:Ty}:∀{zh:List (List Cell)}{els:List (List D)}{l:List t.den},Df t zh=some l->aC (λc d=>cI c=some d) zh els->els=bD t l
 |[],[],l,h,_=>by cases h;rfl|c::r,d::ds,l,h,ha=>by
  simp[Df]at h;split at h;.rename_i x xs h1 h2;cases h;rw[qZ h1 ha.1,zC h2 ha.2];rfl
  grind|[],_::_,_,_,h=>h.elim|_::_,[],_,_,h=>h.elim
omit hm ht hB gz in theorem uu{β γ:Type}{R:β->γ->Prop}{x:β}{y:γ}(h:R x y):∀n,aC R (List.replicate n x) (List.replicate n y)|0=>trivial|n+1=>⟨h,uu h n⟩
include cv in theorem BW{sz n:Nat}{z:List D}{ps:List (Nat×cu)}(h:dm E wk ctx s2 row dst nx (.buildSlice sz n z ps) K=some r):eE ρ B (nx+1) s2 s (.buildSlice sz n z ps) row dst p K r:=by simp[dm]at h;cases qA:Nat.beq row 2with|true=>
  rw[qA]at h;simp at h;split at h;.cases h
  rename_i hn;obtain⟨cs,hcs,h⟩:=aD h;obtain⟨zc,hzc,hcs⟩:=aV hcs;have vZ:∀k:Nat,aC (RC ρ B s2.mem) (List.replicate k zc).flatten ((List.replicate k z).flatten.map .d):=by intro k;induction k with|zero=>trivial|succ k ih=>simp only[pt,ph,f9];exact(KN hzc).append ih
  obtain⟨aK,g1,g2⟩:=Dy cv hcs (vZ n);have hst:fW B s2.mem (gK s2.mem [(gZ s2.mem.length dst,dst,some (.box nx cs))]):=fM (ks:=[]) (e:=.box nx cs) trivial;refine⟨_,_,λ_ _=>?_,.gX hm ht (B':=nx+1) (by omega) hst (fN (e:=.box p aK) ⟨by omega,p,aK,gz,rfl,g2.mono λ_ _=>RC.move hst (by omega) λ_ _=>rfl⟩) (v:=.c (.dx (gZ s2.mem.length dst) dst nx 0 n sz)) (a:=.dx (gZ s2.mem.length dst) dst p 0 n sz) ⟨by omega,p,gz,rfl⟩ aX.nil,h⟩;simp only[cF.run,qA,hn,g1,hm.len,cf]|false=>
 rw[qA]at h;have q:=aD h;obtain⟨t,_,h⟩:=q;have q:=aD h;obtain⟨zc,hzc,h⟩:=q;have q:=aD h;obtain⟨⟨zh,ks⟩,hf,h⟩:=q;obtain⟨els,g1,g2⟩:=K0 hm cv hf (uu (R:=λc d=>cI c=some d) (q9 hzc) n);split at h
 .rename_i l hz hp;have hz:=am hz;have he:=zC hp g2;have hlen:n=l.length:=by
   have h1:=g2.length;have h2:∀{ps:List (Nat×cu)}{a b:List (List Cell)}{ks:List (Nat×Nat)},De s2 sz a ps=some (b,ks)->b.length=a.length:=by intro ps;induction ps with|nil=>intro a b ks h;simp[De,dT,eJ]at h;rw[h.1]|cons q ps ih=>intro a b ks h;simp[De]at h<;>grind
   have:=h2 hf;simp at this;rw[<-this,h1,he,bB]
  split at h;.rename_i hrow;refine⟨_,_,λ_ _=>?_,.gX hm ht (by omega) (r9 (ks:=ks)) (jI (m:=s.mem)) (v:=.c (.sl t l .full)) (a:=.own els .full) (show _=_ by rw[he]) (aX.jy ks),h⟩;simp[cF.run,qA,g1,hrow]
  .rename_i hrow;split at h;.cases h
   .rename_i hk;rw[hm.len]at h hk;refine⟨_,_,λ_ _=>?_,.sj hm ht hB gz (ks:=ks) (l:=l) (n:=n) (els:=els) he hlen (aX.jy ks),h⟩;simp only[cF.run,qA,g1,hrow];rw[be (yq hk),hz]
 grind
end
section
variable{α:Type}{ρ:bH}{B B':Nat}{s2:S2}{s:St}{row dst p nx:Nat}{K:iJ->Option α}{r:α}{E:ah}{wk:Wk}{ctx:Nat}
def Ba:∀l:List Int,bytesOf (bD (.int .u8) l)=some (l.map λn=>UInt8.ofNat n.toNat)|[]=>rfl|n::l=>by have ih:=Ba l;show(bytesOf (bD (.int .u8) l)).map _=_;grind
def UJ{m:List (Tr bq)}{a:AV}{x els:List (List D)}(h:gW m a=some x)(he:dL m a=some els):x=els:=by unfold gW at h<;>grind[dL,gW]
def K1{m2:List (Tr E2)}{m:List (Tr bq)}(hm:MR ρ B m2 m){lv sl ak u:Nat}{l:List (List UInt8)}(h:PG m2 lv sl ak=some l)(hu:ρ ak=some u):jY m2 lv sl=some (.set ak l)/\setAt m lv sl u=some l:=by
 unfold PG at h;split at h
 .rename_i v l' hg;split at h;.subst_vars;obtain⟨e,g1,_,u',g2,rfl⟩:=hm.fE _ _ _ hg<;>simp_all[bH,setAt,jY]
  grind
 grind
variable(hm:MR ρ B s2.mem s.mem)(ht:TR ρ B s2.aI s.aI)(cv:wG ρ B s2.mem s2.slots s.slots)(hB:B<=nx)(gz:ρ nx=some p)
include hm ht hB cv
theorem UK{x:cu}(h:dm E wk ctx s2 row dst nx (.b2s x) K=some r):eE ρ B (nx+1) s2 s (.b2s x) row dst p K r:=by
 have q:=cP h;obtain⟨c,hc,h⟩:=q;have hc:=bx cv hc;split at h;.cases h
 .rename_i hne;obtain⟨els,he⟩:=GO hm h hc (λb' e=>hne b' e);obtain⟨n,h1,h⟩:=lV hm h hc;obtain⟨l,hl,h⟩:=aD h;have hx:=UJ h1 he;subst hx;obtain⟨t,l0⟩:=n;obtain⟨e1,e2⟩:=Dr hl;cases e1;subst e2;refine⟨_,_,λ_ _=>?_,.zy hm ht (by omega) (v:=.c (.str (l.map λ(n:Int)=>UInt8.ofNat n.toNat))) (a:=nC (.string (od (l.map λ(n:Int)=>UInt8.ofNat n.toNat)))) rfl (vq hc),h⟩;simp[cF.run,he,ae,Ba,cf]
theorem UL{x:cu}(h:dm E wk ctx s2 row dst nx (.s2b x) K=some r):eE ρ B (nx+1) s2 s (.s2b x) row dst p K r:=by
 simp[dm]at h;split at h
 .rename_i b hx;have e:x.ev s.slots=_:=bx cv hx;refine .pure (a:=.d (.sl (b.map λ(c:UInt8)=>[.sc (.int .u8 (c.toNat:Int))]))) hm ht (by omega) (λ_ _=>?_) (v:=.c (.sl (.int .u8) (bN b) .d)) (show RC ρ B s2.mem (.sl (.int .u8) (bN b) .d) (.d (.sl (b.map λ(c:UInt8)=>[.sc (.int .u8 (c.toNat:Int))])))from .inl ?_) h;.simp[cF.run,e]
  .simp[bD,bN,fu,px,Function.comp_def]
 grind
include gz in omit cv in theorem N2(h:dm E wk ctx s2 row dst nx .mkSet K=some r):eE ρ B (nx+1) s2 s .mkSet row dst p K r:=by simp[dm]at h;rw[hm.len]at h;have hst:fW B s2.mem (gK s2.mem [(gZ s.mem.length dst,dst,some (.set nx []))]):=fM (ks:=[]) (e:=.set nx []) trivial;exact⟨_,_,λ_ _=>rfl,.gX hm ht (B':=nx+1) (by omega) hst (fN (e:=.mp p []) ⟨by omega,p,gz,rfl⟩) (v:=.c (.mp (gZ s.mem.length dst) dst nx)) (a:=.mp (gZ s.mem.length dst) dst p) (show RC ρ (nx+1) (gK s2.mem [(gZ s.mem.length dst,dst,some (.set nx []))]) (.mp (gZ s.mem.length dst) dst nx) _ from⟨wt _,p,gz,rfl⟩) aX.nil,h⟩
theorem RQ{x y:cu}(h:dm E wk ctx s2 row dst nx (.JK x y) K=some r):eE ρ B (nx+1) s2 s (.JK x y) row dst p K r:=by
 simp[dm]at h;split at h;.rename_i lv sl ak b hx hy;obtain⟨l,hl,h⟩:=aD h;obtain⟨hv,u,hu,ex⟩:=bx cv hx;have ey:y.ev s.slots=_:=bx cv hy;obtain⟨_,g⟩:=K1 hm hl hu;refine⟨_,_,λ_ _=>?_,.zy hm ht (by omega) (v:=.c (.bool (hasB l b))) (a:=nC (.bool (hasB l b))) rfl (aX.j7 lv sl aX.nil),h⟩;simp[cF.run,ex,ey,g,cf]
 grind
theorem RR{x y:cu}(h:dm E wk ctx s2 row dst nx (.JL x y) K=some r):eE ρ B (nx+1) s2 s (.JL x y) row dst p K r:=by
 simp[dm]at h;split at h;.rename_i lv sl ak b hx hy;obtain⟨l,hl,h⟩:=aD h;obtain⟨hv,u,hu,ex⟩:=bx cv hx;have ey:y.ev s.slots=_:=bx cv hy;obtain⟨_,g⟩:=K1 hm hl hu;have hst:fW B s2.mem (gK s2.mem [(lv,sl,some (.set ak (tD l b)))]):=fM (ks:=[]) (e:=.set ak (tD l b)) trivial;refine⟨_,_,λ_ _=>?_,.gX hm ht (B':=nx+1) (by omega) hst (fN (e:=.mp u (tD l b)) ⟨by omega,u,hu,rfl⟩) nU (aX.j7 lv sl aX.nil),h⟩;simp[cF.run,ex,ey,g,cf]
 grind
end
end Go.Sym
