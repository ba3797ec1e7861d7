/- A part of the proof: SymC, SymD. -/
import Derived.Test.YtdogilonhnbapaaGreatDoorSymB
import Derived.Laws.Strings
set_option linter.unusedVariables false
set_option linter.unusedSimpArgs false
namespace Go.Sym
open Go Go.bI
section
variable{ρ:aZ}{B:Nat}{m2:List (Tr E2)}{m:List (Tr bC)}
theorem az{α β:Type}{o:Option β}{k:β->Option α}{r:α}(h:bN o k=some r):∃x,o=some x/\k x=some r:=by cases o with|none=>cases h|some x=>exact⟨x,rfl,h⟩
theorem cl{α:Type}{b:Bool}{k:Option α}{r:α}(h:aE b k=some r):b=true/\k=some r:=by grind[aE]
theorem bind_some{α β:Type}{o:Option β}{k:β->Option α}{r:α}(h:Option.bind o k=some r):∃x,o=some x/\k x=some r:=by cases o with|none=>cases h|some x=>grind
theorem cv{α:Type}{v:Option V2}{k:Cell->Option α}{r:α}(h:iL v k=some r):∃x,v=some (.c x)/\k x=some r:=by unfold iL at h<;>grind
theorem tJ{α:Type}{v:Option V2}{k:Int->Option α}{r:α}(h:Pd v k=some r):∃kd n,v=some (.c (.int kd n))/\k n=some r:=by unfold Pd at h<;>grind
theorem lg{α:Type}{v:Option V2}{k:Nat->Option α}{r:α}(h:Gh v k=some r):∃kd n,v=some (.c (.int kd n))/\0<=n/\k n.toNat=some r:=by obtain⟨kd,n,h1,h2⟩:=tJ h;grind[aE,Gh]
theorem qx{α:Type}{v:Option V2}{k:Bool->Option α}{r:α}(h:vT v k=some r):∃b,v=some (.c (.bool b))/\k b=some r:=by unfold vT at h<;>grind
theorem NM(v:Value):RC ρ B m2 (acg v) (.d (.sc v)):=by cases v<;>first|rfl|exact rfl
theorem NN{x:AV}{c:Cell}(h:Ww x=some c):RC ρ B m2 c x:=by
 unfold Ww at h;split at h;.cases h;exact NM _
 .cases h;rfl
 grind
theorem vX:∀{l:List AV}{cs:List Cell},Bn l=some cs->aC (RC ρ B m2) cs l
 |[],cs,h=>by cases h;trivial|x::r,cs,h=>by
  simp[Bn]at h;split at h;.rename_i y ys h1 h2;cases h;exact⟨NN h1,vX h2⟩
  grind
theorem WH{x:AV}{v:V2}(h:ach x=some v):RV ρ B m2 v x:=by
 unfold ach at h;split at h;.obtain⟨cs,h1,rfl⟩:=aN h;exact⟨_,rfl,vX h1⟩
 .cases h;exact⟨[],rfl,trivial⟩
 .cases h;exact⟨[],rfl,trivial⟩
 .obtain⟨c,h1,rfl⟩:=aN h;exact NN h1
theorem WI{x:D}{c:Cell}(h:Wx x=some c):RC ρ B m2 c (.d x):=by
 unfold Wx at h;split at h;.cases h;exact NM _
 .cases h;exact .inl rfl
 grind
theorem IT:∀{l:List D}{cs:List Cell},sr l=some cs->aC (RC ρ B m2) cs (l.map .d)
 |[],cs,h=>by cases h;trivial|x::r,cs,h=>by
  simp[sr]at h;split at h;.rename_i y ys h1 h2;cases h;exact⟨WI h1,IT h2⟩
  grind
theorem pR:∀{l:List D}{cs:List Cell},sr l=some cs->ck cs=some l
 |[],cs,h=>by cases h;rfl|x::r,cs,h=>by
  simp[sr]at h;split at h
  .rename_i y ys h1 h2;cases h;have:mO y=some x:=by
    unfold Wx at h1;split at h1;.rename_i v;cases h1;cases v<;>rfl
    .cases h1;rfl
    grind
   simp[ck,this,pR h2]
  grind
theorem aW{s2:S2}{sl:Tr AV}(hs:uJ ρ B m2 s2.slots sl){x:bZ}{v:V2}(h:jd s2 x=some v):RV ρ B m2 v (x.ev sl):=by cases x with|t n=>exact hs n v h|c a=>exact WH h
theorem oB{s2:S2}{sl:Tr AV}(hs:uJ ρ B m2 s2.slots sl):∀{l:List bZ}{vs:List V2},Gg s2 l=some vs->aC (RV ρ B m2) vs (HV sl l)
 |[],vs,h=>by cases h;trivial|x::r,vs,h=>by
  simp[Gg]at h;split at h;.rename_i y ys h1 h2;cases h;exact⟨aW hs h1,oB hs h2⟩
  grind
theorem RC.cell{c:Cell}{a:AV}(h:RC ρ B m2 c a):cellsOf a=some [a]/\lP a=true/\fL a=true:=by cases c with
 |nil f=>cases f with|true=>cases h;exact⟨rfl,rfl,rfl⟩|false=>rcases h with rfl|⟨o,_,rfl⟩<;>exact⟨rfl,rfl,rfl⟩
 |sl t l o=>cases o with|app v=>rcases h with⟨_,⟨_,rfl⟩|⟨u,_,rfl⟩⟩<;>exact⟨rfl,rfl,rfl⟩|d=>rcases h with rfl|⟨o,_,rfl⟩<;>exact⟨rfl,rfl,rfl⟩|full=>cases h;exact⟨rfl,rfl,rfl⟩|bA=>rcases h with rfl|⟨o,rfl⟩<;>exact⟨rfl,rfl,rfl⟩
 |ref lv sl ai t=>obtain⟨_,u,n,_,rfl,_⟩:=h;exact⟨rfl,rfl,rfl⟩|jz lv sl ai t off len=>obtain⟨_,u,_,rfl,_⟩:=h;exact⟨rfl,rfl,rfl⟩|ptr lv sl ai i off=>obtain⟨_,u,_,rfl⟩:=h;exact⟨rfl,rfl,rfl⟩|ff lv sl ai off n sz=>obtain⟨_,u,_,rfl⟩:=h;exact⟨rfl,rfl,rfl⟩|mp lv sl ai=>obtain⟨_,u,_,rfl⟩:=h;exact⟨rfl,rfl,rfl⟩|_=>cases h;exact⟨rfl,rfl,rfl⟩
theorem vY{v:V2}{a:AV}{cs:List Cell}(h:V2.cells? v=some cs)(hv:RV ρ B m2 v a):∃aJ,cellsOf a=some aJ/\aC (RC ρ B m2) cs aJ:=by cases v with|c x=>cases h;exact⟨[a],(RC.cell hv).1,hv,trivial⟩|agg l=>cases h;obtain⟨aJ,rfl,h2⟩:=hv;exact⟨aJ,rfl,h2⟩|_=>cases h
theorem BE{agg:Bool}{cs:List Cell}{aJ:List AV}{v:V2}(h:Bp agg cs=some v)(hc:aC (RC ρ B m2) cs aJ):∃a,gH agg aJ=some a/\RV ρ B m2 v a:=by cases agg with|true=>cases h;exact⟨_,rfl,aJ,rfl,hc⟩|false=>
 simp[Bp]at h;split at h;.cases h;match aJ,hc with|[a],hc=>exact⟨a,rfl,hc.1⟩
 grind
theorem jS(m:List (Tr E2))(lv sl cG dF:Nat)(e:Option E2):iD (Bo m lv sl e) cG dF=if lv=cG/\sl=dF/\lv<m.length then e else iD m cG dF:=by
 unfold iD Bo;rw[List.getElem?_modify];by_cases h:lv=cG;.subst h;cases hm:m[lv]?with|none=>grind|some t=>
  have:lv<m.length:=by grind
  simp[Tr.cz,this]
 grind
theorem sA(m:List (Tr E2))(lv sl:Nat)(e:Option E2):(Bo m lv sl e).length=m.length:=by simp[Bo]
theorem lT(m:List (Tr bC))(lv sl:Nat)(e:Option bC):(cj m lv sl e).length=m.length:=by simp[cj]
theorem y9:∀(l:List (Nat×Nat×Option E2))(m:List (Tr E2)),(fo m l).length=m.length|[],_=>rfl|(lv,sl,e)::r,m=>by rw[fo,y9 r,sA]
theorem dc:∀(l:List (Nat×Nat×Option bC))(m:List (Tr bC)),(bz m l).length=m.length|[],_=>rfl|(lv,sl,e)::r,m=>by rw[bz,dc r,lT]
def OE(ρ:aZ)(B:Nat)(m:List (Tr E2))(x:Option E2)(y:Option bC):Prop:=∀e2,x=some e2->∃e,y=some e/\RE ρ B m e2 e
def Pk(ρ:aZ)(B:Nat)(m:List (Tr E2))(x:Nat×Nat×Option E2)(y:Nat×Nat×Option bC):Prop:=x.1=y.1/\x.2.1=y.2.1/\OE ρ B m x.2.2 y.2.2
theorem NO{B':Nat}{mf:List (Tr E2)}:∀{Gp:List (Nat×Nat×Option E2)}{us:List (Nat×Nat×Option bC)}{m2:List (Tr E2)}{m:List (Tr bC)},aC (Pk ρ B' mf) Gp us->m2.length=m.length->(∀lv sl,OE ρ B' mf (iD m2 lv sl) (aK m lv sl))->∀lv sl,OE ρ B' mf (iD (fo m2 Gp) lv sl) (aK (bz m us) lv sl)|[],[],_,_,_,_,h=>h|(lv2,sl2,e2)::r2,(lv,sl,e)::r,m2,m,hu,hl,h=>by obtain⟨⟨h1,h2,h3⟩,hr⟩:=hu;subst h1 h2;refine NO (m2:=Bo m2 lv2 sl2 e2) (m:=cj m lv2 sl2 e) hr (by rw[sA,lT,hl]) λcG dF=>?_;rw[jS,cr,hl]<;>grind|[],_::_,_,_,hu,_,_=>hu.elim|_::_,[],_,_,hu,_,_=>hu.elim
theorem MR.cX{B':Nat}{Gp:List (Nat×Nat×Option E2)}{us:List (Nat×Nat×Option bC)}(h:MR ρ B m2 m)(hB:B<=B')(hst:eE B m2 (fo m2 Gp))(hu:aC (Pk ρ B' (fo m2 Gp)) Gp us):MR ρ B' (fo m2 Gp) (bz m us):=by refine⟨by rw[y9,dc,h.len],λlv sl e2 he=>NO hu h.len (λlv sl e2 he=>?_) lv sl e2 he⟩;obtain⟨e,h1,h2⟩:=h.eV lv sl e2 he;exact⟨e,h1,RE.mono hB (λ_ _=>rfl) (λ_ _=>RC.move hst hB λ_ _=>rfl) h2⟩
theorem cC{lv sl ai:Nat}{r:SL}(h:rowOf m2 lv sl ai=some r):iD m2 lv sl=some (.row ai r.t r.l):=by
 unfold rowOf at h;split at h
 .split at h;.cases h<;>simp_all
  grind
 grind
theorem gw{lv sl ai:Nat}{r:SL}:rowOf m2 lv sl ai=some r↔iD m2 lv sl=some (.row ai r.t r.l):=by refine⟨cC,λh=>?_⟩<;>simp_all[iD,rowOf]
theorem sB(n:Nat):Nat.beq n n=true:=by simp
theorem iM(hm:MR ρ B m2 m){lv sl ai u:Nat}{r:SL}(h:rowOf m2 lv sl ai=some r)(hu:ρ ai=some u):aK m lv sl=some (.row u (bf r.t r.l))/\bI.rowAt m lv sl u=some (bf r.t r.l):=by obtain⟨e,h1,_,u',h2,rfl⟩:=hm.eV _ _ _ (cC h);unfold bI.rowAt<;>simp_all
theorem IU(hm:MR ρ B m2 m){lv sl ai u:Nat}{r:SL}(h:rowOf m2 lv sl ai=some r)(hu:ρ ai=some u):bI.qV m lv sl u=some (bf r.t r.l):=by have h1:=(iM hm h hu).1<;>simp_all[rowOf,aZ,bf,qV]
theorem aY(t:Ty)(l:List t.den):(bf t l).length=l.length:=by simp[bf]
theorem gx(t:Ty)(l:List t.den):(bf t l).all (λe=>e.length==t.size)=true:=by simp[bf,List.all_eq_true,ez]
theorem BF(t:Ty)(l:List t.den)(i:Nat):(bf t l)[i]?=(l[i]?).map (eX t):=by simp[bf]
theorem mc(t:Ty)(l l':List t.den):bf t (l++l')=bf t l++bf t l':=by simp[bf]
theorem lV(hm:MR ρ B m2 m){lv sl ai:Nat}{t:Ty}{r:SL}{a:AV}(h:RC ρ B m2 (.ref lv sl ai t) a)(hr:rowOf m2 lv sl ai=some r):dm m a=some (bf r.t r.l):=by obtain⟨_,u,n,hu,rfl,hn⟩:=h;have:=IU hm hr hu;simp[dm,this,Option.bind_some];rw[hn r hr];simp[aY,List.take_of_length_le]
theorem jA(hm:MR ρ B m2 m){lv sl ai off len:Nat}{t:Ty}{r:SL}{a:AV}(h:RC ρ B m2 (.jz lv sl ai t off len) a)(hr:rowOf m2 lv sl ai=some r)(hl:off+len<=r.l.length):dm m a=some (bf r.t ((r.l.drop off).take len)):=by obtain⟨_,u,hu,rfl,_⟩:=h;have:=IU hm hr hu<;>simp_all[rowOf,aZ,Ty.den,bf,Ty.size,dm]
theorem gI{t:Ty}{l:List t.den}{o:Ow}{a:AV}(h:RC ρ B m2 (.sl t l o) a):dm m a=some (bf t l)/\(a=.d (.sl (bf t l))\/∃o',a=.own (bf t l) o')/\(o≠.bA->a=.d (.sl (bf t l))\/∃o',o'≠.bA/\a=.own (bf t l) o'):=by cases o with|app v=>rcases h with⟨_,⟨_,rfl⟩|⟨u,_,rfl⟩⟩<;>exact⟨rfl,.inr ⟨_,rfl⟩,λ_=>.inr ⟨_,by simp,rfl⟩⟩|d=>rcases h with rfl|⟨o,ho,rfl⟩<;>simp_all[RC,Ty.den,aZ,bf,dm]|full=>simp_all[RC,Ty.den,aZ,bf,dm]|bA=>rcases h with rfl|⟨o,rfl⟩<;>simp_all[RC,Ty.den,aZ,bf,dm]
theorem gq{f:Bool}{a:AV}(h:RC ρ B m2 (.nil f) a):dm m a=some []/\(a=.d (.sl [])\/∃o',o'≠.bA/\a=.own [] o'):=by cases f with|true=>simp_all[RC,aZ,dm]|false=>rcases h with rfl|⟨o,ho,rfl⟩<;>simp_all[RC,aZ,dm]
theorem NP{els:List (List D)}{o:Rm}(h:o≠.bA):zS m (.own els o)=some (.sl els,[]):=by cases o with|bA=>grind|_=>rfl
theorem WJ(hm:MR ρ B m2 m){c c':Cell}{a:AV}{ks:List (Nat×Nat)}(h:Lj m2 c=some (c',ks))(hc:RC ρ B m2 c a):∃d,zS m a=some (d,ks)/\mO c'=some d:=by
 unfold Lj at h;split at h;.cases h<;>simp_all[RC,aZ,mO,zS]
 .cases h<;>simp_all[RC,aZ,mO,zS]
 .cases h<;>simp_all[RC,aZ,mO,zS]
 .cases h<;>simp_all[RC,aZ,mO,zS]
 .cases h;rcases(gq (m:=m) hc).2with rfl|⟨o,ho,rfl⟩;.exact⟨_,rfl,rfl⟩
  .exact⟨_,NP ho,rfl⟩
 .cases h
 .rename_i t l o hne;cases h;rcases(gI (m:=m) hc).2.2 (λe=>hne e)with rfl|⟨o',ho,rfl⟩;.exact⟨_,rfl,rfl⟩
  .exact⟨_,NP ho,rfl⟩
 .split at h;.rename_i r hr;cases h;have he:=lV hm hc hr;obtain⟨_,u,n,hu,rfl,hn⟩:=hc;refine⟨.sl (bf r.t r.l),?_,rfl⟩;simp[zS,he,Option.map_some]
  grind
 .rename_i lv sl ai t off len;split at h;.rename_i r hr;cases h;have he:=jA hm hc hr (hc.2.choose_spec.2.2 r hr);obtain⟨_,u,hu,rfl,hn⟩:=hc;refine⟨.sl (bf r.t ((r.l.drop off).take len)),?_,rfl⟩;simp[zS,he,Option.map_some]
  grind
 grind
theorem Lr(hm:MR ρ B m2 m):∀{cs cs':List Cell}{aJ:List AV}{ks:List (Nat×Nat)},lZ m2 cs=some (cs',ks)->aC (RC ρ B m2) cs aJ->∃ds,Dc m aJ=some (ds,ks)/\ck cs'=some ds
 |[],cs',aJ,ks,h,ha=>by match aJ,ha with|[],_=>cases h;exact⟨[],rfl,rfl⟩
 |c::r,cs',aJ,ks,h,ha=>by match aJ,ha with
  |a::aJ,⟨ha,hr⟩=>
   simp[lZ]at h;split at h;.rename_i y k ys k' h1 h2;cases h;obtain⟨d,g1,g2⟩:=WJ hm h1 ha;obtain⟨ds,g3,g4⟩:=Lr hm h2 hr;exact⟨d::ds,by simp only[Dc,g1,g3],by simp only[ck,g2,g4]⟩
   grind
theorem ko{α:Type}(hm:MR ρ B m2 m){x:Cell}{a:AV}{e:Option Ty}{K:SL->Option α}{r:α}(h:ou m2 x e K=some r)(hx:RC ρ B m2 x a):∃n,gi m a=some (bf n.t n.l)/\K n=some r:=by
 have key:∀{a:AV}{els:List (List D)},dm m a=some els->(∀b,a≠.d (.sc (.string b)))->gi m a=some els:=by simp_all[RC,ou,aZ,gi,dm]
 unfold ou at h;split at h;.rename_i t l o;refine⟨⟨t,l⟩,key (gI hx).1 λb hb=>?_,h⟩;have:=(gI (m:=m) hx).1;rw[hb]at this;cases this
 .obtain⟨t,rfl,h⟩:=az h;refine⟨⟨t,[]⟩,key (gq hx).1 λb hb=>?_,h⟩;have:=(gq (m:=m) hx).1;rw[hb]at this;cases this
 .obtain⟨r',hr,h⟩:=az h;refine⟨r',key (lV hm hx hr) λb hb=>?_,h⟩;simp_all[rowOf,bN,RC,gi,dm,aZ]
 .rename_i lv sl ai t off len;obtain⟨r',hr,h⟩:=az h;obtain⟨hl,h⟩:=cl h;have hl:=of_decide_eq_true hl;refine⟨⟨r'.t,(r'.l.drop off).take len⟩,key (jA hm hx hr hl) λb hb=>?_,h⟩;have:=jA hm hx hr hl;rw[hb]at this;cases this
 .rename_i s;cases hx;exact⟨⟨.int .u8,bM s⟩,by simp[gi,bf,bM,eX,List.map_map,Function.comp_def],h⟩
 grind
end
end Go.Sym
namespace Go.Sym
open Go Go.bI
def KR(ρ:aZ)(k2 k:Nat×Nat×Nat):Prop:=(k2=k/\k.1=0)\/∃v u,k2=jX v/\k=jX u/\ρ v=some u
def aR(ρ:aZ)(l2 l:List (Nat×Nat×Nat)):Prop:=∀k∈l,∃k2∈l2,KR ρ k2 k
structure nM(ρ:aZ)(B B':Nat)(s2:S2)(s:St)(E:IC)(e:fH):Prop where
 val:RV ρ B' (fo s2.mem E.cX) E.val e.val
 mem:MR ρ B' (fo s2.mem E.cX) (bz s.mem e.cX)aG:TR ρ B' (dR s2.aG E.cB) (dR s.aG e.cB)ag1:eE B s2.mem (fo s2.mem E.cX)rd:aR ρ E.rd e.rd
 wr:aR ρ E.wr e.wr
def dI{α:Type}(ρ:aZ)(B B':Nat)(s2:S2)(s:St)(op:cq)(row dst p:Nat)(K:gC->Option α)(r:α):Prop:=∃E e,(∀call sh,op.run call sh s row dst p=some (.bX e))/\nM ρ B B' s2 s E e/\K (.bX E)=some r
section
variable{α:Type}{ρ:aZ}{B B':Nat}{s2:S2}{s:St}{op:cq}{row dst p nx:Nat}{K:gC->Option α}{r:α}
theorem MR.mono{m2:List (Tr E2)}{m:List (Tr bC)}(h:MR ρ B m2 m)(hB:B<=B'):MR ρ B' m2 m:=⟨h.len,λlv sl e2 he=>by obtain⟨e,h1,h2⟩:=h.eV lv sl e2 he;exact⟨e,h1,RE.mono hB (λ_ _=>rfl) (λ_ _=>RC.move (eE.refl _ _) hB λ_ _=>rfl) h2⟩⟩
theorem TR.up{t2 t:Tr Unit}(h:TR ρ B t2 t)(hB:B<=B'):TR ρ B' t2 t:=λv hv=>⟨by have:=(h v hv).1;omega,(h v hv).2⟩
theorem RV.up{m:List (Tr E2)}{v:V2}{a:AV}(h:RV ρ B m v a)(hB:B<=B'):RV ρ B' m v a:=h.move (eE.refl _ _) hB λ_ _=>rfl
theorem RC.up{m:List (Tr E2)}{v:Cell}{a:AV}(h:RC ρ B m v a)(hB:B<=B'):RC ρ B' m v a:=h.move (eE.refl _ _) hB λ_ _=>rfl
theorem aR.nil{l2:List (Nat×Nat×Nat)}:aR ρ l2 []:=λ_ h=>by cases h
theorem aR.append{a b c d:List (Nat×Nat×Nat)}(h:aR ρ a b)(k:aR ρ c d):aR ρ (a++c) (b++d):=by
 intro x hx;rcases List.mem_append.1 hx with hx|hx;.obtain⟨y,h1,h2⟩:=h x hx;exact⟨y,List.mem_append_left _ h1,h2⟩
 .obtain⟨y,h1,h2⟩:=k x hx;exact⟨y,List.mem_append_right _ h1,h2⟩
theorem aR.iN{a b:List (Nat×Nat×Nat)}(lv sl:Nat)(h:aR ρ a b):aR ρ (bL lv sl::a) (bL lv sl::b):=by
 intro x hx;rcases List.mem_cons.1 hx with rfl|hx;.simp_all[aR,aZ,KR,bL]
 .obtain⟨y,h1,h2⟩:=h x hx<;>grind
theorem aR.iG(ks:List (Nat×Nat)):aR ρ (iG ks) (iG ks):=by intro x hx;refine⟨x,hx,.inl ⟨rfl,?_⟩⟩;obtain⟨k,_,rfl⟩:=List.mem_map.1 hx;rfl
theorem tK{m:List (Tr E2)}{c:Cell}{a:AV}(h:RC ρ B m c a):aR ρ (su c) (di a):=by cases c with
 |nil f=>cases f with|true=>cases h;exact aR.nil|false=>rcases h with rfl|⟨o,_,rfl⟩<;>exact aR.nil
 |sl t l o=>rcases(gI (m:=[]) h).2.1with rfl|⟨o',rfl⟩<;>exact aR.nil|ref lv sl ai t=>obtain⟨_,u,n,_,rfl,_⟩:=h;exact aR.iN _ _ aR.nil|jz lv sl ai t off len=>obtain⟨_,u,_,rfl,_⟩:=h;exact aR.iN _ _ aR.nil|ptr lv sl ai i off=>obtain⟨_,u,_,rfl⟩:=h;exact aR.iN _ _ aR.nil|ff lv sl ai off n sz=>obtain⟨_,u,_,rfl⟩:=h;exact aR.iN _ _ aR.nil|mp lv sl ai=>obtain⟨_,u,_,rfl⟩:=h;exact aR.iN _ _ aR.nil|_=>cases h;exact aR.nil
theorem vZ{m:List (Tr E2)}:∀{cs:List Cell}{aJ:List AV},aC (RC ρ B m) cs aJ->aR ρ (cs.flatMap su) (aJ.flatMap di)|[],[],_=>aR.nil|c::cs,a::aJ,h=>by exact(tK h.1).append (vZ h.2)|[],_::_,h=>h.elim|_::_,[],h=>h.elim
theorem IV{a:AV}(h:cellsOf a=some [a])(h0:lP a=true):dQ a=di a:=by cases a<;>first|rfl|cases h0
theorem NQ{m:List (Tr E2)}{v:V2}{a:AV}(h:RV ρ B m v a):aR ρ (Dk v) (dQ a):=by cases v with|c c=>rw[IV (RC.cell h).1 (RC.cell h).2.1];exact tK h|agg cs=>obtain⟨aJ,rfl,h2⟩:=h;exact vZ h2|gm f cs=>obtain⟨aJ,rfl,h2⟩:=h;exact aR.nil|iF vs=>obtain⟨aJ,rfl,h2⟩:=h;exact aR.nil
theorem nM.xG(hs:MR ρ B s2.mem s.mem)(ht:TR ρ B s2.aG s.aG)(hB:B<=B'){v:V2}{a:AV}{Sn rd:List (Nat×Nat×Nat)}(hv:RV ρ B s2.mem v a)(hr:aR ρ Sn rd):nM ρ B B' s2 s {val:=v,cX:=[],cB:=[],rd:=Sn} {val:=a,cX:=[],cB:=[],rd:=rd}:=⟨hv.up hB,hs.mono hB,ht.up hB,eE.refl _ _,hr,aR.nil⟩
variable(hm:MR ρ B s2.mem s.mem)(ht:TR ρ B s2.aG s.aG)(cg:uJ ρ B s2.mem s2.slots s.slots)(hB:B<=B')
include hm ht hB
theorem dI.pure{v:V2}{a:AV}(hrun:∀call sh,op.run call sh s row dst p=fH.pure a)(hv:RV ρ B s2.mem v a)(hK:K (ki v)=some r):dI ρ B B' s2 s op row dst p K r:=⟨_,_,hrun,.xG hm ht hB hv aR.nil,hK⟩
include cg
omit hm ht hB cg in theorem qy{m:List (Tr E2)}{b:Bool}{a:AV}(h:RV ρ B m (.c (.bool b)) a):je a=some b:=by cases h;rfl
omit hm ht hB cg in theorem sC{m:List (Tr E2)}{k:IntKind}{n:Int}{a:AV}(h:RV ρ B m (.c (.int k n)) a):a=.d (.sc (.int k n)):=h
omit hm ht hB cg in theorem iO{m:List (Tr E2)}{k:IntKind}{n:Int}{a:AV}(h:RV ρ B m (.c (.int k n)) a)(h0:0<=n):gh a=some n.toNat:=by cases h;simp[gh,rM,h0]
theorem Pm{c a b:bZ}{E:aq}{wk:Wk}{ctx:Nat}(h:cT E wk ctx s2 row dst nx (.pick c a b) K=some r):dI ρ B B' s2 s (.pick c a b) row dst p K r:=by
 obtain⟨t,hc,h⟩:=qx h;have hb:=qy (aW cg hc);have hrun:∀call sh,cq.run call sh s row dst p (.pick c a b)=fH.pure (if t then a.ev s.slots else b.ev s.slots):=λ_ _=>by simp[cq.run,hb]
 split at h;.rename_i x y hx hy;refine .pure hm ht hB hrun (v:=.c (.bool (cond t x y))) ?_ h;cases t with|true=>exact aW cg hx|false=>exact aW cg hy
 .rename_i x y _ hx hy;cases t with|true=>exact .pure hm ht hB hrun (aW cg hx) h|false=>exact .pure hm ht hB hrun (aW cg hy) h
 .rename_i x hx _;obtain⟨rfl,h⟩:=cl h;exact .pure hm ht hB hrun (aW cg hx) h
 .rename_i y _ hy;obtain⟨ht',h⟩:=cl h;cases t with|true=>cases ht'|false=>exact .pure hm ht hB hrun (aW cg hy) h
 grind
omit hm ht hB cg in theorem xH{m:List (Tr E2)}{cs new:List Cell}{aJ as':List AV}(h:aC (RC ρ B m) cs aJ)(h':aC (RC ρ B m) new as')(off:Nat):aC (RC ρ B m) (bI.splice cs off new) (bI.splice aJ off as'):=by unfold bI.splice;rw[h'.length];first|exact((h.take off).append h').append (h.drop _)|exact(h.take off).append (h'.append (h.drop _))
omit hm ht hB in theorem BG:∀{ps:List (Nat×Nat×bZ)}{cs cs':List Cell}{aJ:List AV},Ee s2 cs ps=some cs'->aC (RC ρ B s2.mem) cs aJ->∃as',pq s.slots aJ ps=some as'/\aC (RC ρ B s2.mem) cs' as'
 |[],cs,cs',aJ,h,ha=>by cases h;exact⟨aJ,rfl,ha⟩|(off,sz,x)::ps,cs,cs',aJ,h,ha=>by
  simp[Ee]at h;split at h
  .rename_i new hn;obtain⟨v,hv,hc⟩:=aQ hn;split at h;.rename_i hb;rw[Bool.and_eq_true]at hb;have h1:=Nat.eq_of_beq_eq_true hb.1;have h2:=Nat.le_of_ble_eq_true hb.2;obtain⟨HM,g1,g2⟩:=vY hc (aW cg hv);obtain⟨as',g3,g4⟩:=BG h (xH ha g2 off);refine⟨as',?_,g4⟩;simp only[pq,g1];rw[if_pos ⟨by rw[<-g2.length];exact h1,by rw[<-ha.length];exact h2⟩]<;>omega
   grind
  grind
theorem Ls{z:List AV}{ps:List (Nat×Nat×bZ)}(h:(bN ((Bn z).bind λcs=>Ee s2 cs ps) λcs=>K (ki (.agg cs)))=some r):dI ρ B B' s2 s (.build z ps) row dst p K r:=by obtain⟨cs,hc,h⟩:=az h;obtain⟨cs0,h0,h1⟩:=aQ hc;obtain⟨as',g1,g2⟩:=BG cg h1 (vX h0);exact .pure hm ht hB (λ_ _=>by simp[cq.run,g1]) (v:=.agg cs) ⟨as',rfl,g2⟩ h
theorem Dm{x:bZ}{E:aq}{wk:Wk}{ctx:Nat}(h:cT E wk ctx s2 row dst nx (.nilCheck x) K=some r):dI ρ B B' s2 s (.nilCheck x) row dst p K r:=by
 obtain⟨v,hv,h⟩:=az h;have hr:=aW cg hv;split at h;.have hr':=hr;obtain⟨_,u,_,he⟩:=hr;exact .pure hm ht hB (λ_ _=>by simp only[cq.run,he]) hr' h
 .have hr':=hr;have he:x.ev s.slots=_:=hr;exact .pure hm ht hB (λ_ _=>by simp only[cq.run,he]) hr' h
 .have hr':=hr;obtain⟨aJ,he,_⟩:=hr;exact .pure hm ht hB (λ_ _=>by simp[cq.run,he]) hr' h
 grind
omit hm ht hB cg in theorem WK{k k':IntKind}{a b:Int}{Sp:BinOp}{K:Cell->Option α}(h:aci Sp k a k' b K=some r):∃v c,FB Sp k a k' b=some v/\K c=some r/\∀(m:List (Tr E2)),RC ρ B m c (.d (.sc v)):=by
 unfold aci at h;split at h;.obtain⟨h1,h⟩:=cl h;refine⟨_,_,?_,h,λ_=>rfl⟩<;>simp_all[aE,aZ,RC,FB]
 .obtain⟨h1,h⟩:=cl h;refine⟨_,_,?_,h,λ_=>rfl⟩<;>simp_all[aE,aZ,RC,FB]
 .split at h;.cases h
  .subst_vars;split at h;case h_4|h_5=>
    obtain⟨h1,h⟩:=cl h;refine⟨_,_,?_,h,λ_=>rfl⟩;have:¬b=0:=by simpa using h1
    simp[FB,this]
   all_goals first|(refine⟨_,_,?_,h,λ_=>rfl⟩;simp[FB,DG];done)|cases h
omit hm ht hB cg in theorem af4(s:List UInt8):(⟨s.toArray⟩:ByteArray).toList=s:=by simp_all
end
end Go.Sym
