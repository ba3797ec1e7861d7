/- Parts of the proof. -/
import Derived.Test.YtgdkmdochlhhlaaGreatSymB
import Derived.Laws.Strings
set_option linter.unusedVariables false
set_option linter.unusedSimpArgs false
set_option linter.defProp false
namespace Go.Sym
open Go Go.bL
section
variable{ρ:bH}{B:Nat}{m2:List (Tr E2)}{m:List (Tr bu)}
def aF{α β:Type}{o:Option β}{k:β->Option α}{r:α}(h:cI o k=some r):∃x,o=some x/\k x=some r:=by cases o with|none=>cases h|some x=>exact⟨x,rfl,h⟩
def cK{α:Type}{b:Bool}{k:Option α}{r:α}(h:aK b k=some r):b=true/\k=some r:=by grind[aK]
def bind_some{α β:Type}{o:Option β}{k:β->Option α}{r:α}(h:Option.bind o k=some r):∃x,o=some x/\k x=some r:=by cases o with|none=>cases h|some x=>grind
def cR{α:Type}{v:Option V2}{k:Cell->Option α}{r:α}(h:jF v k=some r):∃x,v=some (.c x)/\k x=some r:=by unfold jF at h<;>grind
def vq{α:Type}{v:Option V2}{k:Int->Option α}{r:α}(h:RJ v k=some r):∃kd n,v=some (.c (.int kd n))/\k n=some r:=by unfold RJ at h<;>grind
def mK{α:Type}{v:Option V2}{k:Nat->Option α}{r:α}(h:IM v k=some r):∃kd n,v=some (.c (.int kd n))/\0<=n/\k n.toNat=some r:=by obtain⟨kd,n,h1,h2⟩:=vq h;grind[aK,IM]
def sn{α:Type}{v:Option V2}{k:Bool->Option α}{r:α}(h:yq v k=some r):∃b,v=some (.c (.bool b))/\k b=some r:=by unfold yq at h<;>grind
def Qd(v:Value):RC ρ B m2 (afo v) (.d (.sc v)):=by cases v<;>first|rfl|exact rfl
def Qe{x:AV}{c:Cell}(h:aa4 x=some c):RC ρ B m2 c x:=by
 unfold aa4 at h;split at h;.cases h;exact Qd _
 .cases h;rfl
 grind
def yu:∀{l:List AV}{cs:List Cell},Di l=some cs->aD (RC ρ B m2) cs l
 |[],cs,h=>by cases h;trivial|x::r,cs,h=>by
  simp[Di]at h;split at h;.rename_i y ys h1 h2;cases h;exact⟨Qe h1,yu h2⟩
  grind
def abc{x:AV}{v:V2}(h:afp x=some v):RV ρ B m2 v x:=by
 unfold afp at h;split at h;.obtain⟨cs,h1,rfl⟩:=aJ h;exact⟨_,rfl,yu h1⟩
 .cases h;exact⟨[],rfl,trivial⟩
 .cases h;exact⟨[],rfl,trivial⟩
 .obtain⟨c,h1,rfl⟩:=aJ h;exact Qe h1
def abd{x:D}{c:Cell}(h:aa5 x=some c):RC ρ B m2 c (.d x):=by
 unfold aa5 at h;split at h;.cases h;exact Qd _
 .cases h;exact .inl rfl
 grind
def KV:∀{l:List D}{cs:List Cell},uj l=some cs->aD (RC ρ B m2) cs (l.map .d)
 |[],cs,h=>by cases h;trivial|x::r,cs,h=>by
  simp[uj]at h;split at h;.rename_i y ys h1 h2;cases h;exact⟨abd h1,KV h2⟩
  grind
def rz:∀{l:List D}{cs:List Cell},uj l=some cs->cJ cs=some l
 |[],cs,h=>by cases h;rfl|x::r,cs,h=>by
  simp[uj]at h;split at h
  .rename_i y ys h1 h2;cases h;have:pG y=some x:=by
    unfold aa5 at h1;split at h1;.rename_i v;cases h1;cases v<;>rfl
    .cases h1;rfl
    grind
   simp[cJ,this,rz h2]
  grind
def bz{s2:S2}{sl:Tr AV}(hs:wJ ρ B m2 s2.slots sl){x:cx}{v:V2}(h:jR s2 x=some v):RV ρ B m2 v (x.ev sl):=by cases x with|t n=>exact hs n v h|c a=>exact abc h
def qh{s2:S2}{sl:Tr AV}(hs:wJ ρ B m2 s2.slots sl):∀{l:List cx}{vs:List V2},IL s2 l=some vs->aD (RV ρ B m2) vs (AB sl l)
 |[],vs,h=>by cases h;trivial|x::r,vs,h=>by
  simp[IL]at h;split at h;.rename_i y ys h1 h2;cases h;exact⟨bz hs h1,qh hs h2⟩
  grind
def RC.cell{c:Cell}{a:AV}(h:RC ρ B m2 c a):cellsOf a=some [a]/\jT a=true/\fY a=true:=by cases c with
 |nil f=>cases f with|true=>cases h;exact⟨rfl,rfl,rfl⟩|false=>rcases h with rfl|⟨o,_,rfl⟩<;>exact⟨rfl,rfl,rfl⟩
 |sl t l o=>cases o with|app v=>rcases h with⟨_,⟨_,rfl⟩|⟨u,_,rfl⟩⟩<;>exact⟨rfl,rfl,rfl⟩|d=>rcases h with rfl|⟨o,_,rfl⟩<;>exact⟨rfl,rfl,rfl⟩|full=>cases h;exact⟨rfl,rfl,rfl⟩|bD=>rcases h with rfl|⟨o,rfl⟩<;>exact⟨rfl,rfl,rfl⟩
 |ref lv sl aq t=>obtain⟨_,u,n,_,rfl,_⟩:=h;exact⟨rfl,rfl,rfl⟩|ki lv sl aq t off len=>obtain⟨_,u,_,rfl,_⟩:=h;exact⟨rfl,rfl,rfl⟩|ptr lv sl aq i off=>obtain⟨_,u,_,rfl⟩:=h;exact⟨rfl,rfl,rfl⟩|dz lv sl aq off n sz=>obtain⟨_,u,_,rfl⟩:=h;exact⟨rfl,rfl,rfl⟩|mp lv sl aq=>obtain⟨_,u,_,rfl⟩:=h;exact⟨rfl,rfl,rfl⟩|_=>cases h;exact⟨rfl,rfl,rfl⟩
def yw{v:V2}{a:AV}{cs:List Cell}(h:V2.cells? v=some cs)(hv:RV ρ B m2 v a):∃aL,cellsOf a=some aL/\aD (RC ρ B m2) cs aL:=by cases v with|c x=>cases h;exact⟨[a],(RC.cell hv).1,hv,trivial⟩|agg l=>cases h;obtain⟨aL,rfl,h2⟩:=hv;exact⟨aL,rfl,h2⟩|_=>cases h
def Dz{agg:Bool}{cs:List Cell}{aL:List AV}{v:V2}(h:Dk agg cs=some v)(hc:aD (RC ρ B m2) cs aL):∃a,iJ agg aL=some a/\RV ρ B m2 v a:=by cases agg with|true=>cases h;exact⟨_,rfl,aL,rfl,hc⟩|false=>
 simp[Dk]at h;split at h;.cases h;match aL,hc with|[a],hc=>exact⟨a,rfl,hc.1⟩
 grind
def lC(m:List (Tr E2))(lv sl cC cW:Nat)(e:Option E2):jZ (Dj m lv sl e) cC cW=if lv=cC/\sl=cW/\lv<m.length then e else jZ m cC cW:=by
 unfold jZ Dj;rw[List.getElem?_modify];by_cases h:lv=cC;.subst h;cases hm:m[lv]?with|none=>grind|some t=>
  have:lv<m.length:=by grind
  simp[Tr.cL,this]
 grind
def uq(m:List (Tr E2))(lv sl:Nat)(e:Option E2):(Dj m lv sl e).length=m.length:=by simp[Dj]
def nu(m:List (Tr bu))(lv sl:Nat)(e:Option bu):(bJ m lv sl e).length=m.length:=by simp[bJ]
def Bd:∀(l:List (Nat×Nat×Option E2))(m:List (Tr E2)),(gN m l).length=m.length|[],_=>rfl|(lv,sl,e)::r,m=>by rw[gN,Bd r,uq]
def dY:∀(l:List (Nat×Nat×Option bu))(m:List (Tr bu)),(aU m l).length=m.length|[],_=>rfl|(lv,sl,e)::r,m=>by rw[aU,dY r,nu]
def OE(ρ:bH)(B:Nat)(m:List (Tr E2))(x:Option E2)(y:Option bu):Prop:=∀e2,x=some e2->∃e,y=some e/\RE ρ B m e2 e
def RM(ρ:bH)(B:Nat)(m:List (Tr E2))(x:Nat×Nat×Option E2)(y:Nat×Nat×Option bu):Prop:=x.1=y.1/\x.2.1=y.2.1/\OE ρ B m x.2.2 y.2.2
def Qf{B':Nat}{mf:List (Tr E2)}:∀{IU:List (Nat×Nat×Option E2)}{us:List (Nat×Nat×Option bu)}{m2:List (Tr E2)}{m:List (Tr bu)},aD (RM ρ B' mf) IU us->m2.length=m.length->(∀lv sl,OE ρ B' mf (jZ m2 lv sl) (aG m lv sl))->∀lv sl,OE ρ B' mf (jZ (gN m2 IU) lv sl) (aG (aU m us) lv sl)|[],[],_,_,_,_,h=>h|(lv2,sl2,e2)::r2,(lv,sl,e)::r,m2,m,hu,hl,h=>by obtain⟨⟨h1,h2,h3⟩,hr⟩:=hu;subst h1 h2;refine Qf (m2:=Dj m2 lv2 sl2 e2) (m:=bJ m lv2 sl2 e) hr (by rw[uq,nu,hl]) λcC cW=>?_;rw[lC,cQ,hl]<;>grind|[],_::_,_,_,hu,_,_=>hu.elim|_::_,[],_,_,hu,_,_=>hu.elim
def MR.dx{B':Nat}{IU:List (Nat×Nat×Option E2)}{us:List (Nat×Nat×Option bu)}(h:MR ρ B m2 m)(hB:B<=B')(hst:gh B m2 (gN m2 IU))(hu:aD (RM ρ B' (gN m2 IU)) IU us):MR ρ B' (gN m2 IU) (aU m us):=by refine⟨by rw[Bd,dY,h.len],λlv sl e2 he=>Qf hu h.len (λlv sl e2 he=>?_) lv sl e2 he⟩;obtain⟨e,h1,h2⟩:=h.fI lv sl e2 he;exact⟨e,h1,RE.mono hB (λ_ _=>rfl) (λ_ _=>RC.move hst hB λ_ _=>rfl) h2⟩
def cY{lv sl aq:Nat}{r:SL}(h:rowOf m2 lv sl aq=some r):jZ m2 lv sl=some (.row aq r.t r.l):=by
 unfold rowOf at h;split at h
 .split at h;.cases h<;>simp_all
  grind
 grind
def iz{lv sl aq:Nat}{r:SL}:rowOf m2 lv sl aq=some r↔jZ m2 lv sl=some (.row aq r.t r.l):=by refine⟨cY,λh=>?_⟩<;>simp_all[jZ,rowOf]
def ur(n:Nat):Nat.beq n n=true:=by simp
def jG(hm:MR ρ B m2 m){lv sl aq u:Nat}{r:SL}(h:rowOf m2 lv sl aq=some r)(hu:ρ aq=some u):aG m lv sl=some (.row u (bF r.t r.l))/\bL.rowAt m lv sl u=some (bF r.t r.l):=by obtain⟨e,h1,_,u',h2,rfl⟩:=hm.fI _ _ _ (cY h);unfold bL.rowAt<;>simp_all
def KW(hm:MR ρ B m2 m){lv sl aq u:Nat}{r:SL}(h:rowOf m2 lv sl aq=some r)(hu:ρ aq=some u):bL.qQ m lv sl u=some (bF r.t r.l):=by have h1:=(jG hm h hu).1<;>simp_all[rowOf,bH,bF,qQ]
def bC(t:Ty)(l:List t.den):(bF t l).length=l.length:=by simp[bF]
def iA(t:Ty)(l:List t.den):(bF t l).all (λe=>e.length==t.size)=true:=by simp[bF,fr,fD]
def DA(t:Ty)(l:List t.den)(i:Nat):(bF t l)[i]?=(l[i]?).map (fm t):=by simp[bF]
def nT(t:Ty)(l l':List t.den):bF t (l++l')=bF t l++bF t l':=by simp[bF]
def nA(hm:MR ρ B m2 m){lv sl aq:Nat}{t:Ty}{r:SL}{a:AV}(h:RC ρ B m2 (.ref lv sl aq t) a)(hr:rowOf m2 lv sl aq=some r):dJ m a=some (bF r.t r.l):=by obtain⟨_,u,n,hu,rfl,hn⟩:=h;have:=KW hm hr hu;simp[dJ,this,ae];rw[hn r hr];simp[bC,f1]
def kD(hm:MR ρ B m2 m){lv sl aq off len:Nat}{t:Ty}{r:SL}{a:AV}(h:RC ρ B m2 (.ki lv sl aq t off len) a)(hr:rowOf m2 lv sl aq=some r)(hl:off+len<=r.l.length):dJ m a=some (bF r.t ((r.l.drop off).take len)):=by obtain⟨_,u,hu,rfl,_⟩:=h;have:=KW hm hr hu<;>simp_all[rowOf,bH,Ty.den,bF,Ty.size,dJ]
def js{t:Ty}{l:List t.den}{o:Ow}{a:AV}(h:RC ρ B m2 (.sl t l o) a):dJ m a=some (bF t l)/\(a=.d (.sl (bF t l))\/∃o',a=.own (bF t l) o')/\(o≠.bD->a=.d (.sl (bF t l))\/∃o',o'≠.bD/\a=.own (bF t l) o'):=by cases o with|app v=>rcases h with⟨_,⟨_,rfl⟩|⟨u,_,rfl⟩⟩<;>exact⟨rfl,.inr ⟨_,rfl⟩,λ_=>.inr ⟨_,by simp,rfl⟩⟩|d=>rcases h with rfl|⟨o,ho,rfl⟩<;>simp_all[RC,Ty.den,bH,bF,dJ]|full=>simp_all[RC,Ty.den,bH,bF,dJ]|bD=>rcases h with rfl|⟨o,rfl⟩<;>simp_all[RC,Ty.den,bH,bF,dJ]
def iM{f:Bool}{a:AV}(h:RC ρ B m2 (.nil f) a):dJ m a=some []/\(a=.d (.sl [])\/∃o',o'≠.bD/\a=.own [] o'):=by cases f with|true=>simp_all[RC,bH,dJ]|false=>rcases h with rfl|⟨o,ho,rfl⟩<;>simp_all[RC,bH,dJ]
def Qg{els:List (List D)}{o:Own}(h:o≠.bD):BS m (.own els o)=some (.sl els,[]):=by cases o with|bD=>grind|_=>rfl
def abe(hm:MR ρ B m2 m){c c':Cell}{a:AV}{ks:List (Nat×Nat)}(h:N0 m2 c=some (c',ks))(hc:RC ρ B m2 c a):∃d,BS m a=some (d,ks)/\pG c'=some d:=by
 unfold N0 at h;split at h;.cases h<;>simp_all[RC,bH,pG,BS]
 .cases h<;>simp_all[RC,bH,pG,BS]
 .cases h<;>simp_all[RC,bH,pG,BS]
 .cases h<;>simp_all[RC,bH,pG,BS]
 .cases h;rcases(iM (m:=m) hc).2with rfl|⟨o,ho,rfl⟩;.exact⟨_,rfl,rfl⟩
  .exact⟨_,Qg ho,rfl⟩
 .cases h
 .rename_i t l o hne;cases h;rcases(js (m:=m) hc).2.2 (λe=>hne e)with rfl|⟨o',ho,rfl⟩;.exact⟨_,rfl,rfl⟩
  .exact⟨_,Qg ho,rfl⟩
 .split at h;.rename_i r hr;cases h;have he:=nA hm hc hr;obtain⟨_,u,n,hu,rfl,hn⟩:=hc;refine⟨.sl (bF r.t r.l),?_,rfl⟩;simp[BS,he,cf]
  grind
 .rename_i lv sl aq t off len;split at h;.rename_i r hr;cases h;have he:=kD hm hc hr (hc.2.choose_spec.2.2 r hr);obtain⟨_,u,hu,rfl,hn⟩:=hc;refine⟨.sl (bF r.t ((r.l.drop off).take len)),?_,rfl⟩;simp[BS,he,cf]
  grind
 grind
def N6(hm:MR ρ B m2 m):∀{cs cs':List Cell}{aL:List AV}{ks:List (Nat×Nat)},nD m2 cs=some (cs',ks)->aD (RC ρ B m2) cs aL->∃ds,Fu m aL=some (ds,ks)/\cJ cs'=some ds
 |[],cs',aL,ks,h,ha=>by match aL,ha with|[],_=>cases h;exact⟨[],rfl,rfl⟩
 |c::r,cs',aL,ks,h,ha=>by match aL,ha with
  |a::aL,⟨ha,hr⟩=>
   simp[nD]at h;split at h;.rename_i y k ys k' h1 h2;cases h;obtain⟨d,g1,g2⟩:=abe hm h1 ha;obtain⟨ds,g3,g4⟩:=N6 hm h2 hr;exact⟨d::ds,by simp only[Fu,g1,g3],by simp only[cJ,g2,g4]⟩
   grind
def lW{α:Type}(hm:MR ρ B m2 m){x:Cell}{a:AV}{e:Option Ty}{K:SL->Option α}{r:α}(h:qe m2 x e K=some r)(hx:RC ρ B m2 x a):∃n,hD m a=some (bF n.t n.l)/\K n=some r:=by
 have key:∀{a:AV}{els:List (List D)},dJ m a=some els->(∀b,a≠.d (.sc (.string b)))->hD m a=some els:=by simp_all[RC,qe,bH,hD,dJ]
 unfold qe at h;split at h;.rename_i t l o;refine⟨⟨t,l⟩,key (js hx).1 λb hb=>?_,h⟩;have:=(js (m:=m) hx).1;rw[hb]at this;cases this
 .obtain⟨t,rfl,h⟩:=aF h;refine⟨⟨t,[]⟩,key (iM hx).1 λb hb=>?_,h⟩;have:=(iM (m:=m) hx).1;rw[hb]at this;cases this
 .obtain⟨r',hr,h⟩:=aF h;refine⟨r',key (nA hm hx hr) λb hb=>?_,h⟩;simp_all[rowOf,cI,RC,hD,dJ,bH]
 .rename_i lv sl aq t off len;obtain⟨r',hr,h⟩:=aF h;obtain⟨hl,h⟩:=cK h;have hl:=dv hl;refine⟨⟨r'.t,(r'.l.drop off).take len⟩,key (kD hm hx hr hl) λb hb=>?_,h⟩;have:=kD hm hx hr hl;rw[hb]at this;cases this
 .rename_i s;cases hx;exact⟨⟨.int .u8,bP s⟩,by simp[hD,bF,bP,fm,py,Function.comp_def],h⟩
 grind
end
def KR(ρ:bH)(k2 k:Nat×Nat×Nat):Prop:=(k2=k/\k.1=0)\/∃v u,k2=kq v/\k=kq u/\ρ v=some u
def aY(ρ:bH)(l2 l:List (Nat×Nat×Nat)):Prop:=∀k∈l,∃k2∈l2,KR ρ k2 k
structure pH(ρ:bH)(B B':Nat)(s2:S2)(s:St)(E:KN)(e:fy):Prop where
 val:RV ρ B' (gN s2.mem E.dx) E.val e.val
 mem:MR ρ B' (gN s2.mem E.dx) (aU s.mem e.dx)aI:TR ρ B' (eX s2.aI E.cU) (eX s.aI e.cU)akF:gh B s2.mem (gN s2.mem E.dx)rd:aY ρ E.rd e.rd
 wr:aY ρ E.wr e.wr
def eE{α:Type}(ρ:bH)(B B':Nat)(s2:S2)(s:St)(op:cG)(row dst p:Nat)(K:iL->Option α)(r:α):Prop:=∃E e,(∀call sh,op.run call sh s row dst p=some (.bZ e))/\pH ρ B B' s2 s E e/\K (.bZ E)=some r
section
variable{α:Type}{ρ:bH}{B B':Nat}{s2:S2}{s:St}{op:cG}{row dst p nx:Nat}{K:iL->Option α}{r:α}
def MR.mono{m2:List (Tr E2)}{m:List (Tr bu)}(h:MR ρ B m2 m)(hB:B<=B'):MR ρ B' m2 m:=⟨h.len,λlv sl e2 he=>by obtain⟨e,h1,h2⟩:=h.fI lv sl e2 he;exact⟨e,h1,RE.mono hB (λ_ _=>rfl) (λ_ _=>RC.move (gh.refl _ _) hB λ_ _=>rfl) h2⟩⟩
def TR.up{t2 t:Tr Unit}(h:TR ρ B t2 t)(hB:B<=B'):TR ρ B' t2 t:=λv hv=>⟨by have:=(h v hv).1;omega,(h v hv).2⟩
def RV.up{m:List (Tr E2)}{v:V2}{a:AV}(h:RV ρ B m v a)(hB:B<=B'):RV ρ B' m v a:=h.move (gh.refl _ _) hB λ_ _=>rfl
def RC.up{m:List (Tr E2)}{v:Cell}{a:AV}(h:RC ρ B m v a)(hB:B<=B'):RC ρ B' m v a:=h.move (gh.refl _ _) hB λ_ _=>rfl
def aY.nil{l2:List (Nat×Nat×Nat)}:aY ρ l2 []:=λ_ h=>by cases h
def aY.append{a b c d:List (Nat×Nat×Nat)}(h:aY ρ a b)(k:aY ρ c d):aY ρ (a++c) (b++d):=by
 intro x hx;rcases bm.1 hx with hx|hx;.obtain⟨y,h1,h2⟩:=h x hx;exact⟨y,dp _ h1,h2⟩
 .obtain⟨y,h1,h2⟩:=k x hx;exact⟨y,du _ h1,h2⟩
def aY.j7{a b:List (Nat×Nat×Nat)}(lv sl:Nat)(h:aY ρ a b):aY ρ (bX lv sl::a) (bX lv sl::b):=by
 intro x hx;rcases dl.1 hx with rfl|hx;.simp_all[aY,bH,KR,bX]
 .obtain⟨y,h1,h2⟩:=h x hx<;>grind
def aY.jz(ks:List (Nat×Nat)):aY ρ (jz ks) (jz ks):=by intro x hx;refine⟨x,hx,.inl ⟨rfl,?_⟩⟩;obtain⟨k,_,rfl⟩:=i5.1 hx;rfl
def vr{m:List (Tr E2)}{c:Cell}{a:AV}(h:RC ρ B m c a):aY ρ (uk c) (cX a):=by cases c with
 |nil f=>cases f with|true=>cases h;exact aY.nil|false=>rcases h with rfl|⟨o,_,rfl⟩<;>exact aY.nil
 |sl t l o=>rcases(js (m:=[]) h).2.1with rfl|⟨o',rfl⟩<;>exact aY.nil|ref lv sl aq t=>obtain⟨_,u,n,_,rfl,_⟩:=h;exact aY.j7 _ _ aY.nil|ki lv sl aq t off len=>obtain⟨_,u,_,rfl,_⟩:=h;exact aY.j7 _ _ aY.nil|ptr lv sl aq i off=>obtain⟨_,u,_,rfl⟩:=h;exact aY.j7 _ _ aY.nil|dz lv sl aq off n sz=>obtain⟨_,u,_,rfl⟩:=h;exact aY.j7 _ _ aY.nil|mp lv sl aq=>obtain⟨_,u,_,rfl⟩:=h;exact aY.j7 _ _ aY.nil|_=>cases h;exact aY.nil
def yy{m:List (Tr E2)}:∀{cs:List Cell}{aL:List AV},aD (RC ρ B m) cs aL->aY ρ (cs.flatMap uk) (aL.flatMap cX)|[],[],_=>aY.nil|c::cs,a::aL,h=>by exact(vr h.1).append (yy h.2)|[],_::_,h=>h.elim|_::_,[],h=>h.elim
def KX{a:AV}(h:cellsOf a=some [a])(h0:jT a=true):fL a=cX a:=by cases a<;>first|rfl|cases h0
def Qh{m:List (Tr E2)}{v:V2}{a:AV}(h:RV ρ B m v a):aY ρ (IK v) (fL a):=by cases v with|c c=>rw[KX (RC.cell h).1 (RC.cell h).2.1];exact vr h|agg cs=>obtain⟨aL,rfl,h2⟩:=h;exact yy h2|fK f cs=>obtain⟨aL,rfl,h2⟩:=h;exact aY.nil|fu vs=>obtain⟨aL,rfl,h2⟩:=h;exact aY.nil
def pH.zD(hs:MR ρ B s2.mem s.mem)(ht:TR ρ B s2.aI s.aI)(hB:B<=B'){v:V2}{a:AV}{UQ rd:List (Nat×Nat×Nat)}(hv:RV ρ B s2.mem v a)(hr:aY ρ UQ rd):pH ρ B B' s2 s {val:=v,dx:=[],cU:=[],rd:=UQ} {val:=a,dx:=[],cU:=[],rd:=rd}:=⟨hv.up hB,hs.mono hB,ht.up hB,gh.refl _ _,hr,aY.nil⟩
variable(hm:MR ρ B s2.mem s.mem)(ht:TR ρ B s2.aI s.aI)(cy:wJ ρ B s2.mem s2.slots s.slots)(hB:B<=B')
include hm ht hB
theorem eE.pure{v:V2}{a:AV}(hrun:∀call sh,op.run call sh s row dst p=fy.pure a)(hv:RV ρ B s2.mem v a)(hK:K (lU v)=some r):eE ρ B B' s2 s op row dst p K r:=⟨_,_,hrun,.zD hm ht hB hv aY.nil,hK⟩
include cy
omit hm ht hB cy in theorem sr{m:List (Tr E2)}{b:Bool}{a:AV}(h:RV ρ B m (.c (.bool b)) a):jS a=some b:=by cases h;rfl
omit hm ht hB cy in theorem uu{m:List (Tr E2)}{k:IntKind}{n:Int}{a:AV}(h:RV ρ B m (.c (.int k n)) a):a=.d (.sc (.int k n)):=h
omit hm ht hB cy in theorem jH{m:List (Tr E2)}{k:IntKind}{n:Int}{a:AV}(h:RV ρ B m (.c (.int k n)) a)(h0:0<=n):gX a=some n.toNat:=by cases h;simp[gX,tJ,h0]
theorem RN{c a b:cx}{E:ah}{wk:Wk}{ctx:Nat}(h:dw E wk ctx s2 row dst nx (.pick c a b) K=some r):eE ρ B B' s2 s (.pick c a b) row dst p K r:=by
 obtain⟨t,hc,h⟩:=sn h;have hb:=sr (bz cy hc);have hrun:∀call sh,cG.run call sh s row dst p (.pick c a b)=fy.pure (if t then a.ev s.slots else b.ev s.slots):=λ_ _=>by simp[cG.run,hb]
 split at h;.rename_i x y hx hy;refine .pure hm ht hB hrun (v:=.c (.bool (cond t x y))) ?_ h;cases t with|true=>exact bz cy hx|false=>exact bz cy hy
 .rename_i x y _ hx hy;cases t with|true=>exact .pure hm ht hB hrun (bz cy hx) h|false=>exact .pure hm ht hB hrun (bz cy hy) h
 .rename_i x hx _;obtain⟨rfl,h⟩:=cK h;exact .pure hm ht hB hrun (bz cy hx) h
 .rename_i y _ hy;obtain⟨ht',h⟩:=cK h;cases t with|true=>cases ht'|false=>exact .pure hm ht hB hrun (bz cy hy) h
 grind
omit hm ht hB cy in theorem zE{m:List (Tr E2)}{cs new:List Cell}{aL as':List AV}(h:aD (RC ρ B m) cs aL)(h':aD (RC ρ B m) new as')(off:Nat):aD (RC ρ B m) (bL.splice cs off new) (bL.splice aL off as'):=by unfold bL.splice;rw[h'.length];first|exact((h.take off).append h').append (h.drop _)|exact(h.take off).append (h'.append (h.drop _))
omit hm ht hB in theorem DB:∀{ps:List (Nat×Nat×cx)}{cs cs':List Cell}{aL:List AV},GJ s2 cs ps=some cs'->aD (RC ρ B s2.mem) cs aL->∃as',qS s.slots aL ps=some as'/\aD (RC ρ B s2.mem) cs' as'
 |[],cs,cs',aL,h,ha=>by cases h;exact⟨aL,rfl,ha⟩|(off,sz,x)::ps,cs,cs',aL,h,ha=>by
  simp[GJ]at h;split at h
  .rename_i new hn;obtain⟨v,hv,hc⟩:=aV hn;split at h;.rename_i hb;rw[al]at hb;have h1:=am hb.1;have h2:=ft hb.2;obtain⟨Nk,g1,g2⟩:=yw hc (bz cy hv);obtain⟨as',g3,g4⟩:=DB h (zE ha g2 off);refine⟨as',?_,g4⟩;simp only[qS,g1];rw[ba ⟨by rw[<-g2.length];exact h1,by rw[<-ha.length];exact h2⟩]<;>omega
   grind
  grind
theorem N7{z:List AV}{ps:List (Nat×Nat×cx)}(h:(cI ((Di z).bind λcs=>GJ s2 cs ps) λcs=>K (lU (.agg cs)))=some r):eE ρ B B' s2 s (.build z ps) row dst p K r:=by obtain⟨cs,hc,h⟩:=aF h;obtain⟨cs0,h0,h1⟩:=aV hc;obtain⟨as',g1,g2⟩:=DB cy h1 (yu h0);exact .pure hm ht hB (λ_ _=>by simp[cG.run,g1]) (v:=.agg cs) ⟨as',rfl,g2⟩ h
theorem FC{x:cx}{E:ah}{wk:Wk}{ctx:Nat}(h:dw E wk ctx s2 row dst nx (.nilCheck x) K=some r):eE ρ B B' s2 s (.nilCheck x) row dst p K r:=by
 obtain⟨v,hv,h⟩:=aF h;have hr:=bz cy hv;split at h;.have hr':=hr;obtain⟨_,u,_,he⟩:=hr;exact .pure hm ht hB (λ_ _=>by simp only[cG.run,he]) hr' h
 .have hr':=hr;have he:x.ev s.slots=_:=hr;exact .pure hm ht hB (λ_ _=>by simp only[cG.run,he]) hr' h
 .have hr':=hr;obtain⟨aL,he,_⟩:=hr;exact .pure hm ht hB (λ_ _=>by simp[cG.run,he]) hr' h
 grind
omit hm ht hB cy in theorem abf{k k':IntKind}{a b:Int}{UR:BinOp}{K:Cell->Option α}(h:afq UR k a k' b K=some r):∃v c,HZ UR k a k' b=some v/\K c=some r/\∀(m:List (Tr E2)),RC ρ B m c (.d (.sc v)):=by
 unfold afq at h;split at h;.obtain⟨h1,h⟩:=cK h;refine⟨_,_,?_,h,λ_=>rfl⟩<;>simp_all[aK,bH,RC,HZ]
 .obtain⟨h1,h⟩:=cK h;refine⟨_,_,?_,h,λ_=>rfl⟩<;>simp_all[aK,bH,RC,HZ]
 .split at h;.cases h
  .subst_vars;split at h;case h_4|h_5=>
    obtain⟨h1,h⟩:=cK h;refine⟨_,_,?_,h,λ_=>rfl⟩;have:¬b=0:=by simpa using h1
    simp[HZ,this]
   all_goals first|(refine⟨_,_,?_,h,λ_=>rfl⟩;simp[HZ,FR];done)|cases h
omit hm ht hB cy in theorem ajC(s:List UInt8):(⟨s.toArray⟩:ByteArray).toList=s:=by simp_all
end
section
variable{α:Type}{ρ:bH}{B B':Nat}{s2:S2}{s:St}{op:cG}{row dst p nx:Nat}{K:iL->Option α}{r:α}{E:ah}{wk:Wk}{ctx:Nat}
def RO(x y:List UInt8):(⟨x.toArray⟩:ByteArray)++⟨y.toArray⟩=⟨(x++y).toArray⟩:=by apply ByteArray.ext;simp
def IV(x:List UInt8):(⟨x.toArray⟩:ByteArray).size=x.length:=by simp[ByteArray.size]
def N8(x:List UInt8)(a b:Nat):(⟨x.toArray⟩:ByteArray).extract a b=⟨((x.drop a).take (b-a)).toArray⟩:=by apply ByteArray.ext;simp_all
def abg{x y:List UInt8}{UR:BinOp}{K:Cell->Option α}(h:afr UR x y K=some r):∃v c,Np UR ⟨x.toArray⟩ ⟨y.toArray⟩=some v/\K c=some r/\∀(m:List (Tr E2)),RC ρ B m c (.d (.sc v)):=by
 unfold afr at h;split at h
 .obtain⟨h1,h⟩:=cK h;refine⟨_,_,?_,h,λ_=>rfl⟩;have:¬((x.length+y.length:Nat):Int)>IntKind.i64.max:=by simpa using h1
  simp only[Np,IV,RO];rw[bi this]
 all_goals first|(refine⟨_,_,?_,h,λ_=>rfl⟩;simp[Np,ByteArray.toList_eq];done)|cases h
def abh{x y:Cell}{a b:AV}{UR:BinOp}{m:List (Tr E2)}{K:Cell->Option α}(h:afs UR x y K=some r)(hx:RC ρ B m x a)(hy:RC ρ B m y b):∃v c,TQ UR a b=some v/\K c=some r/\RC ρ B m c (.d (.sc v)):=by
 unfold afs at h;split at h;.cases hx;cases hy;obtain⟨v,c,h1,h2,h3⟩:=abf (ρ:=ρ) (B:=B) h;exact⟨v,c,h1,h2,h3 m⟩
 .cases hx;cases hy;obtain⟨v,c,h1,h2,h3⟩:=abg (ρ:=ρ) (B:=B) h;exact⟨v,c,h1,h2,h3 m⟩
 grind
def US{kd:Nat}{x y:Cell}{a b:AV}{m:List (Tr E2)}{t:Bool}(h:UI kd x y=some t)(hx:RC ρ B m x a)(hy:RC ρ B m y b):JW kd a b=some t:=by
 unfold UI at h;split at h;.split at h<;>simp_all[RC,bH,JW]
 .split at h;.split at h<;>simp_all[RC,bH,JW]
  grind
 .split at h;.cases h
  .cases h
  .rename_i x y n _ _;cases hx;cases hy;have:((⟨x.toArray⟩:ByteArray)==⟨y.toArray⟩)=(x==y):=by rw[m7];show(x.toArray==y.toArray)=true↔_;simp
   unfold JW<;>grind
 grind
def GV{xs ys:List Cell}{aL bs:List AV}{m:List (Tr E2)}(hx:aD (RC ρ B m) xs aL)(hy:aD (RC ρ B m) ys bs):∀{l:List (Nat×Nat)}{t:Bool},IN xs ys l=some t->nB aL bs l=some t
 |[],t,h=>h|o::l,t,h=>by
  simp[IN]at h;split at h;.rename_i x y b' h1 h2 h3;obtain⟨b,h4,rfl⟩:=aJ h;obtain⟨a,g1,g2⟩:=hx.get _ _ h1;obtain⟨a',g3,g4⟩:=hy.get _ _ h2;simp[nB,g1,g3,US h4 g2 g4];cases b with|true=>simpa using GV hx hy h3|false=>rfl
  grind
def afz{x:Cell}{a:AV}{m:List (Tr E2)}{uop:UnOp}{K:Cell->Option α}(h:unK uop x K=some r)(hx:RC ρ B m x a):∃v c,unA uop a=some v/\K c=some r/\RC ρ B m c (.d (.sc v)):=by
 unfold unK at h;split at h
 .split at h;.cases hx;exact⟨_,_,rfl,h,rfl⟩
  grind
 .split at h;.cases hx;exact⟨_,_,rfl,h,rfl⟩
  .cases hx;exact⟨_,_,by simp[unA,FR],h,rfl⟩
  grind
 grind
section
variable(hm:MR ρ B s2.mem s.mem)(ht:TR ρ B s2.aI s.aI)(hB:B<=B')
include hm ht hB
theorem eE.int{k:IntKind}{n:Int}(hrun:∀call sh,op.run call sh s row dst p=fy.pure (.d (.sc (.int k n))))(hK:K (eS (.int k n))=some r):eE ρ B B' s2 s op row dst p K r:=.pure hm ht hB hrun (v:=.c (.int k n)) rfl hK
theorem eE.str{x:List UInt8}(hrun:∀call sh,op.run call sh s row dst p=fy.pure (.d (.sc (.string ⟨x.toArray⟩))))(hK:K (eS (.str x))=some r):eE ρ B B' s2 s op row dst p K r:=.pure hm ht hB hrun (v:=.c (.str x)) rfl hK
theorem eE.e9{t:Ty}{x:t.den}{off:Nat}(hrun:∀call sh,op.run call sh s row dst p=fy.pure (.e9 (fm t x) off))(hK:K (eS (.e9 t x off))=some r):eE ρ B B' s2 s op row dst p K r:=.pure hm ht hB hrun (v:=.c (.e9 t x off)) rfl hK
theorem eE.ptr{lv sl aq u i off:Nat}(hv:aq<B)(hu:ρ aq=some u)(hrun:∀call sh,op.run call sh s row dst p=fy.pure (.ptr lv sl u i off))(hK:K (eS (.ptr lv sl aq i off))=some r):eE ρ B B' s2 s op row dst p K r:=.pure hm ht hB hrun (v:=.c (.ptr lv sl aq i off)) ⟨hv,u,hu,rfl⟩ hK
end
variable(hm:MR ρ B s2.mem s.mem)(ht:TR ρ B s2.aI s.aI)(cy:wJ ρ B s2.mem s2.slots s.slots)(hB:B<=B')
include hm ht hB cy
theorem UT{UR:BinOp}{x y:cx}(h:dw E wk ctx s2 row dst nx (.bin UR x y) K=some r):eE ρ B B' s2 s (.bin UR x y) row dst p K r:=by obtain⟨a,ha,h⟩:=cR h;obtain⟨b,hb,h⟩:=cR h;obtain⟨v,c,h1,h2,h3⟩:=abh h (bz cy ha) (bz cy hb);exact .pure hm ht hB (λ_ _=>by simp only[cG.run,h1,ae,nC]) (v:=.c c) h3 h2
theorem UU{neg:Bool}{x y:cx}(h:dw E wk ctx s2 row dst nx (.eqb neg x y) K=some r):eE ρ B B' s2 s (.eqb neg x y) row dst p K r:=by obtain⟨a,ha,h⟩:=sn h;obtain⟨b,hb,h⟩:=sn h;have h1:=sr (bz cy ha);have h2:=sr (bz cy hb);refine .pure hm ht hB (a:=.d (.sc (.bool (if neg then !(a==b)else a==b)))) (λ_ _=>by simp only[cG.run,h1,h2,nC]) (v:=.c _) ?_ h;cases neg<;>rfl
theorem N9{neg:Bool}{x:cx}(h:dw E wk ctx s2 row dst nx (.Az neg x) K=some r):eE ρ B B' s2 s (.Az neg x) row dst p K r:=by
 simp[dw]at h;split at h;.rename_i b hx;have h1:x.ev s.slots=_:=bz cy hx;cases neg with|true=>refine .pure hm ht hB (a:=.d (.sc (.bool b))) (λ_ _=>by cases b<;>(simp only[cG.run,h1,nC]<;>try rfl)) (v:=.c _) ?_ h;rfl|false=>refine .pure hm ht hB (a:=.d (.sc (.bool !b))) (λ_ _=>by cases b<;>(simp only[cG.run,h1,nC]<;>try rfl)) (v:=.c _) ?_ h;rfl
 grind
theorem KY{lo n sz:Nat}{x:cx}(h:dw E wk ctx s2 row dst nx (.tH lo n sz x) K=some r):eE ρ B B' s2 s (.tH lo n sz x) row dst p K r:=by
 simp[dw]at h;split at h
 .rename_i lv sl aq i off hx;split at h;.rename_i hc;obtain⟨hv,u,hu,h1⟩:=bz cy hx;exact .pure hm ht hB (a:=.dz lv sl u (off+lo*sz) (n-lo) sz) (λ_ _=>by simp only[cG.run,h1,hc]) (v:=.c (.dz lv sl aq (off+lo*sz) (n-lo) sz)) ⟨hv,u,hu,rfl⟩ h
  grind
 grind
theorem UW{neg:Bool}{sz:Nat}{l:List (Nat×Nat)}{x y:cx}(h:dw E wk ctx s2 row dst nx (.Q8 neg sz l x y) K=some r):eE ρ B B' s2 s (.Q8 neg sz l x y) row dst p K r:=by
 simp[dw]at h;split at h
 .rename_i xs ys hx hy;split at h
  .rename_i b h1 h2;obtain⟨aL,e1,r1⟩:=bz cy hx;obtain⟨bs,e2,r2⟩:=bz cy hy;have l1:aL.length=sz:=by rw[<-r1.length]<;>simp_all
   have l2:bs.length=sz:=by rw[<-r2.length]<;>simp_all
   refine .pure hm ht hB (a:=.d (.sc (.bool (if neg then !b else b)))) (λ_ _=>by simp only[cG.run,e1,e2];rw[bi (by simp[l1,l2]),GV r1 r2 h2];rfl) (v:=.c _) ?_ h;cases neg<;>rfl
  grind
 grind
theorem abi{uop:UnOp}{x:cx}(h:dw E wk ctx s2 row dst nx (.un uop x) K=some r):eE ρ B B' s2 s (.un uop x) row dst p K r:=by obtain⟨a,ha,h⟩:=cR h;obtain⟨v,c,h1,h2,h3⟩:=afz h (bz cy ha);exact .pure hm ht hB (λ_ _=>by simp only[cG.run,h1,ae,nC]) (v:=.c c) h3 h2
theorem RP{k:IntKind}{x:cx}(h:dw E wk ctx s2 row dst nx (.conv k x) K=some r):eE ρ B B' s2 s (.conv k x) row dst p K r:=by obtain⟨kd,n,ha,h⟩:=vq h;have e:=uu (bz cy ha);exact .int hm ht hB (λ_ _=>by simp only[cG.run,e,tJ,ae,nC]) h
theorem Oa{off sz:Nat}{agg:Bool}{x:cx}(h:dw E wk ctx s2 row dst nx (.field off sz agg x) K=some r):eE ρ B B' s2 s (.field off sz agg x) row dst p K r:=by
 simp[dw]at h;split at h
 .rename_i cs hx;split at h;.rename_i v h1 h2;have h1:=ft h1;obtain⟨aL,e1,r1⟩:=bz cy hx;obtain⟨a,g1,g2⟩:=Dz h2 ((r1.drop off).take sz);refine .pure hm ht hB (λ_ _=>?_) g2 h;simp[cG.run,e1];rw[ba (by rw[<-r1.length];exact h1),g1];rfl
  grind
 grind
theorem DC{off:Nat}{x:cx}(h:dw E wk ctx s2 row dst nx (.fieldAddr off x) K=some r):eE ρ B B' s2 s (.fieldAddr off x) row dst p K r:=by
 simp[dw]at h;split at h;.rename_i hx;obtain⟨hv,u,hu,e⟩:=bz cy hx;exact .ptr hm ht hB hv hu (λ_ _=>by simp only[cG.run,e]) h
 .rename_i hx;have e:x.ev s.slots=_:=bz cy hx;exact .e9 hm ht hB (λ_ _=>by simp only[cG.run,e]) h
 grind
omit hm ht hB cy in theorem vt:∀{n k:Nat}{F:Nat->Option α},RH n k F=some r->k<n/\F k=some r|0,_,_,h=>by cases h|n+1,k,F,h=>by unfold RH at h;cases hb:Nat.beq k n with|true=>simp_all|false=>rw[hb]at h;obtain⟨h1,h2⟩:=vt h<;>grind
theorem FD{n sz:Nat}{x i:cx}(h:dw E wk ctx s2 row dst nx (.lG n sz x i) K=some r):eE ρ B B' s2 s (.lG n sz x i) row dst p K r:=by
 simp[dw]at h;obtain⟨kd,k,hi,h0,h⟩:=mK h;have hk:=jH (bz cy hi) h0;split at h;.rename_i hx;obtain⟨hlt,h⟩:=vt h;obtain⟨hv,u,hu,e⟩:=bz cy hx;exact .ptr hm ht hB hv hu (λ_ _=>by simp only[cG.run,hk,ae,e,ba hlt]) h
 .rename_i hx;obtain⟨hlt,h⟩:=vt h;have e:x.ev s.slots=_:=bz cy hx;exact .e9 hm ht hB (λ_ _=>by simp only[cG.run,hk,ae,e,ba hlt]) h
 grind
theorem KZ{n sz:Nat}{agg:Bool}{x i:cx}(h:dw E wk ctx s2 row dst nx (.rQ n sz agg x i) K=some r):eE ρ B B' s2 s (.rQ n sz agg x i) row dst p K r:=by
 simp[dw]at h;obtain⟨kd,k,hi,h0,h⟩:=mK h;have hk:=jH (bz cy hi) h0;split at h
 .rename_i cs hx;obtain⟨hlt,h⟩:=vt h;split at h;.rename_i v h1 h2;have h1:=ft h1;obtain⟨aL,e1,r1⟩:=bz cy hx;obtain⟨a,g1,g2⟩:=Dz h2 ((r1.drop (k.toNat*sz)).take sz);refine .pure hm ht hB (λ_ _=>?_) g2 h;simp[cG.run,hk,ae,e1];rw[ba ⟨hlt,by rw[<-r1.length];exact h1⟩,g1]<;>grind
  grind
 grind
omit hm ht hB cy in theorem uv{β:Type}{l:List β}{i:Int}{x:β}(h:idx l i=some x):0<=i/\l[i.toNat]?=some x:=by grind[idx]
omit hm ht hB cy in theorem K0{i:Int}{n:Nat}(h:gB i n=true):0<=i/\i.toNat<n:=by simpa[gB]using h
theorem DD{sz:Nat}{x i:cx}(h:dw E wk ctx s2 row dst nx (.indexAddr sz x i) K=some r):eE ρ B B' s2 s (.indexAddr sz x i) row dst p K r:=by
 obtain⟨kd,n,hi,h⟩:=vq h;have hi:=bz cy hi;split at h
 .rename_i t l o hx;split at h
  .rename_i hz;have hz:=am hz;obtain⟨e,he,h⟩:=bind_some h;obtain⟨h0,he⟩:=uv he;have hn:=jH hi h0;have hg:(bF t l)[n.toNat]?=some (fm t e):=by rw[DA,he];rfl
   have hx:=(js (m:=s.mem) (bz cy hx)).2.1;refine .e9 hm ht hB (t:=t) (x:=e) (off:=0) (λ_ _=>?_) h;rcases hx with e1|⟨o',e1⟩;.simp[cG.run,hn,ae,e1,hg,fD,hz,jn]
   .simp[cG.run,hn,ae,e1,hg,fD,hz,jn]
  grind
 .rename_i lv sl aq t hx;split at h;.rename_i hz;have hz:=am hz;obtain⟨r',hr,h⟩:=aF h;obtain⟨h1,h⟩:=cK h;obtain⟨h0,h1⟩:=K0 h1;have hn:=jH hi h0;obtain⟨hv,u,k,hu,e1,hk⟩:=bz cy hx;refine .ptr hm ht hB hv hu (λ_ _=>?_) h;simp only[cG.run,hn,ae,e1]<;>grind
  grind
 .rename_i lv sl aq t off len hx;split at h;.rename_i hz;have hz:=am hz;obtain⟨h1,h⟩:=cK h;obtain⟨h0,h1⟩:=K0 h1;have hn:=jH hi h0;obtain⟨hv,u,hu,e1⟩:=bz cy hx;refine .ptr hm ht hB hv hu (λ_ _=>?_) h;simp only[cG.run,hn,ae,e1]<;>grind
  grind
 grind
theorem K1{x i:cx}(h:dw E wk ctx s2 row dst nx (.rR x i) K=some r):eE ρ B B' s2 s (.rR x i) row dst p K r:=by
 obtain⟨kd,n,hi,h⟩:=vq h;have hi:=bz cy hi;split at h;.rename_i b hx;obtain⟨c,hc,h⟩:=bind_some h;obtain⟨h0,hc⟩:=uv hc;have hn:=jH hi h0;have e:x.ev s.slots=_:=bz cy hx;refine .int hm ht hB (λ_ _=>?_) h;simp[cG.run,hn,ae,e,hc,nC]
 grind
omit hm ht hB in theorem rA{β:Type}{x:Option cx}{K:Option Nat->Option β}{r:β}(h:wE x s2 K=some r):∃n,(∀d,gr x s.slots d=some (n.getD d))/\(n.isSome=x.isSome)/\K n=some r:=by unfold wE at h;cases x with|none=>exact⟨none,λ_=>rfl,rfl,h⟩|some o=>obtain⟨kd,n,hv,h0,h⟩:=mK h;exact⟨some n.toNat,λ_=>by simp[gr,jH (bz cy hv) h0],rfl,h⟩
omit hm ht hB cy in theorem jI{n:Nat}{lo hi:Option Nat}(h:oh n lo hi=true):lo.getD 0<=hi.getD n/\hi.getD n<=n:=by unfold oh at h<;>grind
omit hm ht hB cy in theorem DE{β:Type}{l:List β}{lo hi:Option Nat}(h:oh l.length lo hi=true):qf l lo hi=(l.drop (lo.getD 0)).take (hi.getD l.length-lo.getD 0):=by unfold qf;cases lo<;>cases hi<;>simp_all;.rw[f1 (by simp)]
omit hm ht hB cy in theorem zF{t:Ty}{l:List t.den}{lo hi:Option Nat}(h:oh l.length lo hi=true):bF t (qf l lo hi)=((bF t l).drop (lo.getD 0)).take (hi.getD (bF t l).length-lo.getD 0):=by rw[DE h]<;>simp_all[oh,Ty.den,qf,bF]
omit hm ht hB cy in theorem RQ{sz:Nat}{x:Cell}{a:AV}{lo hi mx:Option Nat}{K:Cell->Option α}(h:N2 s2.mem sz x lo hi mx K=some r)(hx:RC ρ B s2.mem x a)(l h' k:Nat)(hl:l=lo.getD 0)(hh:∀n,hi=some n->h'=n)(hk:∀n,mx=some n->k=n):∃a' c,fZ sz a l (hi.map λ_=>h') (mx.map λ_=>k)=some a'/\RC ρ B s2.mem c a'/\K c=some r:=by
 have ehi:hi.map (λ_=>h')=hi:=by cases hi with|none=>rfl|some n=>grind
 have emx:mx.map (λ_=>k)=mx:=by cases mx with|none=>rfl|some n=>grind
 rw[ehi,emx];subst hl;unfold N2 at h;split at h
 .rename_i t l o;split at h
  .rename_i hz;have hz:=am hz;have hall:(bF t l).all (λe=>e.length==sz)=true:=by rw[<-hz];exact iA t l
   split at h
   .obtain⟨hp,h⟩:=cK h;have Ca:=jI hp;have he:=zF (t:=t) hp;rw[bC]at he;have c1:lo.getD 0<=hi.getD (bF t l).length/\hi.getD (bF t l).length<=(bF t l).length/\(bF t l).all (λe=>e.length==sz)=true:=by rw[bC]<;>grind
    have aw1:∀{o:Ow},(o=.bD\/o=.d)->RC ρ B s2.mem (.sl t (qf l lo hi) o) (.d (.sl ((bF t l).drop (lo.getD 0)|>.take (hi.getD (bF t l).length-lo.getD 0)))):=by intro o ho;rw[bC,<-he];rcases ho with rfl|rfl<;>exact .inl rfl
    have dat:fZ sz (.d (.sl (bF t l))) (lo.getD 0) hi none=some (.d (.sl ((bF t l).drop (lo.getD 0)|>.take (hi.getD (bF t l).length-lo.getD 0)))):=by simp only[fZ]<;>grind
    have own:∀o',o'≠.bD->∃a',fZ sz (.own (bF t l) o') (lo.getD 0) hi none=some a'/\RC ρ B s2.mem (.sl t (qf l lo hi) .d) a':=by intro o' ho';cases o' with
     |bD=>grind|full=>
      simp only[fZ];rw[ba c1];split;.rename_i e;refine⟨_,rfl,.inr ⟨.full,by simp,?_⟩⟩;rw[he,show hi.getD l.length=l.length from by rw[bC]at e;exact e];rw[f1 (by simp[bC])]
      grind|cU v z=>simp only[fZ]<;>grind
    split at h
    .rcases hx with rfl|⟨o',rfl⟩;.grind
     .by_cases ho':o'=.bD;.subst ho';refine⟨_,_,by simp only[fZ];rw[ba c1],?_,h⟩;refine .inr ⟨.bD,?_⟩;rw[he,bC]
      .obtain⟨a',g1,g2⟩:=own o' ho';refine⟨a',_,g1,?_,h⟩;rcases g2 with rfl|⟨o2,_,rfl⟩;.exact .inl rfl
       .exact .inr ⟨_,rfl⟩
    .split at h
     .cases hx;refine⟨.own ((bF t l).drop (lo.getD 0)) .full,_,?_,?_,h⟩;.simp only[fZ]<;>grind
      .show _=_;rw[he];rw[f1 (by simp[bC])]
     .cases hx;obtain⟨a',g1,g2⟩:=own .full (by simp)<;>grind
    .rename_i as5 aAV;rcases(js (m:=[]) hx).2.2 (λe=>as5 e)with rfl|⟨o',ho',rfl⟩;.grind
     .obtain⟨a',g1,g2⟩:=own o' ho'<;>grind
   .rename_i mm;split at h;.cases h
    .cases h
    .rename_i hi' hne;obtain⟨hp,h⟩:=cK h;rw[al]at hp;obtain⟨hp,hmm⟩:=hp;have hmm:=am hmm;have Ca:=jI hp;have he:=zF (t:=t) hp;simp[sf]at Ca he;have c1:lo.getD 0<=hi'/\hi'=mm/\hi'<=(bF t l).length/\(bF t l).all (λe=>e.length==sz)=true:=by rw[bC];exact⟨Ca.1,hmm,Ca.2,hall⟩
     refine⟨.own ((bF t l).drop (lo.getD 0)|>.take (hi'-lo.getD 0)) .full,_,?_,?_,h⟩
     .rcases(js (m:=[]) hx).2.2 (λe=>hne e)with rfl|⟨o',ho',rfl⟩;.simp only[fZ,sf];rw[ba c1]
      .cases o' with|bD=>exact(ho' rfl).elim|_=>simp only[fZ,sf];rw[ba c1]
     .show _=_;rw[he]
  grind
 .rename_i f;split at h
  .obtain⟨hp,h⟩:=cK h;have Ca:=jI hp;have h0:hi.getD 0=0:=by omega
   have l0:lo.getD 0=0:=by omega
   cases f with|true=>cases hx;refine⟨.own [] .full,.nil true,?_,rfl,h⟩;simp[fZ,h0,l0]|false=>
    rcases hx with rfl|⟨o,ho,rfl⟩;.exact⟨.d (.sl []),.nil false,by simp[fZ,h0,l0],.inl rfl,h⟩
    .cases o with|bD=>grind|full=>exact⟨.own [] .full,.nil false,by simp[fZ,h0,l0],.inr ⟨.full,by simp,rfl⟩,h⟩|cU v z=>exact⟨.d (.sl []),.nil false,by simp[fZ,h0,l0],.inl rfl,h⟩
  grind
 .rename_i lv sl aq t;cases hz:Nat.beq t.size sz with|false=>grind|true=>
  split at h;.have hz:=am hz;obtain⟨r',hr,h⟩:=aF h;obtain⟨hp,h⟩:=cK h;have Ca:=jI hp;obtain⟨hv,u,n,hu,rfl,hn⟩:=hx;have hn:=hn r' hr;refine⟨_,.ki lv sl aq t (BZ lo) (hi.getD r'.l.length-BZ lo),?_,⟨hv,u,hu,rfl,λr2 qF=>by rw[hr]at qF;injection qF with qF;subst qF;have h1:=Ca.1;have h2:=Ca.2;simp only[BZ]at h1 h2⊢;omega⟩,h⟩;simp only[fZ,BZ]<;>grind
  grind
 .rename_i lv sl aq t off len;cases hz:Nat.beq t.size sz with|false=>grind|true=>
  split at h;.have hz:=am hz;obtain⟨hp,h⟩:=cK h;have Ca:=jI hp;obtain⟨hv,u,hu,rfl,hlen⟩:=hx;refine⟨_,.ki lv sl aq t (off+BZ lo) (hi.getD len-BZ lo),?_,⟨hv,u,hu,rfl,λr2 qF=>by have h0:=hlen r2 qF;have h1:=Ca.1;have h2:=Ca.2;simp only[BZ]at h1 h2⊢;omega⟩,h⟩;simp only[fZ,BZ]<;>grind
  grind
 grind
theorem K2{x:cx}{lo hi:Option cx}(h:dw E wk ctx s2 row dst nx (.rS x lo hi) K=some r):eE ρ B B' s2 s (.rS x lo hi) row dst p K r:=by
 simp[dw]at h;split at h;.rename_i b hx;obtain⟨l,el,il,h⟩:=rA cy h;obtain⟨h',eh,ih,h⟩:=rA cy h;obtain⟨hp,h⟩:=cK h;have Ca:=jI hp;have e:x.ev s.slots=_:=bz cy hx;refine .str hm ht hB (λ_ _=>?_) h;simp[cG.run,e,el,eh,IV];rw[ba Ca,N8,DE hp];rfl
 grind
theorem IW{x:cx}{i:Nat}(h:dw E wk ctx s2 row dst nx (.extract x i) K=some r):eE ρ B B' s2 s (.extract x i) row dst p K r:=by
 simp[dw]at h;split at h
 .rename_i vs hx;split at h
  .rename_i a cs hi;obtain⟨v,hv,h⟩:=aF h;obtain⟨aL,e1,r1⟩:=bz cy hx;obtain⟨y,g1,g2⟩:=r1.get _ _ hi;have:RV ρ B s2.mem v y:=by cases a with|true=>obtain⟨as',rfl,g3⟩:=g2;cases hv;exact⟨as',rfl,g3⟩|false=>obtain⟨c,rfl,g3⟩:=g2;cases hv;exact g3
   exact .pure hm ht hB (λ_ _=>by simp only[cG.run,e1,g1,ae]) this h
  grind
 grind
theorem UX{x:cx}(h:dw E wk ctx s2 row dst nx (.len x) K=some r):eE ρ B B' s2 s (.len x) row dst p K r:=by
 obtain⟨c,hx,h⟩:=cR h;have hx:=bz cy hx;split at h;.refine .int hm ht hB (λ_ _=>?_) h;rcases(js (m:=s.mem) hx).2.1with e|⟨o',e⟩<;>(simp only[cG.run,e,bC];rfl)
 .refine .int hm ht hB (λ_ _=>?_) h;rcases(iM (m:=s.mem) hx).2with e|⟨o',_,e⟩<;>(simp only[cG.run,e,m6];rfl)
 .obtain⟨r',hr,h⟩:=aF h;obtain⟨hv,u,n,hu,e,hn⟩:=hx;have hn:=hn r' hr;subst hn;exact .int hm ht hB (λ_ _=>by simp only[cG.run,e];rfl) h
 .obtain⟨hv,u,hu,e⟩:=hx;exact .int hm ht hB (λ_ _=>by simp only[cG.run,e];rfl) h
 grind
theorem RR{x:cx}(h:dw E wk ctx s2 row dst nx (.JT x) K=some r):eE ρ B B' s2 s (.JT x) row dst p K r:=by
 obtain⟨c,hx,h⟩:=cR h;have hx:=bz cy hx;split at h;.have e:x.ev s.slots=.own [] .full:=hx;exact .int hm ht hB (λ_ _=>by simp only[cG.run,e,m6];rfl) h
 .have e:x.ev s.slots=.own (bF _ _) .full:=hx;exact .int hm ht hB (λ_ _=>by simp only[cG.run,e,bC];rfl) h
 grind
theorem RS{x:cx}(h:dw E wk ctx s2 row dst nx (.HW x) K=some r):eE ρ B B' s2 s (.HW x) row dst p K r:=by
 simp[dw]at h;split at h;.rename_i b hx;have e:x.ev s.slots=_:=bz cy hx;exact .int hm ht hB (λ_ _=>by simp only[cG.run,e,IV];rfl) h
 grind
omit cy in theorem RT{n:Nat}(h:dw E wk ctx s2 row dst nx (.Ft n) K=some r):eE ρ B B' s2 s (.Ft n) row dst p K r:=by exact .int hm ht hB (λ_ _=>rfl) h
theorem La{n sz:Nat}{x:cx}(h:dw E wk ctx s2 row dst nx (.sliceB n sz x) K=some r):eE ρ B B' s2 s (.sliceB n sz x) row dst p K r:=by
 obtain⟨c,hc,h⟩:=cR h;have hc:=bz cy hc;split at h
 .rename_i lv sl aq i off _;split at h;.rename_i hi;obtain⟨hv,u,hu,e⟩:=hc;refine .pure (a:=.dz lv sl u off n sz) hm ht hB (λ_ _=>?_) (show RV ρ B s2.mem (.c (.dz lv sl aq off n sz)) (.dz lv sl u off n sz)from⟨hv,u,hu,rfl⟩) h;simp[cG.run,e,hi]
  grind
 grind
theorem RU{x y:cx}(h:dw E wk ctx s2 row dst nx (.HX x y) K=some r):eE ρ B B' s2 s (.HX x y) row dst p K r:=by
 simp[dw]at h;split at h
 .rename_i k a k' b hx hy;split at h;.subst_vars;have e1:=uu (bz cy hx);have e2:=uu (bz cy hy);exact .int hm ht hB (λ_ _=>by simp only[cG.run,e1,e2,jn,nC]) h
  grind
 grind
theorem RW{x y:cx}(h:dw E wk ctx s2 row dst nx (.HY x y) K=some r):eE ρ B B' s2 s (.HY x y) row dst p K r:=by
 simp[dw]at h;split at h
 .rename_i k a k' b hx hy;split at h;.subst_vars;have e1:=uu (bz cy hx);have e2:=uu (bz cy hy);exact .int hm ht hB (λ_ _=>by simp only[cG.run,e1,e2,jn,nC]) h
  grind
 grind
omit hm ht hB cy in theorem Be{m:List (Tr E2)}:∀{vs:List V2}{aL:List AV}{cs:List Cell},Dp vs=some cs->aD (RV ρ B m) vs aL->aD (RC ρ B m) cs aL/\aL.all jT=true
 |[],[],cs,h,_=>by cases h;exact⟨trivial,rfl⟩|v::vs,a::aL,cs,h,hv=>by cases v with|c x=>obtain⟨cs',h1,rfl⟩:=aJ h;obtain⟨g1,g2⟩:=Be h1 hv.2;exact⟨⟨hv.1,g1⟩,by simp[(RC.cell hv.1).2.1,g2]⟩|_=>cases h
 |[],_::_,_,_,h=>h.elim|_::_,[],_,_,h=>h.elim
theorem FE{f:Nat}{cap:List cx}(h:dw E wk ctx s2 row dst nx (.makeFunc f cap) K=some r):eE ρ B B' s2 s (.makeFunc f cap) row dst p K r:=by obtain⟨cs,hc,h⟩:=aF h;obtain⟨vs,h1,h2⟩:=aV hc;obtain⟨g1,g2⟩:=Be h2 (qh cy h1);exact .pure hm ht hB (λ_ _=>by simp only[cG.run,g2,jn]) (v:=.fK f cs) ⟨_,rfl,g1⟩ h
end
section
variable{α:Type}{ρ:bH}{B B':Nat}{s2:S2}{s:St}{op:cG}{row dst p nx:Nat}{K:iL->Option α}{r:α}{E:ah}{wk:Wk}{ctx:Nat}
def qi:∀(a b:List (Nat×Nat×Option E2))(m:List (Tr E2)),gN m (a++b)=gN (gN m a) b|[],_,_=>rfl|(lv,sl,e)::r,b,m=>by simp[nf,gN,qi r b]
def tf{m:List (Tr E2)}{lv sl cC cW aq:Nat}{r:SL}(h:rowOf (Dj m lv sl none) cC cW aq=some r):rowOf m cC cW aq=some r:=by have:=cY h;rw[lC]at this<;>simp_all[jZ,Dj,rowOf]
def nU:∀{ks:List (Nat×Nat)}{m:List (Tr E2)}{lv sl aq:Nat}{r:SL},rowOf (gN m (lV ks)) lv sl aq=some r->rowOf m lv sl aq=some r|[],_,_,_,_,_,h=>h|(a,b)::ks,m,_,_,_,_,h=>tf (nU (ks:=ks) (m:=Dj m a b none) h)
def su{m:List (Tr E2)}{ks:List (Nat×Nat)}:gh B m (gN m (lV ks)):=λ_ _ _ r _ h=>⟨r,nU h,rfl⟩
def afA(B:Nat)(m:List (Tr E2))(lv sl:Nat):E2->Prop|.box _ _=>True|.row aq _ l=>B<=aq\/∃r,rowOf m lv sl aq=some r/\r.l.length=l.length|.set _ _=>True
def fQ{m:List (Tr E2)}{ks:List (Nat×Nat)}{lv sl:Nat}{e:E2}(h:afA B m lv sl e):gh B m (gN m (lV ks++[(lv,sl,some e)])):=by
 intro cC cW aq r' hv hr;rw[qi]at hr;simp[gN]at hr;have:=cY hr;rw[lC]at this;split at this;.simp_all;rcases h with h|⟨r,h1,h2⟩<;>grind
 .exact⟨r',nU (iz.2 this),rfl⟩
def jJ{mf:List (Tr E2)}:∀{m:List (Tr bu)}{ks:List (Nat×Nat)},aD (RM ρ B mf) (lV ks) (eY m ks)|_,[]=>trivial|m,k::ks=>⟨⟨rfl,rfl,λ_ h=>by cases h⟩,jJ (m:=m) (ks:=ks)⟩
def fR{mf:List (Tr E2)}{lv sl:Nat}{e2:E2}{e:bu}(h:RE ρ B mf e2 e):aD (RM ρ B mf) [(lv,sl,some e2)] [(lv,sl,some e)]:=⟨⟨rfl,rfl,λx hx=>by simp_all⟩,trivial⟩
def GW{mf:List (Tr E2)}:∀{IU:List (Nat×Nat×Option E2)}{us:List (Nat×Nat×Option bu)},aD (RM ρ B mf) IU us->aY ρ (IU.map λu=>bX u.1 u.2.1) (us.map λu=>bX u.1 u.2.1)|[],[],_=>aY.nil|(a,b,c)::r2,(a',b',c')::r,h=>by obtain⟨⟨h1,h2,_⟩,h4⟩:=h;subst h1 h2;exact aY.j7 _ _ (GW h4)|[],_::_,h=>h.elim|_::_,[],h=>h.elim
def aY.DF{a b:List (Nat×Nat×Nat)}{v u:Nat}(hu:ρ v=some u)(h:aY ρ a b):aY ρ (kq v::a) (kq u::b):=by
 intro x hx;rcases dl.1 hx with rfl|hx;.simp_all[aY,bH,KR,kq]
 .obtain⟨y,h1,h2⟩:=h x hx<;>grind
def aY.skip{a b:List (Nat×Nat×Nat)}{k:Nat×Nat×Nat}(h:aY ρ a b):aY ρ (k::a) b:=λx hx=>by obtain⟨y,h1,h2⟩:=h x hx<;>grind
def pH.hU(hm:MR ρ B s2.mem s.mem)(ht:TR ρ B s2.aI s.aI)(hB:B<=B'){IU:List (Nat×Nat×Option E2)}{us:List (Nat×Nat×Option bu)}{v:V2}{a:AV}{UQ rd:List (Nat×Nat×Nat)}(hst:gh B s2.mem (gN s2.mem IU))(hu:aD (RM ρ B' (gN s2.mem IU)) IU us)(hv:RV ρ B' (gN s2.mem IU) v a)(hr:aY ρ UQ rd):pH ρ B B' s2 s {val:=v,dx:=IU,cU:=[],rd:=UQ} {val:=a,dx:=us,cU:=[],rd:=rd}:=⟨hv,hm.dx hB hst hu,ht.up hB,hst,hr,by exact(GW hu).append aY.nil⟩
def nV{m:List (Tr E2)}:RV ρ B m (.fu []) kP:=⟨[],rfl,trivial⟩
variable(hm:MR ρ B s2.mem s.mem)(ht:TR ρ B s2.aI s.aI)(cy:wJ ρ B s2.mem s2.slots s.slots)(hB:B<=nx)(gC:ρ nx=some p)
include hm ht hB gC
theorem zG{lq d:Nat}{cs:List Cell}{aL:List AV}(hc:aD (RC ρ B s2.mem) cs aL)(hrun:∀call sh,op.run call sh s row dst p=some (.bZ {val:=.ptr lq d p 0 0,dx:=[(lq,d,some (.box p aL))],cU:=[],rd:=[]}))(h:K (.bZ {val:=.c (.ptr lq d nx 0 0),dx:=[(lq,d,some (.box nx cs))],cU:=[],rd:=[]})=some r):eE ρ B (nx+1) s2 s op row dst p K r:=by have hst:gh B s2.mem (gN s2.mem [(lq,d,some (.box nx cs))]):=fQ (ks:=[]) (e:=.box nx cs) trivial;refine⟨_,_,hrun,.hU hm ht (by omega) hst (fR ⟨by omega,p,aL,gC,rfl,hc.mono λ_ _=>RC.move hst (by omega) λ_ _=>rfl⟩) (v:=.c (.ptr lq d nx 0 0)) ⟨by omega,p,gC,rfl⟩ aY.nil,h⟩
theorem Ob{z:List AV}(h:dw E wk ctx s2 row dst nx (.alloc z) K=some r):eE ρ B (nx+1) s2 s (.alloc z) row dst p K r:=by obtain⟨cs,hc,h⟩:=aF h;rw[hm.len]at h;exact zG hm ht hB gC (yu hc) (λ_ _=>rfl) h
include cy in theorem UY{x:cx}(h:dw E wk ctx s2 row dst nx (.box x) K=some r):eE ρ B (nx+1) s2 s (.box x) row dst p K r:=by
 obtain⟨cs,hc,h⟩:=aF h;obtain⟨v,hv,h1⟩:=aV hc;obtain⟨aL,g1,g2⟩:=yw h1 (bz cy hv);rw[hm.len]at h;split at h;.rename_i hb;exact zG hm ht hB gC g2 (λ_ _=>by simp only[cG.run,hb,g1,cf]) h
 .rename_i hb;split at h;.cases h
  rename_i hb';exact zG hm ht hB gC g2 (λ_ _=>by simp only[cG.run,hb,hb',g1,cf]) h
omit gC hB ht in theorem Lb{sz:Nat}{pc:Cell}{a:AV}{K:List Cell->Option α}(h:P7 s2.mem sz pc K=some r)(hp:RC ρ B s2.mem pc a):∃cs aL,tc s.mem sz a=some aL/\aD (RC ρ B s2.mem) cs aL/\K cs=some r:=by
 unfold P7 at h;split at h
 .rename_i lv sl aq i off;obtain⟨hv,u,hu,rfl⟩:=hp;split at h
  .rename_i v cs he;split at h;.rename_i hb;simp only[al]at hb;obtain⟨⟨Lc,hi⟩,hl⟩:=hb;have Lc:=am Lc;have hi:=am hi;obtain⟨e,g1,_,u',aL,g2,rfl,g3⟩:=hm.fI _ _ _ he;simp_all;refine⟨_,(aL.drop off).take sz,?_,(g3.drop off).take sz,h⟩;simp only[tc,g1,ur];rw[ba (by rw[<-g3.length];exact hl)]
   grind
  .rename_i v t l he;split at h
   .rename_i hb;simp only[al]at hb;obtain⟨Lc,hl⟩:=hb;have Lc:=am Lc;obtain⟨x,hx,h⟩:=bind_some h;obtain⟨e,g1,_,u',g2,rfl⟩:=hm.fI _ _ _ he;simp_all;refine⟨_,(((fm t x).map .d).drop off).take sz,?_,((mJ t x).drop off).take sz,h⟩;have:(bF t l)[i]?=some (fm t x):=by rw[DA,hx];rfl
    simp only[tc,g1,ur,this];rw[ba (by rw[fD];exact hl)]<;>simp_all
   grind
  .cases h
  grind
 .rename_i t x off;split at h;.rename_i hl;have hl:=ft hl;have e:a=_:=hp;refine⟨_,(((fm t x).map .d).drop off).take sz,?_,((mJ t x).drop off).take sz,h⟩;rw[e];simp only[tc];rw[ba (by rw[fD];exact hl)]<;>simp_all
  grind
 grind
omit gC in include cy in theorem RX{sz:Nat}{agg:Bool}{x:cx}(h:dw E wk ctx s2 row dst nx (.load sz agg x) K=some r):eE ρ B (nx+1) s2 s (.load sz agg x) row dst p K r:=by obtain⟨pc,hx,h⟩:=cR h;have hx:=bz cy hx;obtain⟨cs,aL,g1,g2,h⟩:=Lb hm h hx;obtain⟨v,hv,h⟩:=aF h;obtain⟨a,g3,g4⟩:=Dz hv g2;exact⟨_,_,λ_ _=>by simp only[cG.run,g1,g3,ae,cf],.zD hm ht (by omega) g4 (vr hx),h⟩
omit hm ht hB gC in theorem yz{ks:List (Nat×Nat)}{lv sl:Nat}(h:Dq ks lv sl=false):¬(lv,sl)∈ks:=by
 intro hk;have:Dq ks lv sl=true:=by simp_all[Dq]
 grind
omit hm ht hB gC in theorem qJ:∀(t:Ty)(x:t.den),cJ (jE t x)=some (fm t x)|.val,v=>by cases v;simp[jE,cJ,pG,fm,NZ,rP.kind,rP.int,rP.text,rP.list,rP.cut,bF,ru]|.int _,_=>rfl|.bool,_=>rfl|.str,_=>rfl|.sl _,_=>rfl|.unit,_=>rfl|.prod a b,x=>ny (qJ a x.1) (qJ b x.2)|.sum _ _,_=>rfl
omit hm ht hB gC in theorem qK:∀{cs:List Cell}{ds:List D},cJ cs=some ds->ds.length=cs.length|[],ds,h=>by cases h;rfl|c::r,ds,h=>by obtain⟨x,xs,h1,h2,rfl⟩:=iH h;simp[qK h2]
omit hm ht hB gC in theorem uw:∀{cs:List Cell}{ds:List D}(n:Nat),cJ cs=some ds->cJ (cs.take n)=some (ds.take n)|_,_,0,_=>by simp[cJ]|[],ds,n+1,h=>by cases h;rfl|c::r,ds,n+1,h=>by obtain⟨x,xs,h1,h2,rfl⟩:=iH h;simp[List.take_succ_cons,cJ,h1,uw n h2]
omit hm ht hB gC in theorem ux:∀{cs:List Cell}{ds:List D}(n:Nat),cJ cs=some ds->cJ (cs.drop n)=some (ds.drop n)|_,_,0,h=>by grind|[],ds,n+1,h=>by cases h;rfl|c::r,ds,n+1,h=>by obtain⟨x,xs,h1,h2,rfl⟩:=iH h;simpa using ux n h2
omit hm ht hB gC in theorem FF{cs new:List Cell}{ds ds':List D}(h:cJ cs=some ds)(h':cJ new=some ds')(off:Nat):cJ (bL.splice cs off new)=some (bL.splice ds off ds'):=by unfold bL.splice;rw[qK h'];exact ny (ny (uw off h) h') (ux _ h)
omit gC in theorem RY{sz:Nat}{pc:Cell}{new:List Cell}{a v:AV}{aL:List AV}(h:N1 s2.mem sz pc new K=some r)(hp:RC ρ B s2.mem pc a)(hv:cellsOf v=some aL)(hn:aD (RC ρ B s2.mem) new aL):∃E e,rV s.mem sz a v=some e/\pH ρ B (nx+1) s2 s E e/\K (.bZ E)=some r:=by
 unfold N1 at h;split at h
 .rename_i lv sl aq i off hz;have hz:=am hz;rw[hn.length]at hz;obtain⟨Fv,u,hu,rfl⟩:=hp;split at h
  .rename_i vv cs he;split at h;.rename_i hb;simp only[al]at hb;obtain⟨⟨Lc,hi⟩,hl⟩:=hb;have Lc:=am Lc;have hi:=am hi;have hl:=ft hl;subst Lc hi;obtain⟨e,g1,_,u',bs,g2,rfl,g3⟩:=hm.fI _ _ _ he;rw[hu]at g2;cases g2;have hst:gh B s2.mem (gN s2.mem [(lv,sl,some (.box vv (bL.splice cs off new)))]):=fQ (ks:=[]) (e:=.box _ _) trivial;refine⟨_,_,?_,.hU hm ht (B':=nx+1) (by omega) hst (fR (e:=.box u (bL.splice bs off aL)) ⟨by omega,u,_,hu,rfl,(zE g3 hn off).mono λ_ _=>RC.move hst (by omega) λ_ _=>rfl⟩) nV (aY.j7 lv sl aY.nil),h⟩;simp only[rV,hv,g1,ur];rw[ba hz,ba (by rw[<-g3.length];exact hl)]
   grind
  .rename_i vv t l he;split at h
   .rename_i new' ks hb hf;simp only[al]at hb;obtain⟨Lc,hl⟩:=hb;have Lc:=am Lc;have hl:=ft hl;subst Lc;split at h;.cases h
    .rename_i hk;obtain⟨x,hx,h⟩:=bind_some h;obtain⟨y,hy,h⟩:=aF h;obtain⟨e,g1,_,u',g2,rfl⟩:=hm.fI _ _ _ he;rw[hu]at g2;cases g2;obtain⟨ds,g3,g4⟩:=N6 hm hf hn;have hy:=ry hy (FF (qJ t x) g4 off);have hrow:rowOf s2.mem lv sl vv=some ⟨t,l⟩:=iz.2 he;have hst:gh B s2.mem (gN s2.mem (lV ks++[(lv,sl,some (.row vv t (l.set i y)))])):=fQ (.inr ⟨_,hrow,by simp⟩);refine⟨_,_,?_,.hU hm ht (B':=nx+1) (by omega) hst ((jJ (m:=s.mem)).append (fR (e:=.row u (bF t (l.set i y))) ⟨by omega,u,hu,rfl⟩)) nV (aY.j7 lv sl (aY.jz ks)),h⟩;have hg:(bF t l)[i]?=some (fm t x):=by rw[DA,hx];rfl
     simp only[rV,hv,g1,ur,hg,g3];rw[ba hz,ba ⟨by rw[fD];exact hl,yz hk⟩,hy];simp[bF,List.map_set]
   grind
  .cases h
  grind
 grind
omit gC in include cy in theorem Oc{sz:Nat}{x v:cx}(h:dw E wk ctx s2 row dst nx (.store sz x v) K=some r):eE ρ B (nx+1) s2 s (.store sz x v) row dst p K r:=by obtain⟨pc,hx,h⟩:=cR h;obtain⟨new,hn,h⟩:=aF h;obtain⟨w,hw,h1⟩:=aV hn;obtain⟨aL,g1,g2⟩:=yw h1 (bz cy hw);obtain⟨E',e,h2,h3,h4⟩:=RY hm ht hB h (bz cy hx) g1 g2;exact⟨E',e,λ_ _=>by simp only[cG.run,h2,cf],h3,h4⟩
end
section
variable{α:Type}{ρ:bH}{B B':Nat}{s2:S2}{s:St}{op:cG}{row dst p nx:Nat}{K:iL->Option α}{r:α}{E:ah}{wk:Wk}{ctx:Nat}
def TR.fresh{t2 t:Tr Unit}(h:TR ρ B t2 t)(hB:B<=nx)(gC:ρ nx=some p):TR ρ (nx+1) (eX t2 [(nx,true)]) (eX t [(p,true)]):=by
 intro v hv;simp[eX,jn]at hv⊢;rw[Tr.cL]at hv;split at hv;.simp_all;rw[Tr.cL,ba rfl]
 .obtain⟨h1,h2⟩:=h v hv;refine⟨by omega,λu hu=>?_⟩;rw[Tr.cL]<;>grind
def TR.akH{t2 t:Tr Unit}(h:TR ρ B t2 t)(v:Nat):TR ρ B (t2.set v none) t:=by
 intro v' hv;rw[Tr.cL]at hv;split at hv;.cases hv
 .exact h v' hv
def TR.drop{t2 t:Tr Unit}(h:TR ρ B t2 t)(hinj:∀v v' u,ρ v=some u->ρ v'=some u->v=v'){v u:Nat}(hu:ρ v=some u):TR ρ B (t2.set v none) (t.set u none):=by
 intro v' hv;rw[Tr.cL]at hv;split at hv;.cases hv
 .refine⟨(h v' hv).1,λu' mA=>?_⟩;rw[Tr.cL];split;.grind
  .exact(h v' hv).2 u' mA
def fS{a t:Ty}{l:List a.den}{l':List t.den}(h:j6 a t l=some l'):bF a l=bF t l'/\l.length=l'.length:=by obtain⟨e,he⟩:=Dw h<;>grind
def mL{n b:Nat}(h:room n b=true):n<=eW/\n*b<=jA:=by simpa[room]using h
def GX{m:List (Tr E2)}{mm:List (Tr bu)}(hm:MR ρ B m mm){x:Cell}{a:AV}{e:Option Ty}{K:SL->Option α}(h:qe m x e K=some r)(hx:RC ρ B m x a)(hne:∀b,x≠.str b):∃els,dJ mm a=some els:=by
 unfold qe at h;split at h;.exact⟨_,(js hx).1⟩
 .exact⟨_,(iM hx).1⟩
 .obtain⟨r',hr,h⟩:=aF h;exact⟨_,nA hm hx hr⟩
 .obtain⟨r',hr,h⟩:=aF h;have q:=cK h;obtain⟨hl,h⟩:=q;exact⟨_,kD hm hx hr (dv hl)⟩
 .grind
 grind
variable(hm:MR ρ B s2.mem s.mem)(ht:TR ρ B s2.aI s.aI)(cy:wJ ρ B s2.mem s2.slots s.slots)(hB:B<=nx)(gC:ρ nx=some p)(hinj:∀v v' u,ρ v=some u->ρ v'=some u->v=v')
include hm ht hB gC
omit ht in theorem pH.DG{t:Ty}{l:List t.den}{els:List (List D)}{UQ rd:List (Nat×Nat×Nat)}{tp2 tp:List (Nat×Bool)}(he:els=bF t l)(hr:aY ρ UQ rd)(htp:TR ρ (nx+1) (eX s2.aI tp2) (eX s.aI tp))(hw:aY ρ (tp2.map λu=>kq u.1) (tp.map λu=>kq u.1)):pH ρ B (nx+1) s2 s {val:=.c (.sl t l (.app nx)),dx:=[],cU:=tp2,rd:=UQ} {val:=.own els (.cU p t.size),dx:=[],cU:=tp,rd:=rd}:=by subst he;exact⟨⟨by omega,.inr ⟨p,gC,rfl⟩⟩,hm.mono (by omega),htp,gh.refl _ _,hr,by simpa[KN.wr,fy.wr]using hw⟩
theorem pH.sv{t:Ty}{l:List t.den}{els:List (List D)}{n lv sl:Nat}{ks:List (Nat×Nat)}{UQ rd:List (Nat×Nat×Nat)}(he:els=bF t l)(hn:n=l.length)(hr:aY ρ UQ rd):pH ρ B (nx+1) s2 s {val:=.c (.ref lv sl nx t),dx:=lV ks++[(lv,sl,some (.row nx t l))],cU:=[],rd:=UQ} {val:=.ref lv sl p 0 n t.size,dx:=eY s.mem ks++[(lv,sl,some (.row p els))],cU:=[],rd:=rd}:=by
 subst he hn;refine .hU hm ht (by omega) (fQ (.inl hB)) (jJ.append (fR ⟨by omega,p,gC,rfl⟩)) ⟨by omega,p,l.length,gC,rfl,λr' hr'=>?_⟩ hr;rw[qi]at hr';simp[gN]at hr';have:=cY hr';rw[lC]at this;split at this;.grind
 .have h1:=nU (iz.2 this);obtain⟨e,_,hlt,_⟩:=hm.fI _ _ _ (cY h1)<;>omega
include hinj in theorem IX{afB:Bool}{lv sl sz bytes:Nat}{x y:Cell}{a b:AV}{e:Option Ty}(h:RK s2 afB lv sl nx sz bytes x y e K=some r)(hx:RC ρ B s2.mem x a)(hy:RC ρ B s2.mem y b):∃E e,ew s afB lv sl p sz bytes a b=some e/\pH ρ B (nx+1) s2 s E e/\K (.bZ E)=some r:=by
 unfold RK at h;have TJ:=vr hy;split at h
 .obtain⟨n,hn,h⟩:=lW hm h hy;split at h
  .rename_i hz;have hz:=am hz;have q:=cK h;obtain⟨hr,h⟩:=q;have hr:=mL hr;cases hx;split at h;.refine⟨_,_,?_,.DG hm hB gC (l:=n.l) (els:=[]++bF n.t n.l) rfl TJ (ht.fresh hB gC) (aY.DF gC aY.nil),h⟩;simp only[ew,<-hz,hn,iA,jn,wi,m6,kb,bC];rw[ba ⟨trivial,hr.1,hr.2⟩]
   .refine⟨_,_,?_,.sv hm ht hB gC (ks:=[]) (els:=[]++bF n.t n.l) rfl rfl TJ,h⟩;simp only[ew,<-hz,hn,iA,jn,wi,m6,kb,bC];rw[ba ⟨trivial,hr.1,hr.2⟩];simp[eY]
  .cases h
 .rename_i t l;have q:=lW hm h hy;obtain⟨n,hn,h⟩:=q;split at h
  .rename_i news hz hc;have hz:=am hz;obtain⟨hc,_⟩:=fS hc;rw[hc]at hn;have q:=cK h;obtain⟨hr,h⟩:=q;have hr:=mL hr;cases hx;split at h;.refine⟨_,_,?_,.DG hm hB gC (l:=l++news) (els:=bF t l++bF t news) (nT ..).symm TJ (ht.fresh hB gC) (aY.DF gC aY.nil),h⟩;simp only[ew,<-hz,hn,iA,jn,bC];rw[ba ⟨trivial,hr.1,hr.2⟩]
   .obtain⟨hne,h⟩:=cK h;refine⟨_,_,?_,.sv hm ht hB gC (ks:=[]) (l:=l++news) (n:=l.length+news.length) (els:=bF t l++bF t news) (nT ..).symm (by simp) TJ,h⟩;simp only[ew,<-hz,hn,iA,jn,bC];rw[ba ⟨trivial,hr.1,hr.2⟩,bi (by
    intro hc;have h1:l.isEmpty=false:=by simpa[bF]using hc.1
    have h2:news.isEmpty=true:=by simpa[bF]using hc.2
    rw[h1,h2]at hne;cases hne)];simp[eY]
  .cases h
 .rename_i t l v;have q:=lW hm h hy;obtain⟨n,hn,h⟩:=q;cases hz:Nat.beq t.size sz with|false=>simp[hz]at h|true=>cases hc:j6 n.t t n.l with|none=>simp[hz,hc]at h|some news=>cases afB with|true=>simp[hz,hc]at h|false=>cases htip:s2.aI.get? v with|none=>simp[hz,hc,htip]at h|some un=>
  simp[hz,hc,htip]at h
  .have hz:=am hz;obtain⟨hc,_⟩:=fS hc;rw[hc]at hn;have q:=cK h;obtain⟨hr,h⟩:=q;have hr:=mL hr;rcases hx with⟨hv,⟨hu,rfl⟩|⟨u,hu,rfl⟩⟩;.refine⟨_,_,?_,.DG hm hB gC (l:=l++news) (els:=bF t l++bF t news) (tp2:=[(v,false),(nx,true)]) (tp:=[(p,true)]) (nT ..).symm TJ.skip (TR.fresh (ht.akH v) hB gC) (aY.skip (aY.DF gC aY.nil)),h⟩;simp only[ew,<-hz,hn,iA,jn,bC];rw[ba ⟨trivial,hr.1,hr.2⟩]
   .refine⟨_,_,?_,.DG hm hB gC (l:=l++news) (els:=bF t l++bF t news) (tp2:=[(v,false),(nx,true)]) (tp:=[(u,false),(p,true)]) (nT ..).symm (aY.DF hu TJ) (TR.fresh (ht.drop hinj hu) hB gC) (aY.DF hu (aY.DF gC aY.nil)),h⟩;have:=(ht v htip).2 u hu;simp only[ew,<-hz,hn,iA,jn,bC];rw[ba ⟨trivial,hr.1,hr.2,by rw[this];rfl⟩]
 .rename_i cC cW aq t;have q:=aF h;obtain⟨r',hr',h⟩:=q;have q:=lW hm h hy;obtain⟨n,hn,h⟩:=q;split at h;.rename_i l news hz hc1 hc;have hz:=am hz;obtain⟨hc,_⟩:=fS hc;obtain⟨hc1,ov⟩:=fS hc1;rw[hc]at hn;have q:=cK h;obtain⟨hr,h⟩:=q;have hr:=mL hr;obtain⟨hv,u,n',hu,rfl,hn'⟩:=hx;have hn':=hn' _ hr';rw[ov]at hn';subst hn';have hrow:=(jG hm hr' hu).2;rw[hc1]at hrow;refine⟨_,_,?_,.sv hm ht hB gC (ks:=[]) (l:=l++news) (n:=l.length+news.length) (els:=bF t l++bF t news) (nT ..).symm (by simp) (aY.j7 cC cW TJ),h⟩;simp only[ew,<-hz,hn,iA,jn,hrow,bC];rw[ba ⟨trivial,by omega,hr.1,hr.2⟩];simp[eY,f1,bC]
  .cases h
 .rename_i cC cW aq t off len;have q:=aF h;obtain⟨r',hr',h⟩:=q;have q:=lW hm h hy;obtain⟨n,hn,h⟩:=q;split at h;.rename_i l news hz hc1 hc;have hz:=am hz;obtain⟨hc,_⟩:=fS hc;obtain⟨hc1,ov⟩:=fS hc1;rw[hc]at hn;have q:=cK h;obtain⟨hr,h⟩:=q;rw[al]at hr;have hl:=dv hr.1;have hr:=mL hr.2;obtain⟨hv,u,hu,rfl,_⟩:=hx;have hrow:=(jG hm hr' hu).2;rw[hc1]at hrow;refine⟨_,_,?_,.sv hm ht hB gC (ks:=[]) (l:=(l.drop off).take len++news) (n:=len+news.length) (els:=((bF t l).drop off).take len++bF t news) (by simp[bF,se,vx]) (by simp;omega) (aY.j7 cC cW TJ),h⟩;simp only[ew,<-hz,hn,iA,jn,hrow,bC];rw[ba ⟨trivial,hl,hr.1,hr.2⟩];simp[eY]
  .cases h
 .cases h
theorem abj{sz:Nat}{x:Cell}{a:AV}{lo hi:Option Nat}(h:afu s2.mem sz nx x lo hi K=some r)(hx:RC ρ B s2.mem x a)(l h':Nat)(hl:l=lo.getD 0)(hh:∀n,hi=some n->h'=n):∃E e,JX s p sz a l (hi.map λ_=>h')=some e/\pH ρ B (nx+1) s2 s E e/\K (.bZ E)=some r:=by
 have ehi:hi.map (λ_=>h')=hi:=by cases hi with|none=>rfl|some n=>grind
 rw[ehi];subst hl;unfold afu at h;split at h
 .rename_i lv sl aq t;have q:=aF h;obtain⟨r',hr',h⟩:=q;split at h
  .rename_i l' hz hc1;have hz:=am hz;obtain⟨hc1,ov⟩:=fS hc1;have q:=cK h;obtain⟨hp,h⟩:=q;have Ca:=jI hp;obtain⟨hv,u,n',hu,rfl,hn'⟩:=hx;have hn':=hn' _ hr';rw[ov]at hn';subst hn';have hrow:=(jG hm hr' hu).2;rw[hc1]at hrow;have he:=zF (t:=t) hp;rw[bC]at he;refine⟨_,_,?_,.sv hm ht hB gC (ks:=[]) (l:=qf l' lo hi) (n:=hi.getD l'.length-lo.getD 0) (els:=((bF t l').drop (lo.getD 0)).take (hi.getD l'.length-lo.getD 0)) he.symm ?_ (aY.j7 lv sl aY.nil),h⟩;.simp only[JX,hrow,<-hz];rw[ba ⟨trivial,Ca.1,Ca.2,by rw[bC];omega⟩];simp[eY]
   .rw[DE hp,i7,oi];omega
  grind
 grind
omit hm ht hB gC in theorem RC.ot{m:List (Tr E2)}{c:Cell}{a:AV}(h:RC ρ B m c a):bL.ot a=c.ot:=by cases c with
 |nil f=>cases f with|false=>rcases h with rfl|⟨_,_,rfl⟩<;>rfl|true=>cases h;rfl
 |sl t l o=>cases o with|d=>rcases h with rfl|⟨_,_,rfl⟩<;>rfl|bD=>rcases h with rfl|⟨_,rfl⟩<;>rfl|full=>cases h;rfl|app v=>rcases h.2with⟨_,rfl⟩|⟨_,_,rfl⟩<;>rfl
 |ref=>obtain⟨_,_,_,_,rfl,_⟩:=h;rfl|ki=>obtain⟨_,_,_,rfl,_⟩:=h;rfl|ptr=>obtain⟨_,_,_,rfl⟩:=h;rfl|dz=>obtain⟨_,_,_,rfl⟩:=h;rfl|mp=>obtain⟨_,_,_,rfl⟩:=h;rfl|int=>cases h;rfl|bool=>cases h;rfl|er=>cases h;rfl|str=>cases h;rfl|raw=>cases h;rfl|e9=>cases h;rfl
include cy in theorem Od{sz:Nat}{x:cx}{lo hi mx:Option cx}(h:dw E wk ctx s2 row dst nx (.slice sz x lo hi mx) K=some r):eE ρ B (nx+1) s2 s (.slice sz x lo hi mx) row dst p K r:=by
 have q:=cR h;obtain⟨c,hx,h⟩:=q;have q:=rA cy h;obtain⟨l,el,il,h⟩:=q;have q:=rA cy h;obtain⟨h',eh,ih,h⟩:=q;have q:=rA cy h;obtain⟨k,ek,ik,h⟩:=q;have e1:hi.map (λ_=>h'.getD 0)=h'.map λ_=>h'.getD 0:=by cases hi<;>cases h'<;>simp_all
 have e2:mx.map (λ_=>k.getD 0)=k.map λ_=>k.getD 0:=by cases mx<;>cases k<;>simp_all
 have hir:=RC.ot (bz cy hx);split at h;.rename_i hq;rw[<-hir]at hq;obtain⟨E',e,g1,g2,g3⟩:=abj hm ht hB gC h (bz cy hx) (l.getD 0) (h'.getD 0) rfl (λn e=>by rw[e];rfl);exact⟨E',e,λ_ _=>by simp only[cG.run,el,eh,ek,hq,e1,g1,cf],g2,g3⟩
 .rename_i hq;rw[<-hir]at hq;obtain⟨a',c',g1,g2,g3⟩:=RQ h (bz cy hx) (l.getD 0) (h'.getD 0) (k.getD 0) rfl (λn e=>by rw[e];rfl) (λn e=>by rw[e];rfl);refine .pure hm ht (by omega) (a:=a') (λ_ _=>?_) (v:=.c c') g2 g3;simp[cG.run,el,eh,ek,hq,e1,e2,g1,ae]
include hinj cy in theorem Ld{sz bytes:Nat}{x y:cx}(h:dw E wk ctx s2 row dst nx (.append sz bytes x y) K=some r):eE ρ B (nx+1) s2 s (.append sz bytes x y) row dst p K r:=by
 simp only[dw]at h;split at h;.cases h
 rename_i h11;have q:=cR h;obtain⟨a,ha,h⟩:=q;have q:=cR h;obtain⟨b,hb,h⟩:=q;rw[hm.len]at h;obtain⟨E',e,h1,h2,h3⟩:=IX hm ht hB gC hinj h (bz cy ha) (bz cy hb);exact⟨E',e,λ_ _=>by simp only[cG.run,h11,h1,cf],h2,h3⟩
include hinj cy in theorem IY{sz bytes:Nat}{z:List D}{x n:cx}(h:dw E wk ctx s2 row dst nx (.qa sz bytes z x n) K=some r):eE ρ B (nx+1) s2 s (.qa sz bytes z x n) row dst p K r:=by
 have q:=cR h;obtain⟨a,ha,h⟩:=q;have q:=mK h;obtain⟨kl,l',hl,hl0,h⟩:=q;have q:=aF h;obtain⟨t,_,h⟩:=q;have q:=aF h;obtain⟨z',Nw,h⟩:=q;obtain⟨zc,TI,hz2⟩:=aV Nw;have hze:=ry hz2 (rz TI);split at h;.rename_i hb;simp only[al]at hb;have h2:=am hb.2;have q:=cK h;obtain⟨hr,h⟩:=q;have hr:=mL hr;rw[hm.len]at h;have hb:RC ρ B s2.mem (.sl t (List.replicate l'.toNat z') .d) (.d (.sl (List.replicate l'.toNat z))):=.inl (by simp[bF,hze]);obtain⟨E',e,h3,h4,h5⟩:=IX hm ht hB gC hinj h (bz cy ha) hb;exact⟨E',e,λ_ _=>by simp only[cG.run,jH (bz cy hl) hl0,ae];rw[ba ⟨h2,hr.1,hr.2⟩,h3,cf],h4,h5⟩
 grind
include hinj cy in theorem Oe{sz bytes:Nat}{x:cx}(h:dw E wk ctx s2 row dst nx (.clone sz bytes x) K=some r):eE ρ B (nx+1) s2 s (.clone sz bytes x) row dst p K r:=by
 simp only[dw]at h;split at h;.cases h
 rename_i h11;have q:=cR h;obtain⟨b,hb,h⟩:=q;have hb:=bz cy hb;split at h;.cases h
 .rename_i hne;rw[hm.len]at h;have he:∃els,dJ s.mem (x.ev s.slots)=some els:=by unfold RK at h;exact GX hm h hb (λb' e=>hne b' e)
  obtain⟨els,he⟩:=he;obtain⟨E',e,h1,h2,h3⟩:=IX hm ht hB gC hinj h (show RC ρ B s2.mem (.nil true) (.own [] .full)from rfl) hb;exact⟨E',e,λ_ _=>by simp only[cG.run,h11,he,h1,cf],h2,h3⟩
omit gC hm ht hB in theorem GY{t:Ty}:∀l:List t.den,aD (RC ρ B s2.mem) (l.flatMap (jE t)) (((l.map (fm t)).flatten).map .d)|[]=>trivial|x::l=>by simp only[d8,f2,pi,gc];exact(mJ t x).append (GY l)
omit gC in include cy in theorem RZ{sz:Nat}{x y:cx}(h:dw E wk ctx s2 row dst nx (.copy sz x y) K=some r):eE ρ B (nx+1) s2 s (.copy sz x y) row dst p K r:=by
 have q:=cR h;clear h;obtain⟨a,ha,h⟩:=q;have q:=cR h;clear h;obtain⟨b,hb,h⟩:=q;have ha:=bz cy ha;have hb:=bz cy hb;have TJ:=vr hb;split at h
 .rename_i lv sl aq t _;have q:=aF h;obtain⟨r',hr',h⟩:=q;have q:=lW hm h hb;obtain⟨n,hn,h⟩:=q;split at h;.rename_i l news hz hc1 hc;have hz:=am hz;obtain⟨hc,_⟩:=fS hc;obtain⟨hc1,ov⟩:=fS hc1;rw[hc]at hn;obtain⟨hv,u,n',hu,ea,hn'⟩:=ha;have hn':=hn' _ hr';rw[ov]at hn';subst hn';have hrow:=(jG hm hr' hu).2;rw[hc1]at hrow;have hst:gh B s2.mem (gN s2.mem [(lv,sl,some (.row aq t (Dl news l)))]):=fQ (ks:=[]) (.inr ⟨_,hr',by simp[Dl,ov];omega⟩);refine⟨_,_,λ_ _=>?_,.hU hm ht (by omega) hst (fR (e:=.row u (bF t (Dl news l))) ⟨by omega,u,hu,rfl⟩) (v:=.c (.int .i64 ((min news.length l.length:Nat):Int))) (a:=qR (min news.length l.length)) (show _=_ from rfl) (aY.j7 lv sl TJ),h⟩;simp[cG.run,<-hz,ea,hn,hrow,iA,bC];simp[Dl,bL.splice,bF,se,vx]
  grind
 .rename_i lv sl aq t off len _;have q:=aF h;obtain⟨r',hr',h⟩:=q;have q:=lW hm h hb;obtain⟨n,hn,h⟩:=q;split at h;.rename_i l news hz hc1 hc;have hz:=am hz;obtain⟨hc,_⟩:=fS hc;obtain⟨hc1,ov⟩:=fS hc1;rw[hc]at hn;have q:=cK h;obtain⟨hl,h⟩:=q;have hl:=dv hl;obtain⟨hv,u,hu,ea⟩:=ha;have hrow:=(jG hm hr' hu).2;rw[hc1]at hrow;have hst:gh B s2.mem (gN s2.mem [(lv,sl,some (.row aq t (l.take off++(news.take (min news.length len)++l.drop (off+(news.take (min news.length len)).length)))))]):=fQ (ks:=[]) (.inr ⟨_,hr',by simp[ov];omega⟩);refine⟨_,_,λ_ _=>?_,.hU hm ht (by omega) hst (fR (e:=.row u (bF t (l.take off++(news.take (min news.length len)++l.drop (off+(news.take (min news.length len)).length))))) ⟨by omega,u,hu,rfl⟩) (v:=.c (.int .i64 ((min news.length len:Nat):Int))) (a:=qR (min news.length len)) (show _=_ from rfl) (aY.j7 lv sl TJ),h⟩;simp only[cG.run,<-hz,ea,hn,hrow,iA,bC];rw[ba ⟨trivial,hl,trivial⟩];simp[bL.splice,bF,se,vx]
  grind
 .rename_i lv sl aq off n sz' _;obtain⟨Fv,u,hu,ea⟩:=ha;split at h
  .rename_i v cs he;have q:=lW hm h hb;clear h;obtain⟨nw,hn,h⟩:=q;split at h
   .rename_i hq;simp only[al]at hq;obtain⟨⟨⟨Lc,TI⟩,hl⟩,hz⟩:=hq;have Lc:=am Lc;have TI:=am TI;have hl:=ft hl;have hz:=am hz;subst Lc TI;obtain⟨e,g1,_,u',bs,g2,rfl,g3⟩:=hm.fI _ _ _ he;rw[hu]at g2;cases g2;have hst:gh B s2.mem (gN s2.mem [(lv,sl,some (.box v (bL.splice cs off ((nw.l.take (min nw.l.length n)).flatMap (jE nw.t)))))]):=fQ (ks:=[]) (e:=.box _ _) trivial;have CO:aD (RC ρ B s2.mem) ((nw.l.take (min nw.l.length n)).flatMap (jE nw.t)) ((((bF nw.t nw.l).take (min (bF nw.t nw.l).length n)).flatten).map .d):=by rw[bC];unfold bF;rw[<-se];exact GY _
    refine⟨_,_,λ_ _=>?_,.hU hm ht (B':=nx+1) (by omega) hst (fR (e:=.box u (bL.splice bs off ((((bF nw.t nw.l).take (min (bF nw.t nw.l).length n)).flatten).map .d))) ⟨by omega,u,_,hu,rfl,(zE g3 CO off).mono λ_ _=>RC.move hst (by omega) λ_ _=>rfl⟩) (v:=.c (.int .i64 ((min nw.l.length n:Nat):Int))) (a:=qR (min nw.l.length n)) (show _=_ from rfl) (aY.j7 lv sl TJ),h⟩;have as6:bL.j3 s.mem lv sl u=some bs:=by simp[bL.j3,g1,ur]
    simp only[cG.run,ea,hn,as6];rw[ba ⟨trivial,by rw[<-g3.length];exact hl,by rw[<-hz];exact iA _ _⟩,bC]
   grind
  grind
 grind
include cy in theorem DH{sz bytes:Nat}{z:List D}{l c:cx}(h:dw E wk ctx s2 row dst nx (.makeSlice sz bytes z l c) K=some r):eE ρ B (nx+1) s2 s (.makeSlice sz bytes z l c) row dst p K r:=by
 simp[dw]at h;have q:=mK h;clear h;obtain⟨kl,l',hl,hl0,h⟩:=q;have q:=mK h;clear h;obtain⟨kc,c',hc,hc0,h⟩:=q;have q:=aF h;clear h;obtain⟨t,_,h⟩:=q;have q:=aF h;clear h;obtain⟨z',Nw,h⟩:=q;obtain⟨zc,TI,hz2⟩:=aV Nw;have hze:=ry hz2 (rz TI);split at h;.rename_i hb;simp only[al]at hb;have h1:=am hb.1;have h2:=am hb.2;subst h1;have q:=cK h;obtain⟨hr,h⟩:=q;rw[al]at hr;have hle:=dv hr.1;have hr:=mL hr.2;rw[hm.len]at h;refine⟨_,_,λ_ _=>?_,.sv hm ht hB gC (ks:=[]) (l:=List.replicate l'.toNat z') (n:=l'.toNat) (els:=List.replicate l'.toNat z) (by simp[bF,hze]) (by simp) aY.nil,h⟩;simp only[cG.run,jH (bz cy hl) hl0,jH (bz cy hc) hc0];rw[ba ⟨hle,by rw[yr];exact hr.2,hr.1,h2⟩];simp[eY]
 grind
omit gC in include cy in theorem Of{sz:Nat}{z:List D}{x:cx}(h:dw E wk ctx s2 row dst nx (.clear sz z x) K=some r):eE ρ B (nx+1) s2 s (.clear sz z x) row dst p K r:=by
 have q:=cR h;obtain⟨a,ha,h⟩:=q;have ha:=bz cy ha;split at h
 .rename_i lv sl aq t _;have q:=aF h;obtain⟨r',hr',h⟩:=q;have q:=aF h;obtain⟨z',Nw,h⟩:=q;obtain⟨zc,TI,hz2⟩:=aV Nw;have hze:=ry hz2 (rz TI);split at h;.rename_i l hb hc1;simp only[al]at hb;have h1:=am hb.1;have h2:=am hb.2;obtain⟨hc1,ov⟩:=fS hc1;obtain⟨hv,u,n',hu,ea,hn'⟩:=ha;have hn':=hn' _ hr';rw[ov]at hn';subst hn';have hrow:=(jG hm hr' hu).2;rw[hc1]at hrow;have hst:gh B s2.mem (gN s2.mem [(lv,sl,some (.row aq t (List.replicate l.length z')))]):=fQ (ks:=[]) (.inr ⟨_,hr',by simp[ov]⟩);refine⟨_,_,λ_ _=>?_,.hU hm ht (by omega) hst (fR (e:=.row u (bF t (List.replicate l.length z'))) ⟨by omega,u,hu,rfl⟩) nV (aY.j7 lv sl aY.nil),h⟩;simp only[cG.run,<-h1,ea,hrow,bC];rw[ba ⟨trivial,by omega,by rw[h2,h1]⟩];simp[bL.splice,bF,hze]
  grind
 .rename_i lv sl aq t off len _;have q:=aF h;obtain⟨r',hr',h⟩:=q;have q:=aF h;obtain⟨z',Nw,h⟩:=q;obtain⟨zc,TI,hz2⟩:=aV Nw;have hze:=ry hz2 (rz TI);split at h;.rename_i l hb hc1;simp only[al]at hb;have h1:=am hb.1;have h2:=am hb.2;obtain⟨hc1,ov⟩:=fS hc1;have q:=cK h;obtain⟨hd,h⟩:=q;have hd:=dv hd;obtain⟨hv,u,hu,ea,_⟩:=ha;have hrow:=(jG hm hr' hu).2;rw[hc1]at hrow;have hst:gh B s2.mem (gN s2.mem [(lv,sl,some (.row aq t (l.take off++List.replicate len z'++l.drop (off+len))))]):=fQ (ks:=[]) (.inr ⟨_,hr',by simp[ov];omega⟩);refine⟨_,_,λ_ _=>?_,.hU hm ht (by omega) hst (fR (e:=.row u (bF t (l.take off++List.replicate len z'++l.drop (off+len)))) ⟨by omega,u,hu,rfl⟩) nV (aY.j7 lv sl aY.nil),h⟩;simp only[cG.run,<-h1,ea,hrow,bC];rw[ba ⟨trivial,hd,by rw[h2,h1]⟩];simp[bL.splice,bF,hze,se,vx]
  grind
 grind
omit hm ht hB gC in theorem sw:∀l:List Int,tK (jt l)=some l|[]=>rfl|z::l=>by show(tK (jt l)).map (z::·)=_;rw[sw l];rfl
omit hm ht hB gC in theorem RV.ot{m:List (Tr E2)}{v:V2}{a:AV}(h:RV ρ B m v a):bL.ot a=v.ot:=by cases v with|c c=>exact RC.ot h|agg=>obtain⟨_,rfl,_⟩:=h;rfl|fK=>obtain⟨_,rfl,_⟩:=h;rfl|fu=>obtain⟨_,rfl,_⟩:=h;rfl
omit hm ht hB gC in theorem R0{m:List (Tr E2)}{row lv d aR:Nat}{v:V2}{a:AV}(h:RV ρ B m v a)(h1:∀f,v≠.c (.nil f))(h2:∀t l o,v≠.c (.sl t l o)):BT row lv d aR a={val:=a,dx:=[],cU:=[],rd:=[]}:=by
 unfold BT;split;.cases v with
  |c x=>cases x with|nil f=>grind|sl t l o=>grind|ref=>obtain⟨_,_,_,_,e,_⟩:=h<;>grind|ki=>obtain⟨_,_,_,e,_⟩:=h<;>grind|ptr=>obtain⟨_,_,_,e⟩:=h<;>grind|dz=>obtain⟨_,_,_,e⟩:=h<;>grind|mp=>obtain⟨_,_,_,e⟩:=h<;>grind|int=>cases h|bool=>cases h|er=>cases h|str=>cases h|raw=>cases h|e9=>cases h
  |agg=>obtain⟨_,e,_⟩:=h<;>grind|fK=>obtain⟨_,e,_⟩:=h<;>grind|fu=>obtain⟨_,e,_⟩:=h<;>grind
 .rfl
include cy in theorem UZ{x:cx}(h:dw E wk ctx s2 row dst nx (.JS x) K=some r):eE ρ B (nx+1) s2 s (.JS x) row dst p K r:=by
 have q:=aF h;obtain⟨v,hv,h⟩:=q;have hv:=bz cy hv;have hir:=RV.ot hv;split at h
 .rename_i hq;rw[<-hir]at hq;split at h
  .rename_i lv sl aq t _;have q:=aF h;obtain⟨r',hr',h⟩:=q;have q:=aF h;obtain⟨l,hl,h⟩:=q;obtain⟨hc1,ov⟩:=fS hl;obtain⟨Fv,u,n',hu,ea,hn'⟩:=hv;have hn':=hn' _ hr';rw[ov]at hn';subst hn';have hrow:=(jG hm hr' hu).2;rw[hc1]at hrow;rw[hm.len]at h;have hst:gh B s2.mem (gN s2.mem [(lv,sl,none),(ij s.mem.length dst,dst,some (.row nx t l))]):=fQ (ks:=[(lv,sl)]) (e:=.row nx t l) (.inl hB);refine⟨_,_,λ_ _=>?_,.hU hm ht (B':=nx+1) (IU:=[(lv,sl,none),(ij s.mem.length dst,dst,some (.row nx t l))]) (us:=[(lv,sl,none),(ij s.mem.length dst,dst,some (.row p (bF t l)))]) (by omega) hst ⟨⟨rfl,rfl,λ_ h=>by cases h⟩,fR ⟨wn _,p,gC,rfl⟩⟩ (v:=.c (.ref (ij s.mem.length dst) dst nx t)) (a:=.ref (ij s.mem.length dst) dst p 0 l.length t.size) (show RC _ _ _ (.ref (ij s.mem.length dst) dst nx t) _ from⟨wn _,p,l.length,gC,rfl,λr hr=>?_⟩) (aY.j7 lv sl aY.nil),h⟩;.rw[ea]at hq;simp only[cG.run,hq,ea,JY,hrow,kb,bC,List.drop_zero];rw[show Nat.ble l.length l.length=true from mi (bc _),<-bC (t:=t) (l:=l),f4];simp[bC]
   .have this:=cY hr;simp[gN]at this;rw[lC]at this;split at this;.injection this with this;injection this with _ h1 h2;obtain⟨t',l'⟩:=r;simp only at h1 h2;subst h1;cases h2;rfl
    .have h1:=tf (iz.2 this);obtain⟨e,_,hlt,_⟩:=hm.fI _ _ _ (cY h1);omega
  grind
 rename_i hq;rw[<-hir]at hq;split at h;.rename_i hq4;refine .pure hm ht (by omega) (λ_ _=>?_) hv h;simp[cG.run,hq,BT,hq4];rfl
 .rename_i hq4;split at h
  .have e:x.ev s.slots=.own [] .full:=hv;have q:=aF h;obtain⟨t,_,h⟩:=q;split at h;.rename_i hsz;have hsz:=am hsz;rw[hm.len]at h;refine⟨_,_,λ_ _=>?_,.sv hm ht hB gC (ks:=[]) (l:=([]:List t.den)) (n:=0) (els:=[]) rfl rfl aY.nil,h⟩;rw[e]at hq;simp[cG.run,BT,hq,hq4,e,hsz];rfl
   grind
  .cases h
  .cases h
  .rename_i h1 h2 h3;refine .pure hm ht (by omega) (λ_ _=>?_) hv h;simp[cG.run,hq];rw[R0 hv (λf hf=>h2 f hf) (λt l o hf=>h3 t l o hf)];rfl
include cy in theorem IZ{x:cx}(h:dw E wk ctx s2 row dst nx (.compact x) K=some r):eE ρ B (nx+1) s2 s (.compact x) row dst p K r:=by
 have q:=cR h;obtain⟨a,ha,h⟩:=q;have ha:=bz cy ha;split at h;.have e:x.ev s.slots=.own [] .full:=ha;refine .pure hm ht (by omega) (a:=.own [] .full) (λ_ _=>?_) (v:=.c (.nil true)) rfl h;simp[cG.run,nF,e,cf];rfl
 .rename_i lv sl aq t _;have q:=aF h;obtain⟨r',hr',h⟩:=q;split at h;.rename_i l hb hc1;have h1:=am hb;obtain⟨hc1,ov⟩:=fS hc1;have q:=cK h;obtain⟨hd,h⟩:=q;obtain⟨hv,u,n',hu,ea,hn'⟩:=ha;have hn':=hn' _ hr';rw[ov]at hn';subst hn';have hrow:=(jG hm hr' hu).2;rw[hc1]at hrow;refine⟨_,_,λ_ _=>?_,.sv hm ht hB gC (ks:=[]) (t:=.int .i64) (l:=j5 l) (n:=(j5 l).length) (els:=bF (.int .i64) (j5 l)) rfl rfl (aY.j7 lv sl aY.nil),h⟩;have he:bF (.int .i64) l=jt l:=rfl;simp only[cG.run,nF,ea,hrow,he,sw,ae,h1];rw[ba ⟨trivial,by simp[jt],trivial,by simpa[jt]using hd⟩];rfl
  grind
 grind
omit gC in include cy in theorem R2{x:cx}(h:dw E wk ctx s2 row dst nx (.sort x) K=some r):eE ρ B (nx+1) s2 s (.sort x) row dst p K r:=by
 have q:=cR h;obtain⟨a,ha,h⟩:=q;have ha:=bz cy ha;split at h;.have e:x.ev s.slots=.own [] .full:=ha;exact⟨_,_,λ_ _=>by simp only[cG.run,AD,e,cf],.hU (IU:=[]) (us:=[]) hm ht (by omega) (gh.refl _ _) trivial nV aY.nil,h⟩
 .rename_i lv sl aq t _;have q:=aF h;obtain⟨r',hr',h⟩:=q;split at h;.rename_i l hb hc1;have h1:=am hb;obtain⟨hc1,ov⟩:=fS hc1;have q:=cK h;obtain⟨hd,h⟩:=q;obtain⟨hv,u,n',hu,ea,hn'⟩:=ha;have hn':=hn' _ hr';rw[ov]at hn';subst hn';have hrow:=(jG hm hr' hu).2;rw[hc1]at hrow;have hst:gh B s2.mem (gN s2.mem [(lv,sl,some (.row aq (.int .i64) (j4 l)))]):=fQ (ks:=[]) (.inr ⟨_,hr',by rw[ov];exact(oG l).symm⟩);refine⟨_,_,λ_ _=>?_,.hU hm ht (by omega) hst (fR (e:=.row u (bF (.int .i64) (j4 l))) ⟨by omega,u,hu,rfl⟩) nV (aY.j7 lv sl aY.nil),h⟩;have he:bF (.int .i64) l=jt l:=rfl;simp only[cG.run,AD,ea,hrow,he,sw,ae,h1];rw[ba ⟨trivial,by simp[jt],trivial,by simpa[jt]using hd⟩];rfl
  grind
 grind
include cy in theorem R3{sz:Nat}{x n:cx}(h:dw E wk ctx s2 row dst nx (.grow sz x n) K=some r):eE ρ B (nx+1) s2 s (.grow sz x n) row dst p K r:=by
 have q:=cR h;obtain⟨a,ha,h⟩:=q;have q:=mK h;clear h;obtain⟨kn,n',hn,hn0,h⟩:=q;have ha:=bz cy ha;split at h
 .rename_i t Db _;split at h;.rename_i hz;have hz:=am hz;have ea:x.ev s.slots=_:=ha;refine⟨_,_,λ_ _=>?_,.DG hm hB gC (l:=([]:List t.den)) (els:=[]) rfl aY.nil (ht.fresh hB gC) (aY.DF gC aY.nil),h⟩;simp[cG.run,ea,jH (bz cy hn) hn0,hz]
  grind
 grind
omit ht hB gC in include cy in theorem Le{sz:Nat}:∀{ps:List (Nat×cx)}{zo Qi:List (List Cell)}{els:List (List D)}{ks:List (Nat×Nat)},Dm s2 sz zo ps=some (Qi,ks)->aD (λc d=>cJ c=some d) zo els->∃els',qT s.mem s.slots sz els ps=some (els',ks)/\aD (λc d=>cJ c=some d) Qi els'
 |[],zo,Qi,els,ks,h,ha=>by cases h;exact⟨els,rfl,ha⟩|(i,x)::ps,zo,Qi,els,ks,h,ha=>by
  simp[Dm]at h;split at h
  .rename_i e k hn;obtain⟨cs,h1,h2⟩:=aV hn;obtain⟨v,hv,h3⟩:=aV h1;obtain⟨aL,g1,g2⟩:=yw h3 (bz cy hv);obtain⟨ds,g3,g4⟩:=N6 hm h2 g2;split at h
   .rename_i hb;rw[al]at hb;have hz:=am hb.1;have hi:i<zo.length:=by simp_all
    split at h
    .rename_i els' ks' h4;cases h;have ha':aD (λc d=>cJ c=some d) (zo.set i e) (els.set i ds):=by
      refine .tO (by simp[ha.length]) λj c d hc hd=>?_;rw[ns]at hc hd;by_cases hij:i=j;.grind
      .rw[bi hij]at hc hd;obtain⟨d',g5,g6⟩:=ha.get j c hc<;>grind
     obtain⟨aeT,g5,g6⟩:=Le h4 ha';refine⟨aeT,?_,g6⟩;simp only[qT,FQ,g1,ae,g3];rw[ba ⟨by rw[qK g4];exact hz,by rw[<-ha.length];exact hi⟩,g5]
    grind
   grind
  grind
omit hm ht hB gC in theorem zH{t:Ty}:∀{zo:List (List Cell)}{els:List (List D)}{l:List t.den},Dn t zo=some l->aD (λc d=>cJ c=some d) zo els->els=bF t l
 |[],[],l,h,_=>by cases h;rfl|c::r,d::ds,l,h,ha=>by
  simp[Dn]at h;split at h;.rename_i x xs h1 h2;cases h;rw[ry h1 ha.1,zH h2 ha.2];rfl
  grind|[],_::_,_,_,h=>h.elim|_::_,[],_,_,h=>h.elim
omit hm ht hB gC in theorem uy{β γ:Type}{R:β->γ->Prop}{x:β}{y:γ}(h:R x y):∀n,aD R (List.replicate n x) (List.replicate n y)|0=>trivial|n+1=>⟨h,uy h n⟩
include cy in theorem B0{sz n:Nat}{z:List D}{ps:List (Nat×cx)}(h:dw E wk ctx s2 row dst nx (.buildSlice sz n z ps) K=some r):eE ρ B (nx+1) s2 s (.buildSlice sz n z ps) row dst p K r:=by simp[dw]at h;cases qF:Nat.beq row 2with|true=>
  rw[qF]at h;simp at h;split at h;.cases h
  rename_i hn;obtain⟨cs,hcs,h⟩:=aF h;obtain⟨zc,hzc,hcs⟩:=aV hcs;have wm:∀k:Nat,aD (RC ρ B s2.mem) (List.replicate k zc).flatten ((List.replicate k z).flatten.map .d):=by intro k;induction k with|zero=>trivial|succ k ih=>simp only[pu,pi,gc];exact(KV hzc).append ih
  obtain⟨aL,g1,g2⟩:=DB cy hcs (wm n);have hst:gh B s2.mem (gN s2.mem [(ij s2.mem.length dst,dst,some (.box nx cs))]):=fQ (ks:=[]) (e:=.box nx cs) trivial;refine⟨_,_,λ_ _=>?_,.hU hm ht (B':=nx+1) (by omega) hst (fR (e:=.box p aL) ⟨by omega,p,aL,gC,rfl,g2.mono λ_ _=>RC.move hst (by omega) λ_ _=>rfl⟩) (v:=.c (.dz (ij s2.mem.length dst) dst nx 0 n sz)) (a:=.dz (ij s2.mem.length dst) dst p 0 n sz) ⟨by omega,p,gC,rfl⟩ aY.nil,h⟩;simp only[cG.run,qF,hn,g1,hm.len,cf]|false=>
 rw[qF]at h;have q:=aF h;obtain⟨t,_,h⟩:=q;have q:=aF h;obtain⟨zc,hzc,h⟩:=q;have q:=aF h;obtain⟨⟨zo,ks⟩,hf,h⟩:=q;obtain⟨els,g1,g2⟩:=Le hm cy hf (uy (R:=λc d=>cJ c=some d) (rz hzc) n);split at h
 .rename_i l hz hp;have hz:=am hz;have he:=zH hp g2;have hlen:n=l.length:=by
   have h1:=g2.length;have h2:∀{ps:List (Nat×cx)}{a b:List (List Cell)}{ks:List (Nat×Nat)},Dm s2 sz a ps=some (b,ks)->b.length=a.length:=by intro ps;induction ps with|nil=>intro a b ks h;simp[Dm,fw,eK]at h;rw[h.1]|cons q ps ih=>intro a b ks h;simp[Dm]at h<;>grind
   have:=h2 hf;simp at this;rw[<-this,h1,he,bC]
  split at h;.rename_i hrow;refine⟨_,_,λ_ _=>?_,.hU hm ht (by omega) (su (ks:=ks)) (jJ (m:=s.mem)) (v:=.c (.sl t l .full)) (a:=.own els .full) (show _=_ by rw[he]) (aY.jz ks),h⟩;simp[cG.run,qF,g1,hrow]
  .rename_i hrow;split at h;.cases h
   .rename_i hk;rw[hm.len]at h hk;refine⟨_,_,λ_ _=>?_,.sv hm ht hB gC (ks:=ks) (l:=l) (n:=n) (els:=els) he hlen (aY.jz ks),h⟩;simp only[cG.run,qF,g1,hrow];rw[bi (yz hk),hz]
 grind
end
structure rB(rn:Ren)(ρ ρ':bH)(B':Nat)(m m':List (Tr E2)):Prop where
 aq:∀p∈rn,ρ' p.1=p.2.bind ρ/\p.1<B'
 row:∀v w,(v,some w)∈rn->∀lv sl r,rowOf m' lv sl v=some r->rowOf m lv sl w=some r
def rB.left{rn rn':Ren}{ρ ρ':bH}{B':Nat}{m m':List (Tr E2)}(h:rB (rn++rn') ρ ρ' B' m m'):rB rn ρ ρ' B' m m':=⟨λp hp=>h.aq p (dp _ hp),λv w hp=>h.row v w (dp _ hp)⟩
def rB.right{rn rn':Ren}{ρ ρ':bH}{B':Nat}{m m':List (Tr E2)}(h:rB (rn++rn') ρ ρ' B' m m'):rB rn' ρ ρ' B' m m':=⟨λp hp=>h.aq p (du _ hp),λv w hp=>h.row v w (du _ hp)⟩
def rB.tail{q:Nat×Option Nat}{rn:Ren}{ρ ρ':bH}{B':Nat}{m m':List (Tr E2)}(h:rB (q::rn) ρ ρ' B' m m'):rB rn ρ ρ' B' m m':=rB.right (rn:=[q]) h
def abk(rn:Ren)(x x':Cell):Prop:=∀ρ B m a ρ' B' m',rB rn ρ ρ' B' m m'->RC ρ B m x a->RC ρ' B' m' x' a
def U0{c:ia}{x:Cell}{d:List fW}{rn:Ren}(h:c.get x=some (d,rn)):∃x',(∀rest,c.fill (d++rest)=some (x',rest))/\abk rn x x':=by
  unfold ia.get at h;split at h
  . split at h;.cases h;exact⟨_,λ_=>rfl,λ_ _ _ _ _ _ _ _ h=>h⟩
    .cases h
  .cases h;exact⟨_,λ_=>rfl,λ_ _ _ _ _ _ _ _ h=>h⟩
  .cases h;exact⟨_,λ_=>rfl,λ_ _ _ _ _ _ _ _ h=>h⟩
  .cases h;exact⟨_,λ_=>rfl,λ_ _ _ _ _ _ _ _ h=>h⟩
  . split at h
    . cases h;refine⟨_,λ_=>rfl,λρ B m a ρ' B' m' _ h=>?_⟩;rcases(iM (m:=[]) h).2with rfl|⟨o',ho,rfl⟩;.exact .inl rfl
      .exact .inr ⟨o',ho,rfl⟩
    . cases h;refine⟨_,λ_=>rfl,λρ B m a ρ' B' m' _ h=>?_⟩;rcases(iM (m:=[]) h).2with rfl|⟨o',ho,rfl⟩;.exact .inl rfl
      .exact .inr ⟨o',rfl⟩
    .cases h;exact⟨_,λ_=>rfl,λρ B m a ρ' B' m' _ h=>h⟩
    .cases h;refine⟨_,λ_=>rfl,λρ B m a ρ' B' m' hb h=>?_⟩;have:=hb.aq _ cb;exact⟨this.2,.inl ⟨this.1,h⟩⟩
    .cases h
  . split at h;.cases h;refine⟨_,λ_=>rfl,λρ B m a ρ' B' m' _ h=>?_⟩;exact(js (m:=[]) h).2.1
    .cases h
    .rename_i hne;cases h;refine⟨_,λ_=>rfl,λρ B m a ρ' B' m' _ h=>?_⟩;exact(js (m:=[]) h).2.2 λe=>hne e
    .cases h;exact⟨_,λ_=>rfl,λρ B m a ρ' B' m' _ h=>h⟩
    .cases h;refine⟨_,λ_=>rfl,λρ B m a ρ' B' m' hb h=>?_⟩;have:=hb.aq _ cb;exact⟨this.2,.inl ⟨this.1,h⟩⟩
    . cases h;refine⟨_,λ_=>rfl,λρ B m a ρ' B' m' hb h=>?_⟩;have:=hb.aq _ cb;refine⟨this.2,?_⟩;rcases h with⟨_,⟨hu,rfl⟩|⟨u,hu,rfl⟩⟩;.exact .inl ⟨by rw[this.1];exact hu,rfl⟩
      .exact .inr ⟨u,by rw[this.1];exact hu,rfl⟩
    .cases h
  .cases h;exact⟨_,λ_=>rfl,λρ B m a ρ' B' m' _ h=>h⟩
  .cases h;exact⟨_,λ_=>rfl,λρ B m a ρ' B' m' _ h=>(iM (m:=[]) h).2⟩
  . split at h;.rename_i e hb _;rw[al]at hb;have e1:=am hb.1;have e2:=am hb.2;subst e e1 e2;cases h;refine⟨_,λ_=>rfl,λρ B m a ρ' B' m' hb h=>?_⟩;have hv:=hb.aq _ cb;obtain⟨_,u,n,hu,rfl,hn⟩:=h;exact⟨hv.2,u,n,by rw[hv.1];exact hu,rfl,λr hr=>hn r (hb.row _ _ cb _ _ _ hr)⟩
    .cases h
  . split at h;.rename_i hb;simp only[al]at hb;have e1:=am hb.1.1.1;have e2:=am hb.1.1.2;have e3:=am hb.1.2;have e4:=am hb.2;subst e1 e2 e3 e4;cases h;refine⟨_,λ_=>rfl,λρ B m a ρ' B' m' hb h=>?_⟩;have hv:=hb.aq _ cb;obtain⟨_,u,hu,rfl⟩:=h;exact⟨hv.2,u,by rw[hv.1];exact hu,rfl⟩
    .cases h
  . split at h;.rename_i hb;have e:=am hb;subst e;cases h;exact⟨_,λ_=>rfl,λρ B m a ρ' B' m' _ h=>h⟩
    .cases h
  . split at h;.rename_i hb;simp only[al]at hb;have e1:=am hb.1;have e2:=am hb.2;subst e1 e2;cases h;refine⟨_,λ_=>rfl,λρ B m a ρ' B' m' hb h=>?_⟩;have hv:=hb.aq _ cb;obtain⟨_,u,hu,rfl⟩:=h;exact⟨hv.2,u,by rw[hv.1];exact hu,rfl⟩
    .cases h
  .cases h
def yA:∀{cs:List ia}{xs:List Cell}{d:List fW}{rn:Ren},A9 cs xs=some (d,rn)->∃xs',(∀rest,dF cs (d++rest)=some (xs',rest))/\∀ρ B m aL ρ' B' m',rB rn ρ ρ' B' m m'->aD (RC ρ B m) xs aL->aD (RC ρ' B' m') xs' aL
 |[],[],d,rn,h=>by cases h;exact⟨[],λ_=>rfl,λ_ _ _ _ _ _ _ _ h=>by cases‹List AV›<;>exact h⟩|c::cs,x::xs,d,rn,h=>by
    simp[A9]at h;split at h
    . rename_i d1 r1 d2 r2 h1 h2;cases h;obtain⟨x',g1,g2⟩:=U0 h1;obtain⟨xs',g3,g4⟩:=yA h2;refine⟨x'::xs',λrest=>?_,λρ B m aL ρ' B' m' hb ha=>?_⟩;.simp[dF,bj,g1,g3]
      .match aL,ha with|a::aL,ha=>exact⟨g2 _ _ _ _ _ _ _ hb.left ha.1,g4 _ _ _ _ _ _ _ hb.right ha.2⟩
    grind|[],_::_,_,_,h=>by simp[A9]at h|_::_,[],_,_,h=>by simp[A9]at h
def abl{v:tF}{x:V2}{d:List fW}{rn:Ren}(h:v.get x=some (d,rn)):∃x',(∀rest,v.fill (d++rest)=some (x',rest))/\∀ρ B m a ρ' B' m',rB rn ρ ρ' B' m m'->RV ρ B m x a->RV ρ' B' m' x' a:=by
  unfold tF.get at h;split at h;.obtain⟨x',g1,g2⟩:=U0 h;exact⟨.c x',λrest=>by simp only[tF.fill,g1],λρ B m a ρ' B' m' hb ha=>g2 _ _ _ _ _ _ _ hb ha⟩
  .obtain⟨xs',g1,g2⟩:=yA h;refine⟨.agg xs',λrest=>by simp only[tF.fill,g1],λρ B m a ρ' B' m' hb ha=>?_⟩;obtain⟨aL,rfl,ha⟩:=ha;exact⟨aL,rfl,g2 _ _ _ _ _ _ _ hb ha⟩
  . rename_i f l f' cs;split at h;.rename_i hf;have e:=am hf;subst e;obtain⟨xs',g1,g2⟩:=yA h;refine⟨.fK f xs',λrest=>by simp only[tF.fill,g1],λρ B m a ρ' B' m' hb ha=>?_⟩;obtain⟨aL,rfl,ha⟩:=ha;exact⟨aL,rfl,g2 _ _ _ _ _ _ _ hb ha⟩
    grind
  grind
def uz{s:Tr V2}:∀{l:List (Nat×tF)}{d:List fW}{rn:Ren},q8 s l=some (d,rn)->∀t0:Tr V2,∃t,(∀rest,oR l (d++rest) t0=some (t,rest))/\∀ρ B m o ρ' B' m',rB rn ρ ρ' B' m m'->wJ ρ B m s o->wJ ρ' B' m' t0 o->wJ ρ' B' m' t o
 |[],d,rn,h,t0=>by simp_all[q8,Ren,wJ,bH,oR]|(k,v)::l,d,rn,h,t0=>by
    simp[q8]at h;split at h
    . rename_i d1 r1 d2 r2 h1 h2;cases h;obtain⟨x,hx,h1⟩:=aV h1;obtain⟨x',g1,g2⟩:=abl h1;obtain⟨t,g3,g4⟩:=uz h2 (t0.set k (some x'));refine⟨t,λrest=>?_,λρ B m o ρ' B' m' hb hs h0=>g4 _ _ _ _ _ _ _ hb.right hs ?_⟩;.simp[oR,bj,g1,g3]
      . intro k' v' hk';rw[Tr.cL]at hk';split at hk';.rename_i e;subst e;simp_all;exact g2 _ _ _ _ _ _ _ hb.left (hs k x hx)
        .exact h0 k' v' hk'
    grind
def Bf:∀{ts:List (Tr V2)}{l:List (List (Nat×tF))}{d:List fW}{rn:Ren},q9 ts l=some (d,rn)->∃ts',(∀rest,vn l (d++rest)=some (ts',rest))/\∀ρ B m os ρ' B' m',rB rn ρ ρ' B' m m'->aD (wJ ρ B m) ts os->aD (wJ ρ' B' m') ts' os
 |[],[],d,rn,h=>by cases h;exact⟨[],λ_=>rfl,λ_ _ _ os _ _ _ _ h=>by cases os<;>exact h⟩|t::ts,x::xs,d,rn,h=>by
  simp[q9]at h;split at h;.rename_i d1 r1 d2 r2 h1 h2;cases h;obtain⟨t',g1,g2⟩:=uz h1 .lf;obtain⟨ts',g3,g4⟩:=Bf h2;refine⟨t'::ts',λrest=>by simp only[vn,bj,g1,g3],λρ B m os ρ' B' m' hb ha=>?_⟩;match os,ha with|o::os,ha=>exact⟨g2 _ _ _ _ _ _ _ hb.left ha.1 (λk v hk=>by simp at hk),g4 _ _ _ _ _ _ _ hb.right ha.2⟩
  grind|[],_::_,_,_,h=>by simp[q9]at h|_::_,[],_,_,h=>by simp[q9]at h
def uA(rn:Ren)(e e':E2):Prop:=(∀v t l,e'=.row v t l->∃w,e=.row w t l/\(v,some w)∈rn)/\∀ρ B m a ρ' B' m',rB rn ρ ρ' B' m m'->RE ρ B m e a->RE ρ' B' m' e' a
def abm{sh:P8}{e:E2}{d:List fW}{rn:Ren}(h:sh.get e=some (d,rn)):∃e',(∀rest,sh.fill (d++rest)=some (e',rest))/\uA rn e e':=by
  unfold P8.get at h;split at h
  . cases h;refine⟨_,λ_=>rfl,λv t l he=>?_,λρ B m a ρ' B' m' hb ha=>?_⟩;.grind
    .have hv:=hb.aq _ cb<;>simp_all[bH,Ty.den,bF,RE]
  . rename_i aq l gD cs;split at h;.rename_i d1 r1 h1;cases h;obtain⟨xs',g1,g2⟩:=yA h1;refine⟨.box aq xs',λrest=>by simp only[P8.fill,g1],λv t l he=>(by cases he),λρ B m a ρ' B' m' hb ha=>?_⟩;obtain⟨_,u,aL,hu,rfl,ha⟩:=ha;have hv:=hb.aq _ cb;exact⟨hv.2,u,aL,by rw[hv.1];exact hu,rfl,g2 _ _ _ _ _ _ _ hb.tail ha⟩
    grind
  .cases h;refine⟨_,λ_=>rfl,λv t l he=>(by cases he),λρ B m a ρ' B' m' hb ha=>?_⟩;have hv:=hb.aq _ cb<;>simp_all[bH,RE]
  grind
def I0(rn:Ren)(m m':List (Tr E2)):Prop:=∀lv sl e',jZ m' lv sl=some e'->∃e,jZ m lv sl=some e/\uA rn e e'
def uA.mono{rn rn':Ren}{e e':E2}(hs:∀p∈rn,p∈rn')(h:uA rn e e'):uA rn' e e':=⟨λv t l he=>by obtain⟨w,h1,h2⟩:=h.1 v t l he<;>grind,λρ B m a ρ' B' m' hb ha=>h.2 ρ B m a ρ' B' m' ⟨λp hp=>hb.aq p (hs p hp),λv w hp=>hb.row v w (hs _ hp)⟩ ha⟩
def GZ{m:List (Tr E2)}:∀{l:List (Nat×Nat×P8)}{d:List fW}{rn:Ren},Dr m l=some (d,rn)->∀(m0:List (Tr E2))(rn0:Ren),I0 rn0 m m0->(∀p∈rn,p∈rn0)->∃m',(∀rest,yt l (d++rest) m0=some (m',rest))/\I0 rn0 m m'/\m'.length=m0.length
 |[],d,rn,h,m0,rn0,hg,_=>by simp_all[Dr,Ren,I0,yt]|(lv,sl,sh)::l,d,rn,h,m0,rn0,hg,hs=>by
  simp[Dr]at h
  split at h;.rename_i d1 r1 d2 r2 h1 h2;cases h;obtain⟨e,he,h1⟩:=aV h1;obtain⟨e',g1,g2⟩:=abm h1;obtain⟨m',g3,g4,g5⟩:=GZ h2 (Dj m0 lv sl (some e')) rn0 (by
   intro cC cW x hx;rw[lC]at hx;split at hx;.rename_i hc;obtain⟨rfl,rfl,_⟩:=hc;injection hx with hx;subst hx;exact⟨e,he,g2.mono λp hp=>hs p (dp _ hp)⟩
   .exact hg cC cW x hx) (λp hp=>hs p (du _ hp));exact⟨m',λrest=>by simp only[yt,bj,g1,g3],g4,by rw[g5,uq]⟩
  grind
def uB(n lv sl:Nat):jZ (List.replicate n .lf) lv sl=none:=by unfold jZ;grind[Tr.get?]
def DI:∀{l:List Nat}{t:Tr Unit}{v:Nat},(IP l t).get? v=some ()->v∈l\/t.get? v=some ()
 |[],_,_,h=>.inr h|a::r,t,v,h=>by
  rcases DI (l:=r) (t:=t.set a (some ())) h with h|h;.grind
  .rw[Tr.cL]at h<;>grind
def vu{nv:Nat}{σ:Ren}{t:Tr Unit}:∀{l:List Nat},IQ nv σ t l=true->∀v∈l,v<nv/\∀w,vT σ v=some w->t.get? w=some ()
 |[],_,_,hv=>by cases hv|a::r,h,v,hv=>by
  simp[IQ,al]at h;rcases dl.1 hv with rfl|hv;.refine⟨by simpa using h.1.1,λw hw=>?_⟩;have h1:=h.1.2;rw[hw]at h1;simp[Option.isSome_iff_exists]at h1<;>grind
  .exact vu h.2 v hv
def U1{a b:Option Nat}:oeq a b=true↔a=b:=by cases a<;>cases b<;>simp[oeq]
structure as8(nv snv:Nat)(σ:Ren):Prop where
 lt:∀p∈σ,p.1<nv
 at_:∀p∈σ,vT σ p.1=p.2slt:∀p∈σ,∀w,p.2=some w->w<snv
 inj:∀p∈σ,∀q∈σ,∀w,p.2=some w->q.2=some w->q.1=p.1
def U2{nv snv:Nat}{σ:Ren}(h:UJ nv snv σ=true):as8 nv snv σ:=by
 unfold UJ at h;rw[fr]at h;refine⟨λp hp=>?_,λp hp=>?_,λp hp w hw=>?_,λp hp q hq w hw PO=>?_⟩;all_goals have:=h p hp;simp only[al]at this
 .simp_all
 .exact U1.1 this.1.2
 .simp_all
 .have:=this.2;rw[hw]at this;simp only[al,fr]at this;have:=this.2 q hq<;>simp_all[vT,oeq,Ren]
def oS{σ:Ren}{v w:Nat}(h:vT σ v=some w):(v,some w)∈σ:=by induction σ with|nil=>cases h|cons q r ih=>obtain⟨a,b⟩:=q;simp[vT]at h;split at h<;>simp_all
def Fr(ρ:bH)(n2 n:Nat)(ρ':bH)(n2':Nat):Prop:=∀v u,v<n2'->ρ' v=some u->(∃w,w<n2/\ρ w=some u)\/n<=u
def Fr.refl(ρ:bH)(n2 n:Nat):Fr ρ n2 n ρ n2:=λv _ hv hu=>.inl ⟨v,hv,hu⟩
def Fr.trans{ρ ρ' G0:bH}{n2 n2' akJ n n':Nat}(h:Fr ρ n2 n ρ' n2')(k:Fr ρ' n2' n' G0 akJ)(hn:n<=n'):Fr ρ n2 n G0 akJ:=by
 intro v u hv hu;rcases k v u hv hu with⟨w,hw,mA⟩|h';.exact h w u hw mA
 omega
abbrev Cf(ρ:bH)(os:List (Tr AV))(s2:S2)(s:St):Prop:=SR ρ s2.nv os s2 s
def Cg{T:bt}{s2:S2}{ds:List fW}{ρ:bH}{os:List (Tr AV)}{s:St}(h:T.get s2=some ds)(hs:Cf ρ os s2 s):∃s2' ρ',T.st ds=some s2'/\Cf ρ' os s2' s/\Fr ρ s2.nv s.nv ρ' s2'.nv:=by
  unfold bt.get at h;split at h
  . rename_i d r d' r' d'' r'' h1 h2 h3;split at h
    . rename_i hb;simp only[al]at hb;obtain⟨⟨hl,hr⟩,ht⟩:=hb;have hl:=am hl;have hr:=U2 hr;obtain⟨t,g1,g2⟩:=uz h1 .lf;obtain⟨ts,g3,g4⟩:=Bf h2;let σ:=r++(r'++r'');obtain⟨m',g5,g6,g7⟩:=GZ h3 (List.replicate T.lvs .lf) σ (λlv sl e he=>by rw[uB]at he;cases he) (λp hp=>du _ (du _ hp));let ρ':bH:=λv=>if v<T.nv then(vT σ v).bind ρ else some (s.nv+(v-T.nv));have hρ':∀v,ρ' v=if v<T.nv then(vT σ v).bind ρ else some (s.nv+(v-T.nv)):=λ_=>rfl;have U3:rB σ ρ ρ' T.nv s2.mem m':=by
        refine⟨λp hp=>⟨?_,hr.lt p hp⟩,λv w hp lv sl rr hrow=>?_⟩;.rw[hρ',ba (hr.lt p hp),hr.at_ p hp]
        .obtain⟨e,he,hc⟩:=g6 _ _ _ (cY hrow);obtain⟨w',e1,e2⟩:=hc.1 _ _ _ rfl;have h1:=hr.at_ _ hp;have h2:=hr.at_ _ e2;rw[h1]at h2;cases h2;exact iz.2 (he.trans (by rw[e1]))
      have hb0:rB (r'++r'') ρ ρ' T.nv s2.mem m':=rB.right (rn:=r) U3;refine⟨{slots:=t,outer:=ts,mem:=m',aI:=IP T.aI .lf,nv:=T.nv},ρ',?_,⟨?_,?_,?_,?_,?_,bc _⟩,?_⟩;.have e3:=g5 [];unfold bt.st<;>grind
      .exact g2 _ _ _ _ _ _ _ (rB.left (rn':=r'++r'') U3) hs.slots (λk v hk=>by simp at hk)
      .exact g4 _ _ _ _ _ _ _ hb0.left hs.outer
      .refine⟨by rw[g7,lh,hl];exact hs.mem.len,λlv sl e' he'=>?_⟩;obtain⟨e,he,hc⟩:=g6 lv sl e' he';obtain⟨x,h4,h5⟩:=hs.mem.fI lv sl e he;exact⟨x,h4,hc.2 _ _ _ _ _ _ _ U3 h5⟩
      . intro v hv;rcases DI hv with hv|hv
        . refine⟨(vu ht v hv).1,λu hu=>?_⟩;rw[hρ']at hu;split at hu;.obtain⟨w,hw,hu⟩:=aV hu;exact(hs.aI w ((vu ht v hv).2 w hw)).2 u hu
          .exact absurd (vu ht v hv).1 (by assumption)
        simp_all
      . refine⟨λv _ hv hu=>?_,λv hv=>?_,λv v' u hu mA=>?_⟩;.rw[hρ',ba hv]at hu;obtain⟨w,hw,hu⟩:=aV hu;exact hs.aq.low w _ (hr.slt _ (oS hw) w rfl) hu
        .grind
        . rw[hρ']at hu mA;split at hu
          . obtain⟨w,hw,hu⟩:=aV hu;have hw2:=hr.slt _ (oS hw) w rfl;split at mA;.obtain⟨w',PO,mA⟩:=aV mA;have:=hs.aq.inj _ _ _ hu mA;subst this;exact(hr.inj _ (oS PO) _ (oS hw) w rfl rfl)
            .simp_all;have:=hs.aq.low w u hw2 hu;omega
          . simp_all;split at mA;.obtain⟨w',PO,mA⟩:=aV mA;have:=hs.aq.low w' u (hr.slt _ (oS PO) w' rfl) mA<;>omega
            grind
      .intro v u hv hu;rw[hρ',ba hv]at hu;obtain⟨w,hw,hu⟩:=aV hu;exact .inl ⟨w,hr.slt _ (oS hw) w rfl,hu⟩
    grind
  grind
def Bg{a b:Ty}{x:a.den}{y:b.den}(h:wD a b x=some y):(⟨b,y⟩:fW)=⟨a,x⟩:=by obtain⟨e,he⟩:=RL h<;>grind
def dP:∀{ts:List Ty}{ds:List fW}{x:(td ts).den},pack ts ds=some x->unpack ts x=ds
 |[],[],_,_=>rfl|[a],[d],x,h=>by have:=Bg h;simp[unpack]<;>omega|a::b::r,d::ds,x,h=>by
  simp[pack]at h;split at h;.rename_i y z h1 h2;cases h;simp only[unpack];rw[Bg h1,dP h2]
  grind|[],_::_,_,h=>by simp[pack]at h|[_],[],_,h=>by simp[pack]at h|[_],_::_::_,_,h=>by simp[pack]at h|_::_::_,[],_,h=>by simp[pack]at h
def G1{a b:AX}(h:aba a b=true):a=b:=by unfold aba at h;split at h<;>simp_all
def Ch{ρ:bH}{so:List (Tr AV)}{s2:S2}{s:St}{ax:AX}(hs:Cf ρ so s2 s):∀{os:bn}{y:(qg os).den},oA os ax s2=some y->∃s2' ρ',Cf ρ' so s2' s/\Fr ρ s2.nv s.nv ρ' s2'.nv/\∀{α:Type}(K:AX->S2->Option α),ri os y K=K ax s2'
 |[],_,h=>by simp[oA]at h|[x],y,h=>by
  simp[oA]at h;split at h;.rename_i he;obtain⟨ds,h1,h2⟩:=aF h;obtain⟨s2',ρ',g1,g2,g3⟩:=Cg h1 hs;refine⟨s2',ρ',g2,g3,λK=>?_⟩;simp[ri,dP h2,g1,cI,G1 he]
  grind|x::z::r,y,h=>by
  simp[oA]at h;split at h;.rename_i he;obtain⟨y',h1,h2⟩:=aF h;cases h2;obtain⟨ds,h3,h4⟩:=aV h1;obtain⟨s2',ρ',g1,g2,g3⟩:=Cg h3 hs;refine⟨s2',ρ',g2,g3,λK=>?_⟩;simp[ri,dP h4,g1,cI,G1 he]
  .obtain⟨y',h1,h2⟩:=aF h;cases h2;obtain⟨s2',ρ',g2,g3,g4⟩:=Ch hs h1;exact⟨s2',ρ',g2,g3,λK=>by simp only[ri,g4]⟩
def RC.still{ρ ρ':bH}{B B':Nat}{m m':List (Tr E2)}{c:Cell}{a:AV}(hc:c.still=true)(h:RC ρ B m c a):RC ρ' B' m' c a:=by cases c with
 |nil f=>cases f<;>exact h|sl t l o=>cases o with|app v=>cases hc|_=>exact h
 |ref=>cases hc|ki=>cases hc|ptr=>cases hc|dz=>cases hc|mp=>cases hc|_=>exact h
def RCs.still{ρ ρ':bH}{B B':Nat}{m m':List (Tr E2)}:∀{cs:List Cell}{aL:List AV},cs.all Cell.still=true->aD (RC ρ B m) cs aL->aD (RC ρ' B' m') cs aL|[],[],_,_=>trivial|c::cs,a::aL,hc,h=>by rw[dC,al]at hc;exact⟨h.1.still hc.1,RCs.still hc.2 h.2⟩|[],_::_,_,h=>h.elim|_::_,[],_,h=>h.elim
def RV.still{ρ ρ':bH}{B B':Nat}{m m':List (Tr E2)}{v:V2}{a:AV}(hv:v.still=true)(h:RV ρ B m v a):RV ρ' B' m' v a:=by cases v with|c c=>exact RC.still hv h|agg cs=>obtain⟨aL,h1,h2⟩:=h;exact⟨aL,h1,RCs.still hv h2⟩|fK f cs=>obtain⟨aL,h1,h2⟩:=h;exact⟨aL,h1,RCs.still hv h2⟩|fu vs=>obtain⟨aL,h1,h2⟩:=h;refine⟨aL,h1,?_⟩;clear h1;replace hv:vs.all (λv=>v.2.all Cell.still)=true:=hv;induction vs generalizing aL with|nil=>cases aL<;>exact h2|cons v vs ih=>cases aL with|nil=>exact h2.elim|cons a aL=>rw[dC,al]at hv;refine⟨?_,ih aL h2.2 hv.2⟩;obtain⟨b,cs⟩:=v;cases b with|true=>obtain⟨bs,h3,h4⟩:=h2.1;exact⟨bs,h3,RCs.still hv.1 h4⟩|false=>obtain⟨c,h3,h4⟩:=h2.1;refine⟨c,h3,h4.still ?_⟩;subst h3;simpa using hv.1
def Tr.I1{α:Type}(v:Option α)(l r:Tr α)(k:Nat):(Tr.nd v l r).get? k=if k=0then v else if k%2=1then l.get? (k/2)else r.get? (k/2-1):=by simp[Tr.get?];cases h0:Nat.beq k 0with|true=>simp_all|false=>have:=m8 h0;cases h1:Nat.beq (k%2) 1with|true=>simp_all|false=>simp[this,m8 h1]
def Tr.abn{α:Type}(t:Tr α)(k:Nat):t.get? k=if k=0then t.top else if k%2=1then t.left.get? (k/2)else t.right.get? (k/2-1):=by cases t with|lf=>simp[Tr.get?,Tr.top,Tr.left,Tr.right]|nd v l r=>rw[Tr.I1];rfl
def zI:∀(t:Tr V2)(k:Nat)(v:V2),(loose t).get? k=some v->t.get? k=some v
 |.lf,_,_,h=>by simp[loose]at h|.nd x l r,k,v,h=>by
  simp[loose]at h;rw[Tr.I1]at h⊢;by_cases h0:k=0;.grind
  .rw[bi h0]at h⊢;by_cases h1:k%2=1;.rw[ba h1]at h⊢;exact zI l _ v h
   .rw[bi h1]at h⊢;exact zI r _ v h
def rC:∀(a b:Tr V2)(k:Nat)(v:V2),(merge a b).get? k=some v->(a.get? k=some v/\v.still=true)\/b.get? k=some v
 |.lf,_,_,_,h=>by simp[merge]at h|.nd x l r,b,k,v,h=>by
  simp[merge]at h;rw[Tr.I1]at h;rw[Tr.I1,Tr.abn b];by_cases h0:k=0;.grind
  .rw[bi h0]at h⊢;rw[bi h0];by_cases h1:k%2=1;.rw[ba h1]at h⊢;rw[ba h1];exact rC l _ _ v h
   .rw[bi h1]at h⊢;rw[bi h1];exact rC r _ _ v h
def ρ0:bH:=λ_=>none
def U4{m:List (Tr bu)}{els:List (List D)}{o:Own}(h:o≠.bD):fB m (.own els o)=some (.d (.sl els),[]):=by cases o with|bD=>grind|_=>rfl
def U5{m:List (Tr bu)}{els:List (List D)}{o:Own}(h:o≠.bD):dD m (.own els o)=some (.d (.sl els)):=by grind[dD]
def JN(agg:Bool)(m:List (Tr bu))(a a':AV)(k:List (Nat×Nat)):Prop:=(agg=true/\fB m a=some (a',k))\/(agg=false/\dD m a=some a'/\k=[])
def JN.data{agg:Bool}{m:List (Tr bu)}{a:AV}{y:D}(e:a=.d y):JN agg m a (.d y) []:=by
 subst e;cases agg;.exact .inr ⟨rfl,rfl,rfl⟩
 .exact .inl ⟨rfl,rfl⟩
def JN.afF{agg:Bool}{m:List (Tr bu)}{a:AV}{els:List (List D)}{o:Own}(ho:o≠.bD)(e:a=.own els o):JN agg m a (.d (.sl els)) []:=by
 subst e;cases agg;.exact .inr ⟨rfl,U5 ho,rfl⟩
 .exact .inl ⟨rfl,U4 ho⟩
def JN.as9{agg:Bool}{m:List (Tr bu)}{a:AV}{els:List (List D)}(e:a=.own els .bD):JN agg m a (.own els .bD) []:=by
 subst e;cases agg;.exact .inr ⟨rfl,rfl,rfl⟩
 .exact .inl ⟨rfl,rfl⟩
section
variable{ρ:bH}{B:Nat}{m2:List (Tr E2)}{m:List (Tr bu)}(hm:MR ρ B m2 m)
include hm
theorem I2{agg:Bool}{c:ia}{x:Cell}{a:AV}{d:List fW}{k:List (Nat×Nat)}{b:List Bool}(h:c.arg m2 agg x=some (d,k,b))(hx:RC ρ B m2 x a)(hb:∀t∈b,t=true):∃a' x',JN agg m a a' k/\(∀rest,c.fill (d++rest)=some (x',rest))/\RC ρ0 0 [] x' a':=by
 unfold ia.arg at h;split at h<;>(try dsimp only at h)
 .split at h;.cases h;exact⟨_,_,JN.data hx,λ_=>rfl,rfl⟩
  grind
 .cases h;exact⟨_,_,JN.data hx,λ_=>rfl,rfl⟩
 .cases h;exact⟨_,_,JN.data hx,λ_=>rfl,rfl⟩
 .rename_i t o f;have key:∃a',JN agg m a a' []/\a'=.d (.sl (bF t [])):=by
   rcases(iM (m:=m) hx).2with e|⟨o',ho,e⟩;.exact⟨_,JN.data e,rfl⟩
   .exact⟨_,JN.afF ho e,rfl⟩
  obtain⟨a',g1,g2⟩:=key;split at h;.cases h;exact⟨_,_,g1,λ_=>rfl,.inl g2⟩
  .cases h;exact⟨_,_,g1,λ_=>rfl,.inl g2⟩
  grind
 .split at h
  .cases h;rcases(js (m:=m) hx).2.1with e|⟨o2,e⟩;.exact⟨_,_,JN.data e,λ_=>rfl,.inl rfl⟩
   .by_cases ho:o2=.bD;.subst ho;exact⟨_,_,JN.as9 e,λ_=>rfl,.inr ⟨_,rfl⟩⟩
    .exact⟨_,_,JN.afF ho e,λ_=>rfl,.inl rfl⟩
  .cases h
  .rename_i hne;cases h;rcases(js (m:=m) hx).2.2 (λe=>hne e)with e|⟨o2,ho,e⟩;.exact⟨_,_,JN.data e,λ_=>rfl,.inl rfl⟩
   .exact⟨_,_,JN.afF ho e,λ_=>rfl,.inl rfl⟩
  .cases h
 .rename_i t0 o lv sq aq t;cases hr:rowOf m2 lv sq aq with|none=>grind|some r=>
  simp[hr]at h;have he:=nA hm hx hr;obtain⟨_,u,n,hu,rfl,hn⟩:=hx;have hg:fB m (.ref lv sq u 0 n t.size)=some (.d (.sl (bF r.t r.l)),[(lv,sq)]):=by simp[fB,BS,he,cf]
  have hl:dD m (.ref lv sq u 0 n t.size)=some (.own (bF r.t r.l) .bD):=by simp[dD,he,cf]
  cases o with
  |bD=>cases agg with|false=>cases h;exact⟨_,_,.inr ⟨rfl,hl,rfl⟩,λ_=>rfl,.inr ⟨_,rfl⟩⟩|true=>cases h;exact⟨_,_,.inl ⟨rfl,hg⟩,λ_=>rfl,.inl rfl⟩
  |d=>cases agg with|false=>simp at h|true=>cases h;exact⟨_,_,.inl ⟨rfl,hg⟩,λ_=>rfl,.inl rfl⟩
  |full=>grind|app v=>grind
 .rename_i t0 o lv sq aq t off len;cases hr:rowOf m2 lv sq aq with|none=>grind|some r=>simp[hr]at h;cases o with
  |bD=>cases agg with|false=>cases h;have he:=kD hm hx hr (dv (hb _ cb));obtain⟨_,u,hu,rfl,_⟩:=hx;refine⟨.own (bF r.t ((r.l.drop off).take len)) .bD,_,.inr ⟨rfl,?_,rfl⟩,λ_=>rfl,.inr ⟨_,rfl⟩⟩;simp[dD,he,cf]|true=>simp at h
  |d=>grind|full=>grind|app v=>grind
 grind
theorem DJ:∀{cs:List ia}{xs:List Cell}{aL:List AV}{d:List fW}{k:List (Nat×Nat)}{b:List Bool},Ds m2 cs xs=some (d,k,b)->aD (RC ρ B m2) xs aL->(∀t∈b,t=true)->∃as' xs',gn m aL=some (as',k)/\(∀rest,dF cs (d++rest)=some (xs',rest))/\aD (RC ρ0 0 []) xs' as'
 |[],[],aL,d,k,b,h,ha,_=>by cases h;match aL,ha with|[],_=>exact⟨[],[],rfl,λ_=>rfl,trivial⟩
 |c::cs,x::xs,aL,d,k,b,h,ha,hb=>by
  simp[Ds]at h;split at h;.rename_i d1 k1 b1 d2 k2 b2 h1 h2;cases h;match aL,ha with
   |a::aL,ha=>
    obtain⟨a',x',g1,g2,g3⟩:=I2 hm h1 ha.1 (λt ht=>hb t (dp _ ht));have g1:fB m a=some (a',k1):=by rcases g1 with⟨_,g⟩|⟨g,_⟩<;>grind
    obtain⟨as',xs',g4,g5,g6⟩:=DJ h2 ha.2 (λt ht=>hb t (du _ ht));exact⟨a'::as',x'::xs',by simp only[gn,g1,g4],λrest=>by simp only[dF,bj,g2,g5],g3,g6⟩
  grind|[],_::_,_,_,_,_,h,_,_=>by simp[Ds]at h|_::_,[],_,_,_,_,h,_,_=>by simp[Ds]at h
omit hm in theorem R4{a:AV}(h0:cellsOf a=some [a])(h1:jT a=true):zh m a=(dD m a).map λy=>(y,[]):=by cases a<;>first|rfl|cases h1
omit hm in theorem R5{a:AV}(h1:jT a=true):zi m a=fB m a:=by cases a<;>first|rfl|cases h1
theorem Lg:∀{ps:List vo}{vs:List V2}{aL:List AV}{d:List fW}{k:List (Nat×Nat)}{b:List Bool},GQ m2 ps vs=some (d,k,b)->aD (RV ρ B m2) vs aL->(∀t∈b,t=true)->∃as' vs',sY m aL=some (as',k)/\(∀rest,dO ps (d++rest)=some (vs',rest))/\aD (RV ρ0 0 []) vs' as'
 |[],[],aL,d,k,b,h,ha,_=>by cases h;match aL,ha with|[],_=>simp_all[bH,ρ0,RV,aD,dO,sY]
 |p::ps,v::vs,aL,d,k,b,h,ha,hb=>by
  simp[GQ]at h;split at h;.rename_i d1 k1 b1 d2 k2 b2 h1 h2;cases h;match aL,ha with
   |a::aL,ha=>
    obtain⟨as',vs',g4,g5,g6⟩:=Lg h2 ha.2 (λt ht=>hb t (du _ ht));have p6:∀t∈b1,t=true:=λt ht=>hb t (dp _ ht);have one:∃a' v',zi m a=some (a',k1)/\(∀rest,dO (p::ps) (d1++rest)=(match dO ps rest with|some (xs,r'')=>some (v'::xs,r'')|none=>none))/\RV ρ0 0 [] v' a':=by
     unfold vo.akA at h1;split at h1
     .obtain⟨a',x',q0,q2,q3⟩:=I2 hm h1 ha.1 p6;have q1:fB m a=some (a',k1):=by rcases q0 with⟨_,g⟩|⟨g,_⟩<;>grind
      have hc:=RC.cell ha.1;exact⟨a',.c x',by rw[R5 hc.2.1,q1],λrest=>by simp only[dO,tF.fill,q2];rfl,q3⟩
     .obtain⟨bs,e,hc⟩:=ha.1;subst e;obtain⟨Nk,xs1,q1,q2,q3⟩:=DJ hm h1 hc p6;exact⟨.agg Nk,.agg xs1,by simp only[zi,q1,cf],λrest=>by simp only[dO,tF.fill,q2];rfl,Nk,rfl,q3⟩
     grind
    obtain⟨a',v',g1,g2,g3⟩:=one;exact⟨a'::as',v'::vs',by simp only[sY,g1,g4],λrest=>by rw[bj,g2,g5],g3,g6⟩
  grind|[],_::_,_,_,_,_,h,_,_=>by simp[GQ]at h|_::_,[],_,_,_,_,h,_,_=>by simp[GQ]at h
theorem Lh{c:ia}{x:Cell}{a:AV}{d:List fW}{b:List Bool}(h:c.arg m2 false x=some (d,[],b))(hx:RC ρ B m2 x a)(hb:∀t∈b,t=true):∃a' x',dD m a=some a'/\(∀rest,c.fill (d++rest)=some (x',rest))/\RC ρ0 0 [] x' a':=by
 obtain⟨a',x',g,g2,g3⟩:=I2 hm h hx hb;rcases g with⟨g,_⟩|⟨_,g,_⟩;.cases g
 .exact⟨a',x',g,g2,g3⟩
theorem G2:∀{l:List ia}{cs:List Cell}{aL:List AV}{d:List fW}{b:List Bool},zA m2 l cs=some (d,b)->aD (RC ρ B m2) cs aL->(∀t∈b,t=true)->∃as' xs',qB m aL=some as'/\(∀rest,dF l (d++rest)=some (xs',rest))/\aD (RC ρ0 0 []) xs' as'
 |[],[],aL,d,b,h,ha,_=>by cases h;match aL,ha with|[],_=>exact⟨[],[],rfl,λ_=>rfl,trivial⟩
 |c::cs,x::xs,aL,d,b,h,ha,hb=>by
  simp only[zA]at h;split at h;.rename_i d1 b1 d2 b2 h1 h2;cases h;match aL,ha with|a::aL,ha=>obtain⟨a',x',g1,g2,g3⟩:=Lh hm h1 ha.1 (λt ht=>hb t (dp _ ht));obtain⟨as',xs',g4,g5,g6⟩:=G2 h2 ha.2 (λt ht=>hb t (du _ ht));exact⟨a'::as',x'::xs',by simp only[qB,g1,g4],λrest=>by simp only[dF,bj,g2,g5],g3,g6⟩
  .cases h|[],_::_,_,_,_,h,_,_=>by simp[zA]at h|_::_,[],_,_,_,h,_,_=>by simp[zA]at h
omit hm in theorem Og{a:AV}(h1:jT a=true):sZ m a=dD m a:=by cases a<;>first|rfl|cases h1
theorem Li:∀{ps:List vo}{vs:List V2}{aL:List AV}{d:List fW}{b:List Bool},GR m2 ps vs=some (d,b)->aD (RV ρ B m2) vs aL->(∀t∈b,t=true)->∃as' vs',rT m aL=some as'/\(∀rest,dO ps (d++rest)=some (vs',rest))/\aD (RV ρ0 0 []) vs' as'
 |[],[],aL,d,b,h,ha,_=>by cases h;match aL,ha with|[],_=>exact⟨[],[],rfl,λ_=>rfl,trivial⟩
 |p::ps,v::vs,aL,d,b,h,ha,hb=>by
  simp only[GR]at h;split at h;.rename_i d1 b1 d2 b2 h1 h2;cases h;match aL,ha with
   |a::aL,ha=>
    obtain⟨as',vs',g4,g5,g6⟩:=Li h2 ha.2 (λt ht=>hb t (du _ ht));have p6:∀t∈b1,t=true:=λt ht=>hb t (dp _ ht);have one:∃a' v',sZ m a=some a'/\(∀rest,dO (p::ps) (d1++rest)=(match dO ps rest with|some (xs,r'')=>some (v'::xs,r'')|none=>none))/\RV ρ0 0 [] v' a':=by
     unfold vo.akB at h1;split at h1
     .split at h1;.rename_i hx;cases h1;obtain⟨a',x',q1,q2,q3⟩:=Lh hm hx ha.1 p6;have hc:=RC.cell ha.1;exact⟨a',.c x',by rw[Og hc.2.1,q1],λrest=>by simp only[dO,tF.fill,q2];rfl,q3⟩
      .cases h1
     .obtain⟨bs,e,hc⟩:=ha.1;subst e;obtain⟨Nk,xs1,q1,q2,q3⟩:=G2 hm h1 hc p6;exact⟨.agg Nk,.agg xs1,by simp only[sZ,q1,cf],λrest=>by simp only[dO,tF.fill,q2];rfl,Nk,rfl,q3⟩
     .cases h1
    obtain⟨a',v',g1,g2,g3⟩:=one;exact⟨a'::as',v'::vs',by simp only[rT,g1,g4],λrest=>by rw[bj,g2,g5],g3,g6⟩
  .cases h|[],_::_,_,_,_,h,_,_=>by simp[GR]at h|_::_,[],_,_,_,h,_,_=>by simp[GR]at h
theorem Lj:∀{ps:List vo}{vs:List V2}{aL:List AV}{d:List fW}{k:List (Nat×Nat)}{b:List Bool},GK m2 ps vs=some (d,k,b)->aD (RV ρ B m2) vs aL->(∀t∈b,t=true)->∃as' vs',sX m aL=some (as',k)/\(∀rest,dO ps (d++rest)=some (vs',rest))/\aD (RV ρ0 0 []) vs' as'
 |[],[],aL,d,k,b,h,ha,_=>by cases h;match aL,ha with|[],_=>simp_all[bH,ρ0,RV,aD,dO,sX]
 |p::ps,v::vs,aL,d,k,b,h,ha,hb=>by
  simp[GK]at h;split at h;.rename_i d1 k1 b1 d2 k2 b2 h1 h2;cases h;match aL,ha with
   |a::aL,ha=>
    obtain⟨as',vs',g4,g5,g6⟩:=Lj h2 ha.2 (λt ht=>hb t (du _ ht));have p6:∀t∈b1,t=true:=λt ht=>hb t (dp _ ht);have one:∃a' v',zh m a=some (a',k1)/\(∀rest,dO (p::ps) (d1++rest)=(match dO ps rest with|some (xs,r'')=>some (v'::xs,r'')|none=>none))/\RV ρ0 0 [] v' a':=by
     unfold vo.arg at h1;split at h1
     .obtain⟨a',x',q0,q2,q3⟩:=I2 hm h1 ha.1 p6;have q1:dD m a=some a'/\k1=[]:=by rcases q0 with⟨g,_⟩|⟨_,g⟩<;>grind
      obtain⟨q1,rfl⟩:=q1;have hc:=RC.cell ha.1;exact⟨a',.c x',by rw[R4 hc.1 hc.2.1,q1];rfl,λrest=>by simp only[dO,tF.fill,q2];rfl,q3⟩
     .obtain⟨bs,e,hc⟩:=ha.1;subst e;obtain⟨Nk,xs1,q1,q2,q3⟩:=DJ hm h1 hc p6;exact⟨.agg Nk,.agg xs1,by simp only[zh,q1,cf],λrest=>by simp only[dO,tF.fill,q2];rfl,Nk,rfl,q3⟩
     .split at h1;.rename_i f f' hf;have e:=am hf;subst e;cases h1;obtain⟨bs,e,hc⟩:=ha.1;subst e;match bs,hc with|[],_=>exact⟨.fK _ [],.fK _ [],rfl,λrest=>by simp only[dO,i6];rfl,[],rfl,trivial⟩
      grind
     grind
    obtain⟨a',v',g1,g2,g3⟩:=one;exact⟨a'::as',v'::vs',by simp only[sX,g1,g4],λrest=>by rw[bj,g2,g5],g3,g6⟩
  grind|[],_::_,_,_,_,_,h,_,_=>by simp[GK]at h|_::_,[],_,_,_,_,h,_,_=>by simp[GK]at h
end
def yB{sz:Nat}:∀(n:Nat){l:List Cell}{ds:List D},cJ l=some ds->aD (λc d=>cJ c=some d) (bL.chunk sz n l) (bL.chunk sz n ds)|0,_,_,_=>trivial|n+1,_,_,h=>⟨uw sz h,yB n (ux sz h)⟩
def I3{c:ia}{x':Cell}{d:List fW}{y:D}(hd:vp c x'=some d)(hy:pG x'=some y):∃x2,(∀rest,c.fill (d++rest)=some (x2,rest))/\∀(ρ:bH)(B:Nat)(m:List (Tr E2)),RC ρ B m x2 (.d y):=by
 unfold vp at hd;split at hd
 .split at hd;.cases hd;cases hy;exact⟨_,λ_=>rfl,λ_ _ _=>rfl⟩
  .cases hd
 .cases hd;cases hy;exact⟨_,λ_=>rfl,λ_ _ _=>rfl⟩
 .cases hd;cases hy;exact⟨_,λ_=>rfl,λ_ _ _=>rfl⟩
 .cases hd;cases hy;exact⟨_,λ_=>rfl,λ_ _ _=>.inl rfl⟩
 .cases hd;cases hy;exact⟨_,λ_=>rfl,λ_ _ _=>.inl rfl⟩
 .cases hd
def uC(m:List (Tr bu)):List AV->Option (List D)|[]=>some []|x::r=>match jj m x,uC m r with|some y,some ys=>some (y::ys)|_,_=>none
def zJ{m:List (Tr bu)}{a:AV}{y:D}(h:jj m a=some y)(k:Nat):lJ m k a=some y/\qD m k a=cX a:=by cases k with|zero=>exact⟨h,rfl⟩|succ k=>cases a<;>first|exact⟨h,rfl⟩|cases h
def qj{m:List (Tr bu)}(k:Nat):∀{aL:List AV}{ys:List D},uC m aL=some ys->lI (lJ m k) aL=some ys/\aL.flatMap (qD m k)=aL.flatMap cX
 |[],_,h=>⟨h,rfl⟩|x::r,ys,h=>by
  simp only[uC]at h;split at h;.rename_i y ys' h1 h2;cases h;obtain⟨g1,g2⟩:=zJ h1 k;obtain⟨g3,g4⟩:=qj k h2;exact⟨by simp only[lI,g1,g3],by simp only[d8,g2,g4]⟩
  .cases h
def afG{ρ:bH}{B:Nat}{m2:List (Tr E2)}{m:List (Tr bu)}{x:Cell}{a:AV}(h:RC ρ B m2 x a)(hn:x.nb=true)(k:Nat):qD m k a=cX a:=by cases k with|zero=>rfl|succ k=>cases a with
 |dz lv sl aq off n sz=>exfalso;cases x with
  |nil b=>cases b with|true=>cases h|false=>rcases h with h|⟨_,_,h⟩<;>cases h
  |sl t l o=>cases o with|d=>rcases h with h|⟨_,_,h⟩<;>cases h|bD=>rcases h with h|⟨_,h⟩<;>cases h|full=>cases h|app v=>obtain⟨_,⟨_,h⟩|⟨_,_,h⟩⟩:=h<;>cases h
  |ref=>obtain⟨_,_,_,_,h,_⟩:=h;cases h|ki=>obtain⟨_,_,_,h,_⟩:=h;cases h|ptr=>obtain⟨_,_,_,h⟩:=h;cases h|mp=>obtain⟨_,_,_,h⟩:=h;cases h|dz=>cases hn|_=>cases h
 |_=>rfl
def Qj{ρ:bH}{B:Nat}{m2:List (Tr E2)}{m:List (Tr bu)}(k:Nat):∀{xs:List Cell}{aL:List AV},aD (RC ρ B m2) xs aL->xs.all Cell.nb=true->aL.flatMap (qD m k)=aL.flatMap cX|[],[],_,_=>rfl|x::xs,a::aL,h,hn=>by simp only[dC,al]at hn;simp only[d8,afG h.1 hn.1,Qj k h.2 hn.2]|[],_::_,h,_=>h.elim|_::_,[],h,_=>h.elim
section
variable{ρ:bH}{B:Nat}{m2:List (Tr E2)}{m:List (Tr bu)}(hm:MR ρ B m2 m)
include hm
theorem abp{x x':Cell}{a:AV}(h:afv m2 x=some x')(hx:RC ρ B m2 x a):∃y,jj m a=some y/\pG x'=some y:=by
 unfold afv at h;split at h;.cases h;cases hx;exact⟨_,rfl,rfl⟩
 .cases h;cases hx;exact⟨_,rfl,rfl⟩
 .cases h;cases hx;exact⟨_,rfl,rfl⟩
 .cases h;cases hx;exact⟨_,rfl,rfl⟩
 .cases h;rcases(iM (m:=m) hx).2with rfl|⟨o,ho,rfl⟩<;>exact⟨_,rfl,rfl⟩
 .cases h;rcases(js (m:=m) hx).2.1with rfl|⟨o,rfl⟩<;>exact⟨_,rfl,rfl⟩
 .split at h;.rename_i r hr;cases h;have he:=nA hm hx hr;obtain⟨_,u,n,hu,rfl,hn⟩:=hx;exact⟨_,by simp only[jj,he,cf],rfl⟩
  grind
 .split at h;.rename_i r hr;cases h;have he:=kD hm hx hr (hx.2.choose_spec.2.2 r hr);obtain⟨_,u,hu,rfl,_⟩:=hx;exact⟨_,by simp only[jj,he,cf],rfl⟩
  grind
 grind
theorem Qk:∀{xs xs':List Cell}{aL:List AV},aa7 m2 xs=some xs'->aD (RC ρ B m2) xs aL->∃ds,uC m aL=some ds/\cJ xs'=some ds
 |[],xs',[],h,_=>by cases h;exact⟨[],rfl,rfl⟩|x::xs,xs',a::aL,h,ha=>by
  simp[aa7]at h;split at h;.rename_i y ys h1 h2;cases h;obtain⟨d,g1,g2⟩:=abp hm h1 ha.1;obtain⟨ds,g3,g4⟩:=Qk h2 ha.2;exact⟨d::ds,by simp only[uC,g1,g3],by simp only[cJ,g2,g4]⟩
  grind|[],_,_::_,_,ha=>ha.elim|_::_,_,[],_,ha=>ha.elim
omit hm in theorem R6{a:AV}{y:D}(h:jj m a=some y):ku m a=some (.d y):=by cases a<;>first|(simp only[ku,(zJ h 2).1];rfl)|cases h
omit hm in theorem R7{a:AV}{y:D}(h:jj m a=some y):nE m a=fL a:=by cases a<;>first|(simp only[nE,(zJ h 2).2];rfl)|cases h
theorem Lk{agg:Bool}{c:ia}{x:Cell}{a:AV}{d:List fW}{b:List Bool}(h:c.ku m2 agg x=some (d,b))(hx:RC ρ B m2 x a)(hb:∀t∈b,t=true):∃y x',(agg=true->jj m a=some y)/\(agg=false->ku m a=some (.d y)/\aY ρ (Ba m2 (.c x)) (nE m a))/\(∀rest,c.fill (d++rest)=some (x',rest))/\RC ρ0 0 [] x' (.d y):=by
 have one:∀{y:D}{x':Cell},Ba m2 (.c x)=IK (.c x)->jj m a=some y->(∀rest,c.fill (d++rest)=some (x',rest))->RC ρ0 0 [] x' (.d y)->∃y x',(agg=true->jj m a=some y)/\(agg=false->ku m a=some (.d y)/\aY ρ (Ba m2 (.c x)) (nE m a))/\(∀rest,c.fill (d++rest)=some (x',rest))/\RC ρ0 0 [] x' (.d y):=λhk h1 h2 h3=>⟨_,_,λ_=>h1,λ_=>⟨R6 h1,by rw[hk,R7 h1];exact Qh (v:=.c x) hx⟩,h2,h3⟩;unfold ia.ku at h;split at h<;>(try dsimp only at h)
 .split at h;.cases h;cases hx;exact one rfl rfl (λ_=>rfl) rfl
  grind
 .cases h;cases hx;exact one rfl rfl (λ_=>rfl) rfl
 .cases h;cases hx;exact one rfl rfl (λ_=>rfl) rfl
 .rename_i t o f;have key:jj m a=some (.sl (bF t [])):=by rcases(iM (m:=m) hx).2with rfl|⟨o',ho,rfl⟩<;>rfl
  split at h;.cases h;exact one rfl key (λ_=>rfl) (.inl rfl)
  .cases h;exact one rfl key (λ_=>rfl) (.inl rfl)
  grind
 .rename_i t0 o t l o';have key:jj m a=some (.sl (bF t l)):=by rcases(js (m:=m) hx).2.1with rfl|⟨o',rfl⟩<;>rfl
  split at h;.cases h;exact one rfl key (λ_=>rfl) (.inl rfl)
  .cases h;exact one rfl key (λ_=>rfl) (.inl rfl)
  grind
 .rename_i t0 o lv sq aq t;cases hr:rowOf m2 lv sq aq with|none=>grind|some r=>
  simp[hr]at h;have he:=nA hm hx hr;obtain⟨_,u,n,hu,rfl,hn⟩:=hx;have key:jj m (.ref lv sq u 0 n t.size)=some (.sl (bF r.t r.l)):=by simp[jj,he,cf]
  cases o with|d=>cases h;exact one rfl key (λ_=>rfl) (.inl rfl)|bD=>cases h;exact one rfl key (λ_=>rfl) (.inl rfl)|full=>simp at h|app v=>simp at h
 .rename_i t0 o lv sq aq t off len;cases hr:rowOf m2 lv sq aq with|none=>grind|some r=>
  simp[hr]at h;have fin:b=[decide (off+len<=r.l.length)]->jj m a=some (.sl (bF r.t ((r.l.drop off).take len))):=by intro hb';have hle:=dv (hb (decide (off+len<=r.l.length)) (by rw[hb'];exact ca.2 rfl));have he:=kD hm hx hr hle;obtain⟨_,u,hu,rfl,_⟩:=hx;simp[jj,he,cf]
  cases o with|d=>cases h;exact one rfl (fin rfl) (λ_=>rfl) (.inl rfl)|bD=>cases h;exact one rfl (fin rfl) (λ_=>rfl) (.inl rfl)|full=>simp at h|app v=>simp at h
 .rename_i t o lv sq aq off n sz;split at h
  .rename_i v cs hg;split at h
   .rename_i l hc hp;rw[al]at hc;have hv:=am hc.1;subst hv;rw[al]at hc;have hle:=ft hc.2.1;obtain⟨dcs,hd,hp⟩:=aV hp;obtain⟨_,u,hu,rfl⟩:=hx;obtain⟨e,g1,g2⟩:=hm.fI _ _ _ hg;obtain⟨_,u',aL,g3,rfl,g4⟩:=g2;rw[hu]at g3;obtain⟨ds,q1,q2⟩:=Qk hm hd ((g4.drop off).take (n*sz));have hl:=zH hp (yB n q2);have hbx:j3 m lv sq u=some aL:=by unfold j3<;>simp_all
    have key:ku m (.dz lv sq u off n sz)=some (.d (.sl (bF t l))):=by
     have e:lJ m 2 (.dz lv sq u off n sz)=some (.sl (bF t l)):=by rw[lJ];simp only[hbx];rw[ba (by rw[<-g4.length];exact hle),(qj 1 q1).1]<;>grind
     simp only[ku,e,cf]
    have hkeys:aY ρ (Ba m2 (.c (.dz lv sq v off n sz))) (nE m (.dz lv sq u off n sz)):=by
     have e:qD m 2 (.dz lv sq u off n sz)=bX lv sq::aL.flatMap cX:=by rw[qD];simp only[hbx,Qj 1 g4 hc.2.2]
     simp only[Ba,hg,nE,e];exact aY.j7 lv sq (yy g4)
    split at h;.cases h;exact⟨_,_,λh=>(by cases h),λ_=>⟨key,hkeys⟩,λ_=>rfl,.inl rfl⟩
    .cases h;exact⟨_,_,λh=>(by cases h),λ_=>⟨key,hkeys⟩,λ_=>rfl,.inl rfl⟩
    grind
   grind
  grind
 grind
theorem He:∀{cs:List ia}{xs:List Cell}{aL:List AV}{d:List fW}{b:List Bool},zy m2 cs xs=some (d,b)->aD (RC ρ B m2) xs aL->(∀t∈b,t=true)->∃ys xs',uC m aL=some ys/\(∀rest,dF cs (d++rest)=some (xs',rest))/\aD (RC ρ0 0 []) xs' (ys.map .d)
 |[],[],aL,d,b,h,ha,_=>by cases h;match aL,ha with|[],_=>simp_all[bH,ρ0,RC,aD,dF,uC]
 |c::cs,x::xs,aL,d,b,h,ha,hb=>by
  simp[zy]at h;split at h;.rename_i d1 b1 d2 b2 h1 h2;cases h;match aL,ha with|a::aL,ha=>obtain⟨y,x',g1,_,g2,g3⟩:=Lk hm h1 ha.1 (λt ht=>hb t (dp _ ht));obtain⟨ys,xs',g4,g5,g6⟩:=He h2 ha.2 (λt ht=>hb t (du _ ht));exact⟨y::ys,x'::xs',by simp only[uC,g1 rfl,g4],λrest=>by simp only[dF,bj,g2,g5],g3,g6⟩
  grind|[],_::_,_,_,_,h,_,_=>by simp[zy]at h|_::_,[],_,_,_,h,_,_=>by simp[zy]at h
theorem Hf:∀{ps:List vo}{vs:List V2}{aL:List AV}{d:List fW}{b:List Bool},zz m2 ps vs=some (d,b)->aD (RV ρ B m2) vs aL->(∀t∈b,t=true)->∃as' vs',xw m aL=some as'/\aY ρ (vs.flatMap (Ba m2)) (aL.flatMap (nE m))/\(∀rest,dO ps (d++rest)=some (vs',rest))/\aD (RV ρ0 0 []) vs' as'
 |[],[],aL,d,b,h,ha,_=>by cases h;match aL,ha with|[],_=>exact⟨[],[],rfl,aY.nil,λ_=>rfl,trivial⟩
 |p::ps,v::vs,aL,d,b,h,ha,hb=>by
  simp[zz]at h;split at h;.rename_i d1 b1 d2 b2 h1 h2;cases h;match aL,ha with
   |a::aL,ha=>
    obtain⟨as',vs',g4,g7,g5,g6⟩:=Hf h2 ha.2 (λt ht=>hb t (du _ ht));have p6:∀t∈b1,t=true:=λt ht=>hb t (dp _ ht);have one:∃a' v',ku m a=some a'/\aY ρ (Ba m2 v) (nE m a)/\(∀rest,dO (p::ps) (d1++rest)=(match dO ps rest with|some (xs,r'')=>some (v'::xs,r'')|none=>none))/\RV ρ0 0 [] v' a':=by
     unfold vo.ku at h1;split at h1;.obtain⟨y,x',_,q1,q2,q3⟩:=Lk hm h1 ha.1 p6;exact⟨_,.c x',(q1 rfl).1,(q1 rfl).2,λrest=>by simp only[dO,tF.fill,q2];rfl,q3⟩
     .obtain⟨bs,e,hc⟩:=ha.1;subst e;obtain⟨ys,xs1,q1,q2,q3⟩:=He hm h1 hc p6;exact⟨.agg (ys.map .d),.agg xs1,by simp only[ku,(qj 2 q1).1,cf],by simp only[nE,(qj 2 q1).2];exact yy hc,λrest=>by simp only[dO,tF.fill,q2];rfl,_,rfl,q3⟩
     .split at h1;.rename_i f f' hf;have e:=am hf;subst e;cases h1;obtain⟨bs,e,hc⟩:=ha.1;subst e;match bs,hc with|[],_=>exact⟨.fK _ [],.fK _ [],rfl,aY.nil,λrest=>by simp only[dO,i6];rfl,[],rfl,trivial⟩
      grind
     grind
    obtain⟨a',v',g1,g8,g2,g3⟩:=one;exact⟨a'::as',v'::vs',by simp only[xw,g1,g4],(by simp only[d8];exact g8.append g7),λrest=>by rw[bj,g2,g5],g3,g6⟩
  grind|[],_::_,_,_,_,h,_,_=>by simp[zz]at h|_::_,[],_,_,_,h,_,_=>by simp[zz]at h
end
def qk{α:Type}{l:List Bool}{k:Option α}{r:α}(h:wG l k=some r):(∀t∈l,t=true)/\k=some r:=by induction l with|nil=>grind[wG]|cons b l ih=>obtain⟨h1,h2⟩:=cK h<;>grind
section
variable{α:Type}{ρ:bH}{B:Nat}{s2:S2}{s:St}{r:α}(hm:MR ρ B s2.mem s.mem)(cy:wJ ρ B s2.mem s2.slots s.slots)
include hm cy
theorem abq{ar:BR}{K:Bool->List Cell->Option α}(h:afx s2 ar K=some r):∃a cs v,JZ s ar=some v/\R1 ρ B s2.mem (a,cs) v/\K a cs=some r:=by
 unfold afx at h;split at h
 .split at h;.rename_i x hx;have hv:=cy _ _ hx;refine⟨false,[x],_,?_,⟨x,rfl,hv⟩,h⟩;simp[JZ,(RC.cell hv).2.2]
  .rename_i cs hx;obtain⟨aL,e,hv⟩:=cy _ _ hx;refine⟨true,cs,.agg aL,?_,⟨aL,rfl,hv⟩,h⟩;simp[JZ,e,fY]
  grind
 .obtain⟨p,hp,h⟩:=cR h;obtain⟨cs,aL,h1,h2,h3⟩:=Lb hm h (cy _ _ hp);split at h3;.refine⟨true,cs,.agg aL,?_,⟨aL,rfl,h2⟩,h3⟩;simp[JZ,h1,ae,iJ]
  .rename_i x _;match aL,h2 with|[a],h2=>refine⟨false,[x],a,?_,⟨x,rfl,h2.1⟩,h3⟩;simp[JZ,h1,ae,iJ]
  grind
theorem DK:∀{l:List BR}{K:List (Bool×List Cell)->Option α},GO s2 l K=some r->∃vs aL,ke s l=some aL/\aD (R1 ρ B s2.mem) vs aL/\K vs=some r|[],K,h=>⟨[],[],rfl,trivial,h⟩|x::l,K,h=>by obtain⟨a,cs,v,h1,h2,h⟩:=abq hm cy h;obtain⟨vs,aL,h3,h4,h⟩:=DK h;exact⟨(a,cs)::vs,v::aL,by simp only[ke,h1,h3],⟨h2,h4⟩,h⟩
end
def yC{cm:List (Tr bu)}{top k lv sl aq:Nat}{els:List (List D)}{o:Own}(h:o≠.bD):bG cm top 0 k lv sl aq (.own els o)=some (.d (.sl els),[]):=by cases o with|bD=>grind|_=>rfl
section
variable{ρ:bH}{B:Nat}{m2:List (Tr E2)}{m:List (Tr bu)}(hm:MR ρ B m2 m)
include hm
theorem Ql{top k lv sl aq:Nat}{x y:Cell}{a:AV}(h:UL m2 top x=some y)(hx:RC ρ B m2 x a):∃a',bG m top 0 k lv sl aq a=some (a',[])/\RC ρ B (m2.take top) y a':=by
 unfold UL at h;split at h;.cases h;cases hx;exact⟨_,rfl,rfl⟩
 .cases h;cases hx;exact⟨_,rfl,rfl⟩
 .cases h;cases hx;exact⟨_,rfl,rfl⟩
 .cases h;cases hx;exact⟨_,rfl,rfl⟩
 .cases h;rcases(iM (m:=m) hx).2with e|⟨o',ho,e⟩;.subst e;exact⟨_,rfl,.inl rfl⟩
  .subst e;exact⟨_,yC ho,.inl rfl⟩
 .cases h
 .rename_i t l o hne;cases h;rcases(js (m:=m) hx).2.2 (λe=>hne e)with e|⟨o2,ho,e⟩;.subst e;exact⟨_,rfl,.inl rfl⟩
  .subst e;exact⟨_,yC ho,.inl rfl⟩
 .split at h
  .rename_i hb;cases h;obtain⟨hv,u,n,hu,rfl,hn⟩:=hx;refine⟨_,by simp only[bG,hb],hv,u,n,hu,rfl,λr hr=>hn r ?_⟩;have h1:=cY hr;refine iz.2 ?_;unfold jZ at h1⊢;rw[fx]at h1;split at h1;.exact h1
   .cases h1
  .rename_i hb;split at h;.rename_i r hr;cases h;have he:=nA hm hx hr;obtain⟨hv,u,n,hu,rfl,hn⟩:=hx;refine⟨.d (.sl (bF r.t r.l)),?_,.inl rfl⟩;simp[bG,hb,he]
   .cases h
 .rename_i cC cW gD t off len;split at h
  .rename_i hb;cases h;obtain⟨hv,u,hu,rfl,hn⟩:=hx;refine⟨_,by simp only[bG,hb],hv,u,hu,rfl,λr hr=>hn r ?_⟩;have h1:=cY hr;refine iz.2 ?_;unfold jZ at h1⊢;rw[fx]at h1;split at h1;.exact h1
   .cases h1
  .rename_i hb;split at h;.rename_i r hr;cases h;have he:=kD hm hx hr (hx.2.choose_spec.2.2 r hr);obtain⟨hv,u,hu,rfl,hn⟩:=hx;refine⟨.d (.sl (bF r.t ((r.l.drop off).take len))),?_,.inl rfl⟩;simp[bG,hb,he]
   .cases h
 .split at h;.rename_i hb;cases h;obtain⟨hv,u,hu,rfl⟩:=hx;exact⟨_,by simp only[bG,hb],hv,u,hu,rfl⟩
  .cases h
 .cases h
theorem Ll{top lv sl aq:Nat}:∀{k:Nat}{xs ys:List Cell}{aL:List AV},Dt m2 top xs=some ys->aD (RC ρ B m2) xs aL->∃as',dN m top 0 lv sl aq k aL=some (as',[])/\aD (RC ρ B (m2.take top)) ys as'
 |k,[],ys,aL,h,ha=>by cases h;match aL,ha with|[],_=>exact⟨[],rfl,trivial⟩
 |k,x::xs,ys,aL,h,ha=>by
  simp[Dt]at h;split at h;.rename_i y ys' h1 h2;cases h;match aL,ha with|a::aL,ha=>obtain⟨a',g1,g2⟩:=Ql hm (k:=k) (lv:=lv) (sl:=sl) (aq:=aq) h1 ha.1;obtain⟨as',g3,g4⟩:=Ll (lv:=lv) (sl:=sl) (aq:=aq) (k:=k+1) h2 ha.2;exact⟨a'::as',by simp only[dN,g1,g3,dt],g2,g4⟩
  grind
theorem Qm{top lv sl aq k:Nat}{b:Bool}{xs ys:List Cell}{a:AV}(h:Dt m2 top xs=some ys)(ha:R1 ρ B m2 (b,xs) a):∃a',lH m top 0 lv sl aq k a=some (a',[])/\R1 ρ B (m2.take top) (b,ys) a':=by cases b with|true=>obtain⟨aL,rfl,ha⟩:=ha;obtain⟨as',g1,g2⟩:=Ll hm (k:=k) (lv:=lv) (sl:=sl) (aq:=aq) h ha<;>simp_all[RC,aD,Dt,bH,R1,lH]|false=>
 obtain⟨c,rfl,ha⟩:=ha;simp[Dt]at h;split at h;.rename_i y ys' h1 h2;simp_all;subst h;obtain⟨a',g1,g2⟩:=Ql hm (k:=k) (lv:=lv) (sl:=sl) (aq:=aq) h1 ha;refine⟨a',?_,y,rfl,g2⟩;have hc:=RC.cell ha;cases a<;>first|exact g1|cases hc.2.1
 grind
theorem Hg{top lv sl aq:Nat}:∀{k:Nat}{vs ws:List (Bool×List Cell)}{aL:List AV},Bb m2 top vs=some ws->aD (R1 ρ B m2) vs aL->∃as',fX m top 0 lv sl aq k aL=some (as',[])/\aD (R1 ρ B (m2.take top)) ws as'
 |k,[],ws,aL,h,ha=>by cases h;match aL,ha with|[],_=>exact⟨[],rfl,trivial⟩
 |k,(b,x)::xs,ws,aL,h,ha=>by
  simp[Bb]at h;split at h;.rename_i y ys' h1 h2;cases h;match aL,ha with|a::aL,ha=>obtain⟨a',g1,g2⟩:=Qm hm (k:=k) (lv:=lv) (sl:=sl) (aq:=aq) h1 ha.1;obtain⟨as',g3,g4⟩:=Hg (lv:=lv) (sl:=sl) (aq:=aq) (k:=k+64) h2 ha.2;exact⟨a'::as',by simp only[fX,g1,g3,dt],g2,g4⟩
  grind
omit hm in theorem R1.fY{b:Bool}{cs:List Cell}{a:AV}(h:R1 ρ B m2 (b,cs) a):bL.fY a=true:=by cases b with|true=>obtain⟨aL,rfl,_⟩:=h;rfl|false=>obtain⟨c,_,h⟩:=h;exact(RC.cell h).2.2
theorem abr{top lv sl aq:Nat}{vs ws:List (Bool×List Cell)}{w:V2}{aL:List AV}(h:Bb m2 top vs=some ws)(ht:qI ws=some w)(ha:aD (R1 ρ B m2) vs aL):∃a',gY m top 0 lv sl aq (jv aL)=some (a',[])/\RV ρ B (m2.take top) w a':=by match vs,aL,ha with
 |[],[],ha=>cases h;cases ht;exact⟨.fu [],rfl,[],rfl,trivial⟩|[(b,x)],[a],ha=>
  simp[Bb]at h;split at h
  .rename_i y ys' h1 h2;simp_all;subst h;obtain⟨a',g1,g2⟩:=Qm hm (k:=1) (lv:=lv) (sl:=sl) (aq:=aq) h1 ha.1;refine⟨a',?_,?_⟩;.have hn:=R1.fY ha.1;cases a<;>first|exact g1|cases hn
   .cases b with|true=>obtain⟨as',rfl,g3⟩:=g2;cases ht;exact⟨as',rfl,g3⟩|false=>obtain⟨c,rfl,g3⟩:=g2;cases ht;exact g3
  grind|v::v'::vs,a::a'::aL,ha=>
  obtain⟨as',g1,g2⟩:=Hg hm (k:=1) (lv:=lv) (sl:=sl) (aq:=aq) h ha;refine⟨.fu as',?_,?_⟩;.simp[jv,gY,g1,cf]
  .have:∃x y zs,ws=x::y::zs:=by simp[Bb]at h<;>grind
   obtain⟨x,y,zs,rfl⟩:=this;cases ht;exact⟨as',rfl,g2⟩
end
end Go.Sym
