/- A part of the proof: SymC, SymD. -/
import Derived.Test.YtkdilffhbejjaaaGreatSymB
import Derived.Laws.Strings
set_option linter.unusedVariables false
set_option linter.unusedSimpArgs false
namespace Go.Sym
open Go Go.bM
section
variable{ρ:bD}{B:Nat}{m2:List (Tr E2)}{m:List (Tr bH)}
theorem aB{α β:Type}{o:Option β}{k:β->Option α}{r:α}(h:cu o k=some r):∃x,o=some x/\k x=some r:=by cases o with|none=>cases h|some x=>exact⟨x,rfl,h⟩
theorem cx{α:Type}{b:Bool}{k:Option α}{r:α}(h:aF b k=some r):b=true/\k=some r:=by grind[aF]
theorem bind_some{α β:Type}{o:Option β}{k:β->Option α}{r:α}(h:Option.bind o k=some r):∃x,o=some x/\k x=some r:=by cases o with|none=>cases h|some x=>grind
theorem cD{α:Type}{v:Option V2}{k:Cell->Option α}{r:α}(h:jm v k=some r):∃x,v=some (.c x)/\k x=some r:=by unfold jm at h<;>grind
theorem ud{α:Type}{v:Option V2}{k:Int->Option α}{r:α}(h:OV v k=some r):∃kd n,v=some (.c (.int kd n))/\k n=some r:=by unfold OV at h<;>grind
theorem lU{α:Type}{v:Option V2}{k:Nat->Option α}{r:α}(h:GA v k=some r):∃kd n,v=some (.c (.int kd n))/\0<=n/\k n.toNat=some r:=by obtain⟨kd,n,h1,h2⟩:=ud h;grind[aF,GA]
theorem qW{α:Type}{v:Option V2}{k:Bool->Option α}{r:α}(h:wD v k=some r):∃b,v=some (.c (.bool b))/\k b=some r:=by unfold wD at h<;>grind
theorem Ns(v:Value):RC ρ B m2 (abG v) (.d (.sc v)):=by cases v<;>first|rfl|exact rfl
theorem Nt{x:AV}{c:Cell}(h:XC x=some c):RC ρ B m2 c x:=by
 unfold XC at h;split at h;.cases h;exact Ns _
 .cases h;rfl
 grind
theorem wJ:∀{l:List AV}{cs:List Cell},BN l=some cs->aE (RC ρ B m2) cs l
 |[],cs,h=>by cases h;trivial|x::r,cs,h=>by
  simp[BN]at h;split at h;.rename_i y ys h1 h2;cases h;exact⟨Nt h1,wJ h2⟩
  grind
theorem XO{x:AV}{v:V2}(h:abH x=some v):RV ρ B m2 v x:=by
 unfold abH at h;split at h;.obtain⟨cs,h1,rfl⟩:=aQ h;exact⟨_,rfl,wJ h1⟩
 .cases h;exact⟨[],rfl,trivial⟩
 .cases h;exact⟨[],rfl,trivial⟩
 .obtain⟨c,h1,rfl⟩:=aQ h;exact Nt h1
theorem XP{x:D}{c:Cell}(h:XD x=some c):RC ρ B m2 c (.d x):=by
 unfold XD at h;split at h;.cases h;exact Ns _
 .cases h;exact .inl rfl
 grind
theorem IV:∀{l:List D}{cs:List Cell},sG l=some cs->aE (RC ρ B m2) cs (l.map .d)
 |[],cs,h=>by cases h;trivial|x::r,cs,h=>by
  simp[sG]at h;split at h;.rename_i y ys h1 h2;cases h;exact⟨XP h1,IV h2⟩
  grind
theorem qk:∀{l:List D}{cs:List Cell},sG l=some cs->cv cs=some l
 |[],cs,h=>by cases h;rfl|x::r,cs,h=>by
  simp[sG]at h;split at h
  .rename_i y ys h1 h2;cases h;have:ov y=some x:=by
    unfold XD at h1;split at h1;.rename_i v;cases h1;cases v<;>rfl
    .cases h1;rfl
    grind
   simp[cv,this,qk h2]
  grind
theorem bt{s2:S2}{sl:Tr AV}(hs:va ρ B m2 s2.slots sl){x:cc}{v:V2}(h:jG s2 x=some v):RV ρ B m2 v (x.ev sl):=by cases x with|t n=>exact hs n v h|c a=>exact XO h
theorem oZ{s2:S2}{sl:Tr AV}(hs:va ρ B m2 s2.slots sl):∀{l:List cc}{vs:List V2},Gy s2 l=some vs->aE (RV ρ B m2) vs (DF sl l)
 |[],vs,h=>by cases h;trivial|x::r,vs,h=>by
  simp[Gy]at h;split at h;.rename_i y ys h1 h2;cases h;exact⟨bt hs h1,oZ hs h2⟩
  grind
theorem RC.cell{c:Cell}{a:AV}(h:RC ρ B m2 c a):cellsOf a=some [a]/\jI a=true/\fY a=true:=by cases c with
 |nil f=>cases f with|true=>cases h;exact⟨rfl,rfl,rfl⟩|false=>rcases h with rfl|⟨o,_,rfl⟩<;>exact⟨rfl,rfl,rfl⟩
 |sl t l o=>cases o with|app v=>rcases h with⟨_,⟨_,rfl⟩|⟨u,_,rfl⟩⟩<;>exact⟨rfl,rfl,rfl⟩|d=>rcases h with rfl|⟨o,_,rfl⟩<;>exact⟨rfl,rfl,rfl⟩|full=>cases h;exact⟨rfl,rfl,rfl⟩|bC=>rcases h with rfl|⟨o,rfl⟩<;>exact⟨rfl,rfl,rfl⟩
 |ref lv sl au t=>obtain⟨_,u,n,_,rfl,_⟩:=h;exact⟨rfl,rfl,rfl⟩|j0 lv sl au t off len=>obtain⟨_,u,_,rfl,_⟩:=h;exact⟨rfl,rfl,rfl⟩|ptr lv sl au i off=>obtain⟨_,u,_,rfl⟩:=h;exact⟨rfl,rfl,rfl⟩|fF lv sl au off n sz=>obtain⟨_,u,_,rfl⟩:=h;exact⟨rfl,rfl,rfl⟩|mp lv sl au=>obtain⟨_,u,_,rfl⟩:=h;exact⟨rfl,rfl,rfl⟩|_=>cases h;exact⟨rfl,rfl,rfl⟩
theorem wK{v:V2}{a:AV}{cs:List Cell}(h:V2.cells? v=some cs)(hv:RV ρ B m2 v a):∃aO,cellsOf a=some aO/\aE (RC ρ B m2) cs aO:=by cases v with|c x=>cases h;exact⟨[a],(RC.cell hv).1,hv,trivial⟩|agg l=>cases h;obtain⟨aO,rfl,h2⟩:=hv;exact⟨aO,rfl,h2⟩|_=>cases h
theorem B8{agg:Bool}{cs:List Cell}{aO:List AV}{v:V2}(h:BP agg cs=some v)(hc:aE (RC ρ B m2) cs aO):∃a,gX agg aO=some a/\RV ρ B m2 v a:=by cases agg with|true=>cases h;exact⟨_,rfl,aO,rfl,hc⟩|false=>
 simp[BP]at h;split at h;.cases h;match aO,hc with|[a],hc=>exact⟨a,rfl,hc.1⟩
 grind
theorem kF(m:List (Tr E2))(lv sl cM cZ:Nat)(e:Option E2):jO (BO m lv sl e) cM cZ=if lv=cM/\sl=cZ/\lv<m.length then e else jO m cM cZ:=by
 unfold jO BO;rw[List.getElem?_modify];by_cases h:lv=cM;.subst h;cases hm:m[lv]?with|none=>grind|some t=>
  have:lv<m.length:=by grind
  simp[Tr.cy,this]
 grind
theorem sL(m:List (Tr E2))(lv sl:Nat)(e:Option E2):(BO m lv sl e).length=m.length:=by simp[BO]
theorem mI(m:List (Tr bH))(lv sl:Nat)(e:Option bH):(cC m lv sl e).length=m.length:=by simp[cC]
theorem zE:∀(l:List (Nat×Nat×Option E2))(m:List (Tr E2)),(gr m l).length=m.length|[],_=>rfl|(lv,sl,e)::r,m=>by rw[gr,zE r,sL]
theorem dA:∀(l:List (Nat×Nat×Option bH))(m:List (Tr bH)),(bF m l).length=m.length|[],_=>rfl|(lv,sl,e)::r,m=>by rw[bF,dA r,mI]
def OE(ρ:bD)(B:Nat)(m:List (Tr E2))(x:Option E2)(y:Option bH):Prop:=∀e2,x=some e2->∃e,y=some e/\RE ρ B m e2 e
def O0(ρ:bD)(B:Nat)(m:List (Tr E2))(x:Nat×Nat×Option E2)(y:Nat×Nat×Option bH):Prop:=x.1=y.1/\x.2.1=y.2.1/\OE ρ B m x.2.2 y.2.2
theorem Nu{B':Nat}{mf:List (Tr E2)}:∀{GI:List (Nat×Nat×Option E2)}{us:List (Nat×Nat×Option bH)}{m2:List (Tr E2)}{m:List (Tr bH)},aE (O0 ρ B' mf) GI us->m2.length=m.length->(∀lv sl,OE ρ B' mf (jO m2 lv sl) (aN m lv sl))->∀lv sl,OE ρ B' mf (jO (gr m2 GI) lv sl) (aN (bF m us) lv sl)|[],[],_,_,_,_,h=>h|(lv2,sl2,e2)::r2,(lv,sl,e)::r,m2,m,hu,hl,h=>by obtain⟨⟨h1,h2,h3⟩,hr⟩:=hu;subst h1 h2;refine Nu (m2:=BO m2 lv2 sl2 e2) (m:=cC m lv2 sl2 e) hr (by rw[sL,mI,hl]) λcM cZ=>?_;rw[kF,cG,hl]<;>grind|[],_::_,_,_,hu,_,_=>hu.elim|_::_,[],_,_,hu,_,_=>hu.elim
theorem MR.di{B':Nat}{GI:List (Nat×Nat×Option E2)}{us:List (Nat×Nat×Option bH)}(h:MR ρ B m2 m)(hB:B<=B')(hst:fA B m2 (gr m2 GI))(hu:aE (O0 ρ B' (gr m2 GI)) GI us):MR ρ B' (gr m2 GI) (bF m us):=by refine⟨by rw[zE,dA,h.len],λlv sl e2 he=>Nu hu h.len (λlv sl e2 he=>?_) lv sl e2 he⟩;obtain⟨e,h1,h2⟩:=h.fZ lv sl e2 he;exact⟨e,h1,RE.mono hB (λ_ _=>rfl) (λ_ _=>RC.move hst hB λ_ _=>rfl) h2⟩
theorem cJ{lv sl au:Nat}{r:SL}(h:rowOf m2 lv sl au=some r):jO m2 lv sl=some (.row au r.t r.l):=by
 unfold rowOf at h;split at h
 .split at h;.cases h<;>simp_all
  grind
 grind
theorem gJ{lv sl au:Nat}{r:SL}:rowOf m2 lv sl au=some r↔jO m2 lv sl=some (.row au r.t r.l):=by refine⟨cJ,λh=>?_⟩<;>simp_all[jO,rowOf]
theorem sM(n:Nat):Nat.beq n n=true:=by simp
theorem jq(hm:MR ρ B m2 m){lv sl au u:Nat}{r:SL}(h:rowOf m2 lv sl au=some r)(hu:ρ au=some u):aN m lv sl=some (.row u (bx r.t r.l))/\bM.rowAt m lv sl u=some (bx r.t r.l):=by obtain⟨e,h1,_,u',h2,rfl⟩:=hm.fZ _ _ _ (cJ h);unfold bM.rowAt<;>simp_all
theorem IW(hm:MR ρ B m2 m){lv sl au u:Nat}{r:SL}(h:rowOf m2 lv sl au=some r)(hu:ρ au=some u):bM.rN m lv sl u=some (bx r.t r.l):=by have h1:=(jq hm h hu).1<;>simp_all[rowOf,bD,bx,rN]
theorem bw(t:Ty)(l:List t.den):(bx t l).length=l.length:=by simp[bx]
theorem gK(t:Ty)(l:List t.den):(bx t l).all (λe=>e.length==t.size)=true:=by simp[bx,km,eU]
theorem B9(t:Ty)(l:List t.den)(i:Nat):(bx t l)[i]?=(l[i]?).map (fy t):=by simp[bx]
theorem mW(t:Ty)(l l':List t.den):bx t (l++l')=bx t l++bx t l':=by simp[bx]
theorem mK(hm:MR ρ B m2 m){lv sl au:Nat}{t:Ty}{r:SL}{a:AV}(h:RC ρ B m2 (.ref lv sl au t) a)(hr:rowOf m2 lv sl au=some r):dG m a=some (bx r.t r.l):=by obtain⟨_,u,n,hu,rfl,hn⟩:=h;have:=IW hm hr hu;simp[dG,this,ae];rw[hn r hr];simp[bw,fg]
theorem j3(hm:MR ρ B m2 m){lv sl au off len:Nat}{t:Ty}{r:SL}{a:AV}(h:RC ρ B m2 (.j0 lv sl au t off len) a)(hr:rowOf m2 lv sl au=some r)(hl:off+len<=r.l.length):dG m a=some (bx r.t ((r.l.drop off).take len)):=by obtain⟨_,u,hu,rfl,_⟩:=h;have:=IW hm hr hu<;>simp_all[rowOf,bD,Ty.den,bx,Ty.size,dG]
theorem iW{t:Ty}{l:List t.den}{o:Ow}{a:AV}(h:RC ρ B m2 (.sl t l o) a):dG m a=some (bx t l)/\(a=.d (.sl (bx t l))\/∃o',a=.own (bx t l) o')/\(o≠.bC->a=.d (.sl (bx t l))\/∃o',o'≠.bC/\a=.own (bx t l) o'):=by cases o with|app v=>rcases h with⟨_,⟨_,rfl⟩|⟨u,_,rfl⟩⟩<;>exact⟨rfl,.inr ⟨_,rfl⟩,λ_=>.inr ⟨_,by simp,rfl⟩⟩|d=>rcases h with rfl|⟨o,ho,rfl⟩<;>simp_all[RC,Ty.den,bD,bx,dG]|full=>simp_all[RC,Ty.den,bD,bx,dG]|bC=>rcases h with rfl|⟨o,rfl⟩<;>simp_all[RC,Ty.den,bD,bx,dG]
theorem hU{f:Bool}{a:AV}(h:RC ρ B m2 (.nil f) a):dG m a=some []/\(a=.d (.sl [])\/∃o',o'≠.bC/\a=.own [] o'):=by cases f with|true=>simp_all[RC,bD,dG]|false=>rcases h with rfl|⟨o,ho,rfl⟩<;>simp_all[RC,bD,dG]
theorem Nv{els:List (List D)}{o:WV}(h:o≠.bC):An m (.own els o)=some (.sl els,[]):=by cases o with|bC=>grind|_=>rfl
theorem XQ(hm:MR ρ B m2 m){c c':Cell}{a:AV}{ks:List (Nat×Nat)}(h:Ln m2 c=some (c',ks))(hc:RC ρ B m2 c a):∃d,An m a=some (d,ks)/\ov c'=some d:=by
 unfold Ln at h;split at h;.cases h<;>simp_all[RC,bD,ov,An]
 .cases h<;>simp_all[RC,bD,ov,An]
 .cases h<;>simp_all[RC,bD,ov,An]
 .cases h<;>simp_all[RC,bD,ov,An]
 .cases h;rcases(hU (m:=m) hc).2with rfl|⟨o,ho,rfl⟩;.exact⟨_,rfl,rfl⟩
  .exact⟨_,Nv ho,rfl⟩
 .cases h
 .rename_i t l o hne;cases h;rcases(iW (m:=m) hc).2.2 (λe=>hne e)with rfl|⟨o',ho,rfl⟩;.exact⟨_,rfl,rfl⟩
  .exact⟨_,Nv ho,rfl⟩
 .split at h;.rename_i r hr;cases h;have he:=mK hm hc hr;obtain⟨_,u,n,hu,rfl,hn⟩:=hc;refine⟨.sl (bx r.t r.l),?_,rfl⟩;simp[An,he,ca]
  grind
 .rename_i lv sl au t off len;split at h;.rename_i r hr;cases h;have he:=j3 hm hc hr (hc.2.choose_spec.2.2 r hr);obtain⟨_,u,hu,rfl,hn⟩:=hc;refine⟨.sl (bx r.t ((r.l.drop off).take len)),?_,rfl⟩;simp[An,he,ca]
  grind
 grind
theorem Lu(hm:MR ρ B m2 m):∀{cs cs':List Cell}{aO:List AV}{ks:List (Nat×Nat)},mN m2 cs=some (cs',ks)->aE (RC ρ B m2) cs aO->∃ds,DO m aO=some (ds,ks)/\cv cs'=some ds
 |[],cs',aO,ks,h,ha=>by match aO,ha with|[],_=>cases h;exact⟨[],rfl,rfl⟩
 |c::r,cs',aO,ks,h,ha=>by match aO,ha with
  |a::aO,⟨ha,hr⟩=>
   simp[mN]at h;split at h;.rename_i y k ys k' h1 h2;cases h;obtain⟨d,g1,g2⟩:=XQ hm h1 ha;obtain⟨ds,g3,g4⟩:=Lu hm h2 hr;exact⟨d::ds,by simp only[DO,g1,g3],by simp only[cv,g2,g4]⟩
   grind
theorem kU{α:Type}(hm:MR ρ B m2 m){x:Cell}{a:AV}{e:Option Ty}{K:SL->Option α}{r:α}(h:oW m2 x e K=some r)(hx:RC ρ B m2 x a):∃n,gB m a=some (bx n.t n.l)/\K n=some r:=by
 have key:∀{a:AV}{els:List (List D)},dG m a=some els->(∀b,a≠.d (.sc (.string b)))->gB m a=some els:=by simp_all[RC,oW,bD,gB,dG]
 unfold oW at h;split at h;.rename_i t l o;refine⟨⟨t,l⟩,key (iW hx).1 λb hb=>?_,h⟩;have:=(iW (m:=m) hx).1;rw[hb]at this;cases this
 .obtain⟨t,rfl,h⟩:=aB h;refine⟨⟨t,[]⟩,key (hU hx).1 λb hb=>?_,h⟩;have:=(hU (m:=m) hx).1;rw[hb]at this;cases this
 .obtain⟨r',hr,h⟩:=aB h;refine⟨r',key (mK hm hx hr) λb hb=>?_,h⟩;simp_all[rowOf,cu,RC,gB,dG,bD]
 .rename_i lv sl au t off len;obtain⟨r',hr,h⟩:=aB h;obtain⟨hl,h⟩:=cx h;have hl:=dv hl;refine⟨⟨r'.t,(r'.l.drop off).take len⟩,key (j3 hm hx hr hl) λb hb=>?_,h⟩;have:=j3 hm hx hr hl;rw[hb]at this;cases this
 .rename_i s;cases hx;exact⟨⟨.int .u8,bK s⟩,by simp[gB,bx,bK,fy,po,Function.comp_def],h⟩
 grind
end
end Go.Sym
namespace Go.Sym
open Go Go.bM
def KR(ρ:bD)(k2 k:Nat×Nat×Nat):Prop:=(k2=k/\k.1=0)\/∃v u,k2=kH v/\k=kH u/\ρ v=some u
def aW(ρ:bD)(l2 l:List (Nat×Nat×Nat)):Prop:=∀k∈l,∃k2∈l2,KR ρ k2 k
structure oA(ρ:bD)(B B':Nat)(s2:S2)(s:St)(E:ID)(e:fT):Prop where
 val:RV ρ B' (gr s2.mem E.di) E.val e.val
 mem:MR ρ B' (gr s2.mem E.di) (bF s.mem e.di)aK:TR ρ B' (eu s2.aK E.cK) (eu s.aK e.cK)agd:fA B s2.mem (gr s2.mem E.di)rd:aW ρ E.rd e.rd
 wr:aW ρ E.wr e.wr
def dX{α:Type}(ρ:bD)(B B':Nat)(s2:S2)(s:St)(op:ct)(row dst p:Nat)(K:gY->Option α)(r:α):Prop:=∃E e,(∀call sh,op.run call sh s row dst p=some (.ck e))/\oA ρ B B' s2 s E e/\K (.ck E)=some r
section
variable{α:Type}{ρ:bD}{B B':Nat}{s2:S2}{s:St}{op:ct}{row dst p nx:Nat}{K:gY->Option α}{r:α}
theorem MR.mono{m2:List (Tr E2)}{m:List (Tr bH)}(h:MR ρ B m2 m)(hB:B<=B'):MR ρ B' m2 m:=⟨h.len,λlv sl e2 he=>by obtain⟨e,h1,h2⟩:=h.fZ lv sl e2 he;exact⟨e,h1,RE.mono hB (λ_ _=>rfl) (λ_ _=>RC.move (fA.refl _ _) hB λ_ _=>rfl) h2⟩⟩
theorem TR.up{t2 t:Tr Unit}(h:TR ρ B t2 t)(hB:B<=B'):TR ρ B' t2 t:=λv hv=>⟨by have:=(h v hv).1;omega,(h v hv).2⟩
theorem RV.up{m:List (Tr E2)}{v:V2}{a:AV}(h:RV ρ B m v a)(hB:B<=B'):RV ρ B' m v a:=h.move (fA.refl _ _) hB λ_ _=>rfl
theorem RC.up{m:List (Tr E2)}{v:Cell}{a:AV}(h:RC ρ B m v a)(hB:B<=B'):RC ρ B' m v a:=h.move (fA.refl _ _) hB λ_ _=>rfl
theorem aW.nil{l2:List (Nat×Nat×Nat)}:aW ρ l2 []:=λ_ h=>by cases h
theorem aW.append{a b c d:List (Nat×Nat×Nat)}(h:aW ρ a b)(k:aW ρ c d):aW ρ (a++c) (b++d):=by
 intro x hx;rcases bj.1 hx with hx|hx;.obtain⟨y,h1,h2⟩:=h x hx;exact⟨y,dp _ h1,h2⟩
 .obtain⟨y,h1,h2⟩:=k x hx;exact⟨y,dq _ h1,h2⟩
theorem aW.jT{a b:List (Nat×Nat×Nat)}(lv sl:Nat)(h:aW ρ a b):aW ρ (cB lv sl::a) (cB lv sl::b):=by
 intro x hx;rcases dk.1 hx with rfl|hx;.simp_all[aW,bD,KR,cB]
 .obtain⟨y,h1,h2⟩:=h x hx<;>grind
theorem aW.jg(ks:List (Nat×Nat)):aW ρ (jg ks) (jg ks):=by intro x hx;refine⟨x,hx,.inl ⟨rfl,?_⟩⟩;obtain⟨k,_,rfl⟩:=im.1 hx;rfl
theorem ue{m:List (Tr E2)}{c:Cell}{a:AV}(h:RC ρ B m c a):aW ρ (sH c) (dD a):=by cases c with
 |nil f=>cases f with|true=>cases h;exact aW.nil|false=>rcases h with rfl|⟨o,_,rfl⟩<;>exact aW.nil
 |sl t l o=>rcases(iW (m:=[]) h).2.1with rfl|⟨o',rfl⟩<;>exact aW.nil|ref lv sl au t=>obtain⟨_,u,n,_,rfl,_⟩:=h;exact aW.jT _ _ aW.nil|j0 lv sl au t off len=>obtain⟨_,u,_,rfl,_⟩:=h;exact aW.jT _ _ aW.nil|ptr lv sl au i off=>obtain⟨_,u,_,rfl⟩:=h;exact aW.jT _ _ aW.nil|fF lv sl au off n sz=>obtain⟨_,u,_,rfl⟩:=h;exact aW.jT _ _ aW.nil|mp lv sl au=>obtain⟨_,u,_,rfl⟩:=h;exact aW.jT _ _ aW.nil|_=>cases h;exact aW.nil
theorem wL{m:List (Tr E2)}:∀{cs:List Cell}{aO:List AV},aE (RC ρ B m) cs aO->aW ρ (cs.flatMap sH) (aO.flatMap dD)|[],[],_=>aW.nil|c::cs,a::aO,h=>by exact(ue h.1).append (wL h.2)|[],_::_,h=>h.elim|_::_,[],h=>h.elim
theorem IX{a:AV}(h:cellsOf a=some [a])(h0:jI a=true):eO a=dD a:=by cases a<;>first|rfl|cases h0
theorem Nw{m:List (Tr E2)}{v:V2}{a:AV}(h:RV ρ B m v a):aW ρ (Gx v) (eO a):=by cases v with|c c=>rw[IX (RC.cell h).1 (RC.cell h).2.1];exact ue h|agg cs=>obtain⟨aO,rfl,h2⟩:=h;exact wL h2|fk f cs=>obtain⟨aO,rfl,h2⟩:=h;exact aW.nil|jF vs=>obtain⟨aO,rfl,h2⟩:=h;exact aW.nil
theorem oA.xT(hs:MR ρ B s2.mem s.mem)(ht:TR ρ B s2.aK s.aK)(hB:B<=B'){v:V2}{a:AV}{R4 rd:List (Nat×Nat×Nat)}(hv:RV ρ B s2.mem v a)(hr:aW ρ R4 rd):oA ρ B B' s2 s {val:=v,di:=[],cK:=[],rd:=R4} {val:=a,di:=[],cK:=[],rd:=rd}:=⟨hv.up hB,hs.mono hB,ht.up hB,fA.refl _ _,hr,aW.nil⟩
variable(hm:MR ρ B s2.mem s.mem)(ht:TR ρ B s2.aK s.aK)(cj:va ρ B s2.mem s2.slots s.slots)(hB:B<=B')
include hm ht hB
theorem dX.pure{v:V2}{a:AV}(hrun:∀call sh,op.run call sh s row dst p=fT.pure a)(hv:RV ρ B s2.mem v a)(hK:K (kS v)=some r):dX ρ B B' s2 s op row dst p K r:=⟨_,_,hrun,.xT hm ht hB hv aW.nil,hK⟩
include cj
omit hm ht hB cj in theorem qX{m:List (Tr E2)}{b:Bool}{a:AV}(h:RV ρ B m (.c (.bool b)) a):jH a=some b:=by cases h;rfl
omit hm ht hB cj in theorem sN{m:List (Tr E2)}{k:IntKind}{n:Int}{a:AV}(h:RV ρ B m (.c (.int k n)) a):a=.d (.sc (.int k n)):=h
omit hm ht hB cj in theorem jr{m:List (Tr E2)}{k:IntKind}{n:Int}{a:AV}(h:RV ρ B m (.c (.int k n)) a)(h0:0<=n):gz a=some n.toNat:=by cases h;simp[gz,sk,h0]
theorem O1{c a b:cc}{E:ah}{wk:Wk}{ctx:Nat}(h:cY E wk ctx s2 row dst nx (.pick c a b) K=some r):dX ρ B B' s2 s (.pick c a b) row dst p K r:=by
 obtain⟨t,hc,h⟩:=qW h;have hb:=qX (bt cj hc);have hrun:∀call sh,ct.run call sh s row dst p (.pick c a b)=fT.pure (if t then a.ev s.slots else b.ev s.slots):=λ_ _=>by simp[ct.run,hb]
 split at h;.rename_i x y hx hy;refine .pure hm ht hB hrun (v:=.c (.bool (cond t x y))) ?_ h;cases t with|true=>exact bt cj hx|false=>exact bt cj hy
 .rename_i x y _ hx hy;cases t with|true=>exact .pure hm ht hB hrun (bt cj hx) h|false=>exact .pure hm ht hB hrun (bt cj hy) h
 .rename_i x hx _;obtain⟨rfl,h⟩:=cx h;exact .pure hm ht hB hrun (bt cj hx) h
 .rename_i y _ hy;obtain⟨ht',h⟩:=cx h;cases t with|true=>cases ht'|false=>exact .pure hm ht hB hrun (bt cj hy) h
 grind
omit hm ht hB cj in theorem xU{m:List (Tr E2)}{cs new:List Cell}{aO as':List AV}(h:aE (RC ρ B m) cs aO)(h':aE (RC ρ B m) new as')(off:Nat):aE (RC ρ B m) (bM.splice cs off new) (bM.splice aO off as'):=by unfold bM.splice;rw[h'.length];first|exact((h.take off).append h').append (h.drop _)|exact(h.take off).append (h'.append (h.drop _))
omit hm ht hB in theorem Ca:∀{ps:List (Nat×Nat×cc)}{cs cs':List Cell}{aO:List AV},EL s2 cs ps=some cs'->aE (RC ρ B s2.mem) cs aO->∃as',p5 s.slots aO ps=some as'/\aE (RC ρ B s2.mem) cs' as'
 |[],cs,cs',aO,h,ha=>by cases h;exact⟨aO,rfl,ha⟩|(off,sz,x)::ps,cs,cs',aO,h,ha=>by
  simp[EL]at h;split at h
  .rename_i new hn;obtain⟨v,hv,hc⟩:=aV hn;split at h;.rename_i hb;rw[am]at hb;have h1:=aw hb.1;have h2:=f1 hb.2;obtain⟨KF,g1,g2⟩:=wK hc (bt cj hv);obtain⟨as',g3,g4⟩:=Ca h (xU ha g2 off);refine⟨as',?_,g4⟩;simp only[p5,g1];rw[bb ⟨by rw[<-g2.length];exact h1,by rw[<-ha.length];exact h2⟩]<;>omega
   grind
  grind
theorem Lw{z:List AV}{ps:List (Nat×Nat×cc)}(h:(cu ((BN z).bind λcs=>EL s2 cs ps) λcs=>K (kS (.agg cs)))=some r):dX ρ B B' s2 s (.build z ps) row dst p K r:=by obtain⟨cs,hc,h⟩:=aB h;obtain⟨cs0,h0,h1⟩:=aV hc;obtain⟨as',g1,g2⟩:=Ca cj h1 (wJ h0);exact .pure hm ht hB (λ_ _=>by simp[ct.run,g1]) (v:=.agg cs) ⟨as',rfl,g2⟩ h
theorem DX{x:cc}{E:ah}{wk:Wk}{ctx:Nat}(h:cY E wk ctx s2 row dst nx (.nilCheck x) K=some r):dX ρ B B' s2 s (.nilCheck x) row dst p K r:=by
 obtain⟨v,hv,h⟩:=aB h;have hr:=bt cj hv;split at h;.have hr':=hr;obtain⟨_,u,_,he⟩:=hr;exact .pure hm ht hB (λ_ _=>by simp only[ct.run,he]) hr' h
 .have hr':=hr;have he:x.ev s.slots=_:=hr;exact .pure hm ht hB (λ_ _=>by simp only[ct.run,he]) hr' h
 .have hr':=hr;obtain⟨aO,he,_⟩:=hr;exact .pure hm ht hB (λ_ _=>by simp[ct.run,he]) hr' h
 grind
omit hm ht hB cj in theorem XR{k k':IntKind}{a b:Int}{R5:BinOp}{K:Cell->Option α}(h:abI R5 k a k' b K=some r):∃v c,FR R5 k a k' b=some v/\K c=some r/\∀(m:List (Tr E2)),RC ρ B m c (.d (.sc v)):=by
 unfold abI at h;split at h;.obtain⟨h1,h⟩:=cx h;refine⟨_,_,?_,h,λ_=>rfl⟩<;>simp_all[aF,bD,RC,FR]
 .obtain⟨h1,h⟩:=cx h;refine⟨_,_,?_,h,λ_=>rfl⟩<;>simp_all[aF,bD,RC,FR]
 .split at h;.cases h
  .subst_vars;split at h;case h_4|h_5=>
    obtain⟨h1,h⟩:=cx h;refine⟨_,_,?_,h,λ_=>rfl⟩;have:¬b=0:=by simpa using h1
    simp[FR,this]
   all_goals first|(refine⟨_,_,?_,h,λ_=>rfl⟩;simp[FR,Eb];done)|cases h
omit hm ht hB cj in theorem aff(s:List UInt8):(⟨s.toArray⟩:ByteArray).toList=s:=by simp_all
end
end Go.Sym
