/- A part of the proof: SymC, SymD. -/
import Derived.Test.YtgkllgjmfpjeoaaGreatDoorSymB
import Derived.Laws.Strings
set_option linter.unusedVariables false
set_option linter.unusedSimpArgs false
namespace Go.Sym
open Go Go.bJ
section
variable{ρ:bt}{B:Nat}{m2:List (Tr E2)}{m:List (Tr bB)}
theorem aA{α β:Type}{o:Option β}{k:β->Option α}{r:α}(h:bZ o k=some r):∃x,o=some x/\k x=some r:=by cases o with|none=>cases h|some x=>exact⟨x,rfl,h⟩
theorem cg{α:Type}{b:Bool}{k:Option α}{r:α}(h:aF b k=some r):b=true/\k=some r:=by grind[aF]
theorem bind_some{α β:Type}{o:Option β}{k:β->Option α}{r:α}(h:Option.bind o k=some r):∃x,o=some x/\k x=some r:=by cases o with|none=>cases h|some x=>grind
theorem cu{α:Type}{v:Option V2}{k:Cell->Option α}{r:α}(h:iJ v k=some r):∃x,v=some (.c x)/\k x=some r:=by unfold iJ at h<;>grind
theorem tg{α:Type}{v:Option V2}{k:Int->Option α}{r:α}(h:N4 v k=some r):∃kd n,v=some (.c (.int kd n))/\k n=some r:=by unfold N4 at h<;>grind
theorem kY{α:Type}{v:Option V2}{k:Nat->Option α}{r:α}(h:Fz v k=some r):∃kd n,v=some (.c (.int kd n))/\0<=n/\k n.toNat=some r:=by obtain⟨kd,n,h1,h2⟩:=tg h;grind[aF,Fz]
theorem qi{α:Type}{v:Option V2}{k:Bool->Option α}{r:α}(h:vC v k=some r):∃b,v=some (.c (.bool b))/\k b=some r:=by unfold vC at h<;>grind
theorem MB(v:Value):RC ρ B m2 (Z2 v) (.d (.sc v)):=by cases v<;>first|rfl|exact rfl
theorem MC{x:AV}{c:Cell}(h:VA x=some c):RC ρ B m2 c x:=by
 unfold VA at h;split at h;.cases h;exact MB _
 .cases h;rfl
 grind
theorem vG:∀{l:List AV}{cs:List Cell},AK l=some cs->aC (RC ρ B m2) cs l
 |[],cs,h=>by cases h;trivial|x::r,cs,h=>by
  simp[AK]at h;split at h;.rename_i y ys h1 h2;cases h;exact⟨MC h1,vG h2⟩
  grind
theorem VN{x:AV}{v:V2}(h:Z3 x=some v):RV ρ B m2 v x:=by
 unfold Z3 at h;split at h;.obtain⟨cs,h1,rfl⟩:=aN h;exact⟨_,rfl,vG h1⟩
 .cases h;exact⟨[],rfl,trivial⟩
 .cases h;exact⟨[],rfl,trivial⟩
 .obtain⟨c,h1,rfl⟩:=aN h;exact MC h1
theorem VO{x:D}{c:Cell}(h:VB x=some c):RC ρ B m2 c (.d x):=by
 unfold VB at h;split at h;.cases h;exact MB _
 .cases h;exact .inl rfl
 grind
theorem HR:∀{l:List D}{cs:List Cell},rL l=some cs->aC (RC ρ B m2) cs (l.map .d)
 |[],cs,h=>by cases h;trivial|x::r,cs,h=>by
  simp[rL]at h;split at h;.rename_i y ys h1 h2;cases h;exact⟨VO h1,HR h2⟩
  grind
theorem pI:∀{l:List D}{cs:List Cell},rL l=some cs->cc cs=some l
 |[],cs,h=>by cases h;rfl|x::r,cs,h=>by
  simp[rL]at h;split at h
  .rename_i y ys h1 h2;cases h;have:nF y=some x:=by
    unfold VB at h1;split at h1;.rename_i v;cases h1;cases v<;>rfl
    .cases h1;rfl
    grind
   simp[cc,this,pI h2]
  grind
theorem aW{s2:S2}{sl:Tr AV}(hs:ur ρ B m2 s2.slots sl){x:bT}{v:V2}(h:iZ s2 x=some v):RV ρ B m2 v (x.ev sl):=by cases x with|t n=>exact hs n v h|c a=>exact VN h
theorem od{s2:S2}{sl:Tr AV}(hs:ur ρ B m2 s2.slots sl):∀{l:List bT}{vs:List V2},Fy s2 l=some vs->aC (RV ρ B m2) vs (GR sl l)
 |[],vs,h=>by cases h;trivial|x::r,vs,h=>by
  simp[Fy]at h;split at h;.rename_i y ys h1 h2;cases h;exact⟨aW hs h1,od hs h2⟩
  grind
theorem RC.cell{c:Cell}{a:AV}(h:RC ρ B m2 c a):cellsOf a=some [a]/\lI a=true/\fM a=true:=by cases c with
 |nil f=>cases f with|true=>cases h;exact⟨rfl,rfl,rfl⟩|false=>rcases h with rfl|⟨o,_,rfl⟩<;>exact⟨rfl,rfl,rfl⟩
 |sl t l o=>cases o with|app v=>rcases h with⟨_,⟨_,rfl⟩|⟨u,_,rfl⟩⟩<;>exact⟨rfl,rfl,rfl⟩|d=>rcases h with rfl|⟨o,_,rfl⟩<;>exact⟨rfl,rfl,rfl⟩|full=>cases h;exact⟨rfl,rfl,rfl⟩|bC=>rcases h with rfl|⟨o,rfl⟩<;>exact⟨rfl,rfl,rfl⟩
 |ref lv sl ah t=>obtain⟨_,u,n,_,rfl,_⟩:=h;exact⟨rfl,rfl,rfl⟩|jx lv sl ah t off len=>obtain⟨_,u,_,rfl,_⟩:=h;exact⟨rfl,rfl,rfl⟩|ptr lv sl ah i off=>obtain⟨_,u,_,rfl⟩:=h;exact⟨rfl,rfl,rfl⟩|fe lv sl ah off n sz=>obtain⟨_,u,_,rfl⟩:=h;exact⟨rfl,rfl,rfl⟩|mp lv sl ah=>obtain⟨_,u,_,rfl⟩:=h;exact⟨rfl,rfl,rfl⟩|_=>cases h;exact⟨rfl,rfl,rfl⟩
theorem vH{v:V2}{a:AV}{cs:List Cell}(h:V2.cells? v=some cs)(hv:RV ρ B m2 v a):∃aL,cellsOf a=some aL/\aC (RC ρ B m2) cs aL:=by cases v with|c x=>cases h;exact⟨[a],(RC.cell hv).1,hv,trivial⟩|agg l=>cases h;obtain⟨aL,rfl,h2⟩:=hv;exact⟨aL,rfl,h2⟩|_=>cases h
theorem A5{agg:Bool}{cs:List Cell}{aL:List AV}{v:V2}(h:AN agg cs=some v)(hc:aC (RC ρ B m2) cs aL):∃a,gD agg aL=some a/\RV ρ B m2 v a:=by cases agg with|true=>cases h;exact⟨_,rfl,aL,rfl,hc⟩|false=>
 simp[AN]at h;split at h;.cases h;match aL,hc with|[a],hc=>exact⟨a,rfl,hc.1⟩
 grind
theorem jU(m:List (Tr E2))(lv sl cL dU:Nat)(e:Option E2):ji (AM m lv sl e) cL dU=if lv=cL/\sl=dU/\lv<m.length then e else ji m cL dU:=by
 unfold ji AM;rw[List.getElem?_modify];by_cases h:lv=cL;.subst h;cases hm:m[lv]?with|none=>grind|some t=>
  have:lv<m.length:=by grind
  simp[Tr.cz,this]
 grind
theorem rQ(m:List (Tr E2))(lv sl:Nat)(e:Option E2):(AM m lv sl e).length=m.length:=by simp[AM]
theorem lN(m:List (Tr bB))(lv sl:Nat)(e:Option bB):(ct m lv sl e).length=m.length:=by simp[ct]
theorem yF:∀(l:List (Nat×Nat×Option E2))(m:List (Tr E2)),(fU m l).length=m.length|[],_=>rfl|(lv,sl,e)::r,m=>by rw[fU,yF r,rQ]
theorem cX:∀(l:List (Nat×Nat×Option bB))(m:List (Tr bB)),(bw m l).length=m.length|[],_=>rfl|(lv,sl,e)::r,m=>by rw[bw,cX r,lN]
def OE(ρ:bt)(B:Nat)(m:List (Tr E2))(x:Option E2)(y:Option bB):Prop:=∀e2,x=some e2->∃e,y=some e/\RE ρ B m e2 e
def N9(ρ:bt)(B:Nat)(m:List (Tr E2))(x:Nat×Nat×Option E2)(y:Nat×Nat×Option bB):Prop:=x.1=y.1/\x.2.1=y.2.1/\OE ρ B m x.2.2 y.2.2
theorem MD{B':Nat}{mf:List (Tr E2)}:∀{FG:List (Nat×Nat×Option E2)}{us:List (Nat×Nat×Option bB)}{m2:List (Tr E2)}{m:List (Tr bB)},aC (N9 ρ B' mf) FG us->m2.length=m.length->(∀lv sl,OE ρ B' mf (ji m2 lv sl) (aK m lv sl))->∀lv sl,OE ρ B' mf (ji (fU m2 FG) lv sl) (aK (bw m us) lv sl)|[],[],_,_,_,_,h=>h|(lv2,sl2,e2)::r2,(lv,sl,e)::r,m2,m,hu,hl,h=>by obtain⟨⟨h1,h2,h3⟩,hr⟩:=hu;subst h1 h2;refine MD (m2:=AM m2 lv2 sl2 e2) (m:=ct m lv2 sl2 e) hr (by rw[rQ,lN,hl]) λcL dU=>?_;rw[jU,cx,hl]<;>grind|[],_::_,_,_,hu,_,_=>hu.elim|_::_,[],_,_,hu,_,_=>hu.elim
theorem MR.cV{B':Nat}{FG:List (Nat×Nat×Option E2)}{us:List (Nat×Nat×Option bB)}(h:MR ρ B m2 m)(hB:B<=B')(hst:eZ B m2 (fU m2 FG))(hu:aC (N9 ρ B' (fU m2 FG)) FG us):MR ρ B' (fU m2 FG) (bw m us):=by refine⟨by rw[yF,cX,h.len],λlv sl e2 he=>MD hu h.len (λlv sl e2 he=>?_) lv sl e2 he⟩;obtain⟨e,h1,h2⟩:=h.fN lv sl e2 he;exact⟨e,h1,RE.mono hB (λ_ _=>rfl) (λ_ _=>RC.move hst hB λ_ _=>rfl) h2⟩
theorem cA{lv sl ah:Nat}{r:SL}(h:rowOf m2 lv sl ah=some r):ji m2 lv sl=some (.row ah r.t r.l):=by
 unfold rowOf at h;split at h
 .split at h;.cases h<;>simp_all
  grind
 grind
theorem gv{lv sl ah:Nat}{r:SL}:rowOf m2 lv sl ah=some r↔ji m2 lv sl=some (.row ah r.t r.l):=by refine⟨cA,λh=>?_⟩<;>simp_all[ji,rowOf]
theorem rR(n:Nat):Nat.beq n n=true:=by simp
theorem iK(hm:MR ρ B m2 m){lv sl ah u:Nat}{r:SL}(h:rowOf m2 lv sl ah=some r)(hu:ρ ah=some u):aK m lv sl=some (.row u (bf r.t r.l))/\bJ.rowAt m lv sl u=some (bf r.t r.l):=by obtain⟨e,h1,_,u',h2,rfl⟩:=hm.fN _ _ _ (cA h);unfold bJ.rowAt<;>simp_all
theorem HS(hm:MR ρ B m2 m){lv sl ah u:Nat}{r:SL}(h:rowOf m2 lv sl ah=some r)(hu:ρ ah=some u):bJ.qJ m lv sl u=some (bf r.t r.l):=by have h1:=(iK hm h hu).1<;>simp_all[rowOf,bt,bf,qJ]
theorem aY(t:Ty)(l:List t.den):(bf t l).length=l.length:=by simp[bf]
theorem gw(t:Ty)(l:List t.den):(bf t l).all (λe=>e.length==t.size)=true:=by simp[bf,List.all_eq_true,eu]
theorem A6(t:Ty)(l:List t.den)(i:Nat):(bf t l)[i]?=(l[i]?).map (eY t):=by simp[bf]
theorem l6(t:Ty)(l l':List t.den):bf t (l++l')=bf t l++bf t l':=by simp[bf]
theorem lQ(hm:MR ρ B m2 m){lv sl ah:Nat}{t:Ty}{r:SL}{a:AV}(h:RC ρ B m2 (.ref lv sl ah t) a)(hr:rowOf m2 lv sl ah=some r):dc m a=some (bf r.t r.l):=by obtain⟨_,u,n,hu,rfl,hn⟩:=h;have:=HS hm hr hu;simp[dc,this,Option.bind_some];rw[hn r hr];simp[aY,List.take_of_length_le]
theorem jy(hm:MR ρ B m2 m){lv sl ah off len:Nat}{t:Ty}{r:SL}{a:AV}(h:RC ρ B m2 (.jx lv sl ah t off len) a)(hr:rowOf m2 lv sl ah=some r)(hl:off+len<=r.l.length):dc m a=some (bf r.t ((r.l.drop off).take len)):=by obtain⟨_,u,hu,rfl,_⟩:=h;have:=HS hm hr hu<;>simp_all[rowOf,bt,Ty.den,bf,Ty.size,dc]
theorem iA{t:Ty}{l:List t.den}{o:Ow}{a:AV}(h:RC ρ B m2 (.sl t l o) a):dc m a=some (bf t l)/\(a=.d (.sl (bf t l))\/∃o',a=.own (bf t l) o')/\(o≠.bC->a=.d (.sl (bf t l))\/∃o',o'≠.bC/\a=.own (bf t l) o'):=by cases o with|app v=>rcases h with⟨_,⟨_,rfl⟩|⟨u,_,rfl⟩⟩<;>exact⟨rfl,.inr ⟨_,rfl⟩,λ_=>.inr ⟨_,by simp,rfl⟩⟩|d=>rcases h with rfl|⟨o,ho,rfl⟩<;>simp_all[RC,Ty.den,bt,bf,dc]|full=>simp_all[RC,Ty.den,bt,bf,dc]|bC=>rcases h with rfl|⟨o,rfl⟩<;>simp_all[RC,Ty.den,bt,bf,dc]
theorem gH{f:Bool}{a:AV}(h:RC ρ B m2 (.nil f) a):dc m a=some []/\(a=.d (.sl [])\/∃o',o'≠.bC/\a=.own [] o'):=by cases f with|true=>simp_all[RC,bt,dc]|false=>rcases h with rfl|⟨o,ho,rfl⟩<;>simp_all[RC,bt,dc]
theorem ME{els:List (List D)}{o:UW}(h:o≠.bC):zn m (.own els o)=some (.sl els,[]):=by cases o with|bC=>grind|_=>rfl
theorem VP(hm:MR ρ B m2 m){c c':Cell}{a:AV}{ks:List (Nat×Nat)}(h:Kk m2 c=some (c',ks))(hc:RC ρ B m2 c a):∃d,zn m a=some (d,ks)/\nF c'=some d:=by
 unfold Kk at h;split at h;.cases h<;>simp_all[RC,bt,nF,zn]
 .cases h<;>simp_all[RC,bt,nF,zn]
 .cases h<;>simp_all[RC,bt,nF,zn]
 .cases h<;>simp_all[RC,bt,nF,zn]
 .cases h;rcases(gH (m:=m) hc).2with rfl|⟨o,ho,rfl⟩;.exact⟨_,rfl,rfl⟩
  .exact⟨_,ME ho,rfl⟩
 .cases h
 .rename_i t l o hne;cases h;rcases(iA (m:=m) hc).2.2 (λe=>hne e)with rfl|⟨o',ho,rfl⟩;.exact⟨_,rfl,rfl⟩
  .exact⟨_,ME ho,rfl⟩
 .split at h;.rename_i r hr;cases h;have he:=lQ hm hc hr;obtain⟨_,u,n,hu,rfl,hn⟩:=hc;refine⟨.sl (bf r.t r.l),?_,rfl⟩;simp[zn,he,Option.map_some]
  grind
 .rename_i lv sl ah t off len;split at h;.rename_i r hr;cases h;have he:=jy hm hc hr (hc.2.choose_spec.2.2 r hr);obtain⟨_,u,hu,rfl,hn⟩:=hc;refine⟨.sl (bf r.t ((r.l.drop off).take len)),?_,rfl⟩;simp[zn,he,Option.map_some]
  grind
 grind
theorem Kr(hm:MR ρ B m2 m):∀{cs cs':List Cell}{aL:List AV}{ks:List (Nat×Nat)},lU m2 cs=some (cs',ks)->aC (RC ρ B m2) cs aL->∃ds,CI m aL=some (ds,ks)/\cc cs'=some ds
 |[],cs',aL,ks,h,ha=>by match aL,ha with|[],_=>cases h;exact⟨[],rfl,rfl⟩
 |c::r,cs',aL,ks,h,ha=>by match aL,ha with
  |a::aL,⟨ha,hr⟩=>
   simp[lU]at h;split at h;.rename_i y k ys k' h1 h2;cases h;obtain⟨d,g1,g2⟩:=VP hm h1 ha;obtain⟨ds,g3,g4⟩:=Kr hm h2 hr;exact⟨d::ds,by simp only[CI,g1,g3],by simp only[cc,g2,g4]⟩
   grind
theorem kg{α:Type}(hm:MR ρ B m2 m){x:Cell}{a:AV}{e:Option Ty}{K:SL->Option α}{r:α}(h:n8 m2 x e K=some r)(hx:RC ρ B m2 x a):∃n,gi m a=some (bf n.t n.l)/\K n=some r:=by
 have key:∀{a:AV}{els:List (List D)},dc m a=some els->(∀b,a≠.d (.sc (.string b)))->gi m a=some els:=by simp_all[RC,n8,bt,gi,dc]
 unfold n8 at h;split at h;.rename_i t l o;refine⟨⟨t,l⟩,key (iA hx).1 λb hb=>?_,h⟩;have:=(iA (m:=m) hx).1;rw[hb]at this;cases this
 .obtain⟨t,rfl,h⟩:=aA h;refine⟨⟨t,[]⟩,key (gH hx).1 λb hb=>?_,h⟩;have:=(gH (m:=m) hx).1;rw[hb]at this;cases this
 .obtain⟨r',hr,h⟩:=aA h;refine⟨r',key (lQ hm hx hr) λb hb=>?_,h⟩;simp_all[rowOf,bZ,RC,gi,dc,bt]
 .rename_i lv sl ah t off len;obtain⟨r',hr,h⟩:=aA h;obtain⟨hl,h⟩:=cg h;have hl:=of_decide_eq_true hl;refine⟨⟨r'.t,(r'.l.drop off).take len⟩,key (jy hm hx hr hl) λb hb=>?_,h⟩;have:=jy hm hx hr hl;rw[hb]at this;cases this
 .rename_i s;cases hx;exact⟨⟨.int .u8,bU s⟩,by simp[gi,bf,bU,eY,List.map_map,Function.comp_def],h⟩
 grind
end
end Go.Sym
namespace Go.Sym
open Go Go.bJ
def KR(ρ:bt)(k2 k:Nat×Nat×Nat):Prop:=(k2=k/\k.1=0)\/∃v u,k2=jW v/\k=jW u/\ρ v=some u
def aS(ρ:bt)(l2 l:List (Nat×Nat×Nat)):Prop:=∀k∈l,∃k2∈l2,KR ρ k2 k
structure nG(ρ:bt)(B B':Nat)(s2:S2)(s:St)(E:HE)(e:fH):Prop where
 val:RV ρ B' (fU s2.mem E.cV) E.val e.val
 mem:MR ρ B' (fU s2.mem E.cV) (bw s.mem e.cV)aI:TR ρ B' (dS s2.aI E.cD) (dS s.aI e.cD)adS:eZ B s2.mem (fU s2.mem E.cV)rd:aS ρ E.rd e.rd
 wr:aS ρ E.wr e.wr
def dI{α:Type}(ρ:bt)(B B':Nat)(s2:S2)(s:St)(op:cj)(row dst p:Nat)(K:gF->Option α)(r:α):Prop:=∃E e,(∀call sh,op.run call sh s row dst p=some (.bW e))/\nG ρ B B' s2 s E e/\K (.bW E)=some r
section
variable{α:Type}{ρ:bt}{B B':Nat}{s2:S2}{s:St}{op:cj}{row dst p nx:Nat}{K:gF->Option α}{r:α}
theorem MR.mono{m2:List (Tr E2)}{m:List (Tr bB)}(h:MR ρ B m2 m)(hB:B<=B'):MR ρ B' m2 m:=⟨h.len,λlv sl e2 he=>by obtain⟨e,h1,h2⟩:=h.fN lv sl e2 he;exact⟨e,h1,RE.mono hB (λ_ _=>rfl) (λ_ _=>RC.move (eZ.refl _ _) hB λ_ _=>rfl) h2⟩⟩
theorem TR.up{t2 t:Tr Unit}(h:TR ρ B t2 t)(hB:B<=B'):TR ρ B' t2 t:=λv hv=>⟨by have:=(h v hv).1;omega,(h v hv).2⟩
theorem RV.up{m:List (Tr E2)}{v:V2}{a:AV}(h:RV ρ B m v a)(hB:B<=B'):RV ρ B' m v a:=h.move (eZ.refl _ _) hB λ_ _=>rfl
theorem RC.up{m:List (Tr E2)}{v:Cell}{a:AV}(h:RC ρ B m v a)(hB:B<=B'):RC ρ B' m v a:=h.move (eZ.refl _ _) hB λ_ _=>rfl
theorem aS.nil{l2:List (Nat×Nat×Nat)}:aS ρ l2 []:=λ_ h=>by cases h
theorem aS.append{a b c d:List (Nat×Nat×Nat)}(h:aS ρ a b)(k:aS ρ c d):aS ρ (a++c) (b++d):=by
 intro x hx;rcases List.mem_append.1 hx with hx|hx;.obtain⟨y,h1,h2⟩:=h x hx;exact⟨y,List.mem_append_left _ h1,h2⟩
 .obtain⟨y,h1,h2⟩:=k x hx;exact⟨y,List.mem_append_right _ h1,h2⟩
theorem aS.js{a b:List (Nat×Nat×Nat)}(lv sl:Nat)(h:aS ρ a b):aS ρ (cq lv sl::a) (cq lv sl::b):=by
 intro x hx;rcases List.mem_cons.1 hx with rfl|hx;.simp_all[aS,bt,KR,cq]
 .obtain⟨y,h1,h2⟩:=h x hx<;>grind
theorem aS.iE(ks:List (Nat×Nat)):aS ρ (iE ks) (iE ks):=by intro x hx;refine⟨x,hx,.inl ⟨rfl,?_⟩⟩;obtain⟨k,_,rfl⟩:=List.mem_map.1 hx;rfl
theorem th{m:List (Tr E2)}{c:Cell}{a:AV}(h:RC ρ B m c a):aS ρ (rM c) (cZ a):=by cases c with
 |nil f=>cases f with|true=>cases h;exact aS.nil|false=>rcases h with rfl|⟨o,_,rfl⟩<;>exact aS.nil
 |sl t l o=>rcases(iA (m:=[]) h).2.1with rfl|⟨o',rfl⟩<;>exact aS.nil|ref lv sl ah t=>obtain⟨_,u,n,_,rfl,_⟩:=h;exact aS.js _ _ aS.nil|jx lv sl ah t off len=>obtain⟨_,u,_,rfl,_⟩:=h;exact aS.js _ _ aS.nil|ptr lv sl ah i off=>obtain⟨_,u,_,rfl⟩:=h;exact aS.js _ _ aS.nil|fe lv sl ah off n sz=>obtain⟨_,u,_,rfl⟩:=h;exact aS.js _ _ aS.nil|mp lv sl ah=>obtain⟨_,u,_,rfl⟩:=h;exact aS.js _ _ aS.nil|_=>cases h;exact aS.nil
theorem vI{m:List (Tr E2)}:∀{cs:List Cell}{aL:List AV},aC (RC ρ B m) cs aL->aS ρ (cs.flatMap rM) (aL.flatMap cZ)|[],[],_=>aS.nil|c::cs,a::aL,h=>by exact(th h.1).append (vI h.2)|[],_::_,h=>h.elim|_::_,[],h=>h.elim
theorem HT{a:AV}(h:cellsOf a=some [a])(h0:lI a=true):ec a=cZ a:=by cases a<;>first|rfl|cases h0
theorem MF{m:List (Tr E2)}{v:V2}{a:AV}(h:RV ρ B m v a):aS ρ (Fw v) (ec a):=by cases v with|c c=>rw[HT (RC.cell h).1 (RC.cell h).2.1];exact th h|agg cs=>obtain⟨aL,rfl,h2⟩:=h;exact vI h2|gp f cs=>obtain⟨aL,rfl,h2⟩:=h;exact aS.nil|iY vs=>obtain⟨aL,rfl,h2⟩:=h;exact aS.nil
theorem nG.xe(hs:MR ρ B s2.mem s.mem)(ht:TR ρ B s2.aI s.aI)(hB:B<=B'){v:V2}{a:AV}{Q7 rd:List (Nat×Nat×Nat)}(hv:RV ρ B s2.mem v a)(hr:aS ρ Q7 rd):nG ρ B B' s2 s {val:=v,cV:=[],cD:=[],rd:=Q7} {val:=a,cV:=[],cD:=[],rd:=rd}:=⟨hv.up hB,hs.mono hB,ht.up hB,eZ.refl _ _,hr,aS.nil⟩
variable(hm:MR ρ B s2.mem s.mem)(ht:TR ρ B s2.aI s.aI)(bX:ur ρ B s2.mem s2.slots s.slots)(hB:B<=B')
include hm ht hB
theorem dI.pure{v:V2}{a:AV}(hrun:∀call sh,op.run call sh s row dst p=fH.pure a)(hv:RV ρ B s2.mem v a)(hK:K (ke v)=some r):dI ρ B B' s2 s op row dst p K r:=⟨_,_,hrun,.xe hm ht hB hv aS.nil,hK⟩
include bX
omit hm ht hB bX in theorem qj{m:List (Tr E2)}{b:Bool}{a:AV}(h:RV ρ B m (.c (.bool b)) a):ja a=some b:=by cases h;rfl
omit hm ht hB bX in theorem rS{m:List (Tr E2)}{k:IntKind}{n:Int}{a:AV}(h:RV ρ B m (.c (.int k n)) a):a=.d (.sc (.int k n)):=h
omit hm ht hB bX in theorem iL{m:List (Tr E2)}{k:IntKind}{n:Int}{a:AV}(h:RV ρ B m (.c (.int k n)) a)(h0:0<=n):gh a=some n.toNat:=by cases h;simp[gh,ri,h0]
theorem Oa{c a b:bT}{E:ak}{wk:Wk}{ctx:Nat}(h:cQ E wk ctx s2 row dst nx (.pick c a b) K=some r):dI ρ B B' s2 s (.pick c a b) row dst p K r:=by
 obtain⟨t,hc,h⟩:=qi h;have hb:=qj (aW bX hc);have hrun:∀call sh,cj.run call sh s row dst p (.pick c a b)=fH.pure (if t then a.ev s.slots else b.ev s.slots):=λ_ _=>by simp[cj.run,hb]
 split at h;.rename_i x y hx hy;refine .pure hm ht hB hrun (v:=.c (.bool (cond t x y))) ?_ h;cases t with|true=>exact aW bX hx|false=>exact aW bX hy
 .rename_i x y _ hx hy;cases t with|true=>exact .pure hm ht hB hrun (aW bX hx) h|false=>exact .pure hm ht hB hrun (aW bX hy) h
 .rename_i x hx _;obtain⟨rfl,h⟩:=cg h;exact .pure hm ht hB hrun (aW bX hx) h
 .rename_i y _ hy;obtain⟨ht',h⟩:=cg h;cases t with|true=>cases ht'|false=>exact .pure hm ht hB hrun (aW bX hy) h
 grind
omit hm ht hB bX in theorem xg{m:List (Tr E2)}{cs new:List Cell}{aL as':List AV}(h:aC (RC ρ B m) cs aL)(h':aC (RC ρ B m) new as')(off:Nat):aC (RC ρ B m) (bJ.splice cs off new) (bJ.splice aL off as'):=by unfold bJ.splice;rw[h'.length];first|exact((h.take off).append h').append (h.drop _)|exact(h.take off).append (h'.append (h.drop _))
omit hm ht hB in theorem A7:∀{ps:List (Nat×Nat×bT)}{cs cs':List Cell}{aL:List AV},DF s2 cs ps=some cs'->aC (RC ρ B s2.mem) cs aL->∃as',oX s.slots aL ps=some as'/\aC (RC ρ B s2.mem) cs' as'
 |[],cs,cs',aL,h,ha=>by cases h;exact⟨aL,rfl,ha⟩|(off,sz,x)::ps,cs,cs',aL,h,ha=>by
  simp[DF]at h;split at h
  .rename_i new hn;obtain⟨v,hv,hc⟩:=aR hn;split at h;.rename_i hb;rw[Bool.and_eq_true]at hb;have h1:=Nat.eq_of_beq_eq_true hb.1;have h2:=Nat.le_of_ble_eq_true hb.2;obtain⟨JO,g1,g2⟩:=vH hc (aW bX hv);obtain⟨as',g3,g4⟩:=A7 h (xg ha g2 off);refine⟨as',?_,g4⟩;simp only[oX,g1];rw[if_pos ⟨by rw[<-g2.length];exact h1,by rw[<-ha.length];exact h2⟩]<;>omega
   grind
  grind
theorem Ks{z:List AV}{ps:List (Nat×Nat×bT)}(h:(bZ ((AK z).bind λcs=>DF s2 cs ps) λcs=>K (ke (.agg cs)))=some r):dI ρ B B' s2 s (.build z ps) row dst p K r:=by obtain⟨cs,hc,h⟩:=aA h;obtain⟨cs0,h0,h1⟩:=aR hc;obtain⟨as',g1,g2⟩:=A7 bX h1 (vG h0);exact .pure hm ht hB (λ_ _=>by simp[cj.run,g1]) (v:=.agg cs) ⟨as',rfl,g2⟩ h
theorem CQ{x:bT}{E:ak}{wk:Wk}{ctx:Nat}(h:cQ E wk ctx s2 row dst nx (.nilCheck x) K=some r):dI ρ B B' s2 s (.nilCheck x) row dst p K r:=by
 obtain⟨v,hv,h⟩:=aA h;have hr:=aW bX hv;split at h;.have hr':=hr;obtain⟨_,u,_,he⟩:=hr;exact .pure hm ht hB (λ_ _=>by simp only[cj.run,he]) hr' h
 .have hr':=hr;have he:x.ev s.slots=_:=hr;exact .pure hm ht hB (λ_ _=>by simp only[cj.run,he]) hr' h
 .have hr':=hr;obtain⟨aL,he,_⟩:=hr;exact .pure hm ht hB (λ_ _=>by simp[cj.run,he]) hr' h
 grind
omit hm ht hB bX in theorem VQ{k k':IntKind}{a b:Int}{Q8:BinOp}{K:Cell->Option α}(h:Z4 Q8 k a k' b K=some r):∃v c,EY Q8 k a k' b=some v/\K c=some r/\∀(m:List (Tr E2)),RC ρ B m c (.d (.sc v)):=by
 unfold Z4 at h;split at h;.obtain⟨h1,h⟩:=cg h;refine⟨_,_,?_,h,λ_=>rfl⟩<;>simp_all[aF,bt,RC,EY]
 .obtain⟨h1,h⟩:=cg h;refine⟨_,_,?_,h,λ_=>rfl⟩<;>simp_all[aF,bt,RC,EY]
 .split at h;.cases h
  .subst_vars;split at h;case h_4|h_5=>
    obtain⟨h1,h⟩:=cg h;refine⟨_,_,?_,h,λ_=>rfl⟩;have:¬b=0:=by simpa using h1
    simp[EY,this]
   all_goals first|(refine⟨_,_,?_,h,λ_=>rfl⟩;simp[EY,C8];done)|cases h
omit hm ht hB bX in theorem acW(s:List UInt8):(⟨s.toArray⟩:ByteArray).toList=s:=by simp_all
end
end Go.Sym
