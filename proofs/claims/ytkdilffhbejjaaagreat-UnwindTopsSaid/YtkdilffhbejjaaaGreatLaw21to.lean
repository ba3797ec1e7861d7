/- Frames: where slots lie, and sizes. -/
import Derived.Test.YtkdilffhbejjaaaGreatLaw21tl7c
set_option linter.unusedVariables false
set_option linter.unusedSimpArgs false
namespace Go.Proofs.YtkdilffhbejjaaaGreat
open Go Go.bM Go.Sym
open Classical
noncomputable def lay(ts:List aA)(sl:List Field):List Int×Int×Int:=fQ 1048576 (exs ts) 0 1 sl
noncomputable def uJ(ts:List aA)(sl:List Field):Int:=up 8 (up (lay ts sl).2.2 (lay ts sl).2.1)
theorem N2{x y:List Ex}:∀(fs:List Field)(s a:Int),(∀f,f∈fs->fC x f.2=fC y f.2/\AL (fC x f.2).2/\0<=(fC x f.2).1/\(fC x f.2).1<=256)->0<=s->s+fs.length*263<=10000->fQ 1048576 x s a fs=fQ 1000000 y s a fs/\(fQ 1048576 x s a fs).2.1<=s+fs.length*263|[],s,a,_,_,_=>⟨rfl,by simp[fQ]⟩|f::r,s,a,h,h0,hs=>by obtain⟨e1,e2,e3,e4⟩:=h f (cb ..);have hu:=oK e2 h0;simp at hs;obtain⟨g1,g2⟩:=N2 r (up (fC x f.2).2 s+(fC x f.2).1) (max a (fC x f.2).2) (λg hg=>h g (dl _ hg)) (by omega) (by omega);simp only[fQ]<;>grind
section
variable{N:Nat}{ts:List aA}{xs:List (List UInt8)}{fs:List Func}
theorem Mv(hT:j9 ts)(hS:rE ts){i:Int}(hi:0<=i/\i<ts.length):fC (exs ts) i=fC (cE 1000000 ts ts.length) i/\AL (fC (exs ts) i).2/\0<=(fC (exs ts) i).1/\(fC (exs ts) i).1<=256:=by
 obtain⟨n,rfl⟩:=du hi.1;have h:=hS n (by omega);have hr:=tN hT.2.1 ts.length (bc _) (n:Int);obtain⟨e1,e2,e3⟩:=(ke (C:=1048576) (by omega) (by omega) hT.2.1 ts.length (bc _)).get (by omega) (n:Int);refine⟨?_,e1,e2,h⟩;rcases hr with⟨hr|hr,hq⟩;.exact Prod.ext hr hq
 .have:(fC (exs ts) (n:Int)).1=(fC (cE 1048576 ts ts.length) (n:Int)).1:=rfl;omega
theorem yC(hT:j9 ts)(hS:rE ts){sl:List Field}(D4:sl.length<=16)(hr:jW sl ts.length):lay ts sl=fQ 1000000 (cE 1000000 ts ts.length) 0 1 sl/\(0<=(lay ts sl).2.1/\(lay ts sl).2.1<=4208)/\AL (lay ts sl).2.2/\(lay ts sl).1.length=sl.length:=by obtain⟨g1,g2⟩:=N2 (x:=exs ts) (y:=cE 1000000 ts ts.length) sl 0 1 (λf hf=>Mv hT hS (hr f hf)) (by omega) (by omega);obtain⟨b1,b2,b3⟩:=pE (C:=1048576) (by omega) (ke (by omega) (by omega) hT.2.1 ts.length (bc _)) sl 0 1 (by omega) (by omega) (.inl rfl);exact⟨g1,⟨b1.1,by unfold lay;omega⟩,b2,b3⟩
theorem tP(hT:j9 ts)(hS:rE ts){sl:List Field}(D4:sl.length<=16)(hr:jW sl ts.length):(0<=up (lay ts sl).2.2 (lay ts sl).2.1/\up (lay ts sl).2.2 (lay ts sl).2.1<=4215)/\0<=uJ ts sl/\uJ ts sl<=4222:=by obtain⟨_,b1,b2,_⟩:=yC hT hS D4 hr;have h1:=oK b2 b1.1;have h2:=oK (a:=8) (s:=up (lay ts sl).2.2 (lay ts sl).2.1) (.inr rfl) (by omega);unfold uJ;omega
theorem Mw(hN:1300<N)(hl:J3 ts)(hT:j9 ts)(hS:rE ts){sl:List Field}(D4:sl.length<=16)(hr:jW sl ts.length):F92 N (ts,sl)=some ((lay ts sl).1,up (lay ts sl).2.2 (lay ts sl).2.1,(lay ts sl).2.2,0):=by
 have hE:=ke (C:=1048576) (by omega) (by omega) hT.2.1 ts.length (bc _);have l1:f92.eE N N (ts,sl,exs ts,sl,(sl.length:Int),0)=some (.inr (sl,exs ts)):=by have:=jP (n:=sl.length) (Lf:=λk i=>f92.eE N k (ts,sl,exs ts,sl,(sl.length:Int),i)) (g:=λ_=>some (.inr (sl,exs ts))) (λk=>by simp only[f92.eE.eq_2,aJ,af]) (λk i hi ih=>by have hm:=al hi;have hh:=hr _ (f2 hi);simp only[f92.eE.eq_2,aG hi,aq,aD hm,ae,aM (show¬(sl[i]).2<0 by omega),af,aM (show¬(sl[i]).2>=(ts.length:Int)by omega),ai (show i<9223372036854775807by omega)];exact ih) N 0 (by omega) (by omega);omega
 have l2:f92.zY N N (sl,exs ts,sl,(sl.length:Int),0)=some (.inr (sl,exs ts)):=by have:=jP (n:=sl.length) (Lf:=λk i=>f92.zY N k (sl,exs ts,sl,(sl.length:Int),i)) (g:=λ_=>some (.inr (sl,exs ts))) (λk=>by simp only[f92.zY.eq_2,aJ,af]) (λk i hi ih=>by have hm:=al hi;have hh:=hr _ (f2 hi);have he:=(Mv hT hS hh).2.2.2;simp only[f92.zY.eq_2,aG hi,aq,aD hm,ae,rD (x:=exs ts) (show 0<=(sl[i]).2/\(sl[i]).2<(exs ts).length by rw[NX];exact hh),aM (show¬(fC (exs ts) (sl[i]).2).1>256by omega),af,ai (show i<9223372036854775807by omega)];exact ih) N 0 (by omega) (by omega);omega
 have l3:=VP (N:=N) (b:=[]) (by omega) hE (fs:=sl) (by omega) (λf hf=>by rw[ff];exact hr f hf);simp at l3;rw[F92.eq_1,yy hN hl,bb hT,ae,gR,af,aM (show¬(sl.length:Int)>16by omega),Da (by omega) hl.1 hT.2.1,ae,show cE 1048576 ts ts.length=exs ts from rfl,l1,ae];simp;rw[l2,ae];simp;rw[show exs ts=cE 1048576 ts ts.length from rfl,l3];rfl
theorem Wf{n:Int}(h:0<=n/\n<=4000000):F93 N n=some (up 8 n,0):=by have e:=rC (a:=8) (s:=n) (.inr rfl) h;rw[aI (n:=n+8) (by omega),show n+8-1=n+7by omega,aI (n:=(8:Int)-1) (by decide)]at e;rw[F93.eq_1,aM (show¬n<0 by omega),af,ae,aM (show¬n>1073741824by omega),af]<;>grind
theorem xj{i:Nat}(hi:i<fs.length):idx fs (i:Int)=some (gj fs i):=cq _ hi
theorem YT(hN:1300<N)(hm:iQ ts xs fs)(h:dZ ts xs fs){f:Nat}(hf:f<fs.length):F67 N (ts,xs,fs,(f:Int))=some ((lay ts (gj fs f).2.2.2.1).1,uJ ts (gj fs f).2.2.2.1):=by have hF:=h.func hf;have hb:=(tP h.1 h.2.2.2.1 hF.2.1 hF.2.2.2.2.2.1).1;rw[F67.eq_1,xj hf,ae,Mw hN hm.1.1 h.1 h.2.2.2.1 hF.2.1 hF.2.2.2.2.2.1,ae];rw[Wf ⟨hb.1,by omega⟩];rfl
theorem Ka(hN:1300<N)(hm:iQ ts xs fs)(h:dZ ts xs fs){sl:List Field}(D4:sl.length<=16)(hr:jW sl ts.length):F75 N (ts,sl)=some ((lay ts sl).1,up (lay ts sl).2.2 (lay ts sl).2.1,(lay ts sl).2.2):=by have hT:=h.1;have hE:=ke (C:=1000000) (by omega) (by omega) hT.2.1 ts.length (bc _);have l3:=VS (N:=N) (by omega) hE (fs:=sl) (by omega) (λf hf=>by rw[ff];exact hr f hf);rw[F75.eq_1,Db (by omega) hm.1.1.1 hT.2.1,ae];rw[l3,ae,(yC hT h.2.2.2.1 D4 hr).1]
theorem Mx{n:Int}(h:0<=n/\n<=4000000):F76 N n=some (up 8 n):=by rw[F76.eq_1,A1 (.inr rfl) h];rfl
theorem Kb{l:List Int}(c:Int)(hl:l.length<=1000)(hN:1300<N)(hb:∀x,x∈l->0<=x/\x<=100000):f49.cW N N (l,c,0,List.replicate l.length 0)=some (c,l.map λx=>24+x):=by
 have:=jP (n:=l.length) (Lf:=λk i=>f49.cW N k (l,c,i,(l.take i.toNat).map (λx=>24+x)++List.replicate (l.length-i.toNat) 0)) (g:=λ_=>some (c,l.map λx=>24+x)) (λk=>by simp only[f49.cW.eq_2,aJ,af,bd,fi,pm,px,dt]) (λk i hi ih=>by
  have hm:=al hi;have hlen:((l.take i).map (λx=>24+x)).length=i:=by simp;omega
  have hx:=hb _ (f2 hi);have hg:((l.take i).map (λx=>24+x)++List.replicate (l.length-i) (0:Int))[i]?=some 0:=by rw[kx (by omega),hlen,pm,m8,bb (by omega)]
  have hir:ga (i:Int) ((l.take i).map (λx=>24+x)++List.replicate (l.length-i) (0:Int)).length=true:=pz (by simp;omega);simp only[bd]at ih⊢;simp only[f49.cW.eq_2,aG hi,aq,aD hm,ae,hir,aj,bd,hg,ai (show i<9223372036854775807by omega)];have e:(l.take (i+1)).map (λx=>24+x)=(l.take i).map (λx=>24+x)++[24+l[i]]:=by rw[List.take_add_one,hm,fw];rfl
  rw[NV hlen hi,aI (by omega),<-ih,e]) N 0 (by omega) (by omega);grind
theorem N3{x:List Ex}(hx:EX 1048576 x):∀(fs:List Field)(s a:Int),0<=s->(∀f,f∈fs->(fC x f.2).1<=256)->s+fs.length*263<=10000->∀o,o∈(fQ 1048576 x s a fs).1->0<=o/\o<=10000
 |[],_,_,_,_,_,o,h=>by cases h|f::r,s,a,h0,hf,hs,o,h=>by
  obtain⟨e1,e2,e3⟩:=hx.get (by omega) f.2;have ap6:=hf f (cb ..);have hu:=oK e1 h0;simp at hs;rcases dk.1 h with rfl|h;.omega
  .exact N3 hx r (min 1048576 (up (fC x f.2).2 s+(fC x f.2).1)) (max a (fC x f.2).2) (by omega) (λg hg=>hf g (dl _ hg)) (by omega) o h
theorem aeB(h:dZ ts xs fs){sl:List Field}(D4:sl.length<=16)(hr:jW sl ts.length):∀o,o∈(lay ts sl).1->0<=o/\o<=10000:=N3 (ke (C:=1048576) (by omega) (by omega) h.1.2.1 ts.length (bc _)) sl 0 1 (by omega) (λf hf=>(Mv h.1 h.2.2.2.1 (hr f hf)).2.2.2) (by omega)
theorem Ql(hN:1300<N)(hm:iQ ts xs fs)(h:dZ ts xs fs){f:Nat}(hf:f<fs.length):F49 N (ts,xs,fs,(f:Int))=some ((lay ts (gj fs f).2.2.2.1).1.map (λx=>24+x),24+uJ ts (gj fs f).2.2.2.1):=by
 have hF:=h.func hf;obtain⟨hb,uP⟩:=tP h.1 h.2.2.2.1 hF.2.1 hF.2.2.2.2.2.1;have hlen:=(yC h.1 h.2.2.2.1 hF.2.1 hF.2.2.2.2.2.1).2.2.2;have h0:decide (0<=((lay ts (gj fs f).2.2.2.1).1.length:Int))=true:=bm (by omega);have hro:(decide (Int.toNat ((lay ts (gj fs f).2.2.2.1).1.length:Int)<=Int.toNat ((lay ts (gj fs f).2.2.2.1).1.length:Int))&&room (Int.toNat ((lay ts (gj fs f).2.2.2.1).1.length:Int)) 8)=true:=by rw[bm (bc _),ak (by have:=hF.2.1;omega) (by omega)];rfl
 rw[F49.eq_1,xj hf,ae,Ka hN hm h hF.2.1 hF.2.2.2.2.2.1,ae];simp only;rw[h0,aj,aj,hro,aj,bd,Kb _ (by have:=hF.2.1;omega) hN (λx hx=>by have:=aeB h hF.2.1 hF.2.2.2.2.2.1 x hx;omega),ae];rw[Mx ⟨hb.1,by omega⟩,ae,show up 8 (up (lay ts (gj fs f).2.2.2.1).2.2 (lay ts (gj fs f).2.2.2.1).2.1)=uJ ts (gj fs f).2.2.2.1from rfl,aI (by omega)]
noncomputable def aeC(fs:List Func)(f s:Int):Prop:=0<=f/\f<fs.length/\0<=s/\s<(gj fs f.toNat).2.2.2.1.length
noncomputable def auj(ts:List aA)(xs:List (List UInt8))(fs:List Func)(f s:Int):Int×Int×Int:=if jD ts xs fs=0then(if aeC fs f s then(24+(lay ts (gj fs f.toNat).2.2.2.1).1.getD s.toNat 0,(fl (gj fs f.toNat).2.2.2.1 s.toNat).2,0)else(0,0,2))else(0,0,jD ts xs fs)
noncomputable def xk(i:Int):Int->List eN->Int|a,[]=>a|a,x::r=>xk i (if x.1<=i then x.2else a) r
theorem Hv(i:Int):∀(l:List eN)(a:Int)(b:Nat),b<=l.length->(∀j,j<b->(rn l j).1<=i)->(∀j,b<=j->j<l.length->i<(rn l j).1)->xk i a l=if b=0then a else(rn l (b-1)).2
 |[],a,b,hb,_,_=>by
  have:b=0:=by grind
  rw[bb this];rfl|x::r,a,0,hb,_,h2=>by have h0:i<x.1:=h2 0 (bc _) (by simp);rw[bb rfl,xk,be (by omega),Hv i r a 0 (by omega) (λj hj=>by omega) (λj _ hj=>h2 (j+1) (by omega) (by simp;omega)),bb rfl]|x::r,a,b+1,hb,h1,h2=>by have h0:x.1<=i:=h1 0 (by omega);rw[xk,bb h0,Hv i r x.2 b (by simpa using hb) (λj hj=>h1 (j+1) (by omega)) (λj hj hl=>h2 (j+1) (by omega) (by simp;omega))];cases b with|zero=>rfl|succ b=>rfl
theorem Wg{l:List eN}(hl:l.length<=1000)(hN:1300<N)(i:Int):F50 N (l,i)=some (xk i 0 l):=by
 have key:∀(r pre:List eN)(a:Int)(k:Nat),l=pre++r->r.length<k->f50.bz N k (l,i,a,(pre.length:Int))=some (xk i a r):=by intro r;induction r with|nil=>intro pre a k h hk;obtain⟨k,rfl⟩:∃m,k=m+1:=⟨k-1,by simp at hk;omega⟩;simp at h;subst h;simp[f50.bz.eq_2,aJ,af,xk]|cons x r ih=>
  intro pre a k h hk;obtain⟨k,rfl⟩:∃m,k=m+1:=⟨k-1,by simp at hk;omega⟩;have hlt:pre.length<l.length:=by rw[h];simp
  have ix:idx l (pre.length:Int)=some x:=ni h rfl;have:=ih (pre++[x]) (if x.1<=i then x.2else a) k (by rw[h];simp) (by simpa using hk);rw[ba,dj]at this;simp only[f50.bz.eq_2,aG hlt,aq,ix,ae,ym,ai (show pre.length<9223372036854775807by omega)];rw[xk,<-this];by_cases hx:x.1<=i;.rw[aS hx,bb hx];rfl
  .rw[aM hx,be hx];rfl
 have:=key l [] 0 N rfl (by omega);simp at this;rw[F50.eq_1,this];rfl
theorem yD{l:List eN}{n:Int}(hr:dF l n)(hl:l.length<=1000){i:Int}:∀(k lo hi:Nat),hi-lo<k->lo<=hi->hi<=l.length->(∀j,j<lo->(rn l j).1<=i)->(∀j,hi<=j->j<l.length->i<(rn l j).1)->∃b:Nat,b<=l.length/\(∀j,j<b->(rn l j).1<=i)/\(∀j,b<=j->j<l.length->i<(rn l j).1)/\f68.jA N k ((lo:Int),(hi:Int),l,i)=some ((b:Int),l)
 |0,_,_,h,_,_,_,_=>by omega|k+1,lo,hi,hk,hle,hhl,h1,h2=>by
  rw[f68.jA.eq_2];by_cases he:lo=hi;.subst he;rw[aJ,af];exact⟨lo,hhl,h1,h2,rfl⟩
  .have hm:av (Int.fdiv (aL (av ((lo:Int)+(hi:Int)))) 2)=(((lo+hi)/2:Nat):Int):=by rw[aI (n:=(lo:Int)+(hi:Int)) (by omega),aR (by omega),pC _ (by omega),aI (by omega)];omega
   have hx:idx l (((lo+hi)/2:Nat):Int)=some (rn l ((lo+hi)/2)):=cq _ (by omega);rw[aG (show lo<hi by omega),aq,hm,hx,ae];by_cases hc:(rn l ((lo+hi)/2)).1>i;.rw[aS hc,da,af];exact yD hr hl k lo ((lo+hi)/2) (by omega) (by omega) (by omega) h1 (λj hj hjl=>by have:=hr.mono hj hjl;omega)
   .rw[aM hc,ge,aq,ai (show(lo+hi)/2<9223372036854775807by omega)];exact yD hr hl k ((lo+hi)/2+1) hi (by omega) (by omega) hhl (λj hj=>by have:=hr.mono (i:=j) (j:=(lo+hi)/2) (by omega) (by omega);omega) h2
theorem ak8{l:List eN}{n i:Nat}(hN:1300<N)(hl:l.length<=300)(h:dF l n)(h1:1<=n)(h2:n<=200)(hi:i<n):F68 N (l,(n:Int),(i:Int))=some (xk i 0 l,0):=by
 obtain⟨b,hb,b1,b2,e⟩:=yD (N:=N) h (by omega) (i:=(i:Int)) N 0 l.length (by omega) (by omega) (bc _) (λj hj=>by omega) (λj hj hjl=>by omega);have e':f68.jA N N (0,(l.length:Int),l,(i:Int))=some ((b:Int),l):=e;have hb0:b≠0:=λe0=>by have:=b2 0 (by omega) h.1;have:=h.2.1;omega
 have hx:idx l (((b-1:Nat)):Int)=some (rn l (b-1)):=cq _ (by omega);rw[F68.eq_1,uq (by omega) (by omega),be (by omega),bb h,ae,gR,af,aM (show¬(i:Int)<0 by omega),af,ae,aM (show¬(i:Int)>=(n:Int)by omega),af,e',ae];rw[yt (by omega) (by omega),hx,ae,Hv i l 0 b hb b1 b2,be hb0]
theorem YU{l:List eN}(h:Hp l)(i:Int):∀a,0<=a/\a<=18446744073709551615->0<=xk i a l/\xk i a l<=18446744073709551615:=by induction l with|nil=>intro a ha;exact ha|cons x r ih=>
 intro a ha;refine ih (λy hy=>h y (dl _ hy)) _ ?_;split;.exact h x (cb ..)
 omega
noncomputable def Dh(fs:List Func)(f i:Nat):Int:=xk i 0 (gj fs f).2.2.2.2.2.1
noncomputable def qy(ts:List aA)(fs:List Func)(f i:Nat):Int:=24+uJ ts (gj fs f).2.2.2.1+Dh fs f i
noncomputable def N4(ts:List aA)(xs:List (List UInt8))(fs:List Func)(a:Nat):Int×Int:=if(uI ts xs fs a).2.2=0then(if qy ts fs (a/256-1) (a%256)>4096then(0,16)else(qy ts fs (a/256-1) (a%256),0))else(0,(uI ts xs fs a).2.2)
theorem My{a:Nat}(h:(uI ts xs fs a).2.2=0):dZ ts xs fs/\r6 fs a/\uI ts xs fs a=(((a/256-1:Nat):Int),((a%256:Nat):Int),0):=by
 unfold uI at h⊢;by_cases hc:jD ts xs fs=0
 .rw[bb hc]at h⊢;by_cases ha:r6 fs a;.rw[bb ha];exact⟨(yB hc).1,ha,rfl⟩
  grind
 grind
theorem yE(hm:iQ ts xs fs){f i:Nat}(hf:f<fs.length):0<=Dh fs f i/\Dh fs f i<=18446744073709551615:=YU (hm.1.2.2.2.2 _ (ny fn0 hf)).2.2.2.2.2.1 _ 0 (by omega)
theorem Qm(hN:1300<N)(hm:iQ ts xs fs){a:Nat}(ha:a<18446744073709551616):F38 N (ts,xs,fs,(a:Int))=some (N4 ts xs fs a):=by
 rw[F38.eq_1,NZ hN hm ha,ae,N4];by_cases h0:(uI ts xs fs a).2.2=0
 .obtain⟨QY,⟨a1,a2,a3⟩,e⟩:=My h0;rw[bb h0,e];have hF:=QY.func (i:=a/256-1) (by omega);obtain⟨_,hb⟩:=tP QY.1 QY.2.2.2.1 hF.2.1 hF.2.2.2.2.2.1;have hs:=yE hm (f:=a/256-1) (i:=a%256) (by omega);have hn:=hF.2.2.2.2.2.2.1;rw[gR,af,YT hN hm QY (by omega),ae,xj (by omega),ae,ae,ak8 hN (by have:=oJ hF.2.2.2.2.2.2.2.2.1;omega) hF.2.2.2.2.2.2.2.2.1 hn.1 hn.2 a3,ae];rw[show xk ((a%256:Nat):Int) 0 (gj fs (a/256-1)).2.2.2.2.2.1=Dh fs (a/256-1) (a%256)from rfl];by_cases hx:Dh fs (a/256-1) (a%256)>4096;.rw[aS hx,aq,ae,aq,bb (show qy ts fs (a/256-1) (a%256)>4096by unfold qy;omega)]
  .have e2:av (av (24+uJ ts (gj fs (a/256-1)).2.2.2.1)+av (Dh fs (a/256-1) (a%256)))=qy ts fs (a/256-1) (a%256):=by rw[aI (n:=24+_) (by omega),aI (n:=Dh _ _ _) (by omega),aI (by omega)];rfl
   grind
 grind
end
end Go.Proofs.YtkdilffhbejjaaaGreat
