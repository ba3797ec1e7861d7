/- Names, fields and types. -/
import Derived.Test.YtkdilffhbejjaaaGreatLaw21td
set_option linter.unusedVariables false
set_option linter.unusedSimpArgs false
namespace Go.Proofs.YtkdilffhbejjaaaGreat
open Go Go.bM Go.Sym
open Classical
noncomputable def JW(n:Nat):Bool:=(decide (97<=n)&&decide (n<=122))||(decide (65<=n)&&decide (n<=90))
noncomputable def tJ(n:Nat):Bool:=JW n||(decide (48<=n)&&decide (n<=57))
noncomputable def lK(s:List UInt8):Bool:=decide (1<=s.length)&&(decide (s.length<=16)&&(JW ((s.getD 0 0).toNat)&&s.all λc=>tJ c.toNat))
theorem VE:∀n:Nat,n<256->(bif(decide (((n:Nat):Int)>=(97:Int)))then(bif(decide (((n:Nat):Int)<=(122:Int)))then some true else(bif(decide (((n:Nat):Int)>=(65:Int)))then some (decide (((n:Nat):Int)<=(90:Int)))else some false))else(bif(decide (((n:Nat):Int)>=(65:Int)))then some (decide (((n:Nat):Int)<=(90:Int)))else some false))=some (JW n):=by decide+kernel
theorem FC(N:Nat)(c:UInt8):PE N (c.toNat:Int)=some (JW c.toNat):=by rw[PE.eq_1,VE _ c.toNat_lt];rfl
theorem VF:∀n:Nat,n<256->((bif(decide ((Ct .u8 ((n:Nat):Int) (32:Int))<(97:Int)))then(bif(decide (((n:Nat):Int)<(48:Int)))then some true else some (decide (((n:Nat):Int)>(57:Int))))else(bif(decide ((Ct .u8 ((n:Nat):Int) (32:Int))>(122:Int)))then(bif(decide (((n:Nat):Int)<(48:Int)))then some true else some (decide (((n:Nat):Int)>(57:Int))))else(bif((uw .u8 ((n:Nat):Int) (64:Int))==(0:Int))then(bif(decide (((n:Nat):Int)<(48:Int)))then some true else some (decide (((n:Nat):Int)>(57:Int))))else some false))):Option Bool)=some (!tJ n):=by decide+kernel
theorem P5:∀n:Nat,n<256->((!decide (((n:Nat):Int)<=57))&&tJ n)=(JW n&&tJ n):=by decide+kernel
theorem rB{α:Type}{n:Nat}{q:Nat->Bool}{a b:α}:(if∃i,i<n/\(!q i)=true then b else a)=if∀i,i<n->q i=true then a else b:=by
 by_cases h:∀i,i<n->q i=true;.grind
 .rw[be h,bb]<;>grind
theorem nX{α β:Type}{l:List α}{p:α->Bool}{a b:β}:(if∃x,x∈l/\(!p x)=true then b else a)=if∀x,x∈l->p x=true then a else b:=by
 by_cases h:∀x,x∈l->p x=true;.grind
 .rw[be h,bb]<;>grind
theorem VG{α:Type}{l:List α}{p:α->Bool}:(if∃x,x∈l/\(!p x)=true then(Sum.inl false:Bool⊕Unit)else .inr ())=if l.all p=true then .inr ()else .inl false:=by by_cases h:l.all p=true<;>simp_all
theorem C4{N:Nat}{s:List UInt8}(hN:100<N):LU N s=some (lK s):=by
 rw[LU.eq_1];unfold lK;by_cases h0:s.length=0;.rw[show((s.length:Int)==(0:Int))=true by rw[h0];rfl,aq,ae,aq,bv (by omega),nz]
 .rw[Ho h0,af,bm (show 1<=s.length by omega),fr];by_cases h1:s.length<=16
  .have e0:idx s (0:Int)=some (s.getD 0 0):=cq (i:=0) 0 (by omega);rw[bv (show¬(s.length:Int)>16by omega),af,e0,ae,ae,bm h1,fr];have hlt:=(s.getD 0 0).toNat_lt;have hall:s.all (λc=>tJ c.toNat)=true->tJ (s.getD 0 0).toNat=true:=λh=>km.1 h _ (ny 0 (by omega));have hf:=P5 _ hlt;have key:=fN (l:=bK s) (a:=(.inr ():Bool⊕Unit)) (b:=.inl false) (p:=λx=>!tJ x.toNat) (Lf:=λk i=>f161.aP N k (bK s,((bK s).length:Int),i)) (λk _=>by simp only[f161.aP.eq_2,aJ,af]) (λk i x hx hm=>by obtain⟨c,hc,rfl⟩:=im.1 hm;have hi:=aC hx;rw[cT]at hi;simp only[f161.aP.eq_2,aG (aC hx),aq,aD hx,ae,VF _ c.toNat_lt,ai (show i<9223372036854775807by omega),bd];by_cases hb:tJ c.toNat=true<;>simp[hb]) (k:=N) (by rw[cT];omega);rw[key,VG (p:=λx:Int=>tJ x.toNat)];have e2:(bK s).all (λx=>tJ x.toNat)=s.all λc=>tJ c.toNat:=by unfold bK;rw[List.all_map];rfl
   rw[e2];cases ha:s.all λc=>tJ c.toNat;.rw[be (by simp),f0,ae];cases decide (((s.getD 0 0).toNat:Int)<=57)<;>rfl
   .rw[hall ha,kp,kp]at hf;rw[bb rfl,kp,ae,<-hf];cases decide (((s.getD 0 0).toNat:Int)<=57)<;>rfl
  .rw[bm (show(s.length:Int)>16by omega),aq,ae,aq,bv h1];rfl
theorem VH:∀n:Nat,n<256->(bif(!JW n)then(bif(decide (((n:Nat):Int)<(48:Int)))then some true else some (decide (((n:Nat):Int)>(57:Int))))else some false)=some (!tJ n):=by decide+kernel
theorem C5{N:Nat}{s:List UInt8}(hN:100<N):PG N s=some (lK s):=by
 rw[PG.eq_1];unfold lK;by_cases h0:1<=s.length
 .rw[bv (show¬(s.length:Int)<1by omega),af,bm h0,fr];by_cases h1:s.length<=16
  .have e0:idx s (0:Int)=some (s.getD 0 0):=cq (i:=0) 0 (by omega);rw[bv (show¬(s.length:Int)>16by omega),af,e0,ae,FC,ae,ae,bm h1,fr];have key:=fN (l:=s) (a:=(.inr ():Bool⊕Unit)) (b:=.inl false) (p:=λc=>!tJ c.toNat) (Lf:=λk i=>f202.aP N k (s,i)) (λk _=>by simp only[f202.aP.eq_2,aJ,af]) (λk i x hx hm=>by have hi:=aC hx;simp only[f202.aP.eq_2,aG (aC hx),aq,aD hx,ae,FC,VH _ x.toNat_lt,ai (show i<9223372036854775807by omega)];by_cases hb:tJ x.toNat=true<;>simp[hb]) (k:=N) (by omega);rw[key,VG (p:=λc:UInt8=>tJ c.toNat)];cases ha:s.all λc=>tJ c.toNat;.rw[be (by simp),f0];cases JW (s.getD 0 0).toNat<;>rfl
   .rw[bb rfl,kp];cases JW (s.getD 0 0).toNat<;>rfl
  .rw[bm (show(s.length:Int)>16by omega),aq,ae,aq,bv h1];rfl
 .rw[bm (show(s.length:Int)<1by omega),aq,ae,aq,bv h0,nz]
theorem mB{s:List UInt8}(h:lK s=true):s.length<=16:=by unfold lK at h<;>grind
noncomputable def fl(l:List Field)(i:Nat):Field:=l.getD i ([],0)
noncomputable def JX(l:List Field)(i:Nat):Prop:=∃j,j<i/\(fl l j).1=(fl l i).1
noncomputable def okF(l:List Field)(i:Nat):Bool:=lK (fl l i).1&&!decide (JX l i)
noncomputable def cr(l:List Field):Prop:=∀i,i<l.length->okF l i=true
theorem C6{N:Nat}{l:List Field}{i:Nat}(hi:i<=l.length)(hN:l.length<N)(hl:l.length<=1000000)(s:List UInt8)(v:Int):(∃j:Int,0<=j/\f162.cP N N (l.take i,((l.take i).length:Int),0,s,v)=some (.inl j)/\∃j,j<i/\(fl l j).1=s)\/(f162.cP N N (l.take i,((l.take i).length:Int),0,s,v)=some (.inr ())/\¬∃j,j<i/\(fl l j).1=s):=by
 have hlen:(l.take i).length=i:=by grind
 have key:∀k j,j<=i->i-j<k->(∀m,m<j->(fl l m).1≠s)->(∃q:Int,0<=q/\f162.cP N k (l.take i,((l.take i).length:Int),(j:Int),s,v)=some (.inl q)/\∃j,j<i/\(fl l j).1=s)\/(f162.cP N k (l.take i,((l.take i).length:Int),(j:Int),s,v)=some (.inr ())/\¬∃j,j<i/\(fl l j).1=s):=by intro k;induction k with|zero=>omega|succ k ih=>
   intro j hj hk hm;by_cases he:j=i;.subst he;refine .inr ⟨?_,λ⟨m,h1,h2⟩=>hm m h1 h2⟩;rw[f162.cP.eq_2,hlen,aJ,af]
   .have e:idx (l.take i) (j:Int)=some (fl l j):=by refine aD ?_;rw[fx,bb (by omega),fl,ci,al (by omega)];rfl
    rw[f162.cP.eq_2,hlen,aG (by omega),aq,e,ae];by_cases hq:(fl l j).1=s;.rw[show((fl l j).1==s)=true by simpa using hq,aq];exact .inl ⟨j,by omega,rfl,j,by omega,hq⟩
    .rw[show((fl l j).1==s)=false by simpa using hq,af,ai (by omega)];have:=ih (j+1) (by omega) (by omega) λm h=>by
      by_cases e:m=j;.subst e;exact hq
      .exact hm m (by omega)
     rw[hlen]at this;exact this
 exact key N 0 (by omega) (by omega) λm h=>by omega
theorem JY{N:Nat}{l:List Field}(hN:l.length+100<N)(hl:l.length<=1000000):S4 N l=some (decide (cr l)):=by
 rw[S4.eq_1];have key:=gx (n:=l.length) (a:=(.inr ():Bool⊕Unit)) (b:=.inl false) (q:=λi=>!okF l i) (Lf:=λk i=>f162.gM N k (l,l,(l.length:Int),i)) (λk _=>by simp only[f162.gM.eq_2,aJ,af]) (λk i hi _=>by
   have e:idx l (i:Int)=some (fl l i):=cq _ hi;simp only[f162.gM.eq_2,aG hi,aq,e,ae,C4 (show 100<N by omega)];cases hn:lK (fl l i).1;.simp[okF,hn]
   .rw[da,af,bm (show(0:Int)<=(i:Int)by omega),aj,bd,bm (show i<=l.length by omega),aj,ai (by omega)];rcases C6 (l:=l) (i:=i) (by omega) (show l.length<N by omega) hl (fl l i).1 (fl l i).2with⟨j,h1,h2,h3⟩|⟨h2,h3⟩;.rw[h2,ae];simp only[bm (show j>=0from h1),aq];rw[bb (by unfold okF;rw[bm (show JX l i from h3)];simp)]
    .rw[h2,ae];simp only;rw[be (by unfold okF;rw[hn,bv (show¬JX l i from h3)];simp)]) (k:=N) (by omega);rw[key,rB,ae];by_cases h:cr l;.rw[bb (show∀i,i<l.length->okF l i=true from h),bm h]
 .rw[be (show¬∀i,i<l.length->okF l i=true from h),bv h]
theorem tK{N:Nat}{l:List Field}(hN:l.length+100<N)(hl:l.length<=1000000)(m:Int):PI N (l,m)=some (decide ((l.length:Int)<=m/\cr l)):=by
 rw[PI.eq_1];by_cases hm:(l.length:Int)<=m
 .rw[bv (show¬(l.length:Int)>m by omega),af];have key:=gx (n:=l.length) (a:=(.inr ():Bool⊕Unit)) (b:=.inl false) (q:=λi=>!okF l i) (Lf:=λk i=>f203.aP N k (l,i)) (λk _=>by simp only[f203.aP.eq_2,aJ,af]) (λk i hi _=>by
    have e:idx l (i:Int)=some (fl l i):=cq _ hi;simp only[f203.aP.eq_2,aG hi,aq,e,ae,C5 (show 100<N by omega)];cases hn:lK (fl l i).1;.simp[okF,hn]
    .have inner:=gx (n:=i) (a:=(.inr (l,(i:Int)):Bool⊕(List Field×Int))) (b:=.inl false) (q:=λj=>(fl l j).1==(fl l i).1) (Lf:=λk j=>f203.jc N k (l,(i:Int),j)) (λk _=>by simp only[f203.jc.eq_2,aJ,af]) (λk j hj _=>by have ej:idx l (j:Int)=some (fl l j):=cq _ (by omega);simp only[f203.jc.eq_2,aG hj,aq,e,ej,ae,ai (show j<9223372036854775807by omega)];by_cases hb:((fl l j).1==(fl l i).1)=true<;>simp[hb]) (k:=N) (by omega);rw[da,af,inner,ae];by_cases hd:JX l i;.rw[bb,bb (by unfold okF;rw[bm hd];simp)];obtain⟨j,h1,h2⟩:=hd;exact⟨j,h1,by simpa using h2⟩
     .rw[be,be (by unfold okF;rw[hn,bv hd];simp)];.simp only;rw[ai (by omega)]
      .rintro⟨j,h1,h2⟩;exact hd ⟨j,h1,by simpa using h2⟩) (k:=N) (by omega);rw[key,rB,ae];by_cases h:cr l;.rw[bb (show∀i,i<l.length->okF l i=true from h),bm ⟨hm,h⟩]
  .rw[be (show¬∀i,i<l.length->okF l i=true from h),bv λh'=>h h'.2]
 grind
theorem AY{N:Nat}{l:List Int}(hN:l.length<N)(hl:l.length<=1000):Jz N l=some (l.all λx=>x==0):=by
 rw[Jz.eq_1];have key:∀(r pre:List Int)k,l=pre++r->r.length<k->(r.all (λx=>x==0)=true/\f197.dM N k (l,(l.length:Int),(pre.length:Int))=some (.inr ()))\/(r.all (λx=>x==0)=false/\∃j:Int,0<=j/\f197.dM N k (l,(l.length:Int),(pre.length:Int))=some (.inl j)):=by intro r;induction r with|nil=>intro pre k he hk;obtain⟨k,rfl⟩:∃k',k=k'+1:=⟨k-1,by simp at hk;omega⟩;simp at he;subst he;exact .inl ⟨rfl,by rw[f197.dM.eq_2,aJ,af]⟩|cons x r ih=>
  intro pre k he hk;obtain⟨k,rfl⟩:∃k',k=k'+1:=⟨k-1,by simp at hk;omega⟩;have hlen:pre.length+(r.length+1)=l.length:=by rw[he];simp
  have hx:idx l (pre.length:Int)=some x:=by rw[he];exact rz _ _ _
  rw[f197.dM.eq_2,aG (by omega),aq,hx,ae,Yu.eq_1,ae];by_cases h0:x=0;.rw[show(x !=0)=false by simp[h0],af,ai (by omega),d9,show(x==0)=true by simp[h0],fr];have:=ih (pre++[x]) k (by rw[he];simp) (by simp at hk;omega);rwa[show((pre++[x]).length:Int)=((pre.length+1:Nat):Int)by simp]at this
  .rw[show(x !=0)=true by simp[h0],aq,d9,show(x==0)=false by simp[h0],nz];exact .inr ⟨rfl,pre.length,by omega,rfl⟩
 rcases key l [] N rfl hN with⟨h1,h2⟩|⟨h1,j,h2,h3⟩<;>grind
theorem FD(N:Nat)(a b:Int):Jy N (a,b)=some (decide (0<=a/\a<b)):=by rw[Jy.eq_1,fP,ae]<;>simp_all
noncomputable def ty0:aA:=(0,0,0,[])
noncomputable def dQ(l:List aA)(i:Nat):aA:=l.getD i ty0
noncomputable def cU(n i:Nat)(t:aA):Prop:=if t.1=1\/t.1=2\/t.1=3then t.2.1=0/\t.2.2.1=0/\t.2.2.2.length=0 else if t.1=4\/t.1=7then(0<=t.2.1/\t.2.1<n)/\t.2.2.1=0/\t.2.2.2.length=0 else if t.1=6then(0<=t.2.1/\t.2.1<i)/\(1<=t.2.2.1/\t.2.2.1<=16)/\t.2.2.2.length=0 else if t.1=5then t.2.1=0/\t.2.2.1=0/\(0<t.2.2.2.length/\t.2.2.2.length<=8)/\cr t.2.2.2/\∀f,f∈t.2.2.2->0<=f.2/\f.2<i else False
theorem FE{l:List Field}{i:Nat}(hi:i<l.length):hasB ((l.take i).map (·.1)) (fl l i).1=decide (JX l i):=by
 unfold hasB;by_cases h:JX l i;.rw[bm h,ls];obtain⟨j,h1,h2⟩:=h;refine⟨(fl l j).1,im.2 ⟨fl l j,?_,rfl⟩,bm h2.symm⟩;rw[fl,ci,al (by omega)];exact oi.2 ⟨j,by omega,rfl⟩
 .rw[bv h];cases ha:((l.take i).map (·.1)).any λq=>decide ((fl l i).1=q)with|false=>rfl|true=>exfalso;obtain⟨q,h1,h2⟩:=ls.1 ha;obtain⟨f,h3,rfl⟩:=im.1 h1;obtain⟨j,h4,rfl⟩:=oi.1 h3;refine h ⟨j,by omega,?_⟩;rw[dv h2];rw[fl,ci,al (by omega)];rfl
theorem aes{l:List Field}{i:Nat}(hi:i<l.length):l[i]?=some (fl l i):=by rw[fl,ci,al hi];rfl
theorem P6{l:List Field}{i:Nat}(hi:i<l.length)(h:¬JX l i):sj ((l.take i).map (·.1)) (fl l i).1=(l.take (i+1)).map (·.1):=by unfold sj;rw[FE hi,bv h,take_succ (aes hi),fw];rfl
theorem JZ{N:Nat}{l:List Field}{p:Nat}(hN:l.length+100<N)(hl:l.length<=1000000)(a b c:Int):f158.zQ N N ((p:Int),l,(l.length:Int),(0:Int),a,b,c,l,([]:List (List UInt8)))=some (if cr l/\(∀f,f∈l->0<=f.2/\f.2<p)then .inr (a,b,c,l)else .inl false):=by
 have key:=gx (n:=l.length) (a:=(.inr (a,b,c,l):Bool⊕(Int×Int×Int×List Field))) (b:=.inl false) (q:=λi=>!(okF l i&&decide (0<=(fl l i).2/\(fl l i).2<p))) (Lf:=λk i=>f158.zQ N k ((p:Int),l,(l.length:Int),i,a,b,c,l,(l.take i.toNat).map (·.1))) (λk _=>by simp only[f158.zQ.eq_2,aJ,af]) (λk i hi _=>by
   have e:idx l (i:Int)=some (fl l i):=cq _ hi;simp only[f158.zQ.eq_2,aG hi,aq,e,ae,C4 (show 100<N by omega),bd,FE hi,FD,ai (show i<9223372036854775807by omega)];cases hn:lK (fl l i).1;.simp[okF,hn]
   .by_cases hd:JX l i;.simp[okF,hd]
    .rw[P6 hi hd];unfold okF;rw[hn,bv hd];cases decide (0<=(fl l i).2/\(fl l i).2<(p:Int))<;>rfl) (k:=N) (by omega);rw[show(0:Int).toNat=0from rfl,wl,kw]at key;rw[key,rB];have hiff:(∀i,i<l.length->(okF l i&&decide (0<=(fl l i).2/\(fl l i).2<(p:Int)))=true)↔cr l/\∀f,f∈l->0<=f.2/\f.2<(p:Int):=by simp only[am,db];refine⟨λh=>⟨λi hi=>(h i hi).1,λf hf=>?_⟩,λh i hi=>⟨h.1 i hi,h.2 _ (ny _ hi)⟩⟩;obtain⟨i,hi,rfl⟩:=qx ([],0) hf;exact(h i hi).2
 grind
theorem Mh{N:Nat}{l:List Field}{p:Nat}(hN:l.length<N)(hl:l.length<=1000000)(a b c:Int):f200.zZ N N ((p:Int),(0:Int),a,b,c,l)=some (if∀f,f∈l->0<=f.2/\f.2<p then .inr (a,b,c,l)else .inl false):=by
 have key:=fN (l:=l) (a:=(.inr (a,b,c,l):Bool⊕(Int×Int×Int×List Field))) (b:=.inl false) (p:=λf=>!decide (0<=f.2/\f.2<(p:Int))) (Lf:=λk i=>f200.zZ N k ((p:Int),i,a,b,c,l)) (λk _=>by simp only[f200.zZ.eq_2,aJ,af]) (λk i x hx hm=>by
   simp only[f200.zZ.eq_2,aG (aC hx),aq,aD hx,ae,ai (show i<9223372036854775807by have:=aC hx;omega)];by_cases h1:x.2<0;.rw[bm h1,bv (show¬(0<=x.2/\x.2<(p:Int))by omega)];rfl
   .by_cases h2:x.2>=(p:Int);.rw[bv h1,bm h2,bv (show¬(0<=x.2/\x.2<(p:Int))by omega)];rfl
    .rw[bv h1,bv h2,bm (show 0<=x.2/\x.2<(p:Int)by omega)];rfl) (k:=N) hN;rw[key,nX]<;>grind
theorem AZ(a b:Int):(a==b)=decide (a=b):=by grind
theorem aet{v:Int}(h:i64 v):decide (0<=av (v-1)/\av (v-1)<16)=decide (1<=v/\v<=16):=by
 unfold i64 at h;by_cases h1:v=-9223372036854775808;.subst h1;rfl
 .rw[aI (by omega)]<;>grind
theorem VI{N:Nat}{l:List aA}{i:Nat}(hN:1100<N)(hi:i<l.length)(hf:(dQ l i).2.2.2.length<=1000)(hb:i64 (dQ l i).2.2.1):SQ N (l,(i:Int))=some (decide (cU l.length i (dQ l i))):=by
 have e:idx l (i:Int)=some (dQ l i):=cq _ hi;rw[SQ.eq_1,e,ae];unfold cU;generalize dQ l i=t at hf hb;obtain⟨k,el,le,fs⟩:=t;simp only at hf hb⊢;rw[JZ (by omega) (by omega)];simp only[AZ,dg,ae,FD,AY (show[el,le,(fs.length:Int)].length<N by simp;omega) (by simp),AY (show[le,(fs.length:Int)].length<N by simp;omega) (by simp),AY (show[(fs.length:Int)].length<N by simp;omega) (by simp),aet hb,d9,tx,kp];by_cases h1:k=1\/k=2\/k=3;.rw[show(decide (k=1)||(decide (k=2)||decide (k=3)))=true by simpa using h1,aq,bb h1];congr 1;by_cases a1:el=0<;>by_cases a2:le=0<;>by_cases a3:fs.length=0<;>simp[a1,a2,a3];all_goals(intro h;simp[h]at a3)
 .rw[show(decide (k=1)||(decide (k=2)||decide (k=3)))=false by simpa using h1,af,be h1];by_cases h2:k=4\/k=7;.rw[show(decide (k=4)||decide (k=7))=true by simpa using h2,aq,bb h2,fP];congr 1;by_cases a1:0<=el/\el<(l.length:Int)<;>by_cases a2:le=0<;>by_cases a3:fs.length=0<;>simp[a1,a2,a3];all_goals(intro h;simp[h]at a3)
  .rw[show(decide (k=4)||decide (k=7))=false by simpa using h2,af,be h2];by_cases h3:k=6;.rw[bm h3,aq,bb h3];by_cases a1:0<=el/\el<(i:Int)<;>by_cases a2:1<=le/\le<=16<;>by_cases a3:fs.length=0<;>simp[a1,a2,a3];all_goals(intro h;simp[h]at a3)
   .rw[bv h3,af,be h3];by_cases h4:k=5
    .rw[bm h4,aq,bb h4];by_cases hq:cr fs/\∀f,f∈fs->0<=f.2/\f.2<(i:Int)
     .rw[bb hq];simp only;rw[AY (show[el,le].length<N by simp;omega) (by simp),ae];simp only[d9,tx,kp];have g3:decide ((fs.length:Int)>0)=decide (0<fs.length):=by rw[ka];omega
      have g4:decide ((fs.length:Int)<=8)=decide (fs.length<=8):=by rw[ka];omega
      rw[g3,g4];by_cases a1:el=0
      .by_cases a2:le=0
       .by_cases a3:0<fs.length
        .by_cases a4:fs.length<=8;.rw[aS (p:=el=0/\le=0/\(0<fs.length/\fs.length<=8)/\cr fs/\∀f,f∈fs->0<=f.2/\f.2<(i:Int)) ⟨a1,a2,⟨a3,a4⟩,hq⟩];simp[a1,a2,a3,a4]
         .rw[aM (p:=el=0/\le=0/\(0<fs.length/\fs.length<=8)/\cr fs/\∀f,f∈fs->0<=f.2/\f.2<(i:Int)) λh=>a4 h.2.2.1.2];simp[a1,a2,a3,a4]
        .rw[aM (p:=el=0/\le=0/\(0<fs.length/\fs.length<=8)/\cr fs/\∀f,f∈fs->0<=f.2/\f.2<(i:Int)) λh=>a3 h.2.2.1.1,bv a3];simp[a1,a2]
       .rw[aM (p:=el=0/\le=0/\(0<fs.length/\fs.length<=8)/\cr fs/\∀f,f∈fs->0<=f.2/\f.2<(i:Int)) λh=>a2 h.2.1,show(le==0)=false by simpa using a2,f0];rfl
      .rw[aM (p:=el=0/\le=0/\(0<fs.length/\fs.length<=8)/\cr fs/\∀f,f∈fs->0<=f.2/\f.2<(i:Int)) λh=>a1 h.1,show(el==0)=false by simpa using a1,nz];rfl
     .rw[be hq,aM (p:=el=0/\le=0/\(0<fs.length/\fs.length<=8)/\cr fs/\∀f,f∈fs->0<=f.2/\f.2<(i:Int)) λh=>hq ⟨h.2.2.2.1,h.2.2.2.2⟩]
    .rw[bv h4,af,be h4,aM (p:=False) id]
end Go.Proofs.YtkdilffhbejjaaaGreat
