/- Parts of the proof. -/
import Derived.Test.YtgdkmdochlhhlaaGreatLaw22dg4
import Derived.Test.YtgdkmdochlhhlaaGreatEngCompact
set_option linter.unusedVariables false
set_option linter.unusedSimpArgs false
set_option linter.defProp false
noncomputable section
namespace Go.Proofs.YtgdkmdochlhhlaaGreat
open Go Go.bL Go.Sym
open Classical
structure Fn(ts:List aB)(xs:List (List UInt8))(fs:List Func)(f:Func):Prop where
 img:iE ts xs fs
 ok:fG ts.length f
 code:ko f.2.2.2.2.1=true
 near:∀x,x∈f.2.2.2.2.1->n7 xs.length (gj fs) f.2.2.2.1 x
def fq(ts:List aB)(fs:List Func)(f:Func):Instr->List Int->Option (List Int):=Tk ts (gj fs) f.2.2.2.1
section
variable{ts:List aB}{xs:List (List UInt8)}{fs:List Func}{f:Func}
def Fn.len(h:Fn ts xs fs f):1<=f.2.2.2.2.1.length/\f.2.2.2.2.1.length<=200:=h.ok.2.2.2.2.2.2.1
def Fn.aK(h:Fn ts xs fs f){x:Instr}(hx:x∈f.2.2.2.2.1):e8 x=true:=h.ok.2.2.2.2.2.2.2.1 x hx
def Fn.rng(h:Fn ts xs fs f):kj f.2.2.2.1 ts.length:=h.ok.2.2.2.2.2.1
def Fn.vc(h:Fn ts xs fs f):VC f.2.2.2.2.1:=yW h.code
def Fn.ps(h:Fn ts xs fs f){k:Nat}{s:List Int}(hp:PS f.2.2.2.2.1 (fq ts fs f) k s):MJ ts s/\s.length<=512:=by induction hp with|zero=>exact⟨λt ht=>(by cases ht),by simp⟩|step _ hx ha _ ih=>exact air h.img h.rng (h.aK (aX hx)) (h.near _ (aX hx)) ih.1 ha
def aqp{N:Nat}{l:List Instr}(hv:ko l=true)(hl:l.length<=200)(hN:500<N){i:Nat}(hi:i<l.length):XZ N (l,(i:Int))=some (cN (nx l i),0):=by rw[XZ.eq_1,Pe (by omega) (by omega),hv];simp only[au,ae,show((0:Int)!=0)=false from rfl,af,show decide ((i:Int)<0)=false by simp,show decide ((i:Int)>=(l.length:Int))=false by grind,Pf (yW hv) hi]
def Pu{N:Nat}(hN:1300<N)(h:Fn ts xs fs f){b:List (List Int)}{m:List Bool}{o:List Nat}{i:Nat}{x:Instr}{s s':List Int}(hk:Kn f.2.2.2.2.1 (fq ts fs f) b m)(ho:o.length<=1000)(hp:PS f.2.2.2.2.1 (fq ts fs f) i s)(hx:f.2.2.2.2.1[i]?=some x)(ha:fq ts fs f x s=some s'):(∃r:Bool⊕_,(¬vL f.2.2.2.2.1 (fq ts fs f)/\r=.inl false)/\iV N N (f.2.2.2.2.1,s',cN (nx f.2.2.2.2.1 i),((cN (nx f.2.2.2.2.1 i)).length:Int),0,ts,xs,fs,f.1,f.2.1,f.2.2.1,f.2.2.2.1,f.2.2.2.2.1,f.2.2.2.2.2.1,f.2.2.2.2.2.2,b,m,cN o)=some r)\/∃b' m' p,(Kn f.2.2.2.2.1 (fq ts fs f) b' m'/\Grow b m b' m'/\(∀q,q∈p->T m' q)/\(∀q,T m' q->T m q\/q∈p)/\gq m'+p.length<=gq m/\∀k,k∈nx f.2.2.2.2.1 i->T m' k/\b'[k]?=some s')/\iV N N (f.2.2.2.2.1,s',cN (nx f.2.2.2.2.1 i),((cN (nx f.2.2.2.2.1 i)).length:Int),0,ts,xs,fs,f.1,f.2.1,f.2.2.1,f.2.2.2.1,f.2.2.2.2.1,f.2.2.2.2.2.1,f.2.2.2.2.2.2,b,m,cN o)=some (.inr (f.2.2.2.2.1,ts,xs,fs,f.1,f.2.1,f.2.2.1,f.2.2.2.1,f.2.2.2.2.1,f.2.2.2.2.2.1,f.2.2.2.2.2.2,b',m',cN (o++p))):=by
 have hle:=h.len.2;have hv:=h.vc;have key:=dM (l:=cN (nx f.2.2.2.2.1 i)) (g:=λq:List (List Int)×List Bool×List Nat=>(.inr (f.2.2.2.2.1,ts,xs,fs,f.1,f.2.1,f.2.2.1,f.2.2.2.1,f.2.2.2.2.1,f.2.2.2.2.2.1,f.2.2.2.2.2.2,q.1,q.2.1,cN (o++q.2.2)):Bool⊕_)) (Out:=λr=>¬vL f.2.2.2.2.1 (fq ts fs f)/\r=.inl false) (Inv:=λj q=>Kn f.2.2.2.2.1 (fq ts fs f) q.1 q.2.1/\Grow b m q.1 q.2.1/\(∀z,z∈q.2.2->T q.2.1 z)/\(∀z,T q.2.1 z->T m z\/z∈q.2.2)/\gq q.2.1+q.2.2.length<=gq m/\∀k,k∈(nx f.2.2.2.2.1 i).take j->T q.2.1 k/\q.1[k]?=some s') (Lf:=λk j q=>iV N k (f.2.2.2.2.1,s',cN (nx f.2.2.2.2.1 i),((cN (nx f.2.2.2.2.1 i)).length:Int),j,ts,xs,fs,f.1,f.2.1,f.2.2.1,f.2.2.2.1,f.2.2.2.2.1,f.2.2.2.2.2.1,f.2.2.2.2.2.2,q.1,q.2.1,cN (o++q.2.2))) (λk q _=>by simp only[iV.eq_2,aO,af]) (λk j y q hy⟨h1,h2,h3,h4,h5,h6⟩=>by
   obtain⟨t,ht,rfl⟩:=Al hy;have hlt:=BM hv (aX ht);have TP:t<q.2.1.length:=by rw[h1.lm];exact hlt
   have hlb:t<q.1.length:=by rw[h1.lb];exact hlt
   have hL:=aC hy;have hj:j<9223372036854775807:=by have:=aC ht;have:=sN f.2.2.2.2.1 i;omega
   have hpt:PS f.2.2.2.2.1 (fq ts fs f) t s':=.step hp hx ha (aX ht);have tk:∀{b':List (List Int)}{m':List Bool},Grow q.1 q.2.1 b' m'->(T m' t/\b'[t]?=some s')->∀k,k∈(nx f.2.2.2.2.1 i).take (j+1)->T m' k/\b'[k]?=some s':=λhg hh k hk'=>by
    rw[take_succ ht,bm,ca]at hk';rcases hk' with hk'|rfl;.obtain⟨g1,g2⟩:=h6 k hk';exact⟨(hg k g1).1,by rw[(hg k g1).2];exact g2⟩
    .exact hh
   rcases MB TP with hb|hb
   .obtain⟨v,v1,v2⟩:=h1.met t hb;have v3:=(h.ps v2).2;simp only[iV.eq_2,aN hL,au,aE hy,ae,cB TP,cB hlb,aj,bd,ai hj,hb,dj,af,v1,To (N:=N) (l:=v) (m:=s') (by omega) (by omega)];by_cases he:v=s';.subst he;refine .inr ⟨q,⟨h1,h2,h3,h4,h5,tk (.refl _ _) ⟨hb,v1⟩⟩,by simp⟩
    .exact .inl ⟨_,⟨λhS=>he (hS.one t v s' v2 hpt),rfl⟩,by rw[aM he,fj,au]⟩
   .have hnT:¬T q.2.1 t:=λhT=>by unfold T at hT;rw[hb]at hT;cases hT
    have hc:=ve hb;have lu:=sO m;rw[hk.lm]at lu;have hr:room ((cN (o++q.2.2)).length+1) 8=true:=ak (by rw[bR,bb];omega) (by omega);have e1:=aw hlb;refine .inr ⟨(q.1.set t s',q.2.1.set t true,q.2.2++[t]),⟨h1.add hlt hnT hpt,h2.trans (.add hnT),λz hz=>?_,λz hz=>?_,?_,tk (.add hnT) ⟨(fk TP).2 (.inl rfl),by simp[hlb]⟩⟩,?_⟩
    .rcases bm.1 hz with hz|hz;.exact(fk TP).2 (.inr (h3 z hz))
     .rw[ca.1 hz];exact(fk TP).2 (.inl rfl)
    .rcases(fk TP).1 hz with rfl|hz;.exact .inr (bm.2 (.inr (ca.2 rfl)))
     .rcases h4 z hz with hz|hz;.exact .inl hz
      .exact .inr (bm.2 (.inl hz))
    .simp only[bb,fa,m6];omega
    .simp only[iV.eq_2,aN hL,au,aE hy,ae,cB TP,cB hlb,aj,bd,ai hj,hb,fj,hr,e1];rw[<-bj,vD (o++q.2.2) [t]];rfl) (k:=N) (s:=(b,m,[])) ⟨hk,.refl _ _,λz hz=>(by cases hz),λz hz=>.inl hz,by simp,λk hk=>by simp at hk⟩ (by rw[bR];have:=sN f.2.2.2.2.1 i;omega);rcases key with⟨r,h1,h2⟩|⟨⟨b',m',p⟩,⟨h1,h2,h3,h4,h5,h6⟩,he⟩;.grind
 .refine .inr ⟨b',m',p,⟨h1,h2,h3,h4,h5,λk hk'=>h6 k (by rw[bR,f4];exact hk')⟩,by simpa using he⟩
structure awf(l:List Instr)(a:Instr->List Int->Option (List Int))(s:List (List Int)×List Bool)(o:List Nat):Prop where
 kn:Kn l a s.1 s.2yX:∀j,j∈o->T s.2 j
 shut:∀j,T s.2 j->j∈o\/Aq l a s.1 s.2 j
 few:gq s.2+o.length<=300
def Tp{N:Nat}(hN:1300<N)(h:Fn ts xs fs f):(∃r:Bool⊕_,(¬vL f.2.2.2.2.1 (fq ts fs f)/\r=.inl false)/\iW N N (f.2.2.2.2.1,ts,xs,fs,f.1,f.2.1,f.2.2.1,f.2.2.2.1,f.2.2.2.2.1,f.2.2.2.2.2.1,f.2.2.2.2.2.2,List.replicate f.2.2.2.2.1.length [],(List.replicate f.2.2.2.2.1.length false).set 0 true,[0])=some r)\/∃b m,(Kn f.2.2.2.2.1 (fq ts fs f) b m/\∀j,T m j->Aq f.2.2.2.2.1 (fq ts fs f) b m j)/\iW N N (f.2.2.2.2.1,ts,xs,fs,f.1,f.2.1,f.2.2.1,f.2.2.2.1,f.2.2.2.2.1,f.2.2.2.2.2.1,f.2.2.2.2.2.2,List.replicate f.2.2.2.2.1.length [],(List.replicate f.2.2.2.2.1.length false).set 0 true,[0])=some (.inr (f.2.2.2.2.1,ts,xs,fs,f.1,f.2.1,f.2.2.1,f.2.2.2.1,f.2.2.2.2.1,f.2.2.2.2.2.1,f.2.2.2.2.2.2,b)):=by
 obtain⟨hpos,hle⟩:=h.len;have hv:=h.vc;have hc0:=sO ((List.replicate f.2.2.2.2.1.length false).set 0 true);simp at hc0;have key:=MH (σ:=List (List Int)×List Bool) (Inv:=awf f.2.2.2.2.1 (fq ts fs f)) (μ:=λs=>gq s.2) (g:=λs=>(.inr (f.2.2.2.2.1,ts,xs,fs,f.1,f.2.1,f.2.2.1,f.2.2.2.1,f.2.2.2.2.1,f.2.2.2.2.2.1,f.2.2.2.2.2.2,s.1):Bool⊕_)) (Out:=λr=>¬vL f.2.2.2.2.1 (fq ts fs f)/\r=.inl false) (Lf:=λk s o=>iW N k (f.2.2.2.2.1,ts,xs,fs,f.1,f.2.1,f.2.2.1,f.2.2.2.1,f.2.2.2.2.1,f.2.2.2.2.2.1,f.2.2.2.2.2.2,s.1,s.2,cN o)) (λk s _=>by rw[show cN []=[]from rfl,iW.eq_2,show decide (((([]:List Int).length:Nat):Int)>0)=false from rfl,af]) (λk s o i hI=>by
  have hi:T s.2 i:=hI.yX i (by simp);have AM:i<f.2.2.2.2.1.length:=by rw[<-hI.kn.lm];exact hi.lt
  have awg:=hI.few;rw[bb,dq]at awg;obtain⟨v,v1,v2⟩:=hI.kn.met i hi;obtain⟨v3,v4⟩:=h.ps v2;have hx:=aw AM;have hm:=aX hx;obtain⟨r,c,e1,e2⟩:=aqn hN h.img h.rng (h.aK hm) (h.near _ hm) v3 (show v.length<=600by omega);have hlen:(cN (o++[i])).length=o.length+1:=by simp[cN]
  have q1:av (((o.length+1:Nat):Int)-1)=(o.length:Int):=by rw[aQ (by omega)];omega
  have q2:(cN (o++[i]))[o.length]?=some (i:Int):=by simp[cN]
  have q3:(cN (o++[i])).take o.length=cN o:=by simp[cN]
  have hib:i<s.1.length:=by rw[hI.kn.lb];exact AM
  simp only[iW.eq_2,hlen,q1,bo (show((o.length+1:Nat):Int)>0 by omega),au,cB (show o.length<o.length+1by omega),aj,bd,q2,ae,show decide ((0:Int)<=(o.length:Int))=true by simp,show decide (o.length<=o.length+1)=true by simp,aE hx,cB hib,v1,e1,aqp h.code hle (show 500<N by omega) AM,show((0:Int)!=0)=false from rfl,q3];cases c with|false=>refine .inl ⟨_,⟨λhS=>?_,rfl⟩,rfl⟩;obtain⟨s',hs'⟩:=hS.go i v _ v2 hx;unfold fq at hs';rw[e2]at hs';cases hs'|true=>
    have ha:fq ts fs f f.2.2.2.2.1[i] v=some r:=e2;simp only[dj,af,ae];rcases Pu hN h (o:=o) hI.kn (by omega) v2 hx ha with⟨z,⟨z1,rfl⟩,z2⟩|⟨b',m',p,⟨g1,g2,g3,g4,g5,g6⟩,g7⟩;.exact .inl ⟨_,⟨z1,rfl⟩,by rw[z2];rfl⟩
    .refine .inr ⟨(b',m'),p,⟨g1,λj hj=>?_,λj hj=>?_,?_⟩,g5,by rw[g7];rfl⟩
     .rcases bm.1 hj with hj|hj;.exact(g2 j (hI.yX j (by simp[hj]))).1
      .exact g3 j hj
     .rcases g4 j hj with hj|hj
      .by_cases hji:j=i;.subst hji;exact .inr ⟨_,v,r,hx,by rw[(g2 j hj).2];exact v1,ha,g6⟩
       .rcases hI.shut j hj with hs|hs
        .rcases bm.1 hs with hs|hs;.exact .inl (bm.2 (.inl hs))
         .exact absurd (ca.1 hs) hji
        .exact .inr (hs.grow hj g2)
      .exact .inl (bm.2 (.inr hj))
     .show gq m'+(o++p).length<=300;rw[bb];omega) N (List.replicate f.2.2.2.2.1.length [],(List.replicate f.2.2.2.2.1.length false).set 0 true) [0] ⟨.start hv,λj hj=>by rw[ca.1 hj];exact(kN hpos 0).2 rfl,λj hj=>by rw[(kN hpos j).1 hj];exact .inl (ca.2 rfl),by simp only[dq];omega⟩ (by simp only[dq];omega);rcases key with⟨r,h1,h2⟩|⟨⟨b,m⟩,hI,he⟩;.exact .inl ⟨r,h1,h2⟩
 .refine .inr ⟨b,m,⟨hI.kn,λj hj=>?_⟩,he⟩;rcases hI.shut j hj with hs|hs<;>grind
def vh(ts:List aB)(fs:List Func)(f:Func):List Int:=(List.range f.2.2.2.2.1.length).map λk=>p7 ts (HN f.2.2.2.2.1 (fq ts fs f) k)
def Fn.Pv(h:Fn ts xs fs f)(k:Nat):MJ ts (HN f.2.2.2.2.1 (fq ts fs f) k)/\(Go.Proofs.YtgdkmdochlhhlaaGreat.HN f.2.2.2.2.1 (fq ts fs f) k).length<=512:=by
 unfold Go.Proofs.YtgdkmdochlhhlaaGreat.HN;split;.rename_i e;exact h.ps e.choose_spec
 .exact⟨λt ht=>(by cases ht),by simp⟩
def Fn.aiw(h:Fn ts xs fs f){y:Int}(hy:y∈vh ts fs f):0<=y/\y<=1000000:=by obtain⟨k,_,rfl⟩:=i5.1 hy;obtain⟨h1,h2⟩:=h.Pv k;have:=h1.p7 h.img;omega
def qw(ts:List aB)(fs:List Func)(f:Func):(vh ts fs f).length=f.2.2.2.2.1.length:=by simp[vh]
def ZE{N:Nat}(hN:1300<N)(h:Fn ts xs fs f):∃r c,SJ N (ts,xs,fs,f.1,f.2.1,f.2.2.1,f.2.2.2.1,f.2.2.2.2.1,f.2.2.2.2.2.1,f.2.2.2.2.2.2)=some (r,c)/\(c=true↔vL f.2.2.2.2.1 (fq ts fs f))/\(c=true->r=vh ts fs f):=by
 obtain⟨hpos,hle⟩:=h.len;have pre:∀X:Bool⊕_,iW N N (f.2.2.2.2.1,ts,xs,fs,f.1,f.2.1,f.2.2.1,f.2.2.2.1,f.2.2.2.2.1,f.2.2.2.2.2.1,f.2.2.2.2.2.2,List.replicate f.2.2.2.2.1.length [],(List.replicate f.2.2.2.2.1.length false).set 0 true,[0])=some X->SJ N (ts,xs,fs,f.1,f.2.1,f.2.2.1,f.2.2.2.1,f.2.2.2.2.1,f.2.2.2.2.2.1,f.2.2.2.2.2.2)=(match X with|.inl o=>some ([],o)|.inr a=>(aK (decide (0<=(a.1.length:Int))) (aK (decide (0<=(a.1.length:Int))) (aK (decide ((Int.toNat (a.1.length:Int))<=(Int.toNat (a.1.length:Int)))&&room (Int.toNat (a.1.length:Int)) 8) ((xb N N (a.1,(a.2.2.2.2.2.2.2.2.2.2.2.length:Int),0,a.2.1,a.2.2.1,a.2.2.2.1,a.2.2.2.2.1,a.2.2.2.2.2.1,a.2.2.2.2.2.2.1,a.2.2.2.2.2.2.2.1,a.2.2.2.2.2.2.2.2.1,a.2.2.2.2.2.2.2.2.2.1,a.2.2.2.2.2.2.2.2.2.2.1,a.2.2.2.2.2.2.2.2.2.2.2,(List.replicate (Int.toNat (a.1.length:Int)) (0:Int)))).bind λp=>(match p with|.inl q=>some ([],q)|.inr c=>(aK (gB (av ((c.1.length:Int)-1)) c.2.1.length) ((c.2.1[(Int.toNat (av ((c.1.length:Int)-1)))]?).bind λr=>some (c.2.2,((r.length:Int)==0)))))))))):=λX hX=>by rw[SJ.eq_1];simp only[bd,show decide ((0:Int)<=(f.2.2.2.2.1.length:Int))=true by simp,aj,bc,pj,f8,ak (show f.2.2.2.2.1.length<=10000000by omega) (show 24<=1000by omega),ak (show f.2.2.2.2.1.length<=10000000by omega) (show 1<=1000by omega),lh,show gB 0 f.2.2.2.2.1.length=true from cB (i:=0) (by omega),show Int.toNat 0=0from rfl,sQ (show 1<=f.2.2.2.2.1.length by omega),ae,hX];rfl
 rcases Tp hN h with⟨r,⟨h1,rfl⟩,h2⟩|⟨b,m,⟨hk,hs⟩,h2⟩;.grind
 .have CQ:=hk.lb;obtain⟨v,⟨hv,hvb⟩,he2⟩:=gx (l:=b) (g:=λv:List Int=>(.inr (f.2.2.2.2.1,b,v):Bool⊕_)) (Inv:=λi v=>v.length=f.2.2.2.2.1.length/\∀k,k<i->v[k]?=some (p7 ts (HN f.2.2.2.2.1 (fq ts fs f) k))) (Lf:=λk i v=>xb N k (f.2.2.2.2.1,(b.length:Int),i,ts,xs,fs,f.1,f.2.1,f.2.2.1,f.2.2.2.1,f.2.2.2.2.1,f.2.2.2.2.2.1,f.2.2.2.2.2.2,b,v)) (λk v _=>by simp only[xb.eq_2,aO,af]) (λk i y v hy⟨hv,hvb⟩=>by
    have hi:=aC hy;have e:=hk.get hs (k:=i) (by omega);rw[hy]at e;obtain⟨o1,o2⟩:=h.Pv i;rw[<-fd e]at o1 o2;have hiv:i<v.length:=by omega
    obtain⟨b1,b2⟩:=o1.p7 h.img;refine⟨v.set i (p7 ts y),⟨by simp[hv],λj hj=>?_⟩,?_⟩
    .by_cases hji:j=i;.subst hji;rw[List.getElem?_set_self hiv,<-fd e]
     .rw[ns,bi (pw hji)];exact hvb j (by omega)
    .simp only[xb.eq_2,aN hi,au,cB hi,aj,bd,hy,ae,JA hN h.img f o1 (show y.length<=1000by omega),show((0:Int)!=0)=false from rfl,af,cB hiv,aw hiv,ai (show i<9223372036854775807by omega),aZ (n:=p7 ts y) (by omega)]) (k:=N) (s:=List.replicate f.2.2.2.2.1.length 0) ⟨by simp,λj hj=>by omega⟩ (by omega);have hvs:v=vh ts fs f:=by
   apply lA;intro k;by_cases hkl:k<f.2.2.2.2.1.length;.rw[hvb k (by omega)];unfold vh<;>grind
   .rw[eI (by omega),eI (by rw[qw];omega)]
  have e1:av ((f.2.2.2.2.1.length:Int)-1)=((f.2.2.2.2.1.length-1:Nat):Int):=vE (by omega) (by omega);rw[CQ]at he2;refine⟨v,decide (HN f.2.2.2.2.1 (fq ts fs f) (f.2.2.2.2.1.length-1)=[]),?_,?_,λ_=>hvs⟩;.rw[pre _ h2];simp[bd,show decide ((0:Int)<=(f.2.2.2.2.1.length:Int))=true by simp,aj,bc,pj,f8,ak (show f.2.2.2.2.1.length<=10000000by omega) (show 8<=1000by omega),CQ,he2,ae,e1,cB (show f.2.2.2.2.1.length-1<f.2.2.2.2.1.length by omega),hk.get hs (show f.2.2.2.2.1.length-1<f.2.2.2.2.1.length by omega)];rw[m7,dk,lw]<;>simp_all
  .rw[dk];exact(hk.ok h.vc hs).symm
end
section
variable{ts:List aB}{xs:List (List UInt8)}{fs:List Func}{f:Func}
def Pw{N:Nat}(hN:1300<N)(h:Fn ts xs fs f){b:List (List Int)}{m:List Bool}{c:Bool}{g:Int}{i:Nat}{x:Instr}{s s':List Int}(hk:Kn f.2.2.2.2.1 (fq ts fs f) b m)(hp:PS f.2.2.2.2.1 (fq ts fs f) i s)(hx:f.2.2.2.2.1[i]?=some x)(ha:fq ts fs f x s=some s'):(∃r:Bool⊕_,(¬vL f.2.2.2.2.1 (fq ts fs f)/\r=.inl false)/\iT N N (g,f.2.2.2.2.1,c,(i:Int),s',cN (nx f.2.2.2.2.1 i),0,ts,xs,fs,b,m)=some r)\/∃b' m' c',(Kn f.2.2.2.2.1 (fq ts fs f) b' m'/\Grow b m b' m'/\(c'=false->c=false/\b'=b/\m'=m)/\gq m'<=gq m/\(c'=true->c=true\/gq m'<gq m)/\∀k,k∈nx f.2.2.2.2.1 i->T m' k/\b'[k]?=some s')/\iT N N (g,f.2.2.2.2.1,c,(i:Int),s',cN (nx f.2.2.2.2.1 i),0,ts,xs,fs,b,m)=some (.inr (g,f.2.2.2.2.1,c',(i:Int),ts,xs,fs,b',m')):=by
 have hv:=h.vc;have key:=dM (l:=cN (nx f.2.2.2.2.1 i)) (g:=λq:List (List Int)×List Bool×Bool=>(.inr (g,f.2.2.2.2.1,q.2.2,(i:Int),ts,xs,fs,q.1,q.2.1):Bool⊕_)) (Out:=λr=>¬vL f.2.2.2.2.1 (fq ts fs f)/\r=.inl false) (Inv:=λj q=>Kn f.2.2.2.2.1 (fq ts fs f) q.1 q.2.1/\Grow b m q.1 q.2.1/\(q.2.2=false->c=false/\q.1=b/\q.2.1=m)/\gq q.2.1<=gq m/\(q.2.2=true->c=true\/gq q.2.1<gq m)/\∀k,k∈(nx f.2.2.2.2.1 i).take j->T q.2.1 k/\q.1[k]?=some s') (Lf:=λk j q=>iT N k (g,f.2.2.2.2.1,q.2.2,(i:Int),s',cN (nx f.2.2.2.2.1 i),j,ts,xs,fs,q.1,q.2.1)) (λk q _=>by simp only[iT.eq_2,aO,af]) (λk j y q hy⟨h1,h2,h3,h4,h5,h6⟩=>by
   obtain⟨t,ht,rfl⟩:=Al hy;have hlt:=BM hv (aX ht);have TP:t<q.2.1.length:=by rw[h1.lm];exact hlt
   have hlb:t<q.1.length:=by rw[h1.lb];exact hlt
   have hL:=aC hy;have hj:j<9223372036854775807:=by have:=aC ht;have:=sN f.2.2.2.2.1 i;omega
   have hpt:PS f.2.2.2.2.1 (fq ts fs f) t s':=.step hp hx ha (aX ht);have tk:∀{b':List (List Int)}{m':List Bool},Grow q.1 q.2.1 b' m'->(T m' t/\b'[t]?=some s')->∀k,k∈(nx f.2.2.2.2.1 i).take (j+1)->T m' k/\b'[k]?=some s':=λhg hh k hk'=>by
    rw[take_succ ht,bm,ca]at hk';rcases hk' with hk'|rfl;.obtain⟨g1,g2⟩:=h6 k hk';exact⟨(hg k g1).1,by rw[(hg k g1).2];exact g2⟩
    .exact hh
   rcases MB TP with hb|hb
   .obtain⟨v,v1,v2⟩:=h1.met t hb;have v3:=(h.ps v2).2;simp only[iT.eq_2,aN hL,au,aE hy,ae,cB TP,cB hlb,aj,bd,ai hj,hb,dj,af,v1,E3 (N:=N) (l:=v) (m:=s') (by omega) (by omega)];by_cases he:v=s';.subst he;refine .inr ⟨q,⟨h1,h2,h3,h4,h5,tk (.refl _ _) ⟨hb,v1⟩⟩,by simp⟩
    .exact .inl ⟨_,⟨λhS=>he (hS.one t v s' v2 hpt),rfl⟩,by rw[aM he,fj,au]⟩
   .have hnT:¬T q.2.1 t:=λhT=>by unfold T at hT;rw[hb]at hT;cases hT
    have hc:=ve hb;have e1:=aw hlb;refine .inr ⟨(q.1.set t s',q.2.1.set t true,true),⟨h1.add hlt hnT hpt,h2.trans (.add hnT),(λe=>by cases e),by simp only;omega,λ_=>.inr (by simp only;omega),tk (.add hnT) ⟨(fk TP).2 (.inl rfl),by simp[hlb]⟩⟩,?_⟩;simp only[iT.eq_2,aN hL,au,af,aE hy,ae,cB TP,cB hlb,aj,bd,ai hj,hb,fj,e1]) (k:=N) (s:=(b,m,c)) ⟨hk,.refl _ _,λe=>⟨e,rfl,rfl⟩,bc _,.inl,λk hk=>by simp at hk⟩ (by rw[bR];have:=sN f.2.2.2.2.1 i;omega);rcases key with⟨r,h1,h2⟩|⟨⟨b',m',c'⟩,⟨h1,h2,h3,h4,h5,h6⟩,he⟩;.grind
 .exact .inr ⟨b',m',c',⟨h1,h2,h3,h4,h5,λk hk'=>h6 k (by rw[bR,f4];exact hk')⟩,he⟩
def Px{N:Nat}(hN:1300<N)(h:Fn ts xs fs f){g:Int}(hf:idx fs g=some f){b:List (List Int)}{m:List Bool}(hk:Kn f.2.2.2.2.1 (fq ts fs f) b m):(∃r:Bool⊕_,(¬vL f.2.2.2.2.1 (fq ts fs f)/\r=.inl false)/\eH N N (g,f.2.2.2.2.1,false,0,ts,xs,fs,b,m)=some r)\/∃b' m' c',(Kn f.2.2.2.2.1 (fq ts fs f) b' m'/\(c'=false->∀j,T m' j->Aq f.2.2.2.2.1 (fq ts fs f) b' m' j)/\(c'=true->gq m'<gq m))/\eH N N (g,f.2.2.2.2.1,false,0,ts,xs,fs,b,m)=some (.inr (g,f.2.2.2.2.1,c',ts,xs,fs,b',m')):=by
 have hle:=h.len.2;have hv:=h.vc;have key:=dM (l:=f.2.2.2.2.1) (g:=λq:List (List Int)×List Bool×Bool=>(.inr (g,f.2.2.2.2.1,q.2.2,ts,xs,fs,q.1,q.2.1):Bool⊕_)) (Out:=λr=>¬vL f.2.2.2.2.1 (fq ts fs f)/\r=.inl false) (Inv:=λj q=>Kn f.2.2.2.2.1 (fq ts fs f) q.1 q.2.1/\(q.2.2=false->q.1=b/\q.2.1=m/\∀i,i<j->T m i->Aq f.2.2.2.2.1 (fq ts fs f) b m i)/\gq q.2.1<=gq m/\(q.2.2=true->gq q.2.1<gq m)) (Lf:=λk j q=>eH N k (g,f.2.2.2.2.1,q.2.2,j,ts,xs,fs,q.1,q.2.1)) (λk q _=>by simp only[eH.eq_2,aO,af]) (λk i x q hx⟨h1,h2,h3,h4⟩=>by
   have hi:=aC hx;have him:i<q.2.1.length:=by rw[h1.lm];exact hi
   have hib:i<q.1.length:=by rw[h1.lb];exact hi
   rcases MB him with hb|hb;.obtain⟨v,v1,v2⟩:=h1.met i hb;obtain⟨v3,v4⟩:=h.ps v2;have hm:=aX hx;obtain⟨r,c,e1,e2⟩:=ait hN h.img hf h.rng (h.aK hm) (h.near _ hm) v3 (show v.length<=600by omega);simp only[eH.eq_2,aN hi,au,cB him,cB hib,aj,bd,hb,ae,dj,af,aE hx,v1,e1,Ap hv hi];cases c with|false=>refine .inl ⟨_,⟨λhS=>?_,rfl⟩,rfl⟩;obtain⟨s',hs'⟩:=hS.go i v _ v2 hx;unfold fq at hs';rw[e2]at hs';cases hs'|true=>
     have ha:fq ts fs f x v=some r:=e2;simp only[dj,af];rcases Pw hN h (c:=q.2.2) (g:=g) h1 v2 hx ha with⟨z,⟨z1,rfl⟩,z2⟩|⟨b',m',c',⟨g1,g2,g3,g4,g5,g6⟩,g7⟩;.exact .inl ⟨_,⟨z1,rfl⟩,by rw[z2];rfl⟩
     .refine .inr ⟨(b',m',c'),⟨g1,λhc=>?_,by simp only;omega,λhc=>?_⟩,by rw[g7];simp only[ae,ai (show i<9223372036854775807by omega)]⟩
      .obtain⟨q1,q2,q3⟩:=g3 hc;obtain⟨q4,q5,q6⟩:=h2 q1;simp only;refine⟨by rw[q2,q4],by rw[q3,q5],λj hj hT=>?_⟩;by_cases hji:j=i;.subst hji;rw[q2,q3,q4,q5]at g6;exact⟨x,v,r,hx,by rw[<-q4];exact v1,ha,g6⟩
       .exact q6 j (by omega) hT
      .rcases g5 hc with hc|hc;.have:=h4 hc;simp only at*;omega
       .simp only at*;omega
   .refine .inr ⟨q,⟨h1,λhc=>?_,h3,h4⟩,by simp only[eH.eq_2,aN hi,au,cB him,aj,bd,hb,ae,fj,ai (show i<9223372036854775807by omega)]⟩;obtain⟨q4,q5,q6⟩:=h2 hc;refine⟨q4,q5,λj hj hT=>?_⟩;by_cases hji:j=i;.subst hji;rw[q5]at hb;unfold T at hT;rw[hb]at hT;cases hT
    .exact q6 j (by omega) hT) (k:=N) (s:=(b,m,false)) ⟨hk,λ_=>⟨rfl,rfl,λi hi=>by omega⟩,bc _,λe=>by cases e⟩ (by omega);rcases key with⟨r,h1,h2⟩|⟨⟨b',m',c'⟩,⟨h1,h2,h3,h4⟩,he⟩;.grind
 .refine .inr ⟨b',m',c',⟨h1,λhc j hj=>?_,h4⟩,he⟩;obtain⟨g1,g2,g3⟩:=h2 hc;simp at g1 g2;rw[g1,g2];rw[g2]at hj;exact g3 j (by rw[<-hk.lm];exact hj.lt) hj
def MP{N:Nat}(hN:1300<N)(h:Fn ts xs fs f){g:Int}(hf:idx fs g=some f):∃r c,OI N (ts,xs,fs,g)=some (r,c)/\(c=true↔vL f.2.2.2.2.1 (fq ts fs f))/\(c=true->r=(List.range f.2.2.2.2.1.length).map (HN f.2.2.2.2.1 (fq ts fs f))):=by
 obtain⟨hpos,hle⟩:=h.len;have hc0:=sO ((List.replicate f.2.2.2.2.1.length false).set 0 true);simp at hc0;have key:=EU (σ:=List (List Int)×List Bool) (Inv:=λs=>Kn f.2.2.2.2.1 (fq ts fs f) s.1 s.2) (FM:=λs=>∀j,T s.2 j->Aq f.2.2.2.2.1 (fq ts fs f) s.1 s.2 j) (μ:=λs=>gq s.2) (g:=λs=>(.inr (f.2.2.2.2.1,s.1):Bool⊕_)) (Out:=λr=>¬vL f.2.2.2.2.1 (fq ts fs f)/\r=.inl false) (Lf:=λk c s=>jL N k (g,f.2.2.2.2.1,c,ts,xs,fs,s.1,s.2)) (λk s _ _=>by rw[jL.eq_2];rfl) (λk s hI=>by
   rcases Px hN h hf hI with⟨z,⟨z1,rfl⟩,z2⟩|⟨b',m',c',⟨g1,g2,g3⟩,g4⟩;.exact .inl ⟨_,⟨z1,rfl⟩,by rw[jL.eq_2,au,z2];rfl⟩
   .exact .inr ⟨(b',m'),c',g1,g2,g3,by rw[jL.eq_2,au,g4];rfl⟩) N (List.replicate f.2.2.2.2.1.length [],(List.replicate f.2.2.2.2.1.length false).set 0 true) (.start h.vc) (by simp only;omega);rw[OI.eq_1,hf];simp only[ae,bd,show decide ((0:Int)<=(f.2.2.2.2.1.length:Int))=true by simp,aj,bc,pj,f8,ak (show f.2.2.2.2.1.length<=10000000by omega) (show 24<=1000by omega),ak (show f.2.2.2.2.1.length<=10000000by omega) (show 1<=1000by omega),lh,show gB 0 f.2.2.2.2.1.length=true from cB (i:=0) (by omega),show Int.toNat 0=0from rfl,sQ (show 1<=f.2.2.2.2.1.length by omega)];rcases key with⟨r,⟨h1,rfl⟩,h2⟩|⟨⟨b,m⟩,hk,hs,h2⟩;.simp_all
 .have e1:av ((f.2.2.2.2.1.length:Int)-1)=((f.2.2.2.2.1.length-1:Nat):Int):=vE (by omega) (by omega);have CQ:=hk.lb;simp at CQ hk hs;refine⟨b,decide (HN f.2.2.2.2.1 (fq ts fs f) (f.2.2.2.2.1.length-1)=[]),?_,?_,λ_=>hk.eq hs⟩;.rw[h2];simp[ae,e1,cB (show f.2.2.2.2.1.length-1<b.length by omega),aj,bd,hk.get hs (show f.2.2.2.2.1.length-1<f.2.2.2.2.1.length by omega)];rw[m7,dk,lw]<;>simp_all
  .rw[dk];exact(hk.ok h.vc hs).symm
end
structure RI(s:List fA)(i:Int)(y:Int):Prop where
 pos:0<s.length
 zero:(rn s 0).1=0inc:∀j,j+1<s.length->(rn s j).1<(rn s (j+1)).1/\(rn s j).2≠(rn s (j+1)).2low:∀j,j<s.length->(rn s j).1<i
 last:(rn s (s.length-1)).2=y
def RI.mono{s:List fA}{i j y:Int}(h:RI s i y)(hij:i<=j):RI s j y:=⟨h.pos,h.zero,h.inc,λk hk=>Int.lt_of_lt_of_le (h.low k hk) hij,h.last⟩
def y9{s:List fA}{x:fA}{j:Nat}(h:j<s.length):rn (s++[x]) j=rn s j:=by unfold rn<;>grind
def JB{s:List fA}{x:fA}:rn (s++[x]) s.length=x:=by unfold rn<;>grind
def RI.one(x:Int):RI [(0,x)] 1 x:=by
 refine⟨by simp,rfl,λj hj=>by simp at hj,λj hj=>?_,rfl⟩;simp at hj;have:j=0:=by omega
 subst this;show(0:Int)<1;decide
def RI.snoc{s:List fA}{i y x:Int}(h:RI s i y)(hx:x≠y):RI (s++[(i,x)]) (i+1) x:=by
 have hp:=h.pos;refine⟨by simp,by rw[y9 hp];exact h.zero,λj hj=>?_,λj hj=>?_,by rw[bb,dq,Nat.add_sub_cancel,JB]⟩
 .simp at hj;by_cases he:j+1=s.length
  .rw[he,JB,y9 (by omega)];have e:j=s.length-1:=by omega
   refine⟨h.low j (by omega),λhh=>hx ?_⟩;rw[<-h.last,<-e,hh]
  .rw[y9 (by omega),y9 (by omega)];exact h.inc j (by omega)
 .simp at hj;by_cases he:j=s.length;.subst he;rw[JB]<;>grind
  .rw[y9 (by omega)];have:=h.low j (by omega);omega
def RI.ok{s:List fA}{i y:Int}(h:RI s i y):ee s i:=⟨h.pos,h.zero,h.inc,h.low⟩
def Cw(v:List Int):Nat->List fA|0=>[]|i+1=>if i=0\/v.getD i 0≠v.getD (i-1) 0then Cw v i++[((i:Int),v.getD i 0)]else Cw v i
def za(v:List Int):List fA:=Cw v v.length
def JC(v:List Int):∀i,(Cw v i).length<=i|0=>by simp[Cw]|i+1=>by have:=JC v i;unfold Cw<;>grind
def JD{v:List Int}:∀{i:Nat},i<=v.length->∀{x:fA},x∈Cw v i->x.2∈v
 |0,_,x,hx=>by simp[Cw]at hx|i+1,hi,x,hx=>by
  unfold Cw at hx;split at hx
  .rcases bm.1 hx with hx|hx;.exact JD (by omega) hx
   grind
  .exact JD (by omega) hx
def ZF(v:List Int):∀i:Nat,RI (Cw v (i+1)) ((i+1:Nat):Int) (v.getD i 0)
 |0=>by
  have e:Cw v 1=[]++[(((0:Nat):Int),v.getD 0 0)]:=by unfold Cw;rfl
  exact RI.one _|i+1=>by
  have h:=ZF v i;have e:Cw v (i+2)=if v.getD (i+1) 0≠v.getD i 0then Cw v (i+1)++[(((i+1:Nat):Int),v.getD (i+1) 0)]else Cw v (i+1):=by rw[Cw];simp
  rw[e];split;.rename_i hne;exact h.snoc hne
  .rename_i heq;rw[Decidable.not_not]at heq;rw[heq];exact h.mono (by omega)
def ZG{v:List Int}(h:1<=v.length):ee (za v) (v.length:Int):=by obtain⟨n,hn⟩:∃n,v.length=n+1:=⟨v.length-1,by omega⟩;have:=(ZF v n).ok;unfold za<;>grind
def QY{v:List Int}{x:fA}(h:x∈za v):x.2∈v:=JD (bc _) h
def zb{α:Type}{l:List α}{i:Nat}{x d:α}(h:l[i]?=some x):l.getD i d=x:=by grind
def MQ{N:Nat}{v:List Int}(hN:500<N)(h1:1<=v.length)(h2:v.length<=200):SM N v=some (za v,0):=by rw[SM.eq_1,SF.eq_1];have e1:decide ((v.length:Int)<1)=false:=bv (by omega);have e2:decide ((v.length:Int)>200)=false:=bv (by omega);simp[e1,e2,af,ae,show((0:Int)!=0)=false from rfl];obtain⟨s,hs,he⟩:=gx (l:=v) (g:=λs:List fA=>s) (Inv:=λi s=>s=Cw v i) (Lf:=λk i s=>xd N k (v,s,(v.length:Int),i)) (λk s _=>by simp only[xd.eq_2,aO,af]) (λk i x s hx hs=>by
   have hi:=aC hx;have hl:=JC v i;rw[<-hs]at hl;have hroom:room (s.length+1) 16=true:=ak (by omega) (by omega);have hg:v.getD i 0=x:=zb hx;refine⟨_,rfl,?_⟩;simp only[xd.eq_2,aN hi,au,aE hx,ae,ai (show i<9223372036854775807by omega)];by_cases h0:i=0;.subst h0;rw[show decide (((0:Nat):Int)>0)=false from rfl];simp only[af,ae,hroom,aj];rw[Cw,ba (.inl rfl),hg,<-hs]
   .have hw:av ((i:Int)-1)=((i-1:Nat):Int):=by rw[aQ (by omega)];omega
    have hy:=aw (l:=v) (i:=i-1) (by omega);have hgy:v.getD (i-1) 0=v[i-1]:=zb hy;rw[aT (show(i:Int)>0 by omega)];simp only[au,hw,aE hy,ae];by_cases hxy:x=v[i-1];.rw[show(x==v[i-1])=true from lw.2 hxy];simp only[au];rw[Cw,bi (by rw[hg,hgy];intro h;rcases h with h|h;exact h0 h;exact h hxy),<-hs]
    .rw[show(x==v[i-1])=false from ma.2 hxy];simp only[af,hroom,aj];rw[Cw,ba (.inr (by rw[hg,hgy];exact hxy)),hg,<-hs]) (k:=N) (s:=[]) rfl (by omega);rw[he,hs];rfl
def aeF{N:Nat}{v:List Int}(hN:500<N)(h2:v.length<=200):LJ N v=some (za v):=by rw[LJ.eq_1];obtain⟨s,hs,he⟩:=gx (l:=v) (g:=λs:List fA=>s) (Inv:=λi s=>s=Cw v i) (Lf:=λk i s=>s6 N k (v,s,i)) (λk s _=>by simp only[s6.eq_2,aO,af]) (λk i x s hx hs=>by
   have hi:=aC hx;have hl:=JC v i;rw[<-hs]at hl;have hroom:room (s.length+1) 16=true:=ak (by omega) (by omega);have hg:v.getD i 0=x:=zb hx;refine⟨_,rfl,?_⟩;simp only[s6.eq_2,aN hi,au,aE hx,ae,ai (show i<9223372036854775807by omega)];by_cases h0:i=0;.subst h0;rw[show(((0:Nat):Int)==0)=true from rfl];simp only[au,ae,hroom,aj];rw[Cw,ba (.inl rfl),hg,<-hs]
   .have hw:av ((i:Int)-1)=((i-1:Nat):Int):=by rw[aQ (by omega)];omega
    have hy:=aw (l:=v) (i:=i-1) (by omega);have hgy:v.getD (i-1) 0=v[i-1]:=zb hy;rw[show((i:Int)==0)=false by rw[ma];omega];simp only[af,hw,aE hy,ae];by_cases hxy:x=v[i-1];.rw[show(x !=v[i-1])=false by simp[hxy]];simp only[af];rw[Cw,bi (by rw[hg,hgy];intro h;rcases h with h|h;exact h0 h;exact h hxy),<-hs]
    .rw[show(x !=v[i-1])=true by simp[bne,hxy]];simp only[au,hroom,aj];rw[Cw,ba (.inr (by rw[hg,hgy];exact hxy)),hg,<-hs]) (k:=N) (s:=[]) rfl (by omega);rw[he,hs];rfl
def fO{α:Type}(p:Nat->α->Int):Nat->List α->Option (Nat×Int)|_,[]=>none|i,x::r=>if p i x≠0then some (i,p i x)else fO p (i+1) r
def qx{α:Type}{p:Nat->α->Int}:∀{l:List α}{i:Nat},fO p i l=none->∀(j:Nat)x,l[j]?=some x->p (i+j) x=0
 |[],_,_,j,x,hx=>by grind|y::r,i,h,j,x,hx=>by
  unfold fO at h;split at h;.cases h
  .rename_i hp;cases j with|zero=>grind|succ j=>have:=qx h j x hx<;>grind
def As{α:Type}{p:Nat->α->Int}:∀{l:List α}{i:Nat}{r:Nat×Int},fO p i l=some r->r.2≠0
 |[],_,_,h=>by cases h|y::r,i,q,h=>by
  unfold fO at h;split at h;.grind
  .exact As h
def sU{α β:Type}{l:List α}{p:Nat->α->Int}{a:β}{out:Int->Int->β}{Lf:Nat->Int->Option β}(h0:∀k,Lf (k+1) (l.length:Int)=some a)(hs:∀k(i:Nat)x,l[i]?=some x->Lf (k+1) (i:Int)=if p i x≠0then some (out (i:Int) (p i x))else Lf k ((i+1:Nat):Int)){k:Nat}(hk:l.length<k):Lf k 0=some ((fO p 0 l).elim a λr=>out (r.1:Int) r.2):=by
 have key:∀k(i:Nat),i<=l.length->l.length-i<k->Lf k (i:Int)=some ((fO p i (l.drop i)).elim a λr=>out (r.1:Int) r.2):=by intro k;induction k with|zero=>omega|succ k ih=>
   intro i hi hk;by_cases he:i=l.length;.subst he;rw[h0,ss];rfl
   .have hlt:i<l.length:=by omega
    rw[hs k i _ (aw hlt),gg hlt,fO];split;.rfl
    .exact ih (i+1) (by omega) (by omega)
 exact key k 0 (by omega) (by omega)
def ZH(l:List Instr)(p s:Nat):List Nat:=if h:∃G,ET l (2^p-1) (2^s-1) G then qt l h.choose else[]
def MS{l:List Instr}{p s:Nat}{G H:Nat->Nat}(hG:ET l (2^p-1) (2^s-1) G)(hs:Sol l (2^p-1) H)(hm:∀S,Sol l (2^p-1) S->(∀k,sub (S k) (2^s-1))->∀k,Reach l k->sub (S k) (H k)):qt l H=ZH l p s:=by unfold ZH;have e:∃G,ET l (2^p-1) (2^s-1) G:=⟨G,hG⟩;rw[dif_pos e];exact(MG λk hk=>e.choose_spec.eq hs hm hk).symm
def Au(l:List Instr)(i:Nat):Prop:=Reach l i\/i=l.length-1
def sW(ts:List aB)(xs:List (List UInt8))(fs:List Func)(f:Func)(i:Nat)(x:Instr):Int:=if n7 xs.length (gj fs) f.2.2.2.1 x then(if Au f.2.2.2.2.1 i then(if MM ts (gj fs) f.2.2.2.1 f.2.2.1 x=true then 0 else 30)else 6)else 16
def rM(ms:List Nat)(i:Nat)(x:Instr):Int:=if∀s,s∈bw ng x->(O ms i).testBit s.toNat=true then 0 else 38
def cO(f:Func):List Nat:=ZH f.2.2.2.2.1 f.2.1.toNat f.2.2.2.1.length
abbrev Found:=List fA×List fA×Int×Int
def gm(ts:List aB)(xs:List (List UInt8))(fs:List Func)(f:Func)(g:Int):Found:=if ko f.2.2.2.2.1=true then if g=0/\(0<f.2.1\/0<=f.2.2.1)then([],[],-1,30)else(fO (sW ts xs fs f) 0 f.2.2.2.2.1).elim (if vL f.2.2.2.2.1 (fq ts fs f)then(fO (rM (cO f)) 0 f.2.2.2.2.1).elim (za (vh ts fs f),za (cN (cO f)),0,0) λr=>([],[],(r.1:Int),r.2)else([],[],-1,36)) λr=>([],[],(r.1:Int),r.2)else([],[],-1,12)
def Tq{l:List Instr}(hp:1<=l.length){k:Nat}(hk:k<l.length):((eV l).set (l.length-1) true)[k]?=some (decide (Au l k)):=by
 rw[ns,sP];by_cases h:l.length-1=k;.rw[ba h,ba (by omega),aT (.inr h.symm)]
 .rw[bi h,kY hk];congr 1;exact ka.2 ⟨.inl,λh'=>h'.resolve_right λe=>h e.symm⟩
def E5{n:Nat}{l:List Int}(h:∀s,s∈l->0<=s/\s<n):∀{m:Nat},m<2^n->gV m l<2^n:=by unfold gV;induction l with|nil=>grind|cons s r ih=>intro m hm;refine ih (λx hx=>h x (db _ hx)) ?_;have:=h s cb;exact sa hm (nn (by omega) (by omega))
section
variable{ts:List aB}{xs:List (List UInt8)}{fs:List Func}{f:Func}
def Fn.fits(h:Fn ts xs fs f):MC f.2.2.2.2.1 f.2.1 (f.2.2.2.1.length:Int)=0:=by
 have FK:=h.ok.2.1;have hp:=h.ok.2.2.2.1;have:oq f.2.2.2.2.1 (f.2.2.2.1.length:Int).toNat=true:=by unfold oq;rw[d7,sd];intro x hx;have hn:=(h.near x hx).1;have hs:=(E0 (h.aK hx)).2;have hlt:usN x<2^f.2.2.2.1.length:=E5 (λs hs'=>by have:=hn s (bm.2 (.inr hs'));have:=hs s (bm.2 (.inr hs'));omega) (E5 (λs hs'=>by have:=hn s (bm.2 (.inl hs'));have:=hs s (bm.2 (.inl hs'));omega) (Nat.two_pow_pos _));grind
 unfold MC<;>grind
def JE{N:Nat}(hN:14000000<N)(h:Fn ts xs fs f):L8 N (f.2.2.2.2.1,f.2.1,(f.2.2.2.1.length:Int))=some (cN (cO f),0)/\(cO f).length=f.2.2.2.2.1.length/\∀k,O (cO f) k<2^64:=by
 have hl:=h.len;have key:=Zz (N:=N) hN (l:=f.2.2.2.2.1) (by omega) (λ_=>hl.2) f.2.1 (f.2.2.2.1.length:Int);rw[ba h.code,ba h.fits]at key;obtain⟨G,hVM,hG,he⟩:=key;have e:qt f.2.2.2.2.1 G=cO f:=MS hG hG.sol λS hS _ k hk=>hG.most S hS k hk;rw[e]at he;refine⟨he,by rw[<-e,Ao],λk=>?_⟩;rw[<-e];by_cases hk:k<f.2.2.2.2.1.length;.rw[HM hk];have:=hVM.lt (hG.Nl k)<;>grind
 .unfold O;rw[da,eI (by rw[Ao];omega)]<;>grind
def ZI{N:Nat}(hN:14000000<N)(h:Fn ts xs fs f):LU N (f.2.2.2.2.1,f.2.1,(f.2.2.2.1.length:Int))=some (cN (cO f)):=by have hl:=h.len;have key:=Zz (N:=N) hN (l:=f.2.2.2.2.1) (by omega) (λ_=>hl.2) f.2.1 (f.2.2.2.1.length:Int);rw[ba h.code,ba h.fits]at key;obtain⟨G,hVM,hG,_⟩:=key;rw[bd]at hG hVM;obtain⟨H,h1,h2,h3⟩:=acs hVM hN;rw[rm (by have:=h.ok.2.2.2.1;omega)]at h3;rw[h3,MS hG h1 h2];rfl
theorem awi{m:Nat}{s:Int}(hm:m<2^64)(h0:0<=s)(hs:s<=15):((vI .u64 (Int.fdiv (m:Int) (2^min (Int.toNat s) 64)) 1)==0)=!(m.testBit s.toNat):=by rw[rf (by omega),show((2:Int)^s.toNat)=((2^s.toNat:Nat):Int)by rw[Int.natCast_pow];rfl,yN,show(1:Int)=((1:Nat):Int)from rfl,ER (Nat.lt_of_le_of_lt (Nat.div_le_self _ _) hm) (by omega),Nat.and_one_is_mod]<;>grind
theorem awj{m:Nat}{s:Int}(h0:0<=s)(hs:s<=15):((Int.tmod (Int.fdiv (m:Int) (2^min (Int.toNat s) 64)) 2)==0)=!(m.testBit s.toNat):=by grind
def aqr{N:Nat}(hN:14000000<N)(hv:iE ts xs fs){g:Int}(hf:idx fs g=some f):Yk N (ts,xs,fs,g)=some (gm ts xs fs f g):=by
 obtain⟨g0,nK⟩:=uv hf;have hok:=hv.get nK;obtain⟨hpos,hle⟩:=hok.2.2.2.2.2.2.1;have Tt:=hok.2.2.2.2.2.2.2.1;unfold gm;rw[Yk.eq_1,hf];simp[ae,aii (N:=N) (l:=f.2.2.2.2.1) (by omega) (by omega)];by_cases hval:ko f.2.2.2.2.1=true;case neg=>grind
 rw[ba hval,ba hval];by_cases MT:g=0/\(0<f.2.1\/0<=f.2.2.1);.grind
 rw[bi MT];have hmn:(bif g==(0:Int)then(bif decide (f.2.1>0)then some true else some (decide (f.2.2.1>=0)))else some false:Option Bool)=some false:=by grind
 rw[hmn];have l1:=sU (l:=f.2.2.2.2.1) (p:=sW ts xs fs f) (a:=(.inr (f.2.2.2.2.1,0,0,ts,xs,fs,f.1,f.2.1,f.2.2.1,f.2.2.2.1,f.2.2.2.2.1,f.2.2.2.2.2.1,f.2.2.2.2.2.2):(Int×Int)⊕_)) (out:=λi e=>.inl (i,e)) (Lf:=λk i=>Or N k (f.2.2.2.2.1,(eV f.2.2.2.2.1).set (f.2.2.2.2.1.length-1) true,f.2.2.2.2.1,(f.2.2.2.2.1.length:Int),i,0,0,ts,xs,fs,f.1,f.2.1,f.2.2.1,f.2.2.2.1,f.2.2.2.2.1,f.2.2.2.2.2.1,f.2.2.2.2.2.2)) (λk=>by simp only[Or.eq_2,aO,af]) (λk i x hx=>by
   have hi:=aC hx;have hc:=Tt x (aX hx);simp only[Or.eq_2,aN hi,au,aE hx,ae,aqj (show 1300<N by omega) f hc,ai (show i<9223372036854775807by omega)];unfold sW;by_cases hn:n7 xs.length (gj fs) f.2.2.2.1 x
   .simp only[ba hn,show((0:Int)!=0)=false from rfl,af,aE (Tq hpos hi),ae];by_cases hr:Au f.2.2.2.2.1 i;.simp only[aT hr,dj,af,ba hr,aio (show 1300<N by omega) hv hok hc hn,ae];cases MM ts (gj fs) f.2.2.2.1 f.2.2.1 x<;>rfl
    .simp only[aM hr,fj,au,bi hr];rfl
   .simp only[bi hn];rfl) (k:=N) (by omega);simp[l1,ae];cases he:fO (sW ts xs fs f) 0 f.2.2.2.2.1with
 |some r=>rfl
 |none=>have hz:=qx he;have hfn:Fn ts xs fs f:=⟨hv,hok,hval,λx hx=>by
   obtain⟨i,hi,rfl⟩:=im.1 hx;have:=hz i _ (aw hi);unfold sW at this;split at this;.assumption
   .cases this⟩;obtain⟨r,c,s1,s2,s3⟩:=ZE (show 1300<N by omega) hfn;obtain⟨m1,m2,m3⟩:=JE hN hfn;simp[wl,s1,ae];cases c with|false=>grind|true=>
   rw[ba (s2.1 rfl),s3 rfl];simp[dj,af,m1,ae,show((0:Int)!=0)=false from rfl];have l3:∀(i:Nat)x,f.2.2.2.2.1[i]?=some x->zW N N (vh ts fs f,cN (cO f),(i:Int),0,f.2.2.2.2.1,(f.2.2.2.2.1.length:Int),(i:Int),bw ng x,((bw ng x).length:Int),0,0,0)=some (if rM (cO f) i x≠0then .inl ((i:Int),38)else .inr (vh ts fs f,cN (cO f),f.2.2.2.2.1,(f.2.2.2.2.1.length:Int),(i:Int),0,0)):=λi x hx=>by
    have hi:=aC hx;have h15:=(p4 (Tt x (aX hx))).1;have hms:(cN (cO f))[i]?=some ((O (cO f) i:Nat):Int):=ir (by omega);have hrl:=kZ ng x;have:=gw (l:=bw ng x) (a:=(.inr (vh ts fs f,cN (cO f),f.2.2.2.2.1,(f.2.2.2.2.1.length:Int),(i:Int),0,0):(Int×Int)⊕_)) (b:=.inl ((i:Int),38)) (p:=λs=>!((O (cO f) i).testBit s.toNat)) (Lf:=λk j=>zW N k (vh ts fs f,cN (cO f),(i:Int),0,f.2.2.2.2.1,(f.2.2.2.2.1.length:Int),(i:Int),bw ng x,((bw ng x).length:Int),j,0,0)) (λk _=>by simp only[zW.eq_2,aO,af]) (λk j s hs hm=>by have hj:=aC hs;obtain⟨b0,b1⟩:=h15 s hm;simp only[zW.eq_2,aN hj,au,aE hs,ae,show((0:Int)!=0)=false from rfl,af,aE hms,show(!decide (s<0))=true by simp;omega,aj,awi (m3 i) b0 b1,ai (show j<9223372036854775807by omega)];cases(O (cO f) i).testBit s.toNat<;>rfl) (k:=N) (by omega);rw[this];unfold rM;by_cases hall:∀s,s∈bw ng x->(O (cO f) i).testBit s.toNat=true;.rw[ba hall,bi (λ⟨s,h1,h2⟩=>by rw[hall s h1]at h2;cases h2),bi (by decide)]
    .have hex:∃s,s∈bw ng x/\(!((O (cO f) i).testBit s.toNat))=true:=by rw[Classical.not_forall]at hall;obtain⟨s,hs⟩:=hall;rw[Classical.not_imp]at hs;exact⟨s,hs.1,by rw[d7];exact pC.2 hs.2⟩
     rw[ba hex,bi hall,ba (show(38:Int)≠0 by decide)]
   have l2:=sU (l:=f.2.2.2.2.1) (p:=rM (cO f)) (a:=(.inr (vh ts fs f,cN (cO f),0,0):(Int×Int)⊕_)) (out:=λi e=>.inl (i,e)) (Lf:=λk i=>zX N k (vh ts fs f,cN (cO f),f.2.2.2.2.1,(f.2.2.2.2.1.length:Int),i,0,0)) (λk=>by simp only[zX.eq_2,aO,af]) (λk i x hx=>by
     have hi:=aC hx;simp only[zX.eq_2,aN hi,au,aE hx,ae,Pc,Tt x (aX hx),l3 i x hx];by_cases hz:rM (cO f) i x=0;.simp only[bi (show¬rM (cO f) i x≠0fromλh=>h hz),ai (show i<9223372036854775807by omega)]
     .have e38:rM (cO f) i x=38:=by
       unfold rM at hz⊢;split at hz;.exact absurd rfl hz
       .rename_i h;rw[bi h]
      simp only[ba (show rM (cO f) i x≠0from hz)];rw[e38]) (k:=N) (by omega);rw[l2];cases fO (rM (cO f)) 0 f.2.2.2.2.1with|some r=>rfl|none=>simp[wl,ae,MQ (N:=N) (v:=vh ts fs f) (by omega) (by rw[qw];omega) (by rw[qw];omega),MQ (N:=N) (v:=cN (cO f)) (by omega) (by rw[bR];omega) (by rw[bR];omega),show((0:Int)==0)=true from rfl,au]
end
section
variable{ts:List aB}{xs:List (List UInt8)}{fs:List Func}{f:Func}
def iE.fits(hv:iE ts xs fs){i:Nat}(h:fs[i]?=some f):u7 f:=hv.fit.1.2.2.2.2 f (aX h)
def instrR{N:Nat}(hN:1300<N)(hv:iE ts xs fs){g:Int}(hf:idx fs g=some f)(hok:fG ts.length f){i:Nat}{x:Instr}(hx:f.2.2.2.2.1[i]?=some x)(r:Bool):Sx N (ts,xs,fs,g,(i:Int),r)=some (if n7 xs.length (gj fs) f.2.2.2.1 x then(if r=true then(if MM ts (gj fs) f.2.2.2.1 f.2.2.1 x=true then 0 else 30)else 6)else 16):=by
 have hc:=hok.2.2.2.2.2.2.2.1 x (aX hx);rw[Sx.eq_1,hf];simp only[ae,aE hx,aqk hN hf hc];by_cases hn:n7 xs.length (gj fs) f.2.2.2.1 x;.rw[aT hn,ba hn,dj];cases r with|false=>rfl|true=>rw[aip hv hok hc hn hf]<;>grind
 grind
def aix{N:Nat}(hN:14000000<N)(hv:iE ts xs fs){g:Int}(hf:idx fs g=some f):WK N (ts,xs,fs,g)=some ((gm ts xs fs f g).2.2.1,(gm ts xs fs f g).2.2.2):=by
 obtain⟨g0,nK⟩:=uv hf;have hok:=hv.get nK;have hfit:=hv.fits nK;obtain⟨hpos,hle⟩:=hok.2.2.2.2.2.2.1;have Tt:=hok.2.2.2.2.2.2.2.1;unfold gm;rw[WK.eq_1,hf];simp[ae,Pm (N:=N) (l:=f.2.2.2.2.1) (by omega) (by omega) hfit.2.2.2.2.1];by_cases hval:ko f.2.2.2.2.1=true;case neg=>grind
 rw[ba hval,hval];have hvc:=yW hval;have hp0:=hok.2.2.2.1.1;have hr0:=hok.2.2.2.2.1.1;by_cases MT:g=0/\(0<f.2.1\/0<=f.2.2.1);.grind
 rw[bi MT];have hmn:(bif g==(0:Int)then(bif f.2.1!=0then some true else some (f.2.2.1!=-1))else some false:Option Bool)=some false:=by
  by_cases h0:g=0;.rw[show(g==(0:Int))=true by simpa using h0,au,dL];congr 1;grind
  grind
 rw[hmn];simp[ae,af,ZB hvc (show 500<N by omega),vE hpos (show f.2.2.2.2.1.length<=10000000by omega)];have l1:=sU (l:=f.2.2.2.2.1) (p:=sW ts xs fs f) (a:=(.inr (g,ts,xs,fs,f.1,f.2.1,f.2.2.1,f.2.2.2.1,f.2.2.2.2.1,f.2.2.2.2.2.1,f.2.2.2.2.2.2):(Int×Int)⊕_)) (out:=λi e=>.inl (i,e)) (Lf:=λk i=>Hm N k (g,eV f.2.2.2.2.1,((f.2.2.2.2.1.length-1:Nat):Int),i,ts,xs,fs,f.1,f.2.1,f.2.2.1,f.2.2.2.1,f.2.2.2.2.1,f.2.2.2.2.2.1,f.2.2.2.2.2.2)) (λk=>by simp only[Hm.eq_2,aO,af]) (λk i x hx=>by
   have hi:=aC hx;simp only[Hm.eq_2,aN hi,au,aE (kY hi),ae,instrR (show 1300<N by omega) hv hf hok hx,ai (show i<9223372036854775807by omega),zY];have key:(bif decide (Reach f.2.2.2.2.1 i)then(if n7 xs.length (gj fs) f.2.2.2.1 x then(if True then(if MM ts (gj fs) f.2.2.2.1 f.2.2.1 x=true then 0 else 30)else 6)else 16:Int)else(if n7 xs.length (gj fs) f.2.2.2.1 x then(if((i:Int)==((f.2.2.2.2.1.length-1:Nat):Int))=true then(if MM ts (gj fs) f.2.2.2.1 f.2.2.1 x=true then 0 else 30)else 6)else 16:Int))=sW ts xs fs f i x:=by
    by_cases h1:Reach f.2.2.2.2.1 i;.rw[aT h1,au];unfold sW;rw[ba (show Au f.2.2.2.2.1 i from .inl h1),ba trivial]
    .rw[aM h1,af];unfold sW;by_cases h2:i=f.2.2.2.2.1.length-1;.rw[ba (show Au f.2.2.2.2.1 i from .inr h2),ba (show((i:Int)==((f.2.2.2.2.1.length-1:Nat):Int))=true by rw[lw];omega)]
     .rw[bi (show¬Au f.2.2.2.2.1 i fromλh=>h.elim h1 h2),bi (show¬((i:Int)==((f.2.2.2.2.1.length-1:Nat):Int))=true by rw[lw];omega)]
   rw[key];by_cases hz:sW ts xs fs f i x=0;.rw[bi (λh=>h hz),show(sW ts xs fs f i x !=0)=false by simp[hz],af]
   .rw[ba hz,show(sW ts xs fs f i x !=0)=true by simp[bne,hz],au]) (k:=N) (by omega);simp[l1,ae];cases he:fO (sW ts xs fs f) 0 f.2.2.2.2.1with
 |some r=>rfl
 |none=>have hz:=qx he;have hfn:Fn ts xs fs f:=⟨hv,hok,hval,λx hx=>by
   obtain⟨i,hi,rfl⟩:=im.1 hx;have:=hz i _ (aw hi);unfold sW at this;split at this;.assumption
   .cases this⟩;obtain⟨r,c,s1,s2,s3⟩:=MP (show 1300<N by omega) hfn hf;have m1:=ZI hN hfn;obtain⟨_,m2,m3⟩:=JE hN hfn;simp[wl,s1,ae];cases c with|false=>grind|true=>
   rw[ba (s2.1 rfl)];simp[dj,af,m1,ae];have l3:∀(i:Nat)x,f.2.2.2.2.1[i]?=some x->uS N N (cN (cO f),(i:Int),bw ng x,0,f.1,f.2.1,f.2.2.1,f.2.2.2.1,f.2.2.2.2.1,f.2.2.2.2.2.1,f.2.2.2.2.2.2)=some (if rM (cO f) i x≠0then .inl ((i:Int),38)else .inr (cN (cO f),(i:Int),f.1,f.2.1,f.2.2.1,f.2.2.2.1,f.2.2.2.2.1,f.2.2.2.2.2.1,f.2.2.2.2.2.2)):=λi x hx=>by
    have hi:=aC hx;have h15:=(p4 (Tt x (aX hx))).1;have hms:(cN (cO f))[i]?=some ((O (cO f) i:Nat):Int):=ir (by omega);have hrl:=kZ ng x;have:=gw (l:=bw ng x) (a:=(.inr (cN (cO f),(i:Int),f.1,f.2.1,f.2.2.1,f.2.2.2.1,f.2.2.2.2.1,f.2.2.2.2.2.1,f.2.2.2.2.2.2):(Int×Int)⊕_)) (b:=.inl ((i:Int),38)) (p:=λs=>!((O (cO f) i).testBit s.toNat)) (Lf:=λk j=>uS N k (cN (cO f),(i:Int),bw ng x,j,f.1,f.2.1,f.2.2.1,f.2.2.2.1,f.2.2.2.2.1,f.2.2.2.2.2.1,f.2.2.2.2.2.2)) (λk _=>by simp only[uS.eq_2,aO,af]) (λk j s hs hm=>by have hj:=aC hs;obtain⟨b0,b1⟩:=h15 s hm;simp only[uS.eq_2,aN hj,au,aE hs,ae,aE hms,show(!decide (s<0))=true by simp;omega,aj,awj b0 b1,ai (show j<9223372036854775807by omega)];cases(O (cO f) i).testBit s.toNat<;>rfl) (k:=N) (by omega);rw[this];unfold rM;by_cases hall:∀s,s∈bw ng x->(O (cO f) i).testBit s.toNat=true;.rw[ba hall,bi (λ⟨s,h1,h2⟩=>by rw[hall s h1]at h2;cases h2),bi (by decide)]
    .have hex:∃s,s∈bw ng x/\(!((O (cO f) i).testBit s.toNat))=true:=by rw[Classical.not_forall]at hall;obtain⟨s,hs⟩:=hall;rw[Classical.not_imp]at hs;exact⟨s,hs.1,by rw[d7];exact pC.2 hs.2⟩
     rw[ba hex,bi hall,ba (show(38:Int)≠0 by decide)]
   have l2:=sU (l:=f.2.2.2.2.1) (p:=rM (cO f)) (a:=(.inr ():(Int×Int)⊕Unit)) (out:=λi e=>.inl (i,e)) (Lf:=λk i=>uT N k (cN (cO f),i,f.1,f.2.1,f.2.2.1,f.2.2.2.1,f.2.2.2.2.1,f.2.2.2.2.2.1,f.2.2.2.2.2.2)) (λk=>by simp only[uT.eq_2,aO,af]) (λk i x hx=>by
     have hi:=aC hx;simp only[uT.eq_2,aN hi,au,aE hx,ae,xh N (Tt x (aX hx)),l3 i x hx];by_cases hz:rM (cO f) i x=0;.simp only[bi (show¬rM (cO f) i x≠0fromλh=>h hz),ai (show i<9223372036854775807by omega)]
     .have e38:rM (cO f) i x=38:=by
       unfold rM at hz⊢;split at hz;.exact absurd rfl hz
       .rename_i h;rw[bi h]
      simp only[ba (show rM (cO f) i x≠0from hz)];rw[e38]) (k:=N) (by omega);rw[l2];cases fO (rM (cO f)) 0 f.2.2.2.2.1with|some r=>rfl|none=>rfl
structure ZJ(ts:List aB)(xs:List (List UInt8))(fs:List Func)(f:Func):Prop where
 fn:Fn ts xs fs f
 sc:vL f.2.2.2.2.1 (fq ts fs f)
def E6(hv:iE ts xs fs)(hok:fG ts.length f){g:Int}(h:(gm ts xs fs f g).2.2.2=0):ZJ ts xs fs f/\gm ts xs fs f g=(za (vh ts fs f),za (cN (cO f)),0,0):=by
 unfold gm at h⊢;split at h;case isFalse=>grind
 rename_i hval;rw[ba hval];split at h;.grind
 rename_i MT;rw[bi MT];cases he:fO (sW ts xs fs f) 0 f.2.2.2.2.1with|some r=>rw[he]at h;exact absurd h (As he)|none=>
  rw[he]at h;split at h;case isFalse=>grind
  rename_i hsc;rw[ba hsc];have hz:=qx he;refine⟨⟨⟨hv,hok,hval,λx hx=>?_⟩,hsc⟩,?_⟩;.obtain⟨i,hi,rfl⟩:=im.1 hx;have:=hz i _ (aw hi);unfold sW at this<;>grind
  .cases hl:fO (rM (cO f)) 0 f.2.2.2.2.1with|some r=>rw[hl]at h;exact absurd h (As hl)|none=>rfl
def ZK{N:Nat}(hN:1300<N)(hm:ig ts xs fs):F77 N ts=some ts:=by obtain⟨⟨m1,m2,m3,m4,m5⟩,_⟩:=hm;have htl:=m1.1;have k1:=iC (l:=ts) (enc:=λt=>[t]) (g:=id) (B:=1000) (m:=1) (Lf:=λk i s=>Ea N k (ts,s,i)) (λk s=>by simp only[Ea.eq_2,aO,af];rfl) (λk i x s hx T8 hB=>by obtain⟨j,hj,rfl⟩:=pV ty0 T8;have hf:=(m1.2 j hj).1;simp only[ez]at hf;simp only[Ea.eq_2,aN (aC hx),au,aE hx,ae,ak (show 0+(ts.getD j ty0).2.2.2.length<=10000000by omega) (show 24<=1000by omega),ak (show s.length+1<=10000000by omega) (show 48<=1000by omega),aj,i6,ai (show i<9223372036854775807by have:=aC hx;omega)]) (λx _=>by simp) (k:=N) (s:=[]) (by omega) (by simp;omega);rw[S8,i6]at k1;rw[F77.eq_1,k1,ae,id]
def MU(h:u7 f):room (0+f.2.2.2.1.length) 24=true/\room (0+f.2.2.2.2.1.length) 32=true/\room (0+f.2.2.2.2.2.1.length) 16=true/\room (0+f.2.2.2.2.2.2.length) 16=true:=by obtain⟨g1,g2,g3,g4,_⟩:=h;exact⟨ak (by omega) (by omega),ak (by omega) (by omega),ak (by omega) (by omega),ak (by omega) (by omega)⟩
def aqs:room 1 128=true:=ak (by omega) (by omega)
def acJ{N:Nat}(hN:14000000<N)(h:ZJ ts xs fs f){g:Nat}(hf:fs[g]?=some f):WN N (ts,xs,fs,(g:Int))=some (f.1,f.2.1,f.2.2.1,f.2.2.2.1,f.2.2.2.2.1,za (vh ts fs f),za (cN (cO f))):=by
 have hv:=h.fn.img;obtain⟨hpos,hle⟩:=h.fn.len;have hgl:=aC hf;obtain⟨f0,h0⟩:∃f0,fs[0]?=some f0:=⟨_,aw (by omega)⟩;have h32:=hv.fns.2;have aCm:xs.length<=32:=hv.Jy.2.1;obtain⟨r1,r2,r3,r4⟩:=MU (hv.fits h0);have key:=kK (n:=fs.length) (Lf:=λk i=>Hn N k (i,ts,xs,fs,ts,xs,fs.take i.toNat,ts,xs,fs,[],0,0)) (g:=λ_=>some (ts,xs,fs,ts,xs,fs,[],0,0)) (λk=>by simp only[Hn.eq_2,aO,af,bd,f4]) (λk i hi ih=>by have hx:=aw hi;obtain⟨q1,q2,q3,q4⟩:=MU (hv.fits hx);simp only[bd]at ih⊢;simp only[Hn.eq_2,aN hi,au,aE hx,ae,q1,q2,q3,q4,aj,i6,ak (show(fs.take i).length+1<=10000000by rw[i7];omega) (show 128<=1000by omega),ai (show i<9223372036854775807by omega)];rw[<-ih,take_succ hx]) N 1 (by omega) (by omega);have htk:fs.take 1=[f0]:=by rw[take_succ h0];rfl
 rw[show(((1:Nat):Int)).toNat=1from rfl,htk,show((1:Nat):Int)=1from rfl]at key;obtain⟨r,c,s1,s2,s3⟩:=MP (show 1300<N by omega) h.fn (aE hf);have hc:=s2.2 h.sc;have hr:=s3 hc;subst hc hr;have k2:=gx (l:=(List.range f.2.2.2.2.1.length).map (HN f.2.2.2.2.1 (fq ts fs f))) (g:=λs:List Int=>(s,([]:List UInt8),(0:Int),(0:Int),f)) (Inv:=λi s=>s=(vh ts fs f).take i) (Lf:=λk i s=>uU N k ((List.range f.2.2.2.2.1.length).map (HN f.2.2.2.2.1 (fq ts fs f)),s,i,ts,xs,fs,[],0,0,f.1,f.2.1,f.2.2.1,f.2.2.2.1,f.2.2.2.2.1,f.2.2.2.2.2.1,f.2.2.2.2.2.2)) (λk s _=>by simp only[uU.eq_2,aO,af]) (λk i x s hx hs=>by
   have hi:=aC hx;have AM:i<f.2.2.2.2.1.length:=by simpa using hi
   rw[fi,rl AM]at hx;have hx:=fd hx;obtain⟨o1,o2⟩:=h.fn.Pv i;rw[hx]at o1 o2;obtain⟨b1,b2⟩:=o1.p7 hv;have cy:s.length<=200:=by rw[hs,i7,qw];omega
   have hz:(vh ts fs f)[i]?=some (p7 ts x):=by unfold vh;rw[fi,rl AM,<-hx];rfl
   have hgx:idx ((List.range f.2.2.2.2.1.length).map (HN f.2.2.2.2.1 (fq ts fs f))) (i:Int)=some x:=aE (by rw[fi,rl AM,<-hx];rfl);refine⟨s++[p7 ts x],by rw[hs,take_succ hz],?_⟩;simp only[uU.eq_2,aN hi,au,hgx,ae,Pr (show 1300<N by omega) hv o1 (show x.length<=1000by omega),ak (show s.length+1<=10000000by omega) (show 8<=1000by omega),aj,aZ (n:=p7 ts x) (by omega),ai (show i<9223372036854775807by omega)]) (k:=N) (s:=[]) rfl (by simp;omega);obtain⟨s,hs,k2⟩:=k2;have hs:s=vh ts fs f:=by
  rw[hs];have:((List.range f.2.2.2.2.1.length).map (HN f.2.2.2.2.1 (fq ts fs f))).length=(vh ts fs f).length:=by simp[qw]
  rw[this,f4]
 subst hs;have m1:=ZI hN h.fn;obtain⟨_,m2,_⟩:=JE hN h.fn;have d1:=aeF (N:=N) (v:=vh ts fs f) (by omega) (by rw[qw];omega);have d2:=aeF (N:=N) (v:=cN (cO f)) (by omega) (by rw[bR];omega);have e0:idx fs 0=some f0:=aE (i:=0) h0;rw[WN.eq_1,ZK (show 1300<N by omega) hv.fit];simp only[ae,ak (show 0+xs.length<=10000000by omega) (show 16<=1000by omega),aj,aT (show(0:Int)<(fs.length:Int)by omega),au,e0,r1,r2,r3,r4,aqs,i6,key,cB hgl,bd,hf,s1,k2,d1,m1,d2]
end
structure Rer(fs fs':List Func):Prop where
 len:fs'.length=fs.length
 get:∀(i:Nat)(f:Func),fs[i]?=some f->∃S L,fs'[i]?=some (f.1,f.2.1,f.2.2.1,f.2.2.2.1,f.2.2.2.2.1,S,L)/\(ee S (f.2.2.2.2.1.length:Int)/\ee L (f.2.2.2.2.1.length:Int))/\CB S/\CB L
section
variable{ts:List aB}{xs:List (List UInt8)}{fs fs':List Func}{f f':Func}
def aqt{fs:List Func}{i:Nat}{f:Func}(h:fs[i]?=some f):gW fs i=f:=by unfold gW<;>grind
def Rer.at(h:Rer fs fs'){i:Nat}(hi:i<fs.length):∃S L,gW fs' i=((gW fs i).1,(gW fs i).2.1,(gW fs i).2.2.1,(gW fs i).2.2.2.1,(gW fs i).2.2.2.2.1,S,L)/\(ee S ((gW fs i).2.2.2.2.1.length:Int)/\ee L ((gW fs i).2.2.2.2.1.length:Int))/\CB S/\CB L:=by have e:=aw hi;obtain⟨S,L,h1,h2⟩:=h.get i _ e;rw[aqt e,aqt h1];exact⟨S,L,rfl,h2⟩
def Rer.name(h:Rer fs fs')(i:Nat):(gW fs' i).1=(gW fs i).1:=by
 by_cases hi:i<fs.length;.obtain⟨S,L,e,_⟩:=h.at hi<;>grind
 .unfold gW;rw[da,da,eI (by rw[h.len];omega),eI (by omega)]
def Rer.gj(h:Rer fs fs'):gj fs'=Go.Proofs.YtgdkmdochlhhlaaGreat.gj fs:=by
 apply lA;intro i;unfold Go.Proofs.YtgdkmdochlhhlaaGreat.gj;rw[fi,fi];by_cases hi:i<fs.length;.obtain⟨S,L,h1,_⟩:=h.get i _ (aw hi);rw[h1,aw hi];rfl
 .rw[eI (by rw[h.len];omega),eI (by omega)]
def iE.runs(hv:iE ts xs fs){i:Nat}(hi:fs[i]?=some f):(ee f.2.2.2.2.2.1 (f.2.2.2.2.1.length:Int)/\ee f.2.2.2.2.2.2 (f.2.2.2.2.1.length:Int))/\CB f.2.2.2.2.2.1/\CB f.2.2.2.2.2.2:=by obtain⟨_,_,_,_,_,_,_,_,h1,h2⟩:=hv.get hi;obtain⟨_,_,_,_,_,h3,h4⟩:=hv.fits hi<;>grind
def arS(hS:gj fs'=gj fs)(hf:sg f'=sg f)(g:Int):gm ts xs fs' f' g=gm ts xs fs f g:=by
 obtain⟨n,p,r,s,l,a,b⟩:=f;obtain⟨n',p',r',s',l',a',b'⟩:=f';unfold sg at hf;simp at hf;obtain⟨rfl,rfl,rfl,rfl⟩:=hf;have e1:fq ts fs' (n',p',r',s',l',a',b')=fq ts fs (n,p',r',s',l',a,b):=by unfold fq;rw[hS]
 have e2:vh ts fs' (n',p',r',s',l',a',b')=vh ts fs (n,p',r',s',l',a,b):=by unfold vh;rw[e1]
 have e3:sW ts xs fs' (n',p',r',s',l',a',b')=sW ts xs fs (n,p',r',s',l',a,b):=by unfold sW<;>grind
 unfold gm;rw[e1,e2,e3];rfl
def rN(h:ZJ ts xs fs f):(ee (za (vh ts fs f)) (f.2.2.2.2.1.length:Int)/\ee (za (cN (cO f))) (f.2.2.2.2.1.length:Int))/\CB (za (vh ts fs f))/\CB (za (cN (cO f))):=by
 obtain⟨hpos,hle⟩:=h.fn.len;obtain⟨_,m2,m3⟩:=JE (N:=14000001) (by omega) h.fn;have h1:=ZG (v:=vh ts fs f) (by rw[qw];omega);have h2:=ZG (v:=cN (cO f)) (by rw[bR];omega);rw[qw]at h1;rw[bR,m2]at h2;refine⟨⟨h1,h2⟩,λx hx=>?_,λx hx=>?_⟩;.have:=h.fn.aiw (QY hx);omega
 .obtain⟨k,hk,e⟩:=i5.1 (QY hx);obtain⟨j,hj,rfl⟩:=im.1 hk;have:=m3 j;unfold O at this<;>grind
def aqu(ts:List aB)(xs:List (List UInt8))(fs:List Func)(i:Nat):Func:=if(gm ts xs fs (gW fs i) (i:Int)).2.2.2=0then((gW fs i).1,(gW fs i).2.1,(gW fs i).2.2.1,(gW fs i).2.2.2.1,(gW fs i).2.2.2.2.1,(gm ts xs fs (gW fs i) (i:Int)).1,(gm ts xs fs (gW fs i) (i:Int)).2.1)else gW fs i
def aqv(ts:List aB)(xs:List (List UInt8))(fs:List Func)(a:Nat):List Func:=(List.range fs.length).map λi=>if i<a then aqu ts xs fs i else gW fs i
def azW(ts:List aB)(xs:List (List UInt8))(fs:List Func):List Func:=aqv ts xs fs fs.length
def mz(ts:List aB)(xs:List (List UInt8))(fs:List Func)(i:Nat)(f:Func):Int:=if(gm ts xs fs f (i:Int)).2.2.2=0then(if(gm ts xs fs f (i:Int)).1=f.2.2.2.2.2.1/\(gm ts xs fs f (i:Int)).2.1=f.2.2.2.2.2.2then 0 else 32)else(gm ts xs fs f (i:Int)).2.2.2
def aiy{N:Nat}(hN:14000000<N)(hv:iE ts xs fs){i:Nat}(hf:fs[i]?=some f):∃JR,F80 N (ts,xs,fs,(i:Int))=some (JR,mz ts xs fs i f):=by
 rw[F80.eq_1,aix hN hv (aE hf)];simp[ae];unfold mz;by_cases he:(gm ts xs fs f (i:Int)).2.2.2=0
 .obtain⟨h1,h2⟩:=E6 hv (hv.get hf) he;obtain⟨g1,g2,g3,g4⟩:=(⟨(rN h1).1.1,(rN h1).1.2,(rN h1).2.1,(rN h1).2.2⟩:_/\_/\_/\_);have hfit:u7 (f.1,f.2.1,f.2.2.1,f.2.2.2.1,f.2.2.2.2.1,za (vh ts fs f),za (cN (cO f))):=by obtain⟨q1,q2,q3,q4,q5,_⟩:=hv.fits hf;have r1:=pW g1;have r2:=pW g2;exact⟨q1,q2,by show(za (vh ts fs f)).length<=1000;omega,by show(za (cN (cO f))).length<=1000;omega,q5,g3,g4⟩
  have hs:=HH (g:=f) hfit (show 1300<N by omega);rw[show((gm ts xs fs f (i:Int)).2.2.2==0)=true by simpa using he,acJ hN h1 hf];simp[ae,aE hf,hs];rw[h2];by_cases hq:za (vh ts fs f)=f.2.2.2.2.2.1/\za (cN (cO f))=f.2.2.2.2.2.2;.grind
  .rw[bi hq,aM (λh=>hq (by rw[<-h];exact⟨rfl,rfl⟩))]<;>grind
 grind
def MV(ts:List aB)(xs:List (List UInt8))(fs:List Func):Int:=if j0 ts xs fs=0then(fO (mz ts xs fs) 0 fs).elim 0 λr=>r.2else j0 ts xs fs
def HO(h:j0 ts xs fs=0):eN ts xs fs:=by unfold j0 at h<;>grind
def aiz{N:Nat}(hN:14000000<N)(hm:ig ts xs fs):F17 N (ts,xs,fs)=some (MV ts xs fs):=by
 have h32:=hm.1.2.2.2.1;rw[F17.eq_1,F42.eq_1,O6 (show 1300<N by omega) hm];simp only[ae];unfold MV;by_cases hc:j0 ts xs fs=0
 .have hv:iE ts xs fs:=⟨hm,HO hc⟩;rw[ba hc,show(j0 ts xs fs !=0)=false by simp[hc],af];rcases dM (l:=fs) (g:=λ_:Unit=>(.inr ():(Int×Int×Int)⊕Unit)) (Out:=λr=>∃i a e,r=.inl (i,a,e)/\(fO (mz ts xs fs) 0 fs).elim 0 (λr=>r.2)=e) (Inv:=λi _=>fO (mz ts xs fs) 0 fs=fO (mz ts xs fs) i (fs.drop i)) (Lf:=λk i _=>H3 N k (i,ts,xs,fs)) (λk _ _=>by simp only[H3.eq_2,aO,af]) (λk i x _ hx hI=>by
   have hi:=aC hx;obtain⟨a,ha⟩:=aiy hN hv hx;have hd:fs.drop i=x::fs.drop (i+1):=by rw[gg hi];rw[aw hi]at hx;rw[fd hx]
   simp only[H3.eq_2,aN hi,au,ha,ae,ai (show i<9223372036854775807by omega)];rw[hd,fO]at hI;by_cases hz:mz ts xs fs i x=0;.rw[bi (λh=>h hz)]at hI;exact .inr ⟨(),hI,by rw[show(mz ts xs fs i x !=0)=false by simp[hz],af]⟩
   .rw[ba hz]at hI;exact .inl ⟨_,⟨(i:Int),a,mz ts xs fs i x,rfl,by rw[hI];rfl⟩,by rw[show(mz ts xs fs i x !=0)=true by simp[bne,hz],au]⟩) (k:=N) (s:=()) rfl (by omega)with⟨r,⟨i,a,e,rfl,h2⟩,h3⟩|⟨_,h1,h3⟩;.rw[h3,h2];rfl
  .rw[h3,h1,ss];rfl
 .rw[bi hc,show(j0 ts xs fs !=0)=true by simp[bne,hc],au];rfl
end
section
variable{N:Nat}{ts:List aB}{xs:List (List UInt8)}{fs:List Func}
def acK(hm:ig ts xs fs)(h:eN ts xs fs){a:Nat}(ha:tB fs a):24<=mq ts fs (a/256-1) (a%256):=by
 have hf:a/256-1<fs.length:=by have:=ha.1;have:=ha.2.1;omega
 have hF:=h.func hf;have hb:=(va h.1 h.2.2.2.1 hF.2.1 hF.2.2.2.2.2.1).2;have hs:=Aj hm (f:=a/256-1) (i:=a%256) hf;unfold mq;omega
def aiA(hN:1300<N)(hm:ig ts xs fs)(TM:eN ts xs fs){f:Nat}(i:Nat)(hf:f<fs.length):∃s:Int,F48 N (ts,xs,fs,(f:Int),(i:Int))=some s/\(0<=s/\s<=100000)/\(s=mq ts fs f i\/(s>4096/\mq ts fs f i>4096)):=by
 have hF:=TM.func hf;have hfit:u7 (gW fs f):=hm.1.2.2.2.2 _ (n6 fn0 hf);obtain⟨_,hb⟩:=va TM.1 TM.2.2.2.1 hF.2.1 hF.2.2.2.2.2.1;have hs:=Aj hm (i:=i) hf;rw[F48.eq_1,S9 hN hm TM hf,ae,Ct hf,ae,Ze (by have:=hfit.2.2.1;omega) hN,ae];rw[show yU (i:Int) 0 (gW fs f).2.2.2.2.2.1=EJ fs f i from rfl];by_cases hx:EJ fs f i>4096;.rw[aT hx];exact⟨_,rfl,by omega,.inr ⟨by decide,by unfold mq;omega⟩⟩
 .rw[aM hx];refine⟨_,rfl,?_,.inl ?_⟩;.rw[aQ (n:=EJ _ _ _) (by omega),aQ (by omega)];omega
  .rw[aQ (n:=EJ _ _ _) (by omega),aQ (by omega)];rfl
def acL{b:Int}{l:List Int}{a:Int}(hb:TN l):u64 (tu b l a).1/\u64 (tu b l a).2.1/\u64 (tu b l a).2.2.1:=by
 have h0:u64 0:=⟨by omega,by omega⟩;unfold tu;split
 .split
  .split;.exact⟨vb hb _,vb hb _,vb hb _⟩
   grind
  grind
 grind
def oO{a b:Int}(h:a=b):(a==b)=true:=by simp[h]
def tD{a b:Int}(h:a≠b):(a==b)=false:=by simp[h]
def tE{a b:Int}(h:a≠b):(a !=b)=true:=by simp[h]
def qO{a b:Int}(h:a=b):(a !=b)=false:=by simp[h]
def Tu(hN:1300<N)(hm:ig ts xs fs)(hc:j0 ts xs fs=0){b:Int}{l:List Int}(hbu:u64 b)(hs:gU b l)(hb:TN l):∀(k a:Nat)(c q:Int)(out:List LH),a<18446744073709551616->0<=c->c<=l.length->c<k->0<=q/\q<=1->(out.length:Int)+c<=100000->(∃x W,PQ N k ((a:Int),c,q,out,b,l,ts,xs,fs)=some (out++x::W,0)/\QQ N k ((a:Int),out,b+c,q,b,l,ts,xs,fs)=some (out++x::W,0)/\tB fs a/\x.2.1=((a/256-1:Nat):Int)/\x.2.2.1=((a%256:Nat):Int)-q/\mq ts fs (a/256-1) (a%256)<=c)\/∃e e',e≠0/\e'≠0/\PQ N k ((a:Int),c,q,out,b,l,ts,xs,fs)=some ([],e)/\QQ N k ((a:Int),out,b+c,q,b,l,ts,xs,fs)=some ([],e'):=by have TM:=(Ag hc).1;obtain⟨hs1,hs2,hs3,hs4,hs5⟩:=hs;have hs:gU b l:=⟨hs1,hs2,hs3,hs4,hs5⟩;intro k;induction k with|zero=>intro a c q out _ h0 _ h1;omega|succ k ih=>
  intro a c q out ha h0 lu hk hq ho;rw[PQ.eq_2,QQ.eq_2,QK hN hm ha,Y8 hm.1.2.2.2.1 ha,vW,ba hc];by_cases hA:tB fs a
  .have hf:a/256-1<fs.length:=by have:=hA.1;have:=hA.2.1;omega
   obtain⟨s,s1,s0,s2⟩:=aiA (N:=N) hN hm TM (f:=a/256-1) (a%256) hf;have hlo:=acK hm TM hA;have hz:QO ts xs fs a=if mq ts fs (a/256-1) (a%256)>4096then(0,16)else(mq ts fs (a/256-1) (a%256),0):=by rw[QO,vW,ba hc,ba hA,ba rfl]
   simp only[ba hA,ae,gT,af,dj,Ta hN hm ha,hz,s1];generalize hsn:mq ts fs (a/256-1) (a%256)=n at hlo s2⊢;rw[aZ (n:=s) (by omega),show b+c-b=c by omega,aZ (n:=c) (by omega)];by_cases h1:n>4096
   .have h2:s>4096:=by omega
    refine .inr ⟨16,16,by decide,by decide,?_,?_⟩;.rw[ba h1];rfl
    .rw[aT h2];rfl
   .have e:s=n:=by omega
    subst e;rw[bi h1,aM h1];simp only[gT,af,ae];rw[aZ (n:=s) (by omega)];by_cases h2:s>c
    .refine .inr ⟨16,16,by decide,by decide,?_,?_⟩;.rw[aT h2];rfl
     .rw[aT h2];rfl
    .rw[aM h2];have e1:aS (c-s)=c-s:=aZ (by omega);have e2:aS (b+c-s)=b+(c-s):=by rw[aZ (by omega)];omega
     have e3:aS (b+(c-s))=b+(c-s):=aZ (by omega);have hau:u64 (b+(c-s)):=⟨by omega,by omega⟩;obtain⟨w0,m0,r0⟩:=acL (b:=b) (a:=b+(c-s)) hb;simp only[af,e1,e2,e3,ack hN hbu hb hau,Zk hN hbu hb hau,ae];generalize tu b l (b+(c-s))=h at w0 m0 r0⊢;obtain⟨w,m,r,e⟩:=h;simp only at w0 m0 r0⊢;by_cases c0:e=0
     .subst c0;rw[gT,af,af,ak (show out.length+1<=10000000by omega) (show 40<=1000by omega),aQ (n:=((a%256:Nat):Int)-q) (by omega)];simp only[aj];by_cases cw:w=0
      .subst cw;by_cases cz:c-s=0
       .left;refine⟨(b+(c-s),((a/256-1:Nat):Int),((a%256:Nat):Int)-q,m,r),[],?_,?_,hA,rfl,rfl,by omega⟩;.rw[cz,oO rfl,gT];cases(m==0)<;>rfl
        .rw[cz,zr,oO rfl,qO rfl,gT];cases(m==0)<;>rfl
       .right;refine⟨12,12,by decide,by decide,?_,?_⟩;.rw[oO rfl,tD cz];rfl
        .rw[oO rfl,tE (show b+(c-s)≠b by omega)];rfl
      .by_cases cz:c-s=0
       .right;refine⟨12,12,by decide,by decide,?_,?_⟩;.rw[cz,tD cw,oO rfl];rfl
        .rw[cz,zr,tD cw,tE cw,oO rfl];rfl
       .rw[tD cw,tE cw,tD cz,tD (show b+(c-s)≠b by omega),oK w0.1];obtain⟨w',rfl⟩:=dT w0.1;have PO:w'<18446744073709551616:=by have:=w0.2;omega
        by_cases cm:m=0
        .subst cm;by_cases c6:(w':Int)%256=0
         .right;refine⟨12,12,by decide,by decide,?_,?_⟩;.rw[oO rfl,oO c6];rfl
          .rw[oO rfl,oO c6];rfl
         .rw[oO rfl,tD c6];simp only[au,af,ae,ib,dj];rcases ih w' (c-s) 1 (out++[(b+(c-s),((a/256-1:Nat):Int),((a%256:Nat):Int)-q,0,r)]) PO (by omega) (by omega) (by omega) (by omega) (by simp;omega)with⟨x,W,g1,g2,_⟩|⟨e,e',g0,g0',g1,g2⟩
          .left;refine⟨(b+(c-s),((a/256-1:Nat):Int),((a%256:Nat):Int)-q,0,r),x::W,?_,?_,hA,rfl,rfl,by omega⟩;.erw[g1,bj];rfl
           .erw[g2,bj];rfl
          .exact .inr ⟨e,e',g0,g0',g1,g2⟩
        .rw[tD cm];simp only[au,af,ae,ib,dj];rcases ih w' (c-s) 0 (out++[(b+(c-s),((a/256-1:Nat):Int),((a%256:Nat):Int)-q,m,r)]) PO (by omega) (by omega) (by omega) (by omega) (by simp;omega)with⟨x,W,g1,g2,_⟩|⟨e,e',g0,g0',g1,g2⟩
         .left;refine⟨(b+(c-s),((a/256-1:Nat):Int),((a%256:Nat):Int)-q,m,r),x::W,?_,?_,hA,rfl,rfl,by omega⟩;.erw[g1,bj];rfl
          .erw[g2,bj];rfl
         .exact .inr ⟨e,e',g0,g0',g1,g2⟩
     .right;refine⟨12,12,by decide,by decide,?_,?_⟩;.rw[tE c0];rfl
      .rw[tE c0];rfl
  .right;refine⟨6,6,by decide,by decide,?_,?_⟩;.rw[bi hA];rfl
   .rw[bi hA];rfl
def E7(fs:List Func)(a:Nat)(x:LH):Prop:=tB fs a/\x.2.1=((a/256-1:Nat):Int)/\x.2.2.1=((a%256:Nat):Int)
def aqx(hN:5000<N)(hm:ig ts xs fs)(hc:j0 ts xs fs=0){b:Int}{l:List Int}(hbu:u64 b)(hs:gU b l)(hb:TN l){a:Nat}(ha:a<18446744073709551616):(∃x W,F55 N (b,l,ts,xs,fs,(a:Int))=some (x::W,0)/\F24 N (b,l,ts,xs,fs,(a:Int))=some (x::W,0)/\E7 fs a x/\mq ts fs (a/256-1) (a%256)<=l.length)\/∃e e',e≠0/\e'≠0/\F55 N (b,l,ts,xs,fs,(a:Int))=some ([],e)/\F24 N (b,l,ts,xs,fs,(a:Int))=some ([],e'):=by
 have hs5:=hs.2.2.2.2;have hs3:=hs.2.2.1;have hs2:=hs.2.1;rw[F55.eq_1,F24.eq_1,BK hbu,ba hs,EI (by omega) hm,hc];simp only[ae,gT,af];rw[aZ (n:=(l.length:Int)) (by omega),aZ (n:=b+(l.length:Int)) (by omega)];rcases Tu (N:=N) (by omega) hm hc hbu hs hb N a l.length 0 [] ha (by omega) (by omega) (by omega) (by omega) (by simp;omega)with⟨x,W,g1,g2,h1,h2,h3,h4⟩|⟨e,e',g0,g0',g1,g2⟩;.rw[g1,g2];exact .inl ⟨x,W,rfl,rfl,⟨h1,h2,by rw[h3,Int.sub_zero]⟩,h4⟩
 .rw[g1,g2];exact .inr ⟨e,e',g0,g0',rfl,rfl⟩
end
section
variable{N:Nat}
def fH(b:Int)(l:List Int):Prop:=b=65536/\l.length%8=0/\l.length<=16384
def QZ(l:List Int):Int.tmod (l.length:Int) 8=(l.length:Int)%8:=oK (by omega)
def Av(b:Int)(l:List Int)(lim:Int):F90 N (b,l,lim)=some (if fH b l then(if 0<=lim/\lim<=16384then 0 else 2)else 8):=by
 rw[F90.eq_1,QZ];by_cases h:fH b l;.obtain⟨h1,h2,h3⟩:=id h<;>grind
 .rw[bi h];by_cases c1:b=65536
  .rw[qO c1];by_cases c2:(l.length:Int)%8=0;.rw[qO c2,aT (show(l.length:Int)>16384by unfold fH at h;omega)];rfl
   grind
  grind
def ZL(b:Int)(l:List Int):∃r,F51 N (b,l,0)=some (r,if fH b l then 0 else 8):=by rw[F51.eq_1,Av];by_cases h:fH b l<;>simp_all
def Q0(b:Int)(l:List Int):F19 N (b,l)=some (decide (fH b l)):=by rw[F19.eq_1,QZ];simp[gE,ae];rw[m7];unfold fH<;>grind
def azZ(x:Int):Int.tdiv x 8=if 0<=x then x/8 else-((-x)/8):=by grind
def sz(n:Nat):Nat:=max 8 ((n+7)/8*8)
def zd{n:Nat}(h:n<=64):8<=sz n/\n<=sz n/\sz n<=64/\sz n%8=0:=by unfold sz;omega
def ZM{n:Nat}(h:n<=64):SO N (n:Int)=some ((sz n:Nat):Int):=by rw[SO.eq_1];congr 1;rw[aQ (n:=(n:Int)+7) (by omega),Cn (by omega),aQ (n:=((n:Int)+7)/8) (by omega),aQ (by omega)];unfold sz;omega
def Aw(hN:1300<N){n:Nat}(h:n<=64):SC N (n:Int)=some ((sz n:Nat):Int):=by
 have key:∀(m w k:Nat),8*w+8*m=sz n->1<=w->m<k->H4 N k ((n:Int),(w:Int))=some ((sz n/8:Nat):Int):=by intro m;induction m with|zero=>intro w k h1 h2 h3;obtain⟨k,rfl⟩:∃q,k=q+1:=⟨k-1,by omega⟩;have:=zd h;rw[H4.eq_2,aQ (by omega),aM (show¬(8*(w:Int)<(n:Int))by omega),af]<;>grind|succ m ih=>intro w k h1 h2 h3;obtain⟨k,rfl⟩:∃q,k=q+1:=⟨k-1,by omega⟩;have:=zd h;rw[H4.eq_2,aQ (by omega),aT (show 8*(w:Int)<(n:Int)by unfold sz at h1;omega),ai (by omega)];exact ih (w+1) k (by omega) (by omega) (by omega)
 have hb:=zd h;have:=key (sz n/8-1) 1 N (by omega) (by omega) (by omega);simp at this;rw[SC.eq_1,this,ae,aQ (by omega)]<;>grind
def Tv{b:Int}{l:List Int}(h:fH b l){n:Nat}(hn:n<=64):Ym N (b,l,((l.length+n:Nat):Int))=some (b,l++List.replicate n 0,0):=by obtain⟨h1,h2,h3⟩:=h;rw[Ym.eq_1,Ak (show yV b l from⟨by omega,by omega,by omega,by omega⟩),ae,gT,af,aM (show¬((l.length+n:Nat):Int)<0 by omega),af,ae,aM (show¬((l.length+n:Nat):Int)>20000by omega),af,aT (show(0:Int)<=((l.length+n:Nat):Int)by omega),aj,aj,bd,aT (bc _),ak (by omega) (by omega),Bool.and_self,aj];grind[Dl]
def CN{b:Int}{l:List Int}(h:fH b l){n lim:Nat}(hn:n<=64)(hl:lim<=16384):Yn N (b,l,(n:Int),(lim:Int))=some (if l.length+sz n<=lim then(b,l++List.replicate (sz n) 0,((65536+l.length:Nat):Int),0)else(0,[],0,18)):=by
 obtain⟨h1,h2,h3⟩:=h;have h:fH b l:=⟨h1,h2,h3⟩;have hs:=zd hn;rw[Yn.eq_1,F51.eq_1,Av,ba h,ba (show(0:Int)<=(lim:Int)/\(lim:Int)<=16384by omega)];simp only[ae,gT,af,ZM hn];rw[aM (show¬(n:Int)<0 by omega),af,aM (show¬(n:Int)>4096by omega),ae,aQ (n:=(lim:Int)-(l.length:Int)) (by omega)];have e1:av (av (Int.tdiv ((lim:Int)-(l.length:Int)) 8)*8)=Int.tdiv ((lim:Int)-(l.length:Int)) 8*8:=by
  have:-3000<=Int.tdiv ((lim:Int)-(l.length:Int)) 8/\Int.tdiv ((lim:Int)-(l.length:Int)) 8<=3000:=by grind
  rw[aQ (n:=Int.tdiv _ _) (by omega),aQ (by omega)]
 rw[e1];by_cases hc:l.length+sz n<=lim;.rw[ba hc,Cn (by omega),aM (show¬((sz n:Nat):Int)>max 0 (((lim:Int)-(l.length:Int))/8*8)by omega),aQ (by omega),show(l.length:Int)+((sz n:Nat):Int)=((l.length+sz n:Nat):Int)by omega,Tv h hs.2.2.1];rw[aZ (n:=(l.length:Int)) (by omega),aZ (by omega),h1];rfl
 grind
def FP(l s:List Int):List Int:=l++s++List.replicate (sz s.length-s.length) 0
def ZN{l s:List Int}(h:s.length<=64):(FP l s).length=l.length+sz s.length:=by have:=zd h;unfold FP<;>grind
def ZO{l s:List Int}(h:fH 65536 l)(hs:s.length<=64):Yo N (65536,l++List.replicate (sz s.length) 0,((65536+l.length:Nat):Int),s)=some (65536,FP l s,0):=by
 obtain⟨h1,h2,h3⟩:=h;have hz:=zd hs;have hlen:(l++List.replicate (sz s.length) (0:Int)).length=l.length+sz s.length:=by grind
 have hr:yV 65536 (l++List.replicate (sz s.length) (0:Int)):=⟨by omega,by omega,by omega,by omega⟩;have hu:u64 ((65536+l.length:Nat):Int):=⟨by omega,by omega⟩;obtain⟨i,e,hi⟩:=EL (N:=N) hr hu (n:=s.length) (by omega);rw[Yo.eq_1,Zj hr hu (by omega),e,aT (show(65536:Int)<=((65536+l.length:Nat):Int)/\((65536+l.length:Nat):Int)-65536+((s.length:Nat):Int)<=((l++List.replicate (sz s.length) (0:Int)).length:Int)by omega)];simp only[ae,gT,af,dj];have ei:i=(l.length:Int):=by omega
 subst ei;rw[ak (by omega) (by omega),aj,aT (show(0:Int)<=(l.length:Int)by omega),aj,bd,aT (show l.length<=(l++List.replicate (sz s.length) (0:Int)).length by omega),aj,aT (show l.length+((l++List.replicate (sz s.length) (0:Int)).length-l.length)<=(l++List.replicate (sz s.length) (0:Int)).length by omega),aj,rf (by omega),f4,List.take_left',wt,pA (by omega),List.drop_replicate];.unfold FP<;>grind
 .rfl
def aiB{l s:List Int}(h:fH 65536 l){lim:Nat}(hs:s.length<=64)(hl:lim<=16384):F94 N (65536,l,s,(lim:Int))=some (if l.length+sz s.length<=lim then(65536,FP l s,((65536+l.length:Nat):Int),0)else(0,[],0,18)):=by
 rw[F94.eq_1,CN h hs hl];by_cases hc:l.length+sz s.length<=lim;.rw[ba hc,ba hc];simp only[ae,gT,af,ZO h hs]
 grind
def acM{b:Int}{l:List Int}(hl:l.length<=100000):WV N (b,l)=some (b,l):=by rw[WV.eq_1,ak (by omega) (by omega),aj,i6]
def ZP(hN:1300<N){l:List Int}(h:fH 65536 l){n:Nat}(hn:n<=64):WX N (65536,l,(n:Int))=some (65536,l++List.replicate (sz n) 0,((65536+l.length:Nat):Int)):=by
 obtain⟨h1,h2,h3⟩:=h;have hz:=zd hn;have key:∀(m i k:Nat)(a:List Int),i+m=sz n->m<k->a.length+m<=100000->H5 N k ((n:Int),(i:Int),65536,l,0,65536,a)=some (65536,l,0,65536,a++List.replicate m 0):=by intro m;induction m with|zero=>intro i k a h1 h2 _;obtain⟨k,rfl⟩:∃q,k=q+1:=⟨k-1,by omega⟩;rw[H5.eq_2,Aw hN hn,ae,aM (show¬(i:Int)<((sz n:Nat):Int)by omega),af,rh,dt]|succ m ih=>intro i k a h1 h2 ha;obtain⟨k,rfl⟩:∃q,k=q+1:=⟨k-1,by omega⟩;rw[H5.eq_2,Aw hN hn,ae,aT (show(i:Int)<((sz n:Nat):Int)by omega),au,ak (by omega) (by omega),ai (by omega),ih (i+1) k _ (by omega) (by omega) (by simp;omega),bj];rfl
 have:=key (sz n) 0 N l (by omega) (by omega) (by omega);simp at this;rw[WX.eq_1,acM (by omega),ae];rw[this,ae,aZ (n:=(l.length:Int)) (by omega),aZ (by omega)];rfl
def Tw{l s:List Int}(hs:s.length<=64)(hl:l.length<=20000)(e h f g:Int){z:Nat}(hz:s.length<=z):∀(r pre:List Int)(k:Nat),s=pre++r->r.length<k->Id N k (s,e,(pre.length:Int),h,l,f,g,l++pre++List.replicate (z-pre.length) 0)=some (e,f,g,l++s++List.replicate (z-s.length) 0):=by intro r;induction r with|nil=>intro pre k hp hk;obtain⟨k,rfl⟩:∃q,k=q+1:=⟨k-1,by omega⟩;simp at hp;subst hp;rw[Id.eq_2,aO,af]|cons x r ih=>
 intro pre k hp hk;obtain⟨k,rfl⟩:∃q,k=q+1:=⟨k-1,by omega⟩;have cy:s.length=pre.length+(r.length+1):=by rw[hp,bb];rfl
 have hw:av ((l.length:Int)+(pre.length:Int))=((l.length+pre.length:Nat):Int):=YG (by omega);have hlen:(l++pre++List.replicate (z-pre.length) (0:Int)).length=l.length+z:=by simp;omega
 have nK:(l++pre++List.replicate (z-pre.length) (0:Int))[l.length+pre.length]?=some 0:=by rw[kw (by rw[bb];omega),ol,ba (by rw[bb];omega)]
 have OZ:(l++pre++List.replicate (z-pre.length) (0:Int)).set (l.length+pre.length) x=l++(pre++[x])++List.replicate (z-(pre++[x]).length) 0:=by rw[pD _ _ (by rw[bb];omega),bb,px,show z-pre.length=(z-(pre++[x]).length)+1by simp;omega,pu,List.set_cons_zero];simp
 simp only[fa]at hk;rw[Id.eq_2,aN (by omega),au,nY hp rfl,ae,hw,cB (by omega),aj,bd,nK,ae,ai (by omega),OZ];have:=ih (pre++[x]) k (by rw[hp,bj];rfl) (by omega);rw[show(((pre++[x]).length:Nat):Int)=((pre.length+1:Nat):Int)by simp]at this;exact this
def ZQ(hN:1300<N){l s:List Int}(h:fH 65536 l){lim:Nat}(hs:s.length<=64)(hl:lim<=16384):F46 N (65536,l,s,(lim:Int))=some (if l.length+sz s.length<=lim then(65536,FP l s,((65536+l.length:Nat):Int),0)else(0,[],0,18)):=by
 obtain⟨h1,h2,h3⟩:=h;have h:fH 65536 l:=⟨h1,h2,h3⟩;have hz:=zd hs;rw[F46.eq_1,F84.eq_1,WT.eq_1,Q0,aT h,abN.eq_1,Aw hN hs,ZP hN h hs];simp only[ae,dj,af];rw[aM (show¬(lim:Int)<0 by omega),af,aM (show¬(lim:Int)>16384by omega)];simp only[ae,gT,af];rw[aM (show¬(s.length:Int)<0 by omega),af,aM (show¬(s.length:Int)>4096by omega)];simp only[ae,af];rw[aQ (by omega)];by_cases hc:l.length+sz s.length<=lim;.have:=Tw (N:=N) (l:=l) hs (by omega) ((65536+l.length:Nat):Int) 65536 0 65536 (z:=sz s.length) (by omega) s [] N rfl (by omega);rw[dt,show((([]:List Int).length:Nat):Int)=0from rfl,m6,yk]at this;rw[ba hc,aT (show(l.length:Int)+((sz s.length:Nat):Int)<=(lim:Int)by omega),dj,af];simp only[ae];rw[gT,af,this];rfl
 .rw[bi hc,aM (show¬(l.length:Int)+((sz s.length:Nat):Int)<=(lim:Int)by omega)];rfl
def ZR(lim:Nat):List (List UInt8)->List Int->Option (List Int)|[],l=>some l|s::r,l=>if l.length+sz s.length<=lim then ZR lim r (FP l (bP s))else none
def E8{l:List Int}{s:List UInt8}{lim:Nat}(h:fH 65536 l)(hl:lim<=16384)(hs:s.length<=64)(hc:l.length+sz s.length<=lim):fH 65536 (FP l (bP s)):=by have hz:=zd hs;have:=ZN (l:=l) (s:=bP s) (by rw[di];omega);rw[di]at this;obtain⟨h1,h2,h3⟩:=h;exact⟨rfl,by omega,by omega⟩
def MW{lim:Nat}(hl:lim<=16384):∀(r:List (List UInt8))(l h:List Int),(∀s,s∈r->s.length<=64)->fH 65536 l->ZR lim r l=some h->fH 65536 h
 |[],l,h,_,hh,e=>by cases e;exact hh|s::r,l,h,hs,hh,e=>by
  rw[ZR]at e;split at e;.rename_i hc;exact MW hl r _ h (λx hx=>hs x (db _ hx)) (E8 hh hl (hs s (cb ..)) hc) e
  grind
def Py{xs:List (List UInt8)}(hx:xs.length<=32){lim:Nat}(hl:lim<=16384):∀(r pre:List (List UInt8))(l JR:List Int)(k:Nat),xs=pre++r->(∀s,s∈r->s.length<=64)->fH 65536 l->JR.length=pre.length->r.length<k->match ZR lim r l with|some h=>∃q,pQ N k ((lim:Int),xs,(xs.length:Int),(pre.length:Int),65536,l,JR,0)=some (.inr (65536,h,q,0))|none=>∃q,pQ N k ((lim:Int),xs,(xs.length:Int),(pre.length:Int),65536,l,JR,0)=some (.inl (0,[],q,18)):=by intro r;induction r with|nil=>intro pre l JR k hp _ _ _ hk;obtain⟨k,rfl⟩:∃q,k=q+1:=⟨k-1,by omega⟩;simp at hp;subst hp;exact⟨JR,by rw[pQ.eq_2,aO,af]⟩|cons s r ih=>
 intro pre l JR k hp hs hh ha hk;obtain⟨k,rfl⟩:∃q,k=q+1:=⟨k-1,by omega⟩;have cy:xs.length=pre.length+(r.length+1):=by rw[hp,bb];rfl
 have aiC:=hs s (cb ..);simp only[fa]at hk;have hput:=aiB (N:=N) hh (s:=bP s) (lim:=lim) (by rw[di];omega) hl;rw[di]at hput;rw[ZR];by_cases hc:l.length+sz s.length<=lim;.rw[ba hc]at hput⊢;have:=ih (pre++[s]) (FP l (bP s)) (JR++[((65536+l.length:Nat):Int)]) k (by rw[hp,bj];rfl) (λx hx=>hs x (db _ hx)) (E8 hh hl aiC hc) (by simp[ha]) (by omega);rw[show(((pre++[s]).length:Nat):Int)=((pre.length+1:Nat):Int)by simp]at this;rw[pQ.eq_2,aN (by omega),au,nY hp rfl,ae,hput,ae];simp only;rw[gT,af,ak (by omega) (by omega),aj,ai (by omega)];exact this
 .rw[bi hc]at hput⊢;refine⟨JR,?_⟩;rw[pQ.eq_2,aN (by omega),au,nY hp rfl,ae,hput,ae];rfl
def JF(hN:1300<N){xs:List (List UInt8)}(hx:xs.length<=32){lim:Nat}(hl:lim<=16384):∀(r pre:List (List UInt8))(l JR:List Int)(k:Nat),xs=pre++r->(∀s,s∈r->s.length<=64)->fH 65536 l->JR.length=pre.length->r.length<k->match ZR lim r l with|some h=>∃q,kU N k (xs,(lim:Int),JR,(pre.length:Int),0,65536,l)=some (.inr (q,0,65536,h))|none=>kU N k (xs,(lim:Int),JR,(pre.length:Int),0,65536,l)=some (.inl (18,0)):=by intro r;induction r with|nil=>intro pre l JR k hp _ _ _ hk;obtain⟨k,rfl⟩:∃q,k=q+1:=⟨k-1,by omega⟩;simp at hp;subst hp;exact⟨JR,by rw[kU.eq_2,aO,af]⟩|cons s r ih=>
 intro pre l JR k hp hs hh ha hk;obtain⟨k,rfl⟩:∃q,k=q+1:=⟨k-1,by omega⟩;have cy:xs.length=pre.length+(r.length+1):=by rw[hp,bb];rfl
 have aiC:=hs s (cb ..);simp only[fa]at hk;have hput:=ZQ (N:=N) hN hh (s:=bP s) (lim:=lim) (by rw[di];omega) hl;rw[di]at hput;rw[ZR];by_cases hc:l.length+sz s.length<=lim;.rw[ba hc]at hput⊢;have:=ih (pre++[s]) (FP l (bP s)) (JR++[((65536+l.length:Nat):Int)]) k (by rw[hp,bj];rfl) (λx hx=>hs x (db _ hx)) (E8 hh hl aiC hc) (by simp[ha]) (by omega);rw[show(((pre++[s]).length:Nat):Int)=((pre.length+1:Nat):Int)by simp]at this;rw[kU.eq_2,aN (by omega),au,nY hp rfl,ae,hput,ae];simp only;rw[gT,af,ak (by omega) (by omega),aj,ai (by omega)];exact this
 .rw[bi hc]at hput⊢;simp only;rw[kU.eq_2,aN (by omega),au,nY hp rfl,ae,hput,ae];rfl
def Tx{xs:List (List UInt8)}(hx:xs.length<=32)(hs:∀s,s∈xs->s.length<=64)(lim b h:Int)(l:List Int):∀(r pre:List (List UInt8))(k:Nat),xs=pre++r->r.length<k->PP N k (xs,lim,xs,(xs.length:Int),(pre.length:Int),b,l,h)=some (.inr (xs,lim,b,l,h)):=by intro r;induction r with|nil=>intro pre k hp hk;obtain⟨k,rfl⟩:∃q,k=q+1:=⟨k-1,by omega⟩;simp at hp;subst hp;rw[PP.eq_2,aO,af]|cons s r ih=>
 intro pre k hp hk;obtain⟨k,rfl⟩:∃q,k=q+1:=⟨k-1,by omega⟩;have cy:xs.length=pre.length+(r.length+1):=by grind
 have h64:=hs s (by rw[hp];simp);simp at hk;have:=ih (pre++[s]) k (by rw[hp,bj];rfl) (by omega);simp at this;rw[PP.eq_2,aN (by omega),au,nY hp rfl,ae,aM (show¬(s.length:Int)>64by omega),af,ai (by omega)]<;>grind
def MX{xs:List (List UInt8)}(hx:xs.length<=32)(hs:∀s,s∈xs->s.length<=64)(lim d:Int):∀(r pre:List (List UInt8))(k:Nat),xs=pre++r->r.length<k->If N k (xs,lim,(pre.length:Int),d)=some (.inr (xs,lim,d)):=by intro r;induction r with|nil=>intro pre k hp hk;obtain⟨k,rfl⟩:∃q,k=q+1:=⟨k-1,by omega⟩;simp at hp;subst hp;rw[If.eq_2,aO,af]|cons s r ih=>
 intro pre k hp hk;obtain⟨k,rfl⟩:∃q,k=q+1:=⟨k-1,by omega⟩;have cy:xs.length=pre.length+(r.length+1):=by grind
 have h64:=hs s (by rw[hp];simp);simp at hk;have:=ih (pre++[s]) k (by rw[hp,bj];rfl) (by omega);simp at this;rw[If.eq_2,aN (by omega),au,nY hp rfl,ae,aM (show¬(s.length:Int)>64by omega),af,ai (by omega)]<;>grind
def Pz(hN:1300<N){xs:List (List UInt8)}(hx:xs.length<=32)(hs:∀s,s∈xs->s.length<=64){lim:Nat}(hl:lim<=16384):match ZR lim xs []with|some h=>fH 65536 h/\(∃q,F53 N (xs,(lim:Int))=some (65536,h,q,0))/\∃q,F21 N (xs,(lim:Int))=some (65536,h,q,0)|none=>(∃q,F53 N (xs,(lim:Int))=some (0,[],q,18))/\∃q b,F21 N (xs,(lim:Int))=some (b,[],q,18):=by have h0:fH 65536 []:=⟨rfl,rfl,by simp⟩;have l1:=Tx (N:=N) hx hs (lim:Int) 65536 0 [] xs [] N rfl (by omega);have l2:=MX (N:=N) hx hs (lim:Int) 0 xs [] N rfl (by omega);have k1:=Py (N:=N) hx hl xs [] [] [] N rfl hs h0 rfl (by omega);have k2:=JF (N:=N) hN hx hl xs [] [] [] N rfl hs h0 rfl (by omega);have hh:∀h,ZR lim xs []=some h->fH 65536 h:=λh e=>MW hl xs [] h hs h0 e;rw[show((([]:List (List UInt8)).length:Nat):Int)=0from rfl]at l1 l2;rw[F53.eq_1,F21.eq_1,F93.eq_1,F45.eq_1];simp only[ae];rw[Av,ba h0,ba (show(0:Int)<=(lim:Int)/\(lim:Int)<=16384by omega)];simp only[ae];rw[gT,af,aM (show¬(xs.length:Int)>32by omega),af,aM (show¬(lim:Int)<0 by omega),af,aM (show¬(lim:Int)>16384by omega),ae,af,af,l1,l2];simp only[ae];generalize ZR lim xs []=t at k1 k2 hh⊢;cases t with|some h=>obtain⟨q1,k1⟩:=k1;obtain⟨q2,k2⟩:=k2;rw[show((([]:List (List UInt8)).length:Nat):Int)=0from rfl]at k1 k2;exact⟨hh h rfl,⟨q1,by rw[k1];rfl⟩,⟨q2,by rw[k2];rfl⟩⟩|none=>obtain⟨q1,k1⟩:=k1;rw[show((([]:List (List UInt8)).length:Nat):Int)=0from rfl]at k1 k2;exact⟨⟨[],by rw[k1];rfl⟩,⟨[],0,by erw[k2];rfl⟩⟩
def xl(l h:List Int):Bool:=decide (h.length<=l.length)&&((l.take h.length).map λ(n:Int)=>UInt8.ofNat n.toNat)==(h.map λ(n:Int)=>UInt8.ofNat n.toNat)
def Tz(l h:List Int):F54 N (l,h)=some (xl l h):=by
 rw[F54.eq_1];unfold xl;by_cases hc:h.length<=l.length;.rw[aT (show(l.length:Int)>=(h.length:Int)by omega),au,aT (show(0:Int)<=(h.length:Int)by omega),aj,bd,aT hc,aj,F95.eq_1];rfl
 grind
end
section
variable{N:Nat}{ts:List aB}{xs:List (List UInt8)}{fs:List Func}
def ZS{l m:List fA}(hN:l.length<N)(hl:l.length<=100000):L9 N (l,m)=some (decide (l=m)):=by
 rw[L9.eq_1];by_cases h:l.length=m.length;.rw[qO (show(l.length:Int)=(m.length:Int)by omega)];have key:=oL (l:=l) (m:=m) (a:=(.inr ():Bool⊕Unit)) (b:=.inl false) (Lf:=λk i=>Pi N k (l,m,(l.length:Int),i)) h (λk=>by simp only[Pi.eq_2,aO,af]) (λk i x y hx hy h1 h2=>by
  have hi:=aC h1;simp only[Pi.eq_2,aN hi,au,aE h1,aE h2,ae,ai (show i<9223372036854775807by omega)];by_cases e:x=y;.subst e;simp
  .rw[bi e,show(x.1==y.1&&(x.2==y.2&&true))=false by cases hh:(x.1==y.1&&(x.2==y.2&&true))with|false=>rfl|true=>simp only[la,al,lw]at hh;exact absurd (Prod.ext hh.1 hh.2) e];rfl) N hN;grind
 .rw[tE (show(l.length:Int)≠(m.length:Int)by omega),aM (λe=>h (by rw[e]))];rfl
def ZT(hN:14000000<N)(hm:ig ts xs fs):F50 N (ts,xs,fs)=some (MV ts xs fs):=by
 have h32:=hm.1.2.2.2.1;rw[F50.eq_1,F89.eq_1,EI (show 1300<N by omega) hm];simp only[ae];unfold MV;by_cases hc:j0 ts xs fs=0
 .have hv:iE ts xs fs:=⟨hm,HO hc⟩;rw[ba hc,show(j0 ts xs fs !=0)=false by simp[hc],af];rcases dM (l:=fs) (g:=λ_:Unit=>(.inr ():(Int×Int×Int)⊕Unit)) (Out:=λr=>∃i a e,r=.inl (i,a,e)/\(fO (mz ts xs fs) 0 fs).elim 0 (λr=>r.2)=e) (Inv:=λi _=>fO (mz ts xs fs) 0 fs=fO (mz ts xs fs) i (fs.drop i)) (Lf:=λk i _=>Pl N k (fs,(fs.length:Int),i,ts,xs,fs)) (λk _ _=>by simp only[Pl.eq_2,aO,af]) (λk i x _ hx hI=>by
    have hi:=aC hx;have hd:fs.drop i=x::fs.drop (i+1):=by rw[gg hi];rw[aw hi]at hx;rw[fd hx]
    simp only[Pl.eq_2,aN hi,au,aE hx,aqr hN hv (aE hx),ae,ai (show i<9223372036854775807by omega)];have hq:(bif(gm ts xs fs x (i:Int)).2.2.2==0then Option.bind (L9 N ((gm ts xs fs x (i:Int)).1,x.2.2.2.2.2.1)) (λy=>bif !y then some true else Option.bind (L9 N ((gm ts xs fs x (i:Int)).2.1,x.2.2.2.2.2.2)) λz=>some (!z))else some false)=some (decide ((gm ts xs fs x (i:Int)).2.2.2=0/\¬((gm ts xs fs x (i:Int)).1=x.2.2.2.2.2.1/\(gm ts xs fs x (i:Int)).2.1=x.2.2.2.2.2.2))):=by
     by_cases he:(gm ts xs fs x (i:Int)).2.2.2=0
     .obtain⟨h1,h2⟩:=E6 hv (hv.get hx) he;obtain⟨⟨g1,g2⟩,_⟩:=rN h1;have r1:=pW g1;have r2:=pW g2;have hle:=h1.fn.len.2;rw[he,oO rfl,au,h2];simp only;rw[ZS (by omega) (by omega),ZS (by omega) (by omega)];simp only[ae];by_cases e1:za (vh ts fs x)=x.2.2.2.2.2.1
      .rw[aT e1,dj,af];by_cases e2:za (cN (cO x))=x.2.2.2.2.2.2;.rw[aT e2,aM (show¬(True/\¬(za (vh ts fs x)=x.2.2.2.2.2.1/\za (cN (cO x))=x.2.2.2.2.2.2))fromλh=>h.2 ⟨e1,e2⟩)];rfl
       .rw[aM e2,aT (show True/\¬(za (vh ts fs x)=x.2.2.2.2.2.1/\za (cN (cO x))=x.2.2.2.2.2.2)from⟨trivial,λh=>e2 h.2⟩)];rfl
      .rw[aM e1,aT (show True/\¬(za (vh ts fs x)=x.2.2.2.2.2.1/\za (cN (cO x))=x.2.2.2.2.2.2)from⟨trivial,λh=>e1 h.1⟩)];rfl
     .rw[tD he,af,aM (λh=>he h.1)]
    rw[hq,ae];rw[hd,fO]at hI;unfold mz at hI⊢;by_cases he:(gm ts xs fs x (i:Int)).2.2.2=0
    .rw[ba he]at hI;by_cases hs:(gm ts xs fs x (i:Int)).1=x.2.2.2.2.2.1/\(gm ts xs fs x (i:Int)).2.1=x.2.2.2.2.2.2;.rw[ba hs,bi (λh=>h rfl)]at hI;exact .inr ⟨(),hI,by rw[aM (λh=>h.2 hs),af,qO he,af]⟩
     .rw[bi hs,ba (by decide)]at hI;exact .inl ⟨_,⟨(i:Int),-1,32,rfl,by rw[hI];rfl⟩,by rw[aT ⟨he,hs⟩,au]⟩
    .rw[bi he,ba he]at hI;exact .inl ⟨_,⟨(i:Int),(gm ts xs fs x (i:Int)).2.2.1,(gm ts xs fs x (i:Int)).2.2.2,rfl,by rw[hI];rfl⟩,by rw[aM (λh=>he h.1),af,tE he,au]⟩) (k:=N) (s:=()) rfl (by omega)with⟨r,⟨i,a,e,rfl,h2⟩,h3⟩|⟨_,h1,h3⟩;.rw[h3,h2];rfl
  .rw[h3,h1,ss];rfl
 .rw[bi hc,show(j0 ts xs fs !=0)=true by simp[bne,hc],au];rfl
def TA(h:MV ts xs fs=0):j0 ts xs fs=0:=by unfold MV at h<;>grind
def vY(s k h r:Int):Prop:=(1<=s/\s<=5000)/\(0<=k/\k<=4096)/\(0<=h/\h<=16384)/\1<=r/\r<=16
def E9(a b c:Int):F56 N (a,b,c)=some (decide (b<=a/\a<=c)):=by rw[F56.eq_1,gE,ae,t7]
def Q1(hN:1300<N)(s k h r:Int):F28 N ([],s,k,h,r)=some (if vY s k h r then 0 else 8):=by
 rw[F28.eq_1];simp only[E9,ae];obtain⟨n,rfl⟩:∃q,N=q+1:=⟨N-1,by omega⟩;have hl:Ps (n+1) (n+1) ([],(([]:List Int).length:Int),0)=some (.inr ()):=by rfl
 unfold vY<;>grind
def limited(hN:1300<N)(s k h r:Int):F18 N (s,k,h,r)=some (decide (vY s k h r)):=by
 rw[F18.eq_1,F43.eq_1,F81.eq_1];obtain⟨n,rfl⟩:∃q,N=q+1:=⟨N-1,by omega⟩;have hl:Wj (n+1) (n+1) (0,[],s,k,h,r)=some (.inr ()):=by rw[Wj.eq_2];rfl
 rw[hl];simp only[gE,ae];rw[show(decide (s>=1)&&(decide (s<=5000)&&(decide (k>=0)&&(decide (k<=4096)&&(decide (h>=0)&&(decide (h<=16384)&&(decide (r>=1)&&decide (r<=16))))))))=decide (vY s k h r)by rw[m7];unfold vY;simp only[al,dk,ge_iff_le,and_assoc]];rw[aM (show¬(([]:List Int).length:Int)>2000by decide),af];cases decide (vY s k h r)<;>rfl
def RV(g:Nat)(x:bY):Prop:=(x.1=3/\x.2.1=0/\x.2.2.1=16777216*(g+1)/\x.2.2.2.1=0/\x.2.2.2.2.1=0/\x.2.2.2.2.2=0)\/((x.1=1/\x.2.2.2.2.2=0\/x.1=2)/\(256<=x.2.1/\x.2.1<8448)/\(16777216*(g+1)+24<=x.2.2.1/\x.2.2.1<=16777216*(g+1)+4096/\x.2.2.1%8=0)/\(x.2.2.2.1=0\/65536<=x.2.2.2.1/\x.2.2.2.1%8=0)/\(x.2.2.2.2.1=0\/65536<=x.2.2.2.2.1/\x.2.2.2.2.1%8=0))
def TB(x:bY):Prop:=u64 x.2.1/\u64 x.2.2.1/\u64 x.2.2.2.1/\u64 x.2.2.2.2.1
def aqy{g:Nat}(h:g<=100):OQ N (g:Int)=some (16777216*((g:Int)+1)):=by rw[OQ.eq_1,aQ (by omega),aZ (n:=(g:Int)+1) (by omega),aZ (by omega)]
def Q2{g:Nat}(h:g<=100):F22 N (g:Int)=some (16777216*((g:Int)+1)):=by rw[F22.eq_1,aQ (n:=(g:Int)+1) (by omega),aQ (by omega),aZ (by omega)]
def aiD(a:Int):SN N a=some (decide (256<=a/\a<8448)):=by rw[SN.eq_1,gE,ae,t7]
def aeG{a:Int}(h:u64 a):F82 N a=some (decide (256<=a/\a<8448)):=by have h1:=h.1;have h2:=h.2;rw[F82.eq_1,Cn h1,aZ (by omega),gE,ae];congr 1;grind
def Q3{a:Int}(h:u64 a):Ma N a=some (decide (a=0\/65536<=a/\a%8=0)):=by rw[Ma.eq_1,oK h.1,gE,dL,ae];congr 1;grind
def Cy{a:Int}(h:u64 a):F83 N a=some (decide (a=0\/65536<=a/\a%8=0)):=by rw[F83.eq_1,oK h.1,gE,dL,ae];congr 1;grind
def aiE{g:Nat}(hg:g<=100){x:bY}(hx:TB x):F91 N ((g:Int),x.1,x.2.1,x.2.2.1,x.2.2.2.1,x.2.2.2.2.1,x.2.2.2.2.2)=some (decide (RV g x)):=by
 obtain⟨st,cd,sp,df,pn,ky⟩:=x;obtain⟨u1,u2,u3,u4⟩:=hx;simp at u1 u2 u3 u4;rw[F91.eq_1];simp only[aqy hg,aiD,Q3 u3,Q3 u4,ae];have p2:=u2.2;by_cases c3:st=3;.subst c3;rw[oO rfl,au];congr 1;rw[m7];unfold RV<;>grind
 .rw[tD c3];by_cases c4:sp<16777216*((g:Int)+1);.rw[aT c4,aM (show¬RV g (st,cd,sp,df,pn,ky)fromλh=>by unfold RV at h;simp at h;omega)];rfl
  .rw[aM c4,aZ (n:=sp-_) (by omega),oK (by omega)];by_cases c5:16777216*((g:Int)+1)+24<=sp/\sp<=16777216*((g:Int)+1)+4096/\sp%8=0
   .rw[aM (show¬sp-16777216*((g:Int)+1)<24by omega),aM (show¬sp-16777216*((g:Int)+1)>4096by omega),qO (show(sp-16777216*((g:Int)+1))%8=0 by omega)];have e:decide (RV g (st,cd,sp,df,pn,ky))=((decide (st=1/\ky=0\/st=2))&&(decide (256<=cd/\cd<8448)&&(decide (df=0\/65536<=df/\df%8=0)&&decide (pn=0\/65536<=pn/\pn%8=0)))):=by rw[m7];unfold RV<;>grind
    grind
   .have e1:(bif decide (sp-16777216*((g:Int)+1)<24)then some true else bif decide (sp-16777216*((g:Int)+1)>4096)then some true else some ((sp-16777216*((g:Int)+1))%8!=0))=some true:=by rw[dL,dL];congr 1;grind
    rw[e1,aM (show¬RV g (st,cd,sp,df,pn,ky)fromλh=>by unfold RV at h;simp only at h;omega)];rfl
def aiF{g:Nat}(hg:g<=100){x:bY}(hx:TB x):F44 N ((g:Int),x.1,x.2.1,x.2.2.1,x.2.2.2.1,x.2.2.2.2.1,x.2.2.2.2.2)=some (decide (RV g x)):=by
 obtain⟨st,cd,sp,df,pn,ky⟩:=x;obtain⟨u1,u2,u3,u4⟩:=hx;simp only at u1 u2 u3 u4;rw[F44.eq_1];have p1:=u2.1;have p2:=u2.2;have e:(decide (256<=cd/\cd<8448)&&(decide (sp>=16777216*((g:Int)+1)+24)&&(decide (sp<=16777216*((g:Int)+1)+4096)&&(sp%8==0&&(decide (df=0\/65536<=df/\df%8=0)&&decide (pn=0\/65536<=pn/\pn%8=0))))))=decide ((256<=cd/\cd<8448)/\(16777216*((g:Int)+1)+24<=sp/\sp<=16777216*((g:Int)+1)+4096/\sp%8=0)/\(df=0\/65536<=df/\df%8=0)/\(pn=0\/65536<=pn/\pn%8=0)):=by rw[m7];simp only[al,lw,dk];omega
 have b1:aS (16777216*((g:Int)+1)+24)=16777216*((g:Int)+1)+24:=aZ (by omega);have b2:aS (16777216*((g:Int)+1)+4096)=16777216*((g:Int)+1)+4096:=aZ (by omega);have Dg:∀{α:Type}(K:Bool->α),∀q:Bool,q=decide ((256<=cd/\cd<8448)/\(16777216*((g:Int)+1)+24<=sp/\sp<=16777216*((g:Int)+1)+4096/\sp%8=0)/\(df=0\/65536<=df/\df%8=0)/\(pn=0\/65536<=pn/\pn%8=0))->K q=K q:=λ_ _ _=>rfl;simp only[Q2 hg,ae];by_cases c1:st=1
 .rw[oO c1,au];by_cases c2:ky=0;.rw[qO c2,af];simp only[ae,Q2 hg,aeG u1,Cy u3,Cy u4,b1,b2,oK p1,gE,e];congr 1;rw[ka];unfold RV;simp only;omega
  .rw[tE c2,au,aM (show¬RV g (st,cd,sp,df,pn,ky)fromλh=>by unfold RV at h;simp only at h;omega)];rfl
 .rw[tD c1,af];by_cases c2:st=2;.rw[oO c2,au];simp only[ae,Q2 hg,aeG u1,Cy u3,Cy u4,b1,b2,oK p1,gE,e];congr 1;rw[ka];unfold RV;simp only;omega
  .rw[tD c2,af];by_cases c3:st=3;.rw[oO c3,au];simp only[gE,ae];congr 1;rw[m7];unfold RV;simp only[al,lw,dk];omega
   .rw[tD c3,af,aM (show¬RV g (st,cd,sp,df,pn,ky)fromλh=>by unfold RV at h;simp only at h;omega)];rfl
def ZU(l:List bY):Prop:=(1<=l.length/\l.length<=16)/\∀(i:Nat)x,l[i]?=some x->RV i x
def Q4(hN:1300<N){l:List bY}(hr:∀x,x∈l->TB x):F52 N l=some (if ZU l then 0 else 8):=by
 rw[F52.eq_1];by_cases h1:(l.length:Int)<1;.rw[aT h1,bi (λh=>by have:=h.1.1;omega)];rfl
 rw[aM h1,af,ae];by_cases h2:(l.length:Int)>16;.rw[aT h2,bi (λh=>by have:=h.1.2;omega)];rfl
 rw[aM h2];rcases dM (l:=l) (g:=λ_:Unit=>(.inr ():Int⊕Unit)) (Out:=λr=>r=.inl 8/\¬ZU l) (Inv:=λi _=>∀(j:Nat)x,j<i->l[j]?=some x->RV j x) (Lf:=λk i _=>PH N k (l,(l.length:Int),i)) (λk _ _=>by simp only[PH.eq_2,aO,af]) (λk i x _ hx hI=>by
  have hi:=aC hx;simp only[PH.eq_2,aN hi,au,aE hx,ae,aiE (show i<=100by omega) (hr x (aX hx)),ai (show i<9223372036854775807by omega)];by_cases hv:RV i x;.exact .inr ⟨(),λj y hj hy=>by
   by_cases e:j=i;.subst e;rw[hx]at hy;rw[<-fd hy];exact hv
   .exact hI j y (by omega) hy,by rw[aT hv];rfl⟩
  .exact .inl ⟨_,⟨rfl,λh=>hv (h.2 i x hx)⟩,by rw[aM hv];rfl⟩) (k:=N) (s:=()) (λj x hj=>by omega) (by omega)with⟨r,⟨rfl,h3⟩,h4⟩|⟨_,h3,h4⟩;.grind
 .rw[h4,ba ⟨by omega,λi x hx=>h3 i x (aC hx) hx⟩];rfl
def acN(hN:1300<N){l:List bY}(hr:∀x,x∈l->TB x):F20 N l=some (if ZU l then 0 else 8):=by
 rw[F20.eq_1];by_cases h1:(l.length:Int)=0;.rw[oO h1,bi (λh=>by have:=h.1.1;omega)];rfl
 rw[tD h1,af,ae];by_cases h2:(l.length:Int)>16;.rw[aT h2,bi (λh=>by have:=h.1.2;omega)];rfl
 rw[aM h2];rcases dM (l:=l) (g:=λ_:Unit=>(.inr ():Int⊕Unit)) (Out:=λr=>r=.inl 8/\¬ZU l) (Inv:=λi _=>∀(j:Nat)x,j<i->l[j]?=some x->RV j x) (Lf:=λk i _=>P2 N k (l,i)) (λk _ _=>by simp only[P2.eq_2,aO,af]) (λk i x _ hx hI=>by
  have hi:=aC hx;simp only[P2.eq_2,aN hi,au,aE hx,ae,aiF (show i<=100by omega) (hr x (aX hx)),ai (show i<9223372036854775807by omega)];by_cases hv:RV i x;.exact .inr ⟨(),λj y hj hy=>by
   by_cases e:j=i;.subst e;rw[hx]at hy;rw[<-fd hy];exact hv
   .exact hI j y (by omega) hy,by rw[aT hv];rfl⟩
  .exact .inl ⟨_,⟨rfl,λh=>hv (h.2 i x hx)⟩,by rw[aM hv];rfl⟩) (k:=N) (s:=()) (λj x hj=>by omega) (by omega)with⟨r,⟨rfl,h3⟩,h4⟩|⟨_,h3,h4⟩;.grind
 .rw[h4,ba ⟨by omega,λi x hx=>h3 i x (aC hx) hx⟩];rfl
end
section
variable{N:Nat}{ts:List aB}{xs:List (List UInt8)}{fs:List Func}
def rgn(s:Region):Prop:=u64 s.1/\TN s.2
def MY{g:Nat}(hg:g<16){l:List Int}:gU (16777216*((g:Int)+1)) l↔l.length%8=0/\l.length<=4096:=by unfold gU;omega
def MZ(lim:Int)(g:Nat)(s:Region)(x:bY):Prop:=s.1=16777216*((g:Int)+1)/\s.1+s.2.length=x.2.2.1/\(s.2.length:Int)<=lim/\s.2.length%8=0
def awm(hN:14000000<N)(hm:ig ts xs fs)(hc:j0 ts xs fs=0){st:List Region}{rs:List bY}(hs:∀s,s∈st->rgn s)(hr:∀x,x∈rs->TB x)(hl:st.length=rs.length)(FK:rs.length<=16){kl:Int}(hk:kl<=4096)(sl hp gl hb sp:Int)(bs:List Int):∃r:Int,(r=0\/r=8)/\((pR N N (st,(st.length:Int),0,ts,xs,fs,sl,kl,hp,gl,hb,bs,st,rs,sp))=some (if r=0then .inr ()else .inl 8))/\sy N N (0,ts,xs,fs,sl,kl,hp,gl,hb,bs,st,rs,sp)=some (if r=0then .inr ()else .inl 8)/\(r=0->∀(g:Nat)s x,st[g]?=some s->rs[g]?=some x->MZ kl g s x/\(x.1≠3->∃y W,F55 N (s.1,s.2,ts,xs,fs,x.2.1)=some (y::W,0)/\F24 N (s.1,s.2,ts,xs,fs,x.2.1)=some (y::W,0)/\E7 fs x.2.1.toNat y/\mq ts fs (x.2.1.toNat/256-1) (x.2.1.toNat%256)<=s.2.length)):=by
 have key:∀(n g k:Nat),g+n=st.length->n<k->(∀(j:Nat)s x,j<g->st[j]?=some s->rs[j]?=some x->MZ kl j s x/\(x.1≠3->∃y W,F55 N (s.1,s.2,ts,xs,fs,x.2.1)=some (y::W,0)/\F24 N (s.1,s.2,ts,xs,fs,x.2.1)=some (y::W,0)/\E7 fs x.2.1.toNat y/\mq ts fs (x.2.1.toNat/256-1) (x.2.1.toNat%256)<=s.2.length))->∃r:Int,(r=0\/r=8)/\((pR N k (st,(st.length:Int),(g:Int),ts,xs,fs,sl,kl,hp,gl,hb,bs,st,rs,sp))=some (if r=0then .inr ()else .inl 8))/\sy N k ((g:Int),ts,xs,fs,sl,kl,hp,gl,hb,bs,st,rs,sp)=some (if r=0then .inr ()else .inl 8)/\(r=0->∀(g:Nat)s x,st[g]?=some s->rs[g]?=some x->MZ kl g s x/\(x.1≠3->∃y W,F55 N (s.1,s.2,ts,xs,fs,x.2.1)=some (y::W,0)/\F24 N (s.1,s.2,ts,xs,fs,x.2.1)=some (y::W,0)/\E7 fs x.2.1.toNat y/\mq ts fs (x.2.1.toNat/256-1) (x.2.1.toNat%256)<=s.2.length)):=by
  intro n;induction n with|zero=>
   intro g k h1 h2 hI;obtain⟨k,rfl⟩:∃q,k=q+1:=⟨k-1,by omega⟩;refine⟨0,.inl rfl,?_,?_,λ_ j s x h3 h4=>hI j s x (by have:=aC h3;omega) h3 h4⟩;.rw[pR.eq_2,aM (show¬(g:Int)<(st.length:Int)by omega),af,ba rfl]
   .rw[sy.eq_2,aM (show¬(g:Int)<(st.length:Int)by omega),af,ba rfl]|succ n ih=>
   intro g k h1 h2 hI;obtain⟨k,rfl⟩:∃q,k=q+1:=⟨k-1,by omega⟩;obtain⟨s,es⟩:=jq (l:=st) (i:=g) (by omega);obtain⟨x,ex⟩:=jq (l:=rs) (i:=g) (by omega);have zK:=hs s (aX es);have hxr:=hr x (aX ex);obtain⟨sb,cW⟩:=s;obtain⟨x1,x2,x3,x4,x5,x6⟩:=x;obtain⟨⟨p6,tv⟩,Ny⟩:=zK;obtain⟨⟨hc1,ov⟩,⟨hp1,hp2⟩,_⟩:=hxr;simp only at p6 tv Ny hc1 ov hp1 hp2;have hbase:aS (16777216*aS (av ((g:Int)+1)))=16777216*((g:Int)+1):=by rw[aQ (by omega),aZ (n:=(g:Int)+1) (by omega),aZ (by omega)]
   rw[pR.eq_2,sy.eq_2,aT (show(g:Int)<(st.length:Int)by omega)];simp only[au,aE es,aE ex,ae,hbase,Q2 (show g<=100by omega)];by_cases hst:MZ kl g (sb,cW) (x1,x2,x3,x4,x5,x6)
   .obtain⟨c1,c2,c3,c4⟩:=id hst;simp only at c1 c2 c3 c4;have hsk:gU sb cW:=by rw[c1];exact(MY (by omega)).2 ⟨c4,by omega⟩
    have e1:aS (sb+aS (cW.length:Int))=sb+cW.length:=by rw[aZ (n:=(cW.length:Int)) (by omega),aZ (by omega)]
    rw[e1,EK (show 1300<N by omega) ⟨p6,tv⟩,aT hsk,qO c1,qO c2,aM (show¬(cW.length:Int)>kl by omega),QZ,qO (show(cW.length:Int)%8=0 by omega)];simp only[af,ae,dj];by_cases c5:x1=3
    .rw[oO c5,au,au,ai (by omega)];exact ih (g+1) k (by omega) (by omega) λj s y h3 h4 h5=>by
      by_cases e:j=g;.subst e;rw[es]at h4;rw[ex]at h5;cases fd h4;cases fd h5;exact⟨hst,λh=>absurd c5 h⟩
      .exact hI j s y (by omega) h4 h5
    .rw[tD c5,af,af];obtain⟨a,rfl⟩:=dT hc1;rcases aqx (N:=N) (by omega) hm hc ⟨p6,tv⟩ hsk Ny (a:=a) (by omega)with⟨y,W,w1,w2,w3,w4⟩|⟨e,e',e0,e0',w1,w2⟩
     .rw[w1,w2];simp only[ae,gT,af];rw[ai (by omega)];exact ih (g+1) k (by omega) (by omega) λj s y' h3 h4 h5=>by
       by_cases e:j=g;.subst e;rw[es]at h4;rw[ex]at h5;cases fd h4;cases fd h5;exact⟨hst,λ_=>⟨y,W,w1,w2,by simpa using w3,by simpa using w4⟩⟩
       .exact hI j s y' (by omega) h4 h5
     .rw[w1,w2];simp only[ae,tE e0,tE e0',au];exact⟨8,.inr rfl,rfl,rfl,λh=>absurd h (by decide)⟩
   .refine⟨8,.inr rfl,?_,?_,λh=>absurd h (by decide)⟩
    .by_cases c1:sb=16777216*((g:Int)+1)
     .by_cases ail:cW.length>100000;.rw[qO c1,af];have:decide ((cW.length:Int)>kl)=true:=aT (by omega);rw[this];cases(aS (sb+aS (cW.length:Int))!=x3)<;>rfl
      have e1:aS (sb+aS (cW.length:Int))=sb+cW.length:=by rw[aZ (n:=(cW.length:Int)) (by omega),aZ (by omega)]
      rw[qO c1,af,e1];by_cases c2:sb+cW.length=x3
      .rw[qO c2,af];by_cases c3:(cW.length:Int)>kl;.rw[aT c3];rfl
       .rw[aM c3,af,QZ,tE (show(cW.length:Int)%8≠0fromλh=>hst ⟨c1,c2,by simp only;omega,by simp only;omega⟩)];rfl
      .rw[tE c2];rfl
     .rw[tE c1];rfl
    .by_cases c1:sb=16777216*((g:Int)+1)
     .rw[qO c1,af,EK (show 1300<N by omega) ⟨p6,tv⟩];by_cases hsk:gU sb cW
      .have aqz:=hsk;rw[c1]at aqz;obtain⟨k1,k2⟩:=(MY (by omega)).1 aqz;have e1:aS (sb+aS (cW.length:Int))=sb+cW.length:=by rw[aZ (n:=(cW.length:Int)) (by omega),aZ (by omega)]
       rw[aT hsk,ae,dj,af,e1];by_cases c2:sb+cW.length=x3;.rw[qO c2,af,aT (show(cW.length:Int)>kl by false_or_by_contra;rename_i h;exact hst ⟨c1,c2,by simp only;omega,k1⟩)];rfl
       .rw[tE c2];rfl
      .rw[aM hsk];rfl
     .rw[tE c1];rfl
 have:=key st.length 0 N (by omega) (by omega) (λj s x hj=>by omega);exact this
def aiG(hN:14000000<N)(hm:ig ts xs fs){st:List Region}{rs:List bY}(hs:∀s,s∈st->rgn s)(hr:∀x,x∈rs->TB x)(sl kl hp gl hb sp:Int){bs:List Int}:(SQ N (ts,xs,fs,sl,kl,hp,gl,hb,bs,st,rs,sp)=some 8/\F6 N (ts,xs,fs,sl,kl,hp,gl,hb,bs,st,rs,sp)=some 8)\/(SQ N (ts,xs,fs,sl,kl,hp,gl,hb,bs,st,rs,sp)=some 0/\F6 N (ts,xs,fs,sl,kl,hp,gl,hb,bs,st,rs,sp)=some 0/\j0 ts xs fs=0/\fH hb bs/\ZU rs/\st.length=rs.length/\∀(g:Nat)s x,st[g]?=some s->rs[g]?=some x->MZ kl g s x/\(x.1≠3->∃y W,F55 N (s.1,s.2,ts,xs,fs,x.2.1)=some (y::W,0)/\F24 N (s.1,s.2,ts,xs,fs,x.2.1)=some (y::W,0)/\E7 fs x.2.1.toNat y/\mq ts fs (x.2.1.toNat/256-1) (x.2.1.toNat%256)<=s.2.length)):=by
 rw[SQ.eq_1,F6.eq_1,ZT hN hm,aiz hN hm,Q1 (by omega),limited (by omega),Q0,Q4 (by omega) hr,acN (by omega) hr];obtain⟨q0,hq0⟩:=ZL (N:=N) hb bs;rw[hq0];simp only[ae];by_cases c1:MV ts xs fs=0;rotate_left;.rw[tE c1];exact .inl ⟨rfl,rfl⟩
 rw[qO c1,af];by_cases c2:vY sl kl hp gl;rotate_left;.rw[bi c2,aM c2];exact .inl ⟨rfl,rfl⟩
 rw[ba c2,aT c2,gT,af,dj,af];by_cases c3:sp<0;.rw[aT c3];exact .inl ⟨rfl,rfl⟩
 rw[aM c3,af];by_cases c4:sp>sl;.rw[aT c4];exact .inl ⟨rfl,rfl⟩
 rw[aM c4];simp only[af,ae];by_cases c5:fH hb bs;rotate_left;.rw[bi c5,aM c5];exact .inl ⟨rfl,rfl⟩
 rw[ba c5,aT c5,gT,af,dj,af];by_cases c6:(bs.length:Int)>hp;.rw[aT c6];exact .inl ⟨rfl,rfl⟩
 rw[aM c6];simp only[af,ae];by_cases c7:ZU rs;rotate_left;.rw[bi c7];exact .inl ⟨rfl,rfl⟩
 rw[ba c7,gT];simp only[af];by_cases c8:(rs.length:Int)>gl;.rw[aT c8];exact .inl ⟨rfl,rfl⟩
 rw[aM c8];simp only[af,ae];by_cases c9:st.length=rs.length;rotate_left;.rw[tE (show(st.length:Int)≠(rs.length:Int)by omega)];exact .inl ⟨rfl,rfl⟩
 rw[qO (show(st.length:Int)=(rs.length:Int)by omega)];simp only[af];have hc:=TA c1;have hF:=(Ag hc).1;obtain⟨⟨l1,l2⟩,⟨l3,l4⟩,⟨l5,l6⟩,l7,l8⟩:=c2;obtain⟨h,rfl⟩:=dT l5;have ht:=Pz (N:=N) (by omega) hF.2.1 hF.2.2.2.2.1 (lim:=h) (by omega);have fin:∀b:Bool,b=false->((some (!b):Option Bool)=some true):=λb e=>by rw[e];rfl
 generalize ZR h xs []=t at ht;cases t with|none=>obtain⟨⟨q1,t1⟩,q2,q3,t2⟩:=ht;rw[t1,t2];exact .inl ⟨rfl,rfl⟩|some b=>
  obtain⟨p6,⟨q1,t1⟩,q2,t2⟩:=ht;rw[t1,t2];simp only[ae,gT,af,Tz];by_cases c10:(b.length:Int)>(bs.length:Int);.rw[aT c10,show xl bs b=false by unfold xl;rw[aM (show¬b.length<=bs.length by omega)];rfl];exact .inl ⟨rfl,rfl⟩
  rw[aM c10,af,aT (show(0:Int)<=(b.length:Int)by omega),aj,bd,aT (show b.length<=bs.length by omega),aj,BEq.comm (a:=b.map _),show(((bs.take b.length).map λ(n:Int)=>UInt8.ofNat n.toNat)==(b.map λ(n:Int)=>UInt8.ofNat n.toNat))=xl bs b by unfold xl;rw[aT (show b.length<=bs.length by omega)];rfl];cases xl bs b with|false=>exact .inl ⟨rfl,rfl⟩|true=>
   simp only[dj,af];obtain⟨r,r0,r1,r2,r3⟩:=awm hN hm hc hs hr c9 c7.1.2 l4 sl (h:Int) gl hb sp bs;rw[r1,r2];rcases r0 with rfl|rfl;.exact .inr ⟨rfl,rfl,hc,c5,c7,c9,r3 rfl⟩
   .exact .inl ⟨rfl,rfl⟩
end
section
variable{N:Nat}{ts:List aB}{xs:List (List UInt8)}{fs:List Func}
def acO(hN:1300<N)(ht:QL ts fs)(sl kl hp gl hb sp:Int)(bs:List Int)(st:List Region)(rs:List bY):F5 N (ts,xs,fs,sl,kl,hp,gl,hb,bs,st,rs,sp)=some true\/(F5 N (ts,xs,fs,sl,kl,hp,gl,hb,bs,st,rs,sp)=some false/\ig ts xs fs/\bs.length<=4200/\st.length<=20/\rs.length<=20/\∀s,s∈st->s.2.length<=4200):=by
 rw[F5.eq_1];rcases Y9 (N:=N) (xs:=xs) hN ht with h|⟨h,hm⟩;.rw[h];exact .inl rfl
 rw[h];simp only[ae,af];by_cases c1:(bs.length:Int)>4200;.rw[aT c1];exact .inl rfl
 rw[aM c1,af];by_cases c2:(st.length:Int)>20;.rw[aT c2];exact .inl rfl
 rw[aM c2,af];by_cases c3:(rs.length:Int)>20;.rw[aT c3];exact .inl rfl
 rw[aM c3,ae,af];rcases dM (l:=st) (g:=λ_:Unit=>(.inr ():Bool⊕Unit)) (Out:=λr=>r=.inl true) (Inv:=λi _=>∀(j:Nat)s,j<i->st[j]?=some s->s.2.length<=4200) (Lf:=λk i _=>Rd N k (i,ts,xs,fs,sl,kl,hp,gl,hb,bs,st,rs,sp)) (λk _ _=>by simp only[Rd.eq_2,aO,af]) (λk i s _ hx hI=>by
  have hi:=aC hx;simp only[Rd.eq_2,aN hi,au,aE hx,ae,ai (show i<9223372036854775807by omega)];by_cases hv:(s.2.length:Int)>4200;.exact .inl ⟨_,rfl,by rw[aT hv];rfl⟩
  .exact .inr ⟨(),λj y hj hy=>by
   by_cases e:j=i;.subst e;rw[hx]at hy;rw[<-fd hy];omega
   .exact hI j y (by omega) hy,by rw[aM hv];rfl⟩) (k:=N) (s:=()) (λj x hj=>by omega) (by omega)with⟨r,rfl,h4⟩|⟨_,h3,h4⟩;.rw[h4];exact .inl rfl
 .rw[h4];exact .inr ⟨rfl,hm,by omega,by omega,by omega,λs hs=>by obtain⟨j,hj⟩:=List.getElem?_of_mem hs;exact h3 j s (aC hj) hj⟩
def vF:List bY->Nat->List Int|[],_=>[]|x::r,i=>cond (x.1==1) ((i:Int)::vF r (i+1)) (vF r (i+1))
def aiH{rs:List bY}(h:rs.length<=20):∀(n i k:Nat)(acc:List Int),i+n=rs.length->n<k->acc.length<=i->D4 N k (acc,rs,(rs.length:Int),(i:Int))=some (acc++vF (rs.drop i) i)/\D9 N k (rs,acc,(i:Int))=some (acc++vF (rs.drop i) i):=by intro n;induction n with|zero=>intro i k acc h1 h2 h3;obtain⟨k,rfl⟩:∃q,k=q+1:=⟨k-1,by omega⟩;rw[D4.eq_2,D9.eq_2,aM (show¬(i:Int)<(rs.length:Int)by omega),af,pA (by omega)];simp[vF]|succ n ih=>
 intro i k acc h1 h2 h3;obtain⟨k,rfl⟩:∃q,k=q+1:=⟨k-1,by omega⟩;obtain⟨x,ex⟩:=jq (l:=rs) (i:=i) (by omega);have ed:rs.drop i=x::rs.drop (i+1):=by obtain⟨hi,e⟩:=ci.1 ex;rw[gg hi,e]
 rw[D4.eq_2,D9.eq_2,aT (show(i:Int)<(rs.length:Int)by omega),au,aE ex,ae,ae,ai (by omega),ak (by omega) (by omega),aj,aj,ed,vF];cases hx:(x.1==1)with|true=>have:=ih (i+1) k (acc++[(i:Int)]) (by omega) (by omega) (by simp;omega)<;>grind|false=>exact ih (i+1) k acc (by omega) (by omega) (by omega)
def ze(hN:1300<N){rs:List bY}(h:rs.length<=20)(hr:∀x,x∈rs->TB x)(hv:ZU rs):F27 N rs=some (vF rs 0,0)/\F7 N rs=some (vF rs 0):=by have:=aiH (N:=N) h rs.length 0 N [] (by omega) (by omega) (by simp);simp at this;rw[F27.eq_1,F7.eq_1,Q4 (by omega) hr,ba hv,this.1,this.2]<;>grind
def aiI(a b:Nat):Int.tmod (a:Int) (b:Int)=((a%b:Nat):Int):=by rfl
def B7(hN:1300<N){sl kl hp gl hb sp:Int}{bs:List Int}{st:List Region}{rs:List bY}(hc:SQ N (ts,xs,fs,sl,kl,hp,gl,hb,bs,st,rs,sp)=some 0)(h:rs.length<=20)(hr:∀x,x∈rs->TB x)(hv:ZU rs){i:Nat}(hi:i<=65535){j:Int}(hj:(vF rs 0)[i%(vF rs 0).length]?=some j):F9 N (ts,xs,fs,sl,kl,hp,gl,hb,bs,st,rs,sp,(i:Int))=some (j,0):=by
 have hp:0<(vF rs 0).length:=by grind
 rw[F9.eq_1,hc];simp only[ae,gT,af,aM (show¬(i:Int)<0 by omega),aM (show¬(i:Int)>65535by omega),(ze (N:=N) hN h hr hv).1,tD (show((vF rs 0).length:Int)≠0 by omega),aM (show¬((vF rs 0).length:Int)=0 by omega),fj,aj,aiI,aE hj]
def aiJ{l:List Region}(h:(Ty.sl bp).ok l):∀s,s∈l->rgn s:=λs hs=>by have h1:=h.2 s hs;exact⟨h1.1,Zl h1.2⟩
def aiK{l:List bY}(h:(Ty.sl eG).ok l):∀s,s∈l->TB s:=λs hs=>by have h1:=h.2 s hs;exact⟨h1.2.1,h1.2.2.1,h1.2.2.2.1,h1.2.2.2.2.1⟩
end
section
variable{N:Nat}{ts:List aB}{xs:List (List UInt8)}{fs:List Func}
def aiL(hN:14000000<N)(hm:ig ts xs fs){sl kl hp gl hb sp:Int}{bs:List Int}{st:List Region}{rs:List bY}(h:SQ N (ts,xs,fs,sl,kl,hp,gl,hb,bs,st,rs,sp)=some 0):vY sl kl hp gl:=by
 false_or_by_contra;rename_i c2;rw[SQ.eq_1,ZT hN hm,Q1 (by omega)]at h;simp only[ae]at h;by_cases c1:MV ts xs fs=0;.rw[qO c1,af,bi c2]at h;cases h
 .rw[tE c1]at h;cases h
def acP(hN:1300<N){a:Int}(ha:0<=a/\a<=65535)(s k h r:Int):F28 N ([a],s,k,h,r)=some (if vY s k h r then 0 else 8):=by
 rw[F28.eq_1];simp only[E9,ae];obtain⟨n,rfl⟩:∃q,N=q+2:=⟨N-2,by omega⟩;have hl:Ps (n+2) (n+2) ([a],(([a]:List Int).length:Int),0)=some (.inr ()):=by rw[Ps.eq_2,aT (show(0:Int)<(([a]:List Int).length:Int)by simp),show idx [a] (0:Int)=some a from rfl,ae,F58.eq_1,E9,aT ha];rfl
 rw[hl];unfold vY<;>grind
def M0(hN:1300<N){sl kl hp gl hb sp:Int}{bs:List Int}{st:List Region}{rs:List bY}(h:rs.length<=20)(hr:∀x,x∈rs->TB x)(hv:ZU rs):F26 N (ts,xs,fs,sl,kl,hp,gl,hb,bs,st,rs,sp)=some (if(vF rs 0).length=0then 3 else if sp=sl then 7 else 0):=by rw[F26.eq_1,(ze (N:=N) hN h hr hv).1,ae]<;>grind
def ZV{α:Type}{l:List α}{i:Nat}{x:α}(h:l[i]?=some x):l.set i x=l:=by obtain⟨hi,e⟩:=ci.1 h;subst e;simp_all
def PA{st:List Region}(h:st.length<=20)(hs:∀s,s∈st->s.2.length<=4200){sl kl hp gl hb sp c:Int}{bs:List Int}{rs:List bY}(z1 z2 z3 z4 z5 z6:Int):∀(n i k:Nat),i+n=st.length->n<k->P1 N k (c,(st.length:Int),(i:Int),ts,xs,fs,sl,kl,hp,gl,hb,bs,rs,sp,st,z1,z2,z3,z4,z5,z6)=some (c,ts,xs,fs,sl,kl,hp,gl,hb,bs,rs,sp,st,z1,z2,z3,z4,z5,z6):=by intro n;induction n with|zero=>intro i k h1 h2;obtain⟨k,rfl⟩:∃q,k=q+1:=⟨k-1,by omega⟩;rw[P1.eq_2,aM (show¬(i:Int)<(st.length:Int)by omega)];rfl|succ n ih=>intro i k h1 h2;obtain⟨k,rfl⟩:∃q,k=q+1:=⟨k-1,by omega⟩;obtain⟨x,ex⟩:=jq (l:=st) (i:=i) (by omega);have hx:=hs x (eQ ex);rw[P1.eq_2,aT (show(i:Int)<(st.length:Int)by omega),au,cB (show i<st.length by omega),aj,bd,ex,ae,ak (show x.2.length<=10000000by omega) (show 1<=1000by omega),aj,aj,ae,ZV ex,ai (show i<9223372036854775807by omega)];exact ih (i+1) k (by omega) (by omega)
def TC(hN:14000000<N)(hm:ig ts xs fs){sl kl hp gl hb sp:Int}{bs:List Int}{st:List Region}{rs:List bY}(hc:SQ N (ts,xs,fs,sl,kl,hp,gl,hb,bs,st,rs,sp)=some 0)(h:rs.length<=20)(hr:∀x,x∈rs->TB x)(hv:ZU rs)(b1:bs.length<=4200)(b2:st.length<=20)(b4:∀s,s∈st->s.2.length<=4200)(h0:(vF rs 0).length=0){i:Int}(hi:0<=i/\i<=65535):F10 N (ts,xs,fs,sl,kl,hp,gl,hb,bs,st,rs,sp,i)=some (ts,xs,fs,sl,kl,hp,gl,hb,bs,st,rs,sp,3,-1,0):=by have hl:=PA (N:=N) (ts:=ts) (xs:=xs) (fs:=fs) b2 b4 (sl:=sl) (kl:=kl) (hp:=hp) (gl:=gl) (hb:=hb) (sp:=sp) (c:=3) (bs:=bs) (rs:=rs) 0 0 0 0 0 0 st.length 0 N (by omega) (by omega);simp at hl;rw[F10.eq_1,hc,ae,gT,af,acP (by omega) hi,ba (aiL hN hm hc),ae,gT,af,M0 (by omega) h hr hv,ba h0,ae,show((3:Int)!=0)=true from rfl,au,ak (show bs.length<=10000000by omega) (show 1<=1000by omega),aj,ak (show st.length<=10000000by omega) (show 32<=1000by omega),aj,hl,ae];simp[ak (show rs.length<=10000000by omega) (show 48<=1000by omega),aj]
def ZW(b:Int)(l:List Int):F34 N (b,l,b,l)=some true:=by rw[F34.eq_1,oO rfl,au,ib]
def aiM(hN:1300<N){rs:List bY}(h:rs.length<=20):F35 N (rs,rs)=some true:=by
 have key:∀(n i k:Nat),i+n=rs.length->n<k->VA N k (rs,rs,(i:Int))=some (.inr ()):=by intro n;induction n with|zero=>intro i k h1 h2;obtain⟨k,rfl⟩:∃q,k=q+1:=⟨k-1,by omega⟩;rw[VA.eq_2,aM (show¬(i:Int)<(rs.length:Int)by omega)];rfl|succ n ih=>intro i k h1 h2;obtain⟨k,rfl⟩:∃q,k=q+1:=⟨k-1,by omega⟩;obtain⟨x,ex⟩:=jq (l:=rs) (i:=i) (by omega);rw[VA.eq_2,aT (show(i:Int)<(rs.length:Int)by omega),aE ex,ae,ae];simp[ib,la,dj,af,ai (show i<9223372036854775807by omega)];exact ih (i+1) k (by omega) (by omega)
 have:=key rs.length 0 N (by omega) (by omega);simp at this;rw[F35.eq_1,qO rfl,this];rfl
def aiN(hN:1300<N)(hm:ig ts xs fs){sl kl hp gl hb sp:Int}{bs:List Int}{st:List Region}{rs:List bY}(h:rs.length<=20)(b2:st.length<=20):F11 N (ts,xs,fs,sl,kl,hp,gl,hb,bs,st,rs,sp,ts,xs,fs,sl,kl,hp,gl,hb,bs,st,rs,sp)=some true:=by
 have key:∀(n i k:Nat),i+n=st.length->n<k->VB N k ((i:Int),ts,xs,fs,sl,kl,hp,gl,hb,bs,st,rs,sp,ts,xs,fs,sl,kl,hp,gl,hb,bs,st,rs,sp)=some (.inr ()):=by intro n;induction n with|zero=>intro i k h1 h2;obtain⟨k,rfl⟩:∃q,k=q+1:=⟨k-1,by omega⟩;rw[VB.eq_2,aM (show¬(i:Int)<(st.length:Int)by omega)];rfl|succ n ih=>intro i k h1 h2;obtain⟨k,rfl⟩:∃q,k=q+1:=⟨k-1,by omega⟩;obtain⟨x,ex⟩:=jq (l:=st) (i:=i) (by omega);rw[VB.eq_2,aT (show(i:Int)<(st.length:Int)by omega),au,aE ex,ae,ae,ZW,ae,dj,af,ai (show i<9223372036854775807by omega)];exact ih (i+1) k (by omega) (by omega)
 have:=key st.length 0 N (by omega) (by omega);simp at this;rw[F11.eq_1,acg hN hm,aT ⟨rfl,rfl,rfl⟩,ae,ZW,aiM hN h]<;>grind
def PB:∀(l:List bY)(i:Nat)(j:Int),j∈vF l i->∃g x,j=((i+g:Nat):Int)/\l[g]?=some x/\x.1=1
 |[],_,_,h=>by cases h|x::r,i,j,h=>by unfold vF at h;cases hx:(x.1==1)with|true=>
  rw[hx]at h;rcases dl.1 h with rfl|h;.exact⟨0,x,rfl,rfl,by simpa using hx⟩
  .obtain⟨g,y,e1,e2,e3⟩:=PB r (i+1) j h;exact⟨g+1,y,by rw[e1];congr 1;omega,e2,e3⟩|false=>rw[hx,af]at h;obtain⟨g,y,e1,e2,e3⟩:=PB r (i+1) j h;exact⟨g+1,y,by rw[e1];congr 1;omega,e2,e3⟩
def HP(hN:1300<N){sl kl hp gl hb sp:Int}{bs:List Int}{st:List Region}{rs:List bY}(hc:SQ N (ts,xs,fs,sl,kl,hp,gl,hb,bs,st,rs,sp)=some 0)(h:rs.length<=20)(hr:∀x,x∈rs->TB x)(hv:ZU rs){i:Int}(hi:0<=i/\i<=65535)(h0:(vF rs 0).length=0):F9 N (ts,xs,fs,sl,kl,hp,gl,hb,bs,st,rs,sp,i)=some (0,6):=by rw[F9.eq_1,hc];simp[ae,gT,af,aM (show¬i<0 by omega),aM (show¬i>65535by omega),(ze (N:=N) hN h hr hv).1,oO (show((vF rs 0).length:Int)=0 by omega),au]
def HQ{i k n:Nat}(h:Int.tmod ((i:Int)-(k:Int)) (n:Int)=0):i%n=k%n:=by
 obtain⟨q,hq⟩:=Int.dvd_of_tmod_eq_zero h;have e:(i:Int)=(k:Int)+(n:Int)*q:=by omega
 have e2:(i:Int)%(n:Int)=(k:Int)%(n:Int):=by simp_all
 omega
def ZX(hN:14000000<N)(ht:QL ts fs){st:List Region}{rs:List bY}(hs:∀s,s∈st->rgn s)(hr:∀x,x∈rs->TB x)(sl kl hp gl hb sp a b:Int){bs:List Int}:F3 N (ts,xs,fs,sl,kl,hp,gl,hb,bs,st,rs,sp,a,b)=some true:=by
 rw[F3.eq_1,ap0,ae];rcases acO (N:=N) (xs:=xs) (by omega) ht sl kl hp gl hb sp bs st rs with h|⟨h,hm,b1,b2,b3,b4⟩;.rw[h];rfl
 rw[h,ae,af];rcases aiG (N:=N) hN hm hs hr sl kl hp gl hb sp (bs:=bs)with⟨h1,h2⟩|⟨h1,h2,h3,h4,h5,h6,h7⟩;.rw[h2];rfl
 rw[h2];simp only[ae,gT,af];by_cases a1:a<0;.rw[aT a1];rfl
 by_cases a2:b<0;.rw[aM a1,aT a2];rfl
 by_cases a3:a>65535;.rw[aM a1,aM a2,aT a3];rfl
 by_cases a4:b>65535;.rw[aM a1,aM a2,aM a3,aT a4];rfl
 rw[aM a1,aM a2,aM a3,aM a4];simp only[ae,af,dj,(ze (N:=N) (by omega) b3 hr h5).2];have hE:F8 N (ts,xs,fs,sl,kl,hp,gl,hb,bs,st,rs,sp)=some (if(vF rs 0).length=0then 3 else if sp=sl then 7 else 0,0):=by rw[F8.eq_1,h1,ae,gT,af,M0 (by omega) b3 hr h5,ae]
 rw[hE];simp only[ae,gT,af];by_cases h0:(vF rs 0).length=0;.rw[HP (by omega) h1 b3 hr h5 (i:=a) (by omega) h0,HP (by omega) h1 b3 hr h5 (i:=b) (by omega) h0,TC hN hm h1 b3 hr h5 b1 b2 b4 h0 (i:=a) (by omega),ba h0];simp only[ae,oO (show((vF rs 0).length:Int)=0 by omega),ib,dj,af,au,bne_self_eq_false,aiN (N:=N) (by omega) hm b3 b2]
 obtain⟨i,rfl⟩:∃i:Nat,a=(i:Int):=⟨a.toNat,by omega⟩;obtain⟨k,rfl⟩:∃k:Nat,b=(k:Int):=⟨b.toNat,by omega⟩;obtain⟨j,ej⟩:=jq (l:=vF rs 0) (i:=i%(vF rs 0).length) (ti _ (by omega));obtain⟨j2,ej2⟩:=jq (l:=vF rs 0) (i:=k%(vF rs 0).length) (ti _ (by omega));rw[B7 (N:=N) (by omega) h1 b3 hr h5 (i:=i) (by omega) ej,B7 (N:=N) (by omega) h1 b3 hr h5 (i:=k) (by omega) ej2,bi h0];obtain⟨g,x,rfl,e2,e3⟩:=PB rs 0 j (eQ ej);rw[kb]at ej⊢;have hg:=aC e2;have h3':((if sp=sl then 7 else 0:Int)==3)=false:=by by_cases d:sp=sl<;>simp[d]
 simp only[ae,gT,af,h3',tD (show((vF rs 0).length:Int)≠0 by omega),ib,dj,bne_self_eq_false,aM (show¬(g:Int)<0 by omega),aM (show¬(g:Int)>=(rs.length:Int)by omega),aE e2,qO e3,aM (show¬((vF rs 0).length:Int)=0 by omega),fj,aj,aQ (n:=(i:Int)-(k:Int)) (by omega)];have hsame:i%(vF rs 0).length=k%(vF rs 0).length->(g:Int)=j2:=λe=>by rw[e,ej2]at ej;exact(fd ej).symm
 by_cases c:Int.tmod ((i:Int)-(k:Int)) ((vF rs 0).length:Int)=0
 .rw[oO c,au,qO (hsame (HQ c)),ae,af,oO (hsame (HQ c))];by_cases d:((vF rs 0).length:Int)>1;.rw[aT d];rfl
  .rw[aM d];rfl
 .rw[tD c,af,ae,af];by_cases d:((vF rs 0).length:Int)>1;.rw[aT d];rfl
  .rw[aM d,oO (hsame (by rw[show(vF rs 0).length=1by omega,Nat.mod_one,Nat.mod_one]))];rfl
def ZY:∀x,okL (kS [(36,true,eZ),(3,false,(.int .i64)),(3,false,(.int .i64))]) x->F3 20000000 x=some true:=by intro x h;obtain⟨h1,h⟩:=mw h;obtain⟨_,h⟩:=mw h;obtain⟨h3,h⟩:=mw h;obtain⟨_,h⟩:=mw h;obtain⟨_,h⟩:=mw h;obtain⟨_,h⟩:=mw h;obtain⟨_,h⟩:=mw h;obtain⟨_,h⟩:=mw h;obtain⟨h9,h⟩:=mw h;obtain⟨h10,h⟩:=mw h;obtain⟨h11,h⟩:=mw h;obtain⟨ts,xs,fs,sl,kl,hp,gl,hb,bs,st,rs,sp,a,b⟩:=x;exact ZX (N:=20000000) (by omega) (Zf h1 h3) (aiJ h10) (aiK h11) sl kl hp gl hb sp a b
end
end Go.Proofs.YtgdkmdochlhhlaaGreat
namespace Go.bL
open Go Go.RowKit
def B5{α β:Type}(f:α->Option β):List α->Option (List β)|[]=>some []|x::r=>match f x,B5 f r with|some y,some ys=>some (y::ys)|_,_=>none
def BQ(m:List (Tr bu)):Nat->AV->Option D|0,_=>none|k+1,x=>match x with
 |.d x=>some x|.own els .full=>some (.sl els)|.own els (.cU _ _)=>some (.sl els)|.ref lv sl aq off n sz=>(dJ m (.ref lv sl aq off n sz)).map .sl|.dz lv sl aq off n sz=>match j3 m lv sl aq with|some cs=>if off+n*sz<=cs.length then(B5 (BQ m k) ((cs.drop off).take (n*sz))).map λds=>.sl (chunk sz n ds)else none|none=>none
 |_=>none
def aqA(call:Go.bL.Call):Go.bL.Call:=λf args mem aI nv=>match call f args mem aI nv with|some (.agg cs,cm,_,n)=>(B5 (BQ cm 9) cs).map λds=>(.agg (ds.map .d),[.lf],.lf,n)|_=>none
def Cx.given(X:Cx):Cx:={w:=X.w,F:=λb o=>X.F b o\/(¬X.old b/\b<X.w.heap.size),ρ:=X.ρ,old:=X.old}
def Q5{α β:Type}{f:α->Option β}:∀{xs:List α}{ys:List β},B5 f xs=some ys->ys.length=xs.length/\∀(k:Nat)(y:β),ys[k]?=some y->∃a,xs[k]?=some a/\f a=some y
 |[],ys,h=>by grind[B5]|a::xs,ys,h=>by
  simp[B5]at h;split at h;.rename_i z zs h1 h2;cases h;obtain⟨g1,g2⟩:=Q5 h2<;>grind
  grind
section
variable{X:Cx}{m:List (Tr bu)}{t:Tr Unit}
def Fa(h:aH X m t):∀(k:Nat){x:AV}{y:D}{v:Value},BQ m k x=some y->VC X x v->DR X.w X.given.F y v
 |0,_,_,_,hx,_=>by cases hx|k+1,x,y,v,hx,hv=>by
  have hsub:∀b o,X.F b o->X.given.F b o:=λb o hb=>.inl hb;have Rm:∀{els:List (List D)}{a:Option Addr}{cap sz b o:Nat},v=.slice a els.length cap->els.length<=cap->(0<els.length->a=some ⟨b,o,none⟩)->eO X.w X.F X.F els b o sz->DR X.w X.given.F (.sl els) v:=by rintro els a cap sz b o rfl h2 h3 h4;exact DR.gI (h4.mono hsub λq _ hq=>.inl hq) rfl h2 h3
  unfold BQ at hx;split at hx;.cases hx;exact DR.mono hsub hv
  .cases hx;obtain⟨a,b,o,sz,h1,h2,h3⟩:=hv<;>grind
  .cases hx;obtain⟨a,b,o,sz,cap,h1,h2,h3,h4,_⟩:=hv<;>grind
  .rename_i lv sl aq off len sz;obtain⟨els,he,rfl⟩:=aJ hx;obtain⟨L,a,cap,hL,hsz,rfl,hcap,hat⟩:=hv;obtain⟨es,hrd,he⟩:=aV he;split at he;case isFalse=>cases he
   cases he;have hlen:((es.drop off).take len).length=len:=by grind
   have key:eO X.w X.F X.given.F es L.b L.o L.sz->DR X.w X.given.F (.sl ((es.drop off).take len)) (.slice a len cap):=by intro Nz;refine DR.gI (b:=L.b) (o:=L.o+off*L.sz) (sz:=L.sz) ((Nz.sub off len).mono hsub λ_ _ h=>h) hlen hcap λhq=>?_<;>grind
   unfold qQ at hrd;split at hrd
   .rename_i v' els' hg;split at hrd;.rename_i hvv;injection hrd with hrd;subst hrd;have hvv:=am hvv;subst hvv;obtain⟨L',hL',h1,h2,h3,h4⟩:=h.fI _ _ _ hg;grind[Block,bu.aq,dJ,aG,eO,Cx.given]
    grind
   .rename_i v' els' hg;split at hrd;.rename_i hvv;cases hrd;have hvv:=am hvv;subst hvv;obtain⟨L',hL',h1,h2⟩:=h.fI _ _ _ hg;grind[bu.aq,dJ,aG,eO,Cx.given]
    grind
   grind
  .rename_i lv sl aq off n sz;split at hx
   .rename_i cs hb;split at hx
    .rename_i hoff;obtain⟨ds,hd,rfl⟩:=aJ hx;obtain⟨L,aaD,hL,rfl,hcap,hn,_⟩:=hv;obtain⟨L',hL',hE⟩:=h.fI lv sl _ (qW hb);have hL':X.ρ aq=some L':=hL';rw[hL]at hL';injection hL' with hL';subst hL';obtain⟨_,hblk,hno,hcell⟩:=hE;obtain⟨hdl,cell⟩:=Q5 hd;have hdl:ds.length=n*sz:=by rw[hdl,i7,oi];omega
     obtain⟨c1,c2,c3⟩:=zp hdl;refine DR.gI (b:=L.b) (o:=L.o+off) (sz:=sz) ⟨c2,λi e j x h1 h2=>?_⟩ c1 hcap λ_=>rfl;obtain⟨g1,g2,g3⟩:=c3 i j e x h1 h2;refine⟨.inr ⟨hblk.1,hblk.lt⟩,?_⟩;obtain⟨a,ha,hca⟩:=cell _ _ g3;rw[fx]at ha;split at ha;.rw[pd]at ha;obtain⟨u,hu,hvc⟩:=hcell _ _ ha;refine⟨u,?_,Fa h k hca hvc⟩;rw[show L.o+off+i*sz+j=L.o+(off+(i*sz+j))by omega];exact hu
     .cases ha
    grind
   grind
  grind
def HR(h:aH X m t){k:Nat}:∀{xs:List AV}{ys:List D}{vs:List Value},B5 (BQ m k) xs=some ys->aD (VC X) xs vs->aD (VC X.given) (ys.map .d) vs
 |[],ys,[],hx,_=>by cases hx;trivial|x::xs,ys,v::vs,hx,hv=>by
  simp[B5]at hx;split at hx;.rename_i y ys' h1 h2;cases hx;exact⟨Fa h k h1 hv.1,HR h h2 hv.2⟩
  grind|[],_,_::_,_,hv=>hv.elim|_::_,_,[],_,hv=>hv.elim
end
def M1{Y:Cx}(hF:∀b o,Y.F b o->b<Y.w.heap.size)(hl:Low Y):aH Y [.lf] .lf:=by
 refine⟨λlv sl e he=>?_,λv hv=>by simp at hv,λk k' v v' L L' a _ _ _ _ _=>?_,hF,hl⟩;.unfold aG at he;grind[Tr.get?,ou,bu.aq]
 .rcases a with⟨lv,_,_,_,he,_⟩|⟨_,he⟩;.unfold aG at he;grind[bu.fz,bu.aq,Tr.get?,bX,Holds]
  simp_all
def HS(cm:List (Tr bu)):AV->Option AV|.agg cs=>(B5 (BQ cm 9) cs).map λds=>.agg (ds.map .d)|.fu _=>none|x=>(BQ cm 9 x).map .d
def ZZ(cm:List (Tr bu)):AV->Option AV|.fu vs=>(B5 (HS cm) vs).map .fu|x=>HS cm x
def M3(call:Go.bL.Call):Go.bL.Call:=λf args mem aI nv=>match call f args mem aI nv with|some (r,cm,_,n)=>(ZZ cm r).map λv=>(v,[.lf],.lf,n)|none=>none
def M4{X:Cx}{m:List (Tr bu)}{t:Tr Unit}(h:aH X m t){x y:AV}{v:Value}(hx:HS m x=some y)(hv:V1 X x v):V1 X.given y v:=by
 have one:∀{x:AV},(BQ m 9 x).map AV.d=some y->VC X x v->V1 X.given y v:=by intro x hx hv;obtain⟨d,h1,rfl⟩:=aJ hx;exact .k9 (Fa h 9 h1 hv)
 cases x with|agg cs=>simp only[HS]at hx;obtain⟨ds,h1,rfl⟩:=aJ hx;obtain⟨vs,rfl,h3⟩:=hv;exact⟨vs,rfl,HR h h1 h3⟩|fu cs=>cases hx|_=>simp only[HS]at hx;exact one hx hv
def HT{X:Cx}{m:List (Tr bu)}{t:Tr Unit}(h:aH X m t):∀{xs ys:List AV}{vs:List Value},B5 (HS m) xs=some ys->aD (V1 X) xs vs->aD (V1 X.given) ys vs
 |[],ys,[],hx,_=>by cases hx;trivial|x::xs,ys,v::vs,hx,hv=>by
  simp[B5]at hx;split at hx;.rename_i y ys' h1 h2;cases hx;exact⟨M4 h h1 hv.1,HT h h2 hv.2⟩
  grind|[],_,_::_,_,hv=>hv.elim|_::_,_,[],_,hv=>hv.elim
def Z0{X:Cx}{m:List (Tr bu)}{t:Tr Unit}(h:aH X m t){x y:AV}{v:Value}(hx:ZZ m x=some y)(hv:VR X x v):VR X.given y v:=by cases x with|fu xs=>obtain⟨ys,h1,rfl⟩:=aJ hx;obtain⟨vs,rfl,h3⟩:=hv;exact⟨vs,rfl,HT h h1 h3⟩|_=>simp only[ZZ]at hx;exact .vM (M4 h hx hv)
def cV{P:Program}{call:Go.bL.Call}(hc:cD P call):cD P (M3 call):=by
 intro f args mem aI nv r mem' kB BX h X bV hmem hdom hargs;unfold M3 at h;split at h
 .rename_i rv cm ct n cH;obtain⟨y,hd,he⟩:=aJ h;simp only[eK]at he;obtain⟨rfl,rfl,rfl,rfl⟩:=he;obtain⟨hfn,lu⟩:=hc f args mem aI nv _ _ _ _ cH X bV hmem hdom hargs;refine⟨hfn,lu.mono ?_⟩;rintro e w'⟨Y,v,rfl,rfl,hx,hv,hm,hn,hρ⟩;refine⟨Y.given,_,rfl,rfl,⟨hx.base,hx.below,λb o hb=>.inl (hx.T4 b o hb),hx.keep,hx.loc,λb o hb=>?_⟩,Z0 hm hd hv,M1 (λb o hb=>?_) ⟨hm.p8.lt,hm.p8.gb,hm.p8.gk⟩,hn,hρ⟩
  .rcases hb with hb|hb;.exact hx.new b o hb
   .exact .inr (hx.base▸hb.1)
  .rcases hb with hb|hb;.exact hm.nH b o hb
   .exact hb.2
 .cases h
def vG(a b:Go.bL.Call):Go.bL.Call:=λf args mem aI nv=>match a f args mem aI nv with|some r=>some r|none=>b f args mem aI nv
def JG{P:Program}{a b:Go.bL.Call}(ha:cD P a)(hb:cD P b):cD P (vG a b):=by
 intro f args mem aI nv r mem' kB BX h;unfold vG at h;split at h;.rename_i he;injection h with h;subst h;exact ha f args mem aI nv _ mem' kB BX he
 .exact hb f args mem aI nv r mem' kB BX h
def M5(l:List Nat)(a:Go.bL.Call):Go.bL.Call:=λf args mem aI nv=>match l.any (Nat.beq f)with|true=>a f args mem aI nv|false=>none
def JH{P:Program}{l:List Nat}{a:Go.bL.Call}(ha:cD P a):cD P (M5 l a):=by
 intro f args mem aI nv r mem' kB BX h;unfold M5 at h;split at h;.exact ha f args mem aI nv r mem' kB BX h
 .cases h
end Go.bL
namespace Go.bL
open Go
def vZ:AV->Bool|.d _=>true|.own _ .bD=>true|_=>false
def Fb:AV->Bool|.agg cs=>cs.all vZ|x=>vZ x
def Fc{X:Cx}{x:AV}{v:Value}(h:vZ x=true)(hv:VC X x v):VC X.inner x v:=by cases x with
 |d x=>exact hv|own els o=>cases o with|bD=>obtain⟨a,b,o,sz,cap,h1,h2,h3,h4⟩:=hv;exact⟨a,b,o,sz,cap,h1,h2,h3,h4.mono (λ_ _ h=>h) λq hq _=>Iq hq⟩|_=>cases h
 |_=>cases h
def HU{X:Cx}:∀{xs:List AV}{vs:List Value},xs.all vZ=true->aD (VC X) xs vs->aD (VC X.inner) xs vs|[],[],_,_=>trivial|x::xs,v::vs,h,hv=>by simp only[dC,al]at h;exact⟨Fc h.1 hv.1,HU h.2 hv.2⟩|[],_::_,_,hv=>hv.elim|_::_,[],_,hv=>hv.elim
def Z1{X:Cx}{x:AV}{v:Value}(h:Fb x=true)(hv:V1 X x v):V1 X.inner x v:=by cases x with|agg cs=>obtain⟨vs,rfl,hv⟩:=hv;exact⟨vs,rfl,HU h hv⟩|d x=>exact Fc (x:=.d x) h hv|own els o=>exact Fc (x:=.own els o) h hv|_=>cases h
def M6{X:Cx}:∀{xs:List AV}{vs:List Value},xs.all Fb=true->aD (V1 X) xs vs->aD (V1 X.inner) xs vs|[],[],_,_=>trivial|x::xs,v::vs,h,hv=>by simp only[dC,al]at h;exact⟨Z1 h.1 hv.1,M6 h.2 hv.2⟩|[],_::_,_,hv=>hv.elim|_::_,[],_,hv=>hv.elim
end Go.bL
namespace Go.Sym
open Go Go.bL
def vi{α:Type}(f:List D->Option (α×List D)):List (List D)->Option (List α)|[]=>some []|e::r=>match f e,vi f r with|some (x,[]),some xs=>some (x::xs)|_,_=>none
def aiP(k:IntKind):List D->Option (Int×List D)
 |.sc (.int k' a)::r=>match decEq k k' with|.isTrue _=>some (a,r)|.isFalse _=>none
 |_=>none
def Z2:List D->Option (Bool×List D)|.sc (.bool b)::r=>some (b,r)|_=>none
def aiQ:List D->Option (List UInt8×List D)|.sc (.string s)::r=>some (s.data.toList,r)|_=>none
def dSl{α:Type}(f:List D->Option (α×List D)):List D->Option (List α×List D)
 |.sl els::r=>match vi f els with|some l=>some (l,r)|none=>none
 |_=>none
def Z3{α β:Type}(f:List D->Option (α×List D))(g:List D->Option (β×List D))(r:List D):Option ((α×β)×List D):=match f r with
 |some (x,r')=>match g r' with|some (y,r'')=>some ((x,y),r'')|none=>none
 |none=>none
def Fe:(t:Ty)->List D->Option (t.den×List D)|.int k=>aiP k|.bool=>Z2|.str=>aiQ|.sl t=>dSl (Fe t)|.unit=>λr=>some ((),r)|.prod a b=>Z3 (Fe a) (Fe b)|.val=>λ_=>none|.sum _ _=>λ_=>none
def acQ:ia->AV->Option fW
 |.int k,.d (.sc (.int k' a))=>match decEq k k' with|.isTrue _=>some ⟨.int k,a⟩|.isFalse _=>none
 |.bool,.d (.sc (.bool b))=>some ⟨.bool,b⟩|.str,.d (.sc (.string s))=>some ⟨.str,s.data.toList⟩|.sl t .d,.d (.sl els)=>(vi (Fe t) els).map λl=>⟨.sl t,l⟩|.sl t .bD,.d (.sl els)=>(vi (Fe t) els).map λl=>⟨.sl t,l⟩|.sl t .bD,.own els .bD=>(vi (Fe t) els).map λl=>⟨.sl t,l⟩|_,_=>none
def M7:List ia->List AV->Option (List fW)
 |[],[]=>some []|c::cs,a::aL=>match acQ c a,M7 cs aL with|some d,some ds=>some (d::ds)|_,_=>none
 |_,_=>none
def TD:List vo->List AV->Option (List fW)
 |[],[]=>some []|.c c::ps,a::aL=>match acQ c a,TD ps aL with|some d,some ds=>some (d::ds)|_,_=>none
 |.agg l::ps,.agg cs::aL=>match M7 l cs,TD ps aL with|some d,some ds=>some (d++ds)|_,_=>none
 |_,_=>none
def Z4:Cell->Option AV|.int k a=>some (.d (.sc (.int k a)))|.bool b=>some (.d (.sc (.bool b)))|.str s=>some (.d (.sc (.string ⟨s.toArray⟩)))|.nil false=>some (.d (.sl []))|.sl t l .d=>some (.d (.sl (bF t l)))|_=>none
def M8:List Cell->Option (List AV)|[]=>some []|x::r=>match Z4 x,M8 r with|some y,some ys=>some (y::ys)|_,_=>none
def aiR:Bool×List Cell->Option AV|(true,cs)=>(M8 cs).map .agg|(false,[x])=>Z4 x|_=>none
def vK:List (Bool×List Cell)->Option (List AV)|[]=>some []|x::r=>match aiR x,vK r with|some y,some ys=>some (y::ys)|_,_=>none
def aiS:V2->Option AV|.c x=>Z4 x|.agg cs=>(M8 cs).map .agg|.fu vs=>(vK vs).map .fu|_=>none
def aiT(c:Callee)(aL:List AV):Option AV:=match TD c.args aL with|none=>none|some ds=>match pack c.ta ds with|none=>none|some a=>match c.F a with|none=>none|some y=>match nS c.res (unpack c.tr y)with|some (ws,[])=>(qI ws).bind aiS|_=>none
def Ax{α:Type}{f:List D->Option (α×List D)}{g:α->List D}(h:∀e x r,f e=some (x,r)->e=g x++r):∀{els:List (List D)}{l:List α},vi f els=some l->els=l.map g
 |[],l,he=>by cases he;rfl|e::r,l,he=>by
  simp[vi]at he;split at he;.rename_i x xs h1 h2;cases he;rw[h e x [] h1,Ax h h2,dt];rfl
  grind
def Cz:∀(t:Ty){ds:List D}{x:t.den}{r:List D},Fe t ds=some (x,r)->ds=fm t x++r
 |.int k,ds,x,r,h=>by change aiP k ds=some (x,r)at h;unfold aiP at h;split at h<;>(try cases h);split at h<;>simp_all[Ty.den,fm]|.bool,ds,x,r,h=>by change Z2 ds=some (x,r)at h;unfold Z2 at h;split at h<;>(try cases h);rfl|.str,ds,x,r,h=>by change aiQ ds=some (x,r)at h;unfold aiQ at h;split at h<;>(try cases h)<;>simp_all[Ty.den,fm]|.sl t,ds,x,r,h=>by
  change dSl (Fe t) ds=some (x,r)at h;unfold dSl at h;split at h<;>(try cases h);split at h;.rename_i l hl;cases h;have:=Ax (g:=fm t) (λe x r h=>Cz t h) hl;subst this;rfl
  grind|.unit,ds,x,r,h=>by cases h;rfl|.prod a b,ds,x,r,h=>by
  change Z3 (Fe a) (Fe b) ds=some (x,r)at h;unfold Z3 at h;split at h
  .rename_i y r' h1;split at h;.rename_i z r'' h2;cases h;rw[Cz a h1,Cz b h2];simp[fm]
   grind
  grind|.val,ds,x,r,h=>by cases h|.sum a b,ds,x,r,h=>by cases h
def JI{t:Ty}{els:List (List D)}{l:List t.den}(h:vi (Fe t) els=some l):els=bF t l:=Ax (λ_ _ _ h=>Cz t h) h
def Q6{c:ia}{a:AV}{d:fW}(h:acQ c a=some d):(∃x,(∀rest,c.fill (d::rest)=some (x,rest))/\RC ρ0 0 [] x a)/\vZ a=true:=by
 unfold acQ at h;split at h
 .split at h;.subst_vars;cases h<;>simp_all[vZ,ρ0,RC,ia.fill]
  grind
 .cases h<;>simp_all[vZ,ρ0,RC,ia.fill]
 .cases h<;>simp_all[vZ,ρ0,RC,ia.fill]
 .obtain⟨l,hl,rfl⟩:=aJ h;exact⟨⟨_,λ_=>rfl,.inl (by rw[JI hl])⟩,rfl⟩
 .obtain⟨l,hl,rfl⟩:=aJ h;exact⟨⟨_,λ_=>rfl,.inl (by rw[JI hl])⟩,rfl⟩
 .obtain⟨l,hl,rfl⟩:=aJ h;exact⟨⟨_,λ_=>rfl,.inr ⟨_,by rw[JI hl]⟩⟩,rfl⟩
 grind
def M9:∀{cs:List ia}{aL:List AV}{ds:List fW},M7 cs aL=some ds->(∃xs,(∀rest,dF cs (ds++rest)=some (xs,rest))/\aD (RC ρ0 0 []) xs aL)/\aL.all vZ=true
 |[],[],ds,h=>by simp_all[M7,vZ,ρ0,RC,aD,dF]|c::cs,a::aL,ds,h=>by
  simp[M7]at h;split at h;.rename_i d ds' h1 h2;cases h;obtain⟨⟨x,g1,g2⟩,g3⟩:=Q6 h1;obtain⟨⟨xs,g4,g5⟩,g6⟩:=M9 h2;exact⟨⟨x::xs,λrest=>by simp only[dF,nf,g1,g4],g2,g5⟩,by simp[g3,g6]⟩
  grind|[],_::_,_,h=>by cases h|_::_,[],_,h=>by cases h
def JJ:∀{ps:List vo}{aL:List AV}{ds:List fW},TD ps aL=some ds->(∃vs,(∀rest,dO ps (ds++rest)=some (vs,rest))/\aD (RV ρ0 0 []) vs aL)/\aL.all Fb=true
 |[],aL,ds,h=>by
  unfold TD at h;split at h<;>first|(cases h;done)|skip
  .simp_all[Fb,ρ0,RV,aD,dO]
  all_goals simp_all|p::ps,aL,ds,h=>by
  unfold TD at h;split at h;.simp_all
  .rename_i c ps' a as' e;cases e;split at h;.rename_i d ds' h1 h2;cases h;obtain⟨⟨x,g1,g2⟩,g3⟩:=Q6 h1;obtain⟨⟨xs,g4,g5⟩,g6⟩:=JJ h2;refine⟨⟨.c x::xs,λrest=>by simp only[dO,tF.fill,nf,g1,g4],g2,g5⟩,?_⟩;simp[dC,g6,la];cases a<;>first|exact g3|cases g3
   grind
  .rename_i l ps' cs as' e;cases e;split at h;.rename_i d ds' h1 h2;cases h;obtain⟨⟨x,g1,g2⟩,g3⟩:=M9 h1;obtain⟨⟨xs,g4,g5⟩,g6⟩:=JJ h2;exact⟨⟨.agg x::xs,λrest=>by simp only[dO,tF.fill,bj,g1,g4],⟨_,rfl,g2⟩,g5⟩,by simp[Fb,g3,g6]⟩
   grind
  grind
def Ff:AV->Bool|.own ..=>false|_=>true
def xm:AV->Bool|.agg cs=>cs.all Ff|x=>Ff x
def Z5:AV->Bool|.fu vs=>vs.all xm|x=>xm x
def Fg{cm:List (Tr bu)}{k lv sl aq:Nat}{x y:AV}{u:List (List (List D))}(h:bG cm 0 0 k lv sl aq x=some (y,u)):xm y=true/\Ff y=true/\fY y=true:=by
 unfold bG at h;repeat'(split at h)
 all_goals first|(cases h;done)|(cases h;exact⟨rfl,rfl,rfl⟩)|(simp_all[oE];done)
def HV{cm:List (Tr bu)}{lv sl aq:Nat}:∀{k:Nat}{xs ys:List AV}{u:List (List (List D))},dN cm 0 0 lv sl aq k xs=some (ys,u)->ys.all Ff=true
 |_,[],ys,u,h=>by cases h;rfl|k,x::xs,ys,u,h=>by
  simp[dN]at h;split at h;.rename_i y u1 ys' us h1 h2;cases h;simp[(Fg h1).2.1,HV h2]
  grind
def Na{cm:List (Tr bu)}{k lv sl aq:Nat}{x y:AV}{u:List (List (List D))}(h:lH cm 0 0 lv sl aq k x=some (y,u)):xm y=true/\fY y=true:=by
 unfold lH at h;split at h;.obtain⟨z,hz,he⟩:=aJ h;cases he;exact⟨HV (u:=z.2) hz,rfl⟩
 .exact⟨(Fg h).1,(Fg h).2.2⟩
def Nb{cm:List (Tr bu)}{lv sl aq:Nat}:∀{k:Nat}{xs ys:List AV}{u:List (List (List D))},fX cm 0 0 lv sl aq k xs=some (ys,u)->ys.all xm=true
 |_,[],ys,u,h=>by cases h;rfl|k,x::xs,ys,u,h=>by
  simp[fX]at h;split at h;.rename_i y u1 ys' us h1 h2;cases h;simp[(Na h1).1,Nb h2]
  grind
def Z6{cm:List (Tr bu)}{lv sl aq:Nat}{x y:AV}{u:List (List (List D))}(h:gY cm 0 0 lv sl aq x=some (y,u)):Z5 y=true:=by
 unfold gY at h;split at h;.obtain⟨z,hz,he⟩:=aJ h;cases he;exact Nb (u:=z.2) hz
 .have:=Na h;cases y<;>first|exact this.1|cases this.2
def JK{ρ:bH}{B:Nat}{m:List (Tr E2)}{x:Cell}{a b:AV}(h:Z4 x=some b)(hx:RC ρ B m x a)(ho:Ff a=true):a=b:=by
 unfold Z4 at h;split at h<;>(try cases h);.exact hx
 .exact hx
 .exact hx
 .rcases hx with rfl|⟨_,_,rfl⟩<;>simp_all[RC,Ff,bH]
 .rcases hx with rfl|⟨_,_,rfl⟩;.rfl
  .cases ho
def Fh{ρ:bH}{B:Nat}{m:List (Tr E2)}:∀{xs:List Cell}{aL bs:List AV},M8 xs=some bs->aD (RC ρ B m) xs aL->aL.all Ff=true->aL=bs
 |[],[],bs,h,_,_=>by cases h;rfl|x::xs,a::aL,bs,h,hx,ho=>by
  simp[M8]at h;split at h;.rename_i y ys h1 h2;cases h;simp only[dC,al]at ho;rw[JK h1 hx.1 ho.1,Fh h2 hx.2 ho.2]
  grind|[],_::_,_,_,h,_=>h.elim|_::_,[],_,_,h,_=>h.elim
def acR{ρ:bH}{B:Nat}{m:List (Tr E2)}{x:Bool×List Cell}{a b:AV}(h:aiR x=some b)(hx:R1 ρ B m x a)(ho:xm a=true):a=b:=by
 unfold aiR at h;split at h;.obtain⟨z,hz,rfl⟩:=aJ h;obtain⟨aL,rfl,h2⟩:=hx;rw[Fh hz h2 ho]
 .obtain⟨c,e,h2⟩:=hx;cases e;refine JK h h2 ?_;cases a<;>first|exact ho|rfl
 grind
def Q7{ρ:bH}{B:Nat}{m:List (Tr E2)}:∀{xs:List (Bool×List Cell)}{aL bs:List AV},vK xs=some bs->aD (R1 ρ B m) xs aL->aL.all xm=true->aL=bs
 |[],[],bs,h,_,_=>by cases h;rfl|x::xs,a::aL,bs,h,hx,ho=>by
  simp[vK]at h;split at h;.rename_i y ys h1 h2;cases h;simp only[dC,al]at ho;rw[acR h1 hx.1 ho.1,Q7 h2 hx.2 ho.2]
  grind|[],_::_,_,_,h,_=>h.elim|_::_,[],_,_,h,_=>h.elim
def acS{ρ:bH}{B:Nat}{m:List (Tr E2)}{w:V2}{a b:AV}(h:aiS w=some b)(hx:RV ρ B m w a)(ho:Z5 a=true):a=b:=by
 unfold aiS at h;split at h;.refine JK h hx ?_;cases a<;>first|exact ho|rfl
 .obtain⟨z,hz,rfl⟩:=aJ h;obtain⟨aL,rfl,h2⟩:=hx;rw[Fh hz h2 ho]
 .obtain⟨z,hz,rfl⟩:=aJ h;obtain⟨aL,rfl,h2⟩:=hx;rw[Q7 hz h2 ho]
 grind
def eqV:Value->Value->Bool|.bool a,.bool b=>a==b|.int k a,.int k' b=>decide (k=k')&&decide (a=b)|.string a,.string b=>decide (a.data.toList=b.data.toList)|_,_=>false
def eqL{α:Type}(f:α->α->Bool):List α->List α->Bool|[],[]=>true|a::l,b::m=>f a b&&eqL f l m|_,_=>false
def eqD:Nat->D->D->Bool|0,_,_=>false|k+1,x,y=>match x,y with|.sc v,.sc w=>eqV v w|.sl a,.sl b=>eqL (eqL (eqD k)) a b|.er,.er=>true|_,_=>false
def eqC:AV->AV->Bool|.d x,.d y=>eqD 9 x y|_,_=>false
def Q8:AV->AV->Bool|.agg a,.agg b=>eqL eqC a b|x,y=>eqC x y
def aiV:∀{a b:Value},eqV a b=true->a=b:=by
 intro a b h;unfold eqV at h;split at h;.grind
 .grind
 .rename_i a b;have:=dv h;have:a=b:=by cases a with|mk a=>simp_all
  rw[this]
 grind
def Fi{α:Type}{f:α->α->Bool}(hf:∀a b,f a b=true->a=b):∀{l m:List α},eqL f l m=true->l=m|[],[],_=>rfl|a::l,b::m,h=>by simp[eqL,al]at h;rw[hf a b h.1,Fi hf h.2]|[],_::_,h=>by cases h|_::_,[],h=>by cases h
def Z7:∀(k:Nat)(a b:D),eqD k a b=true->a=b
 |0,_,_,h=>by cases h|k+1,a,b,h=>by
  unfold eqD at h;split at h;.rw[aiV h]
  .rw[Fi (λ_ _ h=>Fi (λa b h=>Z7 k a b h) h) h]
  .rfl
  grind
def Z8:∀(a b:AV),eqC a b=true->a=b:=by
 intro a b h;unfold eqC at h;split at h;.rw[Z7 _ _ _ h]
 .cases h
def aiW:∀(a b:AV),Q8 a b=true->a=b:=by
 intro a b h;unfold Q8 at h;split at h;.rw[Fi Z8 h]
 .exact Z8 _ _ h
def dG(P:Program)(f:Nat)(aL:List AV)(a:AV):Prop:=∀(mem:List (Tr bu))(aI:Tr Unit)(nv:Nat)(X:Cx)(bV:Array Value),aH X mem aI->aD (V1 X) aL bV.toList->(∃fn,P.funcs[f]?=some fn/\fn.body.isSome=true/\(fn.name== "runtime.NumGoroutine")=false)/\Calls P f bV X.w λe w'=>∃Y v,e=.returned v/\Y.w=w'/\Ext X Y/\VR Y a v/\aH Y [.lf] .lf/\nv<=nv/\∀u L,Y.ρ u=some L->X.ρ u=some L\/(nv<=u/\u<nv)
def Nc(o:Nat->List AV->Option AV):Go.bL.Call:=λf aL _ _ nv=>(o f aL).map λa=>(a,[.lf],.lf,nv)
def qy{P:Program}{o:Nat->List AV->Option AV}(h:∀f aL a,o f aL=some a->dG P f aL a):cD P (Nc o):=by intro f args mem aI nv r mem' kB BX he X bV hmem _ hargs;obtain⟨a,ha,e⟩:=aJ he;simp only[eK]at e;obtain⟨rfl,rfl,rfl,rfl⟩:=e;exact h f args a ha mem aI nv X bV hmem hargs
def Z9{P:Program}{call:Go.bL.Call}(hc:cD P call){f:Nat}{aL:List AV}{a rv:AV}{cm:List (Tr bu)}{ts:Tr Unit}{n:Nat}(hrun:call f aL [.lf] .lf 0=some (rv,cm,ts,n))(himp:gY cm 0 0 0 0 0 rv=some (a,[]))(hp:aL.all Fb=true):dG P f aL a:=by
 intro mem aI nv X bV hmem hargs;obtain⟨hfn,lu⟩:=hc f aL [.lf] .lf 0 _ _ _ _ hrun X.inner bV (Gl hmem) (λ_ _=>rfl) (M6 hp hargs);refine⟨hfn,lu.mono ?_⟩;rintro e w'⟨Y,u,rfl,rfl,hx,hv,hm,_,_⟩;have nI:∀b,X.old b->X.inner.old b:=λb hb=>hmem.low b hb;let W:Cx:={w:=Y.w,F:=λb o=>Y.F b o\/(¬Y.old b/\b<Y.w.heap.size),ρ:=X.ρ,old:=X.old};have hyo:Y.old=X.inner.old:=hx.base;have az1:Go.bL.Good Y cm 0 0 W:=⟨rfl,λ_ _ h=>.inl h,λh=>absurd h (by omega),λ_ cC cW e L _ hg hz hL hc o=>by obtain⟨M,hM,h2⟩:=hm.dn (.inl ⟨cC,cW,e,rfl,hg,rfl,hz⟩);rw[hL]at hM;injection hM with hM;subst hM;exact .inr ⟨(h2 hc).2,(h2 hc).1⟩⟩;have hres:VR W a u:=by rcases Is hm himp hv with⟨_,hb⟩|⟨_,_,_,_,h1,_⟩|h1<;>grind
 refine⟨W,_,rfl,rfl,⟨rfl,hx.below.mono nI,λb o hb=>.inl (hx.T4 b o hb),λb o hb=>hx.keep b o hb,λ_ _ h=>h,λb o hb=>?_⟩,hres,M1 (λb o hb=>?_) ⟨λb hb=>?_,hmem.p8.gb,FX (λb hb=>hx.below.block b (nI b (hmem.p8.gb b hb))) hmem.p8.gk⟩,bc _,λu L h=>.inl h⟩
 .rcases hb with hb|hb;.exact(hx.new b o hb).imp id λh q=>h (nI b q)
  grind
 .rcases hb with hb|hb;.exact hm.nH b o hb
  grind
 .exact iv (hmem.low b hb) hx.below.size
def acT{P:Program}{T:Tb}(hO:∀n,cD P (ga T n)){f:Nat}{c:Callee}(Vq:rD T f c)(B2:Nat.beq c.rk 65535=false){aL:List AV}{a:AV}(ha:aiT c aL=some a):dG P f aL a:=by
 unfold aiT at ha;split at ha;.cases ha
 rename_i ds hds;split at ha;.cases ha
 rename_i x hx;split at ha;.cases ha
 rename_i y hy;split at ha;case h_2=>cases ha
 rename_i ws yo;obtain⟨w,hw,hea⟩:=aV ha;obtain⟨⟨vs,Qt,Qq⟩,hpl⟩:=JJ hds;obtain⟨vs',h1,h2⟩:=Vq x y hy;rw[dP hx]at h1;have hf0:=Qt [];rw[dt,h1]at hf0;cases hf0;obtain⟨n0,rv,cm,ts,n,h3,h4⟩:=h2 aL Qq;obtain⟨a',himp,h7⟩:=(h4 ws yo).1 (by intro q;rw[q]at B2;cases B2) w hw 0 0 0;have haa:a'=a:=acS hea (h7 ρ0 0 []) (Z6 himp);subst haa;exact Z9 (hO n0) (h3 n0 (bc _)) himp hpl
def acU(call:Go.bL.Call)(f:Nat)(aL:List AV):Option AV:=match call f aL [.lf] .lf 0with
 |some (rv,cm,_,_)=>match gY cm 0 0 0 0 0 rv with|some (a,[])=>some a|_=>none
 |none=>none
def dA{P:Program}{call:Go.bL.Call}{f:Nat}(hO:cD P call){aL:List AV}{a:AV}(ha:acU call f aL=some a)(hp:aL.all Fb=true):dG P f aL a:=by
 unfold acU at ha;split at ha
 .rename_i rv cm ts nv hr;split at ha;.rename_i himp;cases ha;exact Z9 hO hr himp hp
  .cases ha
 .cases ha
structure tG where
 f:Nat
 xs:List AV
 a:AV
def lits:List tG->Nat->List AV->Option AV|[],_,_=>none|k::r,f,aL=>match Nat.beq k.f f&&eqL Q8 k.xs aL with|true=>some k.a|false=>lits r f aL
def qz{P:Program}:∀{l:List tG},(∀k∈l,dG P k.f k.xs k.a)->∀f aL a,lits l f aL=some a->dG P f aL a
 |[],_,_,_,_,h=>by cases h|k::r,hk,f,aL,a,h=>by
  unfold lits at h;split at h;.rename_i hq;rw[al]at hq;have h1:=am hq.1;have h2:=Fi aiW hq.2;cases h;rw[<-h1,<-h2];exact hk k cb
  .exact qz (λk hk'=>hk k (db _ hk')) f aL a h
def orA(x y:Nat->List AV->Option AV)(f:Nat)(aL:List AV):Option AV:=match x f aL with|some a=>some a|none=>y f aL
def xo{P:Program}{x y:Nat->List AV->Option AV}(hx:∀f aL a,x f aL=some a->dG P f aL a)(hy:∀f aL a,y f aL=some a->dG P f aL a):∀f aL a,orA x y f aL=some a->dG P f aL a:=by grind[dG,orA]
def Nd{p:Nat->Bool}:∀{l:List Nat}{f:Nat},l.all p=true->B3 l f=true->p f=true
 |[],_,_,h=>by cases h|a::r,f,h,hm=>by
  simp only[dC,al]at h;simp only[B3,ge]at hm;rcases hm with hm|hm;.simp_all
  .exact Nd h.2 hm
def rO{P:Program}{dy:Nat->Option TypeId}{md:Nat->bL.Mode}{tq:Nat->qA}{l l':List Nat}(hq:∀f,tq f=(Fp P dy md f).getD default)(h:l.all (λf=>(Fp P dy md f).isSome&&(KD P dy md f).isNone)=true)(hs:l'.all (B3 l)=true):RG P dy md (zR l' tq):=by
 have key:∀f∈l',(Fp P dy md f).isSome=true/\(KD P dy md f).isNone=true:=λf hf=>by have:=Nd h (fr.1 hs f hf);simpa[al]using this
 refine Qv hq (fr.2 λf hf=>(key f hf).1) (fr.2 λf hf=>?_);have:=(key f hf).2;unfold LD;split;.rename_i d he;rw[he]at this;cases this
 .rfl
end Go.Sym
end
