/- Parts of the proof. -/
import Derived.Test.YtnfdnnplfbfgaaaGreatLaw20lg4
import Derived.Test.YtnfdnnplfbfgaaaGreatTab20l
set_option linter.unusedVariables false
set_option linter.unusedSimpArgs false
set_option linter.defProp false
noncomputable section
namespace Go.Proofs.YtnfdnnplfbfgaaaGreat
open Go Go.bS Go.Sym
open Classical
structure Fn(ts:List aA)(xs:List (List UInt8))(fs:List Func)(f:Func):Prop where
 img:ij ts xs fs
 ok:fo ts.length f
 code:kj f.2.2.2.2.1=true
 near:∀x,x∈f.2.2.2.2.1->n7 xs.length (fV fs) f.2.2.2.1 x
def eZ(ts:List aA)(fs:List Func)(f:Func):Instr->List Int->Option (List Int):=RL ts (fV fs) f.2.2.2.1
section
variable{ts:List aA}{xs:List (List UInt8)}{fs:List Func}{f:Func}
def Fn.len(h:Fn ts xs fs f):1<=f.2.2.2.2.1.length/\f.2.2.2.2.1.length<=200:=h.ok.2.2.2.2.2.2.1
def Fn.aH(h:Fn ts xs fs f){x:Instr}(hx:x∈f.2.2.2.2.1):eT x=true:=h.ok.2.2.2.2.2.2.2.1 x hx
def Fn.rng(h:Fn ts xs fs f):jl f.2.2.2.1 ts.length:=h.ok.2.2.2.2.2.1
def Fn.vc(h:Fn ts xs fs f):VC f.2.2.2.2.1:=yo h.code
def Fn.ps(h:Fn ts xs fs f){k:Nat}{s:List Int}(hp:PS f.2.2.2.2.1 (eZ ts fs f) k s):LA ts s/\s.length<=512:=by induction hp with|zero=>exact⟨λt ht=>(by cases ht),by simp⟩|step _ hx ha _ ih=>exact ahr h.img h.rng (h.aH (aS hx)) (h.near _ (aS hx)) ih.1 ha
def apy{N:Nat}{l:List Instr}(hv:kj l=true)(hl:l.length<=200)(hN:500<N){i:Nat}(hi:i<l.length):UW N (l,(i:Int))=some (cN (nx l i),0):=by rw[UW.eq_1,NA (by omega) (by omega),hv];simp only[aq,ae,show((0:Int)!=0)=false from rfl,af,show decide ((i:Int)<0)=false by simp,show decide ((i:Int)>=(l.length:Int))=false by grind,NB (yo hv) hi]
def NR{N:Nat}(hN:1300<N)(h:Fn ts xs fs f){b:List (List Int)}{m:List Bool}{o:List Nat}{i:Nat}{x:Instr}{s s':List Int}(hk:Kn f.2.2.2.2.1 (eZ ts fs f) b m)(ho:o.length<=1000)(hp:PS f.2.2.2.2.1 (eZ ts fs f) i s)(hx:f.2.2.2.2.1[i]?=some x)(ha:eZ ts fs f x s=some s'):(∃r:Bool⊕_,(¬vi f.2.2.2.2.1 (eZ ts fs f)/\r=.inl false)/\H4 N N (f.2.2.2.2.1,s',cN (nx f.2.2.2.2.1 i),((cN (nx f.2.2.2.2.1 i)).length:Int),0,ts,xs,fs,f.1,f.2.1,f.2.2.1,f.2.2.2.1,f.2.2.2.2.1,f.2.2.2.2.2.1,f.2.2.2.2.2.2,b,m,cN o)=some r)\/∃b' m' p,(Kn f.2.2.2.2.1 (eZ ts fs f) b' m'/\Grow b m b' m'/\(∀q,q∈p->T m' q)/\(∀q,T m' q->T m q\/q∈p)/\ga m'+p.length<=ga m/\∀k,k∈nx f.2.2.2.2.1 i->T m' k/\b'[k]?=some s')/\H4 N N (f.2.2.2.2.1,s',cN (nx f.2.2.2.2.1 i),((cN (nx f.2.2.2.2.1 i)).length:Int),0,ts,xs,fs,f.1,f.2.1,f.2.2.1,f.2.2.2.1,f.2.2.2.2.1,f.2.2.2.2.2.1,f.2.2.2.2.2.2,b,m,cN o)=some (.inr (f.2.2.2.2.1,ts,xs,fs,f.1,f.2.1,f.2.2.1,f.2.2.2.1,f.2.2.2.2.1,f.2.2.2.2.2.1,f.2.2.2.2.2.2,b',m',cN (o++p))):=by
 have hle:=h.len.2;have hv:=h.vc;have key:=cL (l:=cN (nx f.2.2.2.2.1 i)) (g:=λq:List (List Int)×List Bool×List Nat=>(.inr (f.2.2.2.2.1,ts,xs,fs,f.1,f.2.1,f.2.2.1,f.2.2.2.1,f.2.2.2.2.1,f.2.2.2.2.2.1,f.2.2.2.2.2.2,q.1,q.2.1,cN (o++q.2.2)):Bool⊕_)) (Out:=λr=>¬vi f.2.2.2.2.1 (eZ ts fs f)/\r=.inl false) (Inv:=λj q=>Kn f.2.2.2.2.1 (eZ ts fs f) q.1 q.2.1/\Grow b m q.1 q.2.1/\(∀z,z∈q.2.2->T q.2.1 z)/\(∀z,T q.2.1 z->T m z\/z∈q.2.2)/\ga q.2.1+q.2.2.length<=ga m/\∀k,k∈(nx f.2.2.2.2.1 i).take j->T q.2.1 k/\q.1[k]?=some s') (Lf:=λk j q=>H4 N k (f.2.2.2.2.1,s',cN (nx f.2.2.2.2.1 i),((cN (nx f.2.2.2.2.1 i)).length:Int),j,ts,xs,fs,f.1,f.2.1,f.2.2.1,f.2.2.2.1,f.2.2.2.2.1,f.2.2.2.2.2.1,f.2.2.2.2.2.2,q.1,q.2.1,cN (o++q.2.2))) (λk q _=>by simp only[H4.eq_2,aG,af]) (λk j y q hy⟨h1,h2,h3,h4,h5,h6⟩=>by
   obtain⟨t,ht,rfl⟩:=zC hy;have hlt:=A6 hv (aS ht);have Sf:t<q.2.1.length:=by rw[h1.lm];exact hlt
   have hlb:t<q.1.length:=by rw[h1.lb];exact hlt
   have hL:=aC hy;have hj:j<9223372036854775807:=by have:=aC ht;have:=sx f.2.2.2.2.1 i;omega
   have hpt:PS f.2.2.2.2.1 (eZ ts fs f) t s':=.step hp hx ha (aS ht);have tk:∀{b':List (List Int)}{m':List Bool},Grow q.1 q.2.1 b' m'->(T m' t/\b'[t]?=some s')->∀k,k∈(nx f.2.2.2.2.1 i).take (j+1)->T m' k/\b'[k]?=some s':=λhg hh k hk'=>by
    rw[take_succ ht,bm,ca]at hk';rcases hk' with hk'|rfl;.obtain⟨g1,g2⟩:=h6 k hk';exact⟨(hg k g1).1,by rw[(hg k g1).2];exact g2⟩
    .exact hh
   rcases Lq Sf with hb|hb
   .obtain⟨v,v1,v2⟩:=h1.met t hb;have v3:=(h.ps v2).2;simp only[H4.eq_2,aD hL,aq,aB hy,ae,bQ Sf,bQ hlb,ah,am,aj hj,hb,dk,af,v1,RP (N:=N) (l:=v) (m:=s') (by omega) (by omega)];by_cases he:v=s';.subst he;refine .inr ⟨q,⟨h1,h2,h3,h4,h5,tk (.refl _ _) ⟨hb,v1⟩⟩,by simp⟩
    .exact .inl ⟨_,⟨λhS=>he (hS.one t v s' v2 hpt),rfl⟩,by rw[aL he,i5,aq]⟩
   .have hnT:¬T q.2.1 t:=λhT=>by unfold T at hT;rw[hb]at hT;cases hT
    have hc:=uJ hb;have ov:=sy m;rw[hk.lm]at ov;have hr:room ((cN (o++q.2.2)).length+1) 8=true:=ak (by rw[bR,bc];omega) (by omega);have e1:=aw hlb;refine .inr ⟨(q.1.set t s',q.2.1.set t true,q.2.2++[t]),⟨h1.add hlt hnT hpt,h2.trans (.add hnT),λz hz=>?_,λz hz=>?_,?_,tk (.add hnT) ⟨(eW Sf).2 (.inl rfl),by simp[hlb]⟩⟩,?_⟩
    .rcases bm.1 hz with hz|hz;.exact(eW Sf).2 (.inr (h3 z hz))
     .rw[ca.1 hz];exact(eW Sf).2 (.inl rfl)
    .rcases(eW Sf).1 hz with rfl|hz;.exact .inr (bm.2 (.inr (ca.2 rfl)))
     .rcases h4 z hz with hz|hz;.exact .inl hz
      .exact .inr (bm.2 (.inl hz))
    .simp only[bc,eK,m7];omega
    .simp only[H4.eq_2,aD hL,aq,aB hy,ae,bQ Sf,bQ hlb,ah,am,aj hj,hb,i5,hr,e1];rw[<-bj,ve (o++q.2.2) [t]];rfl) (k:=N) (s:=(b,m,[])) ⟨hk,.refl _ _,λz hz=>(by cases hz),λz hz=>.inl hz,by simp,λk hk=>by simp at hk⟩ (by rw[bR];have:=sx f.2.2.2.2.1 i;omega);rcases key with⟨r,h1,h2⟩|⟨⟨b',m',p⟩,⟨h1,h2,h3,h4,h5,h6⟩,he⟩;.grind
 .refine .inr ⟨b',m',p,⟨h1,h2,h3,h4,h5,λk hk'=>h6 k (by rw[bR,f9];exact hk')⟩,by simpa using he⟩
structure avb(l:List Instr)(a:Instr->List Int->Option (List Int))(s:List (List Int)×List Bool)(o:List Nat):Prop where
 kn:Kn l a s.1 s.2yw:∀j,j∈o->T s.2 j
 shut:∀j,T s.2 j->j∈o\/zH l a s.1 s.2 j
 few:ga s.2+o.length<=300
def RQ{N:Nat}(hN:1300<N)(h:Fn ts xs fs f):(∃r:Bool⊕_,(¬vi f.2.2.2.2.1 (eZ ts fs f)/\r=.inl false)/\H5 N N (f.2.2.2.2.1,ts,xs,fs,f.1,f.2.1,f.2.2.1,f.2.2.2.1,f.2.2.2.2.1,f.2.2.2.2.2.1,f.2.2.2.2.2.2,List.replicate f.2.2.2.2.1.length [],(List.replicate f.2.2.2.2.1.length false).set 0 true,[0])=some r)\/∃b m,(Kn f.2.2.2.2.1 (eZ ts fs f) b m/\∀j,T m j->zH f.2.2.2.2.1 (eZ ts fs f) b m j)/\H5 N N (f.2.2.2.2.1,ts,xs,fs,f.1,f.2.1,f.2.2.1,f.2.2.2.1,f.2.2.2.2.1,f.2.2.2.2.2.1,f.2.2.2.2.2.2,List.replicate f.2.2.2.2.1.length [],(List.replicate f.2.2.2.2.1.length false).set 0 true,[0])=some (.inr (f.2.2.2.2.1,ts,xs,fs,f.1,f.2.1,f.2.2.1,f.2.2.2.1,f.2.2.2.2.1,f.2.2.2.2.2.1,f.2.2.2.2.2.2,b)):=by
 obtain⟨hpos,hle⟩:=h.len;have hv:=h.vc;have hc0:=sy ((List.replicate f.2.2.2.2.1.length false).set 0 true);simp at hc0;have key:=Lx (σ:=List (List Int)×List Bool) (Inv:=avb f.2.2.2.2.1 (eZ ts fs f)) (μ:=λs=>ga s.2) (g:=λs=>(.inr (f.2.2.2.2.1,ts,xs,fs,f.1,f.2.1,f.2.2.1,f.2.2.2.1,f.2.2.2.2.1,f.2.2.2.2.2.1,f.2.2.2.2.2.2,s.1):Bool⊕_)) (Out:=λr=>¬vi f.2.2.2.2.1 (eZ ts fs f)/\r=.inl false) (Lf:=λk s o=>H5 N k (f.2.2.2.2.1,ts,xs,fs,f.1,f.2.1,f.2.2.1,f.2.2.2.1,f.2.2.2.2.1,f.2.2.2.2.2.1,f.2.2.2.2.2.2,s.1,s.2,cN o)) (λk s _=>by rw[show cN []=[]from rfl,H5.eq_2,show decide (((([]:List Int).length:Nat):Int)>0)=false from rfl,af]) (λk s o i hI=>by
  have hi:T s.2 i:=hI.yw i (by simp);have zU:i<f.2.2.2.2.1.length:=by rw[<-hI.kn.lm];exact hi.lt
  have avc:=hI.few;rw[bc,dl]at avc;obtain⟨v,v1,v2⟩:=hI.kn.met i hi;obtain⟨v3,v4⟩:=h.ps v2;have hx:=aw zU;have hm:=aS hx;obtain⟨r,c,e1,e2⟩:=apw hN h.img h.rng (h.aH hm) (h.near _ hm) v3 (show v.length<=600by omega);have hlen:(cN (o++[i])).length=o.length+1:=by simp[cN]
  have q1:au (((o.length+1:Nat):Int)-1)=(o.length:Int):=by rw[aJ (by omega)];omega
  have q2:(cN (o++[i]))[o.length]?=some (i:Int):=by simp[cN]
  have q3:(cN (o++[i])).take o.length=cN o:=by simp[cN]
  have hib:i<s.1.length:=by rw[hI.kn.lb];exact zU
  simp only[H5.eq_2,hlen,q1,bv (show((o.length+1:Nat):Int)>0 by omega),aq,bQ (show o.length<o.length+1by omega),ah,am,q2,ae,show decide ((0:Int)<=(o.length:Int))=true by simp,show decide (o.length<=o.length+1)=true by simp,aB hx,bQ hib,v1,e1,apy h.code hle (show 500<N by omega) zU,show((0:Int)!=0)=false from rfl,q3];cases c with|false=>refine .inl ⟨_,⟨λhS=>?_,rfl⟩,rfl⟩;obtain⟨s',hs'⟩:=hS.go i v _ v2 hx;unfold eZ at hs';rw[e2]at hs';cases hs'|true=>
    have ha:eZ ts fs f f.2.2.2.2.1[i] v=some r:=e2;simp only[dk,af,ae];rcases NR hN h (o:=o) hI.kn (by omega) v2 hx ha with⟨z,⟨z1,rfl⟩,z2⟩|⟨b',m',p,⟨g1,g2,g3,g4,g5,g6⟩,g7⟩;.exact .inl ⟨_,⟨z1,rfl⟩,by rw[z2];rfl⟩
    .refine .inr ⟨(b',m'),p,⟨g1,λj hj=>?_,λj hj=>?_,?_⟩,g5,by rw[g7];rfl⟩
     .rcases bm.1 hj with hj|hj;.exact(g2 j (hI.yw j (by simp[hj]))).1
      .exact g3 j hj
     .rcases g4 j hj with hj|hj
      .by_cases hji:j=i;.subst hji;exact .inr ⟨_,v,r,hx,by rw[(g2 j hj).2];exact v1,ha,g6⟩
       .rcases hI.shut j hj with hs|hs
        .rcases bm.1 hs with hs|hs;.exact .inl (bm.2 (.inl hs))
         .exact absurd (ca.1 hs) hji
        .exact .inr (hs.grow hj g2)
      .exact .inl (bm.2 (.inr hj))
     .show ga m'+(o++p).length<=300;rw[bc];omega) N (List.replicate f.2.2.2.2.1.length [],(List.replicate f.2.2.2.2.1.length false).set 0 true) [0] ⟨.start hv,λj hj=>by rw[ca.1 hj];exact(kH hpos 0).2 rfl,λj hj=>by rw[(kH hpos j).1 hj];exact .inl (ca.2 rfl),by simp only[dl];omega⟩ (by simp only[dl];omega);rcases key with⟨r,h1,h2⟩|⟨⟨b,m⟩,hI,he⟩;.exact .inl ⟨r,h1,h2⟩
 .refine .inr ⟨b,m,⟨hI.kn,λj hj=>?_⟩,he⟩;rcases hI.shut j hj with hs|hs<;>grind
def uM(ts:List aA)(fs:List Func)(f:Func):List Int:=(List.range f.2.2.2.2.1.length).map λk=>pS ts (GM f.2.2.2.2.1 (eZ ts fs f) k)
def Fn.NS(h:Fn ts xs fs f)(k:Nat):LA ts (GM f.2.2.2.2.1 (eZ ts fs f) k)/\(Go.Proofs.YtnfdnnplfbfgaaaGreat.GM f.2.2.2.2.1 (eZ ts fs f) k).length<=512:=by
 unfold Go.Proofs.YtnfdnnplfbfgaaaGreat.GM;split;.rename_i e;exact h.ps e.choose_spec
 .exact⟨λt ht=>(by cases ht),by simp⟩
def Fn.ahw(h:Fn ts xs fs f){y:Int}(hy:y∈uM ts fs f):0<=y/\y<=1000000:=by obtain⟨k,_,rfl⟩:=j1.1 hy;obtain⟨h1,h2⟩:=h.NS k;have:=h1.pS h.img;omega
def qo(ts:List aA)(fs:List Func)(f:Func):(uM ts fs f).length=f.2.2.2.2.1.length:=by simp[uM]
def Yp{N:Nat}(hN:1300<N)(h:Fn ts xs fs f):∃r c,QG N (ts,xs,fs,f.1,f.2.1,f.2.2.1,f.2.2.2.1,f.2.2.2.2.1,f.2.2.2.2.2.1,f.2.2.2.2.2.2)=some (r,c)/\(c=true↔vi f.2.2.2.2.1 (eZ ts fs f))/\(c=true->r=uM ts fs f):=by
 obtain⟨hpos,hle⟩:=h.len;have pre:∀X:Bool⊕_,H5 N N (f.2.2.2.2.1,ts,xs,fs,f.1,f.2.1,f.2.2.1,f.2.2.2.1,f.2.2.2.2.1,f.2.2.2.2.2.1,f.2.2.2.2.2.2,List.replicate f.2.2.2.2.1.length [],(List.replicate f.2.2.2.2.1.length false).set 0 true,[0])=some X->QG N (ts,xs,fs,f.1,f.2.1,f.2.2.1,f.2.2.2.1,f.2.2.2.2.1,f.2.2.2.2.2.1,f.2.2.2.2.2.2)=(match X with|.inl o=>some ([],o)|.inr a=>(aH (decide (0<=(a.1.length:Int))) (aH (decide (0<=(a.1.length:Int))) (aH (decide ((Int.toNat (a.1.length:Int))<=(Int.toNat (a.1.length:Int)))&&room (Int.toNat (a.1.length:Int)) 8) ((an3 N N (a.1,(a.2.2.2.2.2.2.2.2.2.2.2.length:Int),0,a.2.1,a.2.2.1,a.2.2.2.1,a.2.2.2.2.1,a.2.2.2.2.2.1,a.2.2.2.2.2.2.1,a.2.2.2.2.2.2.2.1,a.2.2.2.2.2.2.2.2.1,a.2.2.2.2.2.2.2.2.2.1,a.2.2.2.2.2.2.2.2.2.2.1,a.2.2.2.2.2.2.2.2.2.2.2,(List.replicate (Int.toNat (a.1.length:Int)) (0:Int)))).bind λp=>(match p with|.inl q=>some ([],q)|.inr c=>(aH (fM (au ((c.1.length:Int)-1)) c.2.1.length) ((c.2.1[(Int.toNat (au ((c.1.length:Int)-1)))]?).bind λr=>some (c.2.2,((r.length:Int)==0)))))))))):=λX hX=>by rw[QG.eq_1];simp only[am,show decide ((0:Int)<=(f.2.2.2.2.1.length:Int))=true by simp,ah,bd,pm,ft,ak (show f.2.2.2.2.1.length<=10000000by omega) (show 24<=1000by omega),ak (show f.2.2.2.2.1.length<=10000000by omega) (show 1<=1000by omega),d6,show fM 0 f.2.2.2.2.1.length=true from bQ (i:=0) (by omega),show Int.toNat 0=0from rfl,sB (show 1<=f.2.2.2.2.1.length by omega),ae,hX];rfl
 rcases RQ hN h with⟨r,⟨h1,rfl⟩,h2⟩|⟨b,m,⟨hk,hs⟩,h2⟩;.grind
 .have Fk:=hk.lb;obtain⟨v,⟨hv,hvb⟩,he2⟩:=fI (l:=b) (g:=λv:List Int=>(.inr (f.2.2.2.2.1,b,v):Bool⊕_)) (Inv:=λi v=>v.length=f.2.2.2.2.1.length/\∀k,k<i->v[k]?=some (pS ts (GM f.2.2.2.2.1 (eZ ts fs f) k))) (Lf:=λk i v=>an3 N k (f.2.2.2.2.1,(b.length:Int),i,ts,xs,fs,f.1,f.2.1,f.2.2.1,f.2.2.2.1,f.2.2.2.2.1,f.2.2.2.2.2.1,f.2.2.2.2.2.2,b,v)) (λk v _=>by simp only[an3.eq_2,aG,af]) (λk i y v hy⟨hv,hvb⟩=>by
    have hi:=aC hy;have e:=hk.get hs (k:=i) (by omega);rw[hy]at e;obtain⟨o1,o2⟩:=h.NS i;rw[<-dC e]at o1 o2;have hiv:i<v.length:=by omega
    obtain⟨b1,b2⟩:=o1.pS h.img;refine⟨v.set i (pS ts y),⟨by simp[hv],λj hj=>?_⟩,?_⟩
    .by_cases hji:j=i;.subst hji;rw[List.getElem?_set_self hiv,<-dC e]
     .rw[nn,bi (pD hji)];exact hvb j (by omega)
    .simp only[an3.eq_2,aD hi,aq,bQ hi,ah,am,hy,ae,IB hN h.img f o1 (show y.length<=1000by omega),show((0:Int)!=0)=false from rfl,af,bQ hiv,aw hiv,aj (show i<9223372036854775807by omega),aQ (n:=pS ts y) (by omega)]) (k:=N) (s:=List.replicate f.2.2.2.2.1.length 0) ⟨by simp,λj hj=>by omega⟩ (by omega);have hvs:v=uM ts fs f:=by
   apply lO;intro k;by_cases SY:k<f.2.2.2.2.1.length;.rw[hvb k (by omega)];unfold uM<;>grind
   .rw[eJ (by omega),eJ (by rw[qo];omega)]
  have e1:au ((f.2.2.2.2.1.length:Int)-1)=((f.2.2.2.2.1.length-1:Nat):Int):=vf (by omega) (by omega);rw[Fk]at he2;refine⟨v,decide (GM f.2.2.2.2.1 (eZ ts fs f) (f.2.2.2.2.1.length-1)=[]),?_,?_,λ_=>hvs⟩;.rw[pre _ h2];simp[am,show decide ((0:Int)<=(f.2.2.2.2.1.length:Int))=true by simp,ah,bd,pm,ft,ak (show f.2.2.2.2.1.length<=10000000by omega) (show 8<=1000by omega),Fk,he2,ae,e1,bQ (show f.2.2.2.2.1.length-1<f.2.2.2.2.1.length by omega),hk.get hs (show f.2.2.2.2.1.length-1<f.2.2.2.2.1.length by omega)];rw[ls,dj,ll]<;>simp_all
  .rw[dj];exact(hk.ok h.vc hs).symm
end
section
variable{ts:List aA}{xs:List (List UInt8)}{fs:List Func}{f:Func}
def NU{N:Nat}(hN:1300<N)(h:Fn ts xs fs f){b:List (List Int)}{m:List Bool}{c:Bool}{g:Int}{i:Nat}{x:Instr}{s s':List Int}(hk:Kn f.2.2.2.2.1 (eZ ts fs f) b m)(hp:PS f.2.2.2.2.1 (eZ ts fs f) i s)(hx:f.2.2.2.2.1[i]?=some x)(ha:eZ ts fs f x s=some s'):(∃r:Bool⊕_,(¬vi f.2.2.2.2.1 (eZ ts fs f)/\r=.inl false)/\IR N N (g,f.2.2.2.2.1,c,(i:Int),s',cN (nx f.2.2.2.2.1 i),0,ts,xs,fs,b,m)=some r)\/∃b' m' c',(Kn f.2.2.2.2.1 (eZ ts fs f) b' m'/\Grow b m b' m'/\(c'=false->c=false/\b'=b/\m'=m)/\ga m'<=ga m/\(c'=true->c=true\/ga m'<ga m)/\∀k,k∈nx f.2.2.2.2.1 i->T m' k/\b'[k]?=some s')/\IR N N (g,f.2.2.2.2.1,c,(i:Int),s',cN (nx f.2.2.2.2.1 i),0,ts,xs,fs,b,m)=some (.inr (g,f.2.2.2.2.1,c',(i:Int),ts,xs,fs,b',m')):=by
 have hv:=h.vc;have key:=cL (l:=cN (nx f.2.2.2.2.1 i)) (g:=λq:List (List Int)×List Bool×Bool=>(.inr (g,f.2.2.2.2.1,q.2.2,(i:Int),ts,xs,fs,q.1,q.2.1):Bool⊕_)) (Out:=λr=>¬vi f.2.2.2.2.1 (eZ ts fs f)/\r=.inl false) (Inv:=λj q=>Kn f.2.2.2.2.1 (eZ ts fs f) q.1 q.2.1/\Grow b m q.1 q.2.1/\(q.2.2=false->c=false/\q.1=b/\q.2.1=m)/\ga q.2.1<=ga m/\(q.2.2=true->c=true\/ga q.2.1<ga m)/\∀k,k∈(nx f.2.2.2.2.1 i).take j->T q.2.1 k/\q.1[k]?=some s') (Lf:=λk j q=>IR N k (g,f.2.2.2.2.1,q.2.2,(i:Int),s',cN (nx f.2.2.2.2.1 i),j,ts,xs,fs,q.1,q.2.1)) (λk q _=>by simp only[IR.eq_2,aG,af]) (λk j y q hy⟨h1,h2,h3,h4,h5,h6⟩=>by
   obtain⟨t,ht,rfl⟩:=zC hy;have hlt:=A6 hv (aS ht);have Sf:t<q.2.1.length:=by rw[h1.lm];exact hlt
   have hlb:t<q.1.length:=by rw[h1.lb];exact hlt
   have hL:=aC hy;have hj:j<9223372036854775807:=by have:=aC ht;have:=sx f.2.2.2.2.1 i;omega
   have hpt:PS f.2.2.2.2.1 (eZ ts fs f) t s':=.step hp hx ha (aS ht);have tk:∀{b':List (List Int)}{m':List Bool},Grow q.1 q.2.1 b' m'->(T m' t/\b'[t]?=some s')->∀k,k∈(nx f.2.2.2.2.1 i).take (j+1)->T m' k/\b'[k]?=some s':=λhg hh k hk'=>by
    rw[take_succ ht,bm,ca]at hk';rcases hk' with hk'|rfl;.obtain⟨g1,g2⟩:=h6 k hk';exact⟨(hg k g1).1,by rw[(hg k g1).2];exact g2⟩
    .exact hh
   rcases Lq Sf with hb|hb
   .obtain⟨v,v1,v2⟩:=h1.met t hb;have v3:=(h.ps v2).2;simp only[IR.eq_2,aD hL,aq,aB hy,ae,bQ Sf,bQ hlb,ah,am,aj hj,hb,dk,af,v1,Ei (N:=N) (l:=v) (m:=s') (by omega) (by omega)];by_cases he:v=s';.subst he;refine .inr ⟨q,⟨h1,h2,h3,h4,h5,tk (.refl _ _) ⟨hb,v1⟩⟩,by simp⟩
    .exact .inl ⟨_,⟨λhS=>he (hS.one t v s' v2 hpt),rfl⟩,by rw[aL he,i5,aq]⟩
   .have hnT:¬T q.2.1 t:=λhT=>by unfold T at hT;rw[hb]at hT;cases hT
    have hc:=uJ hb;have e1:=aw hlb;refine .inr ⟨(q.1.set t s',q.2.1.set t true,true),⟨h1.add hlt hnT hpt,h2.trans (.add hnT),(λe=>by cases e),by simp only;omega,λ_=>.inr (by simp only;omega),tk (.add hnT) ⟨(eW Sf).2 (.inl rfl),by simp[hlb]⟩⟩,?_⟩;simp only[IR.eq_2,aD hL,aq,af,aB hy,ae,bQ Sf,bQ hlb,ah,am,aj hj,hb,i5,e1]) (k:=N) (s:=(b,m,c)) ⟨hk,.refl _ _,λe=>⟨e,rfl,rfl⟩,bd _,.inl,λk hk=>by simp at hk⟩ (by rw[bR];have:=sx f.2.2.2.2.1 i;omega);rcases key with⟨r,h1,h2⟩|⟨⟨b',m',c'⟩,⟨h1,h2,h3,h4,h5,h6⟩,he⟩;.grind
 .exact .inr ⟨b',m',c',⟨h1,h2,h3,h4,h5,λk hk'=>h6 k (by rw[bR,f9];exact hk')⟩,he⟩
def NV{N:Nat}(hN:1300<N)(h:Fn ts xs fs f){g:Int}(hf:idx fs g=some f){b:List (List Int)}{m:List Bool}(hk:Kn f.2.2.2.2.1 (eZ ts fs f) b m):(∃r:Bool⊕_,(¬vi f.2.2.2.2.1 (eZ ts fs f)/\r=.inl false)/\H2 N N (g,f.2.2.2.2.1,false,0,ts,xs,fs,b,m)=some r)\/∃b' m' c',(Kn f.2.2.2.2.1 (eZ ts fs f) b' m'/\(c'=false->∀j,T m' j->zH f.2.2.2.2.1 (eZ ts fs f) b' m' j)/\(c'=true->ga m'<ga m))/\H2 N N (g,f.2.2.2.2.1,false,0,ts,xs,fs,b,m)=some (.inr (g,f.2.2.2.2.1,c',ts,xs,fs,b',m')):=by
 have hle:=h.len.2;have hv:=h.vc;have key:=cL (l:=f.2.2.2.2.1) (g:=λq:List (List Int)×List Bool×Bool=>(.inr (g,f.2.2.2.2.1,q.2.2,ts,xs,fs,q.1,q.2.1):Bool⊕_)) (Out:=λr=>¬vi f.2.2.2.2.1 (eZ ts fs f)/\r=.inl false) (Inv:=λj q=>Kn f.2.2.2.2.1 (eZ ts fs f) q.1 q.2.1/\(q.2.2=false->q.1=b/\q.2.1=m/\∀i,i<j->T m i->zH f.2.2.2.2.1 (eZ ts fs f) b m i)/\ga q.2.1<=ga m/\(q.2.2=true->ga q.2.1<ga m)) (Lf:=λk j q=>H2 N k (g,f.2.2.2.2.1,q.2.2,j,ts,xs,fs,q.1,q.2.1)) (λk q _=>by simp only[H2.eq_2,aG,af]) (λk i x q hx⟨h1,h2,h3,h4⟩=>by
   have hi:=aC hx;have him:i<q.2.1.length:=by rw[h1.lm];exact hi
   have hib:i<q.1.length:=by rw[h1.lb];exact hi
   rcases Lq him with hb|hb;.obtain⟨v,v1,v2⟩:=h1.met i hb;obtain⟨v3,v4⟩:=h.ps v2;have hm:=aS hx;obtain⟨r,c,e1,e2⟩:=aht hN h.img hf h.rng (h.aH hm) (h.near _ hm) v3 (show v.length<=600by omega);simp only[H2.eq_2,aD hi,aq,bQ him,bQ hib,ah,am,hb,ae,dk,af,aB hx,v1,e1,zG hv hi];cases c with|false=>refine .inl ⟨_,⟨λhS=>?_,rfl⟩,rfl⟩;obtain⟨s',hs'⟩:=hS.go i v _ v2 hx;unfold eZ at hs';rw[e2]at hs';cases hs'|true=>
     have ha:eZ ts fs f x v=some r:=e2;simp only[dk,af];rcases NU hN h (c:=q.2.2) (g:=g) h1 v2 hx ha with⟨z,⟨z1,rfl⟩,z2⟩|⟨b',m',c',⟨g1,g2,g3,g4,g5,g6⟩,g7⟩;.exact .inl ⟨_,⟨z1,rfl⟩,by rw[z2];rfl⟩
     .refine .inr ⟨(b',m',c'),⟨g1,λhc=>?_,by simp only;omega,λhc=>?_⟩,by rw[g7];simp only[ae,aj (show i<9223372036854775807by omega)]⟩
      .obtain⟨q1,q2,q3⟩:=g3 hc;obtain⟨q4,q5,q6⟩:=h2 q1;simp only;refine⟨by rw[q2,q4],by rw[q3,q5],λj hj hT=>?_⟩;by_cases hji:j=i;.subst hji;rw[q2,q3,q4,q5]at g6;exact⟨x,v,r,hx,by rw[<-q4];exact v1,ha,g6⟩
       .exact q6 j (by omega) hT
      .rcases g5 hc with hc|hc;.have:=h4 hc;simp only at*;omega
       .simp only at*;omega
   .refine .inr ⟨q,⟨h1,λhc=>?_,h3,h4⟩,by simp only[H2.eq_2,aD hi,aq,bQ him,ah,am,hb,ae,i5,aj (show i<9223372036854775807by omega)]⟩;obtain⟨q4,q5,q6⟩:=h2 hc;refine⟨q4,q5,λj hj hT=>?_⟩;by_cases hji:j=i;.subst hji;rw[q5]at hb;unfold T at hT;rw[hb]at hT;cases hT
    .exact q6 j (by omega) hT) (k:=N) (s:=(b,m,false)) ⟨hk,λ_=>⟨rfl,rfl,λi hi=>by omega⟩,bd _,λe=>by cases e⟩ (by omega);rcases key with⟨r,h1,h2⟩|⟨⟨b',m',c'⟩,⟨h1,h2,h3,h4⟩,he⟩;.grind
 .refine .inr ⟨b',m',c',⟨h1,λhc j hj=>?_,h4⟩,he⟩;obtain⟨g1,g2,g3⟩:=h2 hc;simp at g1 g2;rw[g1,g2];rw[g2]at hj;exact g3 j (by rw[<-hk.lm];exact hj.lt) hj
def LH{N:Nat}(hN:1300<N)(h:Fn ts xs fs f){g:Int}(hf:idx fs g=some f):∃r c,Q5 N (ts,xs,fs,g)=some (r,c)/\(c=true↔vi f.2.2.2.2.1 (eZ ts fs f))/\(c=true->r=(List.range f.2.2.2.2.1.length).map (GM f.2.2.2.2.1 (eZ ts fs f))):=by
 obtain⟨hpos,hle⟩:=h.len;have hc0:=sy ((List.replicate f.2.2.2.2.1.length false).set 0 true);simp at hc0;have key:=Eb (σ:=List (List Int)×List Bool) (Inv:=λs=>Kn f.2.2.2.2.1 (eZ ts fs f) s.1 s.2) (EZ:=λs=>∀j,T s.2 j->zH f.2.2.2.2.1 (eZ ts fs f) s.1 s.2 j) (μ:=λs=>ga s.2) (g:=λs=>(.inr (f.2.2.2.2.1,s.1):Bool⊕_)) (Out:=λr=>¬vi f.2.2.2.2.1 (eZ ts fs f)/\r=.inl false) (Lf:=λk c s=>ah0 N k (g,f.2.2.2.2.1,c,ts,xs,fs,s.1,s.2)) (λk s _ _=>by rw[ah0.eq_2];rfl) (λk s hI=>by
   rcases NV hN h hf hI with⟨z,⟨z1,rfl⟩,z2⟩|⟨b',m',c',⟨g1,g2,g3⟩,g4⟩;.exact .inl ⟨_,⟨z1,rfl⟩,by rw[ah0.eq_2,aq,z2];rfl⟩
   .exact .inr ⟨(b',m'),c',g1,g2,g3,by rw[ah0.eq_2,aq,g4];rfl⟩) N (List.replicate f.2.2.2.2.1.length [],(List.replicate f.2.2.2.2.1.length false).set 0 true) (.start h.vc) (by simp only;omega);rw[Q5.eq_1,hf];simp only[ae,am,show decide ((0:Int)<=(f.2.2.2.2.1.length:Int))=true by simp,ah,bd,pm,ft,ak (show f.2.2.2.2.1.length<=10000000by omega) (show 24<=1000by omega),ak (show f.2.2.2.2.1.length<=10000000by omega) (show 1<=1000by omega),d6,show fM 0 f.2.2.2.2.1.length=true from bQ (i:=0) (by omega),show Int.toNat 0=0from rfl,sB (show 1<=f.2.2.2.2.1.length by omega)];rcases key with⟨r,⟨h1,rfl⟩,h2⟩|⟨⟨b,m⟩,hk,hs,h2⟩;.simp_all
 .have e1:au ((f.2.2.2.2.1.length:Int)-1)=((f.2.2.2.2.1.length-1:Nat):Int):=vf (by omega) (by omega);have Fk:=hk.lb;simp at Fk hk hs;refine⟨b,decide (GM f.2.2.2.2.1 (eZ ts fs f) (f.2.2.2.2.1.length-1)=[]),?_,?_,λ_=>hk.eq hs⟩;.rw[h2];simp[ae,e1,bQ (show f.2.2.2.2.1.length-1<b.length by omega),ah,am,hk.get hs (show f.2.2.2.2.1.length-1<f.2.2.2.2.1.length by omega)];rw[ls,dj,ll]<;>simp_all
  .rw[dj];exact(hk.ok h.vc hs).symm
end
structure RI(s:List e8)(i:Int)(y:Int):Prop where
 pos:0<s.length
 zero:(rn s 0).1=0inc:∀j,j+1<s.length->(rn s j).1<(rn s (j+1)).1/\(rn s j).2≠(rn s (j+1)).2low:∀j,j<s.length->(rn s j).1<i
 last:(rn s (s.length-1)).2=y
def RI.mono{s:List e8}{i j y:Int}(h:RI s i y)(hij:i<=j):RI s j y:=⟨h.pos,h.zero,h.inc,λk hk=>Int.lt_of_lt_of_le (h.low k hk) hij,h.last⟩
def yC{s:List e8}{x:e8}{j:Nat}(h:j<s.length):rn (s++[x]) j=rn s j:=by unfold rn<;>grind
def IC{s:List e8}{x:e8}:rn (s++[x]) s.length=x:=by unfold rn<;>grind
def RI.one(x:Int):RI [(0,x)] 1 x:=by
 refine⟨by simp,rfl,λj hj=>by simp at hj,λj hj=>?_,rfl⟩;simp at hj;have:j=0:=by omega
 subst this;show(0:Int)<1;decide
def RI.snoc{s:List e8}{i y x:Int}(h:RI s i y)(hx:x≠y):RI (s++[(i,x)]) (i+1) x:=by
 have hp:=h.pos;refine⟨by simp,by rw[yC hp];exact h.zero,λj hj=>?_,λj hj=>?_,by rw[bc,dl,Nat.add_sub_cancel,IC]⟩
 .simp at hj;by_cases he:j+1=s.length
  .rw[he,IC,yC (by omega)];have e:j=s.length-1:=by omega
   refine⟨h.low j (by omega),λhh=>hx ?_⟩;rw[<-h.last,<-e,hh]
  .rw[yC (by omega),yC (by omega)];exact h.inc j (by omega)
 .simp at hj;by_cases he:j=s.length;.subst he;rw[IC]<;>grind
  .rw[yC (by omega)];have:=h.low j (by omega);omega
def RI.ok{s:List e8}{i y:Int}(h:RI s i y):dP s i:=⟨h.pos,h.zero,h.inc,h.low⟩
def BP(v:List Int):Nat->List e8|0=>[]|i+1=>if i=0\/v.getD i 0≠v.getD (i-1) 0then BP v i++[((i:Int),v.getD i 0)]else BP v i
def yD(v:List Int):List e8:=BP v v.length
def ID(v:List Int):∀i,(BP v i).length<=i|0=>by simp[BP]|i+1=>by have:=ID v i;unfold BP<;>grind
def IE{v:List Int}:∀{i:Nat},i<=v.length->∀{x:e8},x∈BP v i->x.2∈v
 |0,_,x,hx=>by simp[BP]at hx|i+1,hi,x,hx=>by
  unfold BP at hx;split at hx
  .rcases bm.1 hx with hx|hx;.exact IE (by omega) hx
   grind
  .exact IE (by omega) hx
def Yq(v:List Int):∀i:Nat,RI (BP v (i+1)) ((i+1:Nat):Int) (v.getD i 0)
 |0=>by
  have e:BP v 1=[]++[(((0:Nat):Int),v.getD 0 0)]:=by unfold BP;rfl
  exact RI.one _|i+1=>by
  have h:=Yq v i;have e:BP v (i+2)=if v.getD (i+1) 0≠v.getD i 0then BP v (i+1)++[(((i+1:Nat):Int),v.getD (i+1) 0)]else BP v (i+1):=by rw[BP];simp
  rw[e];split;.rename_i hne;exact h.snoc hne
  .rename_i heq;rw[Decidable.not_not]at heq;rw[heq];exact h.mono (by omega)
def Yr{v:List Int}(h:1<=v.length):dP (yD v) (v.length:Int):=by obtain⟨n,hn⟩:∃n,v.length=n+1:=⟨v.length-1,by omega⟩;have:=(Yq v n).ok;unfold yD<;>grind
def Pe{v:List Int}{x:e8}(h:x∈yD v):x.2∈v:=IE (bd _) h
def yE{α:Type}{l:List α}{i:Nat}{x d:α}(h:l[i]?=some x):l.getD i d=x:=by grind
def LI{N:Nat}{v:List Int}(hN:500<N)(h1:1<=v.length)(h2:v.length<=200):QI N v=some (yD v,0):=by rw[QI.eq_1,F77.eq_1];have e1:decide ((v.length:Int)<1)=false:=cb (by omega);have e2:decide ((v.length:Int)>200)=false:=cb (by omega);simp[e1,e2,af,ae,show((0:Int)!=0)=false from rfl];obtain⟨s,hs,he⟩:=fI (l:=v) (g:=λs:List e8=>s) (Inv:=λi s=>s=BP v i) (Lf:=λk i s=>ao9 N k (v,s,(v.length:Int),i)) (λk s _=>by simp only[ao9.eq_2,aG,af]) (λk i x s hx hs=>by
   have hi:=aC hx;have hl:=ID v i;rw[<-hs]at hl;have hroom:room (s.length+1) 16=true:=ak (by omega) (by omega);have hg:v.getD i 0=x:=yE hx;refine⟨_,rfl,?_⟩;simp only[ao9.eq_2,aD hi,aq,aB hx,ae,aj (show i<9223372036854775807by omega)];by_cases h0:i=0;.subst h0;rw[show decide (((0:Nat):Int)>0)=false from rfl];simp only[af,ae,hroom,ah];rw[BP,be (.inl rfl),hg,<-hs]
   .have hw:au ((i:Int)-1)=((i-1:Nat):Int):=by rw[aJ (by omega)];omega
    have hy:=aw (l:=v) (i:=i-1) (by omega);have hgy:v.getD (i-1) 0=v[i-1]:=yE hy;rw[aP (show(i:Int)>0 by omega)];simp only[aq,hw,aB hy,ae];by_cases hxy:x=v[i-1];.rw[show(x==v[i-1])=true from ll.2 hxy];simp only[aq];rw[BP,bi (by rw[hg,hgy];intro h;rcases h with h|h;exact h0 h;exact h hxy),<-hs]
    .rw[show(x==v[i-1])=false from ml.2 hxy];simp only[af,hroom,ah];rw[BP,be (.inr (by rw[hg,hgy];exact hxy)),hg,<-hs]) (k:=N) (s:=[]) rfl (by omega);rw[he,hs];rfl
def adk{N:Nat}{v:List Int}(hN:500<N)(h2:v.length<=200):Q7 N v=some (yD v):=by rw[Q7.eq_1];obtain⟨s,hs,he⟩:=fI (l:=v) (g:=λs:List e8=>s) (Inv:=λi s=>s=BP v i) (Lf:=λk i s=>av2 N k (v,s,i)) (λk s _=>by simp only[av2.eq_2,aG,af]) (λk i x s hx hs=>by
   have hi:=aC hx;have hl:=ID v i;rw[<-hs]at hl;have hroom:room (s.length+1) 16=true:=ak (by omega) (by omega);have hg:v.getD i 0=x:=yE hx;refine⟨_,rfl,?_⟩;simp only[av2.eq_2,aD hi,aq,aB hx,ae,aj (show i<9223372036854775807by omega)];by_cases h0:i=0;.subst h0;rw[show(((0:Nat):Int)==0)=true from rfl];simp only[aq,ae,hroom,ah];rw[BP,be (.inl rfl),hg,<-hs]
   .have hw:au ((i:Int)-1)=((i-1:Nat):Int):=by rw[aJ (by omega)];omega
    have hy:=aw (l:=v) (i:=i-1) (by omega);have hgy:v.getD (i-1) 0=v[i-1]:=yE hy;rw[show((i:Int)==0)=false by rw[ml];omega];simp only[af,hw,aB hy,ae];by_cases hxy:x=v[i-1];.rw[show(x !=v[i-1])=false by simp[hxy]];simp only[af];rw[BP,bi (by rw[hg,hgy];intro h;rcases h with h|h;exact h0 h;exact h hxy),<-hs]
    .rw[show(x !=v[i-1])=true by simp[bne,hxy]];simp only[aq,hroom,ah];rw[BP,be (.inr (by rw[hg,hgy];exact hxy)),hg,<-hs]) (k:=N) (s:=[]) rfl (by omega);rw[he,hs];rfl
def fB{α:Type}(p:Nat->α->Int):Nat->List α->Option (Nat×Int)|_,[]=>none|i,x::r=>if p i x≠0then some (i,p i x)else fB p (i+1) r
def qp{α:Type}{p:Nat->α->Int}:∀{l:List α}{i:Nat},fB p i l=none->∀(j:Nat)x,l[j]?=some x->p (i+j) x=0
 |[],_,_,j,x,hx=>by grind|y::r,i,h,j,x,hx=>by
  unfold fB at h;split at h;.cases h
  .rename_i hp;cases j with|zero=>grind|succ j=>have:=qp h j x hx<;>grind
def zJ{α:Type}{p:Nat->α->Int}:∀{l:List α}{i:Nat}{r:Nat×Int},fB p i l=some r->r.2≠0
 |[],_,_,h=>by cases h|y::r,i,q,h=>by
  unfold fB at h;split at h;.grind
  .exact zJ h
def sE{α β:Type}{l:List α}{p:Nat->α->Int}{a:β}{out:Int->Int->β}{Lf:Nat->Int->Option β}(h0:∀k,Lf (k+1) (l.length:Int)=some a)(hs:∀k(i:Nat)x,l[i]?=some x->Lf (k+1) (i:Int)=if p i x≠0then some (out (i:Int) (p i x))else Lf k ((i+1:Nat):Int)){k:Nat}(hk:l.length<k):Lf k 0=some ((fB p 0 l).elim a λr=>out (r.1:Int) r.2):=by
 have key:∀k(i:Nat),i<=l.length->l.length-i<k->Lf k (i:Int)=some ((fB p i (l.drop i)).elim a λr=>out (r.1:Int) r.2):=by intro k;induction k with|zero=>omega|succ k ih=>
   intro i hi hk;by_cases he:i=l.length;.subst he;rw[h0,ti];rfl
   .have hlt:i<l.length:=by omega
    rw[hs k i _ (aw hlt),km hlt,fB];split;.rfl
    .exact ih (i+1) (by omega) (by omega)
 exact key k 0 (by omega) (by omega)
def Ys(l:List Instr)(p s:Nat):List Nat:=if h:∃G,Ea l (2^p-1) (2^s-1) G then ql l h.choose else[]
def LJ{l:List Instr}{p s:Nat}{G H:Nat->Nat}(hG:Ea l (2^p-1) (2^s-1) G)(hs:Y5 l (2^p-1) H)(hm:∀S,Y5 l (2^p-1) S->(∀k,sub (S k) (2^s-1))->∀k,Reach l k->sub (S k) (H k)):ql l H=Ys l p s:=by unfold Ys;have e:∃G,Ea l (2^p-1) (2^s-1) G:=⟨G,hG⟩;rw[dif_pos e];exact(Lw λk hk=>e.choose_spec.eq hs hm hk).symm
def zK(l:List Instr)(i:Nat):Prop:=Reach l i\/i=l.length-1
def sF(ts:List aA)(xs:List (List UInt8))(fs:List Func)(f:Func)(i:Nat)(x:Instr):Int:=if n7 xs.length (fV fs) f.2.2.2.1 x then(if zK f.2.2.2.2.1 i then(if LD ts (fV fs) f.2.2.2.1 f.2.2.1 x=true then 0 else 30)else 6)else 16
def rD(ms:List Nat)(i:Nat)(x:Instr):Int:=if∀s,s∈bu ny x->(O ms i).testBit s.toNat=true then 0 else 38
def cE(f:Func):List Nat:=Ys f.2.2.2.2.1 f.2.1.toNat f.2.2.2.1.length
abbrev Found:=List e8×List e8×Int×Int
def fW(ts:List aA)(xs:List (List UInt8))(fs:List Func)(f:Func)(g:Int):Found:=if kj f.2.2.2.2.1=true then if g=0/\(0<f.2.1\/0<=f.2.2.1)then([],[],-1,30)else(fB (sF ts xs fs f) 0 f.2.2.2.2.1).elim (if vi f.2.2.2.2.1 (eZ ts fs f)then(fB (rD (cE f)) 0 f.2.2.2.2.1).elim (yD (uM ts fs f),yD (cN (cE f)),0,0) λr=>([],[],(r.1:Int),r.2)else([],[],-1,36)) λr=>([],[],(r.1:Int),r.2)else([],[],-1,12)
def RR{l:List Instr}(hp:1<=l.length){k:Nat}(hk:k<l.length):((eN l).set (l.length-1) true)[k]?=some (decide (zK l k)):=by
 rw[nn,sA];by_cases h:l.length-1=k;.rw[be h,be (by omega),aP (.inr h.symm)]
 .rw[bi h,kN hk];congr 1;exact la.2 ⟨.inl,λh'=>h'.resolve_right λe=>h e.symm⟩
def Ek{n:Nat}{l:List Int}(h:∀s,s∈l->0<=s/\s<n):∀{m:Nat},m<2^n->gM m l<2^n:=by unfold gM;induction l with|nil=>grind|cons s r ih=>intro m hm;refine ih (λx hx=>h x (dp _ hx)) ?_;have:=h s ci;exact sm hm (nf (by omega) (by omega))
section
variable{ts:List aA}{xs:List (List UInt8)}{fs:List Func}{f:Func}
def Fn.fits(h:Fn ts xs fs f):Lr f.2.2.2.2.1 f.2.1 (f.2.2.2.1.length:Int)=0:=by
 have A4:=h.ok.2.1;have hp:=h.ok.2.2.2.1;have:oq f.2.2.2.2.1 (f.2.2.2.1.length:Int).toNat=true:=by unfold oq;rw[fr,ss];intro x hx;have hn:=(h.near x hx).1;have hs:=(Eg (h.aH hx)).2;have hlt:Y4 x<2^f.2.2.2.1.length:=Ek (λs hs'=>by have:=hn s (bm.2 (.inr hs'));have:=hs s (bm.2 (.inr hs'));omega) (Ek (λs hs'=>by have:=hn s (bm.2 (.inl hs'));have:=hs s (bm.2 (.inl hs'));omega) (Nat.two_pow_pos _));grind
 unfold Lr<;>grind
def IF{N:Nat}(hN:14000000<N)(h:Fn ts xs fs f):KA N (f.2.2.2.2.1,f.2.1,(f.2.2.2.1.length:Int))=some (cN (cE f),0)/\(cE f).length=f.2.2.2.2.1.length/\∀k,O (cE f) k<2^64:=by
 have hl:=h.len;have key:=Yk (N:=N) hN (l:=f.2.2.2.2.1) (by omega) (λ_=>hl.2) f.2.1 (f.2.2.2.1.length:Int);rw[be h.code,be h.fits]at key;obtain⟨G,hVM,hG,he⟩:=key;have e:ql f.2.2.2.2.1 G=cE f:=LJ hG hG.sol λS hS _ k hk=>hG.most S hS k hk;rw[e]at he;refine⟨he,by rw[<-e,zF],λk=>?_⟩;rw[<-e];by_cases hk:k<f.2.2.2.2.1.length;.rw[GL hk];have:=hVM.lt (hG.LW k)<;>grind
 .unfold O;rw[da,eJ (by rw[zF];omega)]<;>grind
def Yt{N:Nat}(hN:14000000<N)(h:Fn ts xs fs f):Nh N (f.2.2.2.2.1,f.2.1,(f.2.2.2.1.length:Int))=some (cN (cE f)):=by have hl:=h.len;have key:=Yk (N:=N) hN (l:=f.2.2.2.2.1) (by omega) (λ_=>hl.2) f.2.1 (f.2.2.2.1.length:Int);rw[be h.code,be h.fits]at key;obtain⟨G,hVM,hG,_⟩:=key;rw[am]at hG hVM;obtain⟨H,h1,h2,h3⟩:=aa3 hVM hN;rw[rt (by have:=h.ok.2.2.2.1;omega)]at h3;rw[h3,LJ hG h1 h2];rfl
theorem apA{m:Nat}{s:Int}(hm:m<2^64)(h0:0<=s)(hs:s<=15):((tZ .u64 (Int.fdiv (m:Int) (2^min (Int.toNat s) 64)) 1)==0)=!(m.testBit s.toNat):=by rw[ph (by omega),show((2:Int)^s.toNat)=((2^s.toNat:Nat):Int)by rw[Int.natCast_pow];rfl,yc,show(1:Int)=((1:Nat):Int)from rfl,D8 (Nat.lt_of_le_of_lt (Nat.div_le_self _ _) hm) (by omega),Nat.and_one_is_mod]<;>grind
theorem avd{m:Nat}{s:Int}(h0:0<=s)(hs:s<=15):((Int.tmod (Int.fdiv (m:Int) (2^min (Int.toNat s) 64)) 2)==0)=!(m.testBit s.toNat):=by grind
def apB{N:Nat}(hN:14000000<N)(hv:ij ts xs fs){g:Int}(hf:idx fs g=some f):Ve N (ts,xs,fs,g)=some (fW ts xs fs f g):=by
 obtain⟨g0,rR⟩:=tP hf;have hok:=hv.get rR;obtain⟨hpos,hle⟩:=hok.2.2.2.2.2.2.1;have RS:=hok.2.2.2.2.2.2.2.1;unfold fW;rw[Ve.eq_1,hf];simp[ae,ahi (N:=N) (l:=f.2.2.2.2.1) (by omega) (by omega)];by_cases hval:kj f.2.2.2.2.1=true;case neg=>grind
 rw[be hval,be hval];by_cases LK:g=0/\(0<f.2.1\/0<=f.2.2.1);.grind
 rw[bi LK];have hmn:(bif g==(0:Int)then(bif decide (f.2.1>0)then some true else some (decide (f.2.2.1>=0)))else some false:Option Bool)=some false:=by grind
 rw[hmn];have l1:=sE (l:=f.2.2.2.2.1) (p:=sF ts xs fs f) (a:=(.inr (f.2.2.2.2.1,0,0,ts,xs,fs,f.1,f.2.1,f.2.2.1,f.2.2.2.1,f.2.2.2.2.1,f.2.2.2.2.2.1,f.2.2.2.2.2.2):(Int×Int)⊕_)) (out:=λi e=>.inl (i,e)) (Lf:=λk i=>ay5 N k (f.2.2.2.2.1,(eN f.2.2.2.2.1).set (f.2.2.2.2.1.length-1) true,f.2.2.2.2.1,(f.2.2.2.2.1.length:Int),i,0,0,ts,xs,fs,f.1,f.2.1,f.2.2.1,f.2.2.2.1,f.2.2.2.2.1,f.2.2.2.2.2.1,f.2.2.2.2.2.2)) (λk=>by simp only[ay5.eq_2,aG,af]) (λk i x hx=>by
   have hi:=aC hx;have hc:=RS x (aS hx);simp only[ay5.eq_2,aD hi,aq,aB hx,ae,aps (show 1300<N by omega) f hc,aj (show i<9223372036854775807by omega)];unfold sF;by_cases hn:n7 xs.length (fV fs) f.2.2.2.1 x
   .simp only[be hn,show((0:Int)!=0)=false from rfl,af,aB (RR hpos hi),ae];by_cases hr:zK f.2.2.2.2.1 i;.simp only[aP hr,dk,af,be hr,aho (show 1300<N by omega) hv hok hc hn,ae];cases LD ts (fV fs) f.2.2.2.1 f.2.2.1 x<;>rfl
    .simp only[aL hr,i5,aq,bi hr];rfl
   .simp only[bi hn];rfl) (k:=N) (by omega);simp[l1,ae];cases he:fB (sF ts xs fs f) 0 f.2.2.2.2.1with
 |some r=>rfl
 |none=>have hz:=qp he;have hfn:Fn ts xs fs f:=⟨hv,hok,hval,λx hx=>by
   obtain⟨i,hi,rfl⟩:=jp.1 hx;have:=hz i _ (aw hi);unfold sF at this;split at this;.assumption
   .cases this⟩;obtain⟨r,c,s1,s2,s3⟩:=Yp (show 1300<N by omega) hfn;obtain⟨m1,m2,m3⟩:=IF hN hfn;simp[xf,s1,ae];cases c with|false=>grind|true=>
   rw[be (s2.1 rfl),s3 rfl];simp[dk,af,m1,ae,show((0:Int)!=0)=false from rfl];have l3:∀(i:Nat)x,f.2.2.2.2.1[i]?=some x->ap0 N N (uM ts fs f,cN (cE f),(i:Int),0,f.2.2.2.2.1,(f.2.2.2.2.1.length:Int),(i:Int),bu ny x,((bu ny x).length:Int),0,0,0)=some (if rD (cE f) i x≠0then .inl ((i:Int),38)else .inr (uM ts fs f,cN (cE f),f.2.2.2.2.1,(f.2.2.2.2.1.length:Int),(i:Int),0,0)):=λi x hx=>by
    have hi:=aC hx;have h15:=(pR (RS x (aS hx))).1;have YU:(cN (cE f))[i]?=some ((O (cE f) i:Nat):Int):=gV (by omega);have hrl:=kO ny x;have:=gn (l:=bu ny x) (a:=(.inr (uM ts fs f,cN (cE f),f.2.2.2.2.1,(f.2.2.2.2.1.length:Int),(i:Int),0,0):(Int×Int)⊕_)) (b:=.inl ((i:Int),38)) (p:=λs=>!((O (cE f) i).testBit s.toNat)) (Lf:=λk j=>ap0 N k (uM ts fs f,cN (cE f),(i:Int),0,f.2.2.2.2.1,(f.2.2.2.2.1.length:Int),(i:Int),bu ny x,((bu ny x).length:Int),j,0,0)) (λk _=>by simp only[ap0.eq_2,aG,af]) (λk j s hs hm=>by have hj:=aC hs;obtain⟨b0,b1⟩:=h15 s hm;simp only[ap0.eq_2,aD hj,aq,aB hs,ae,show((0:Int)!=0)=false from rfl,af,aB YU,show(!decide (s<0))=true by simp;omega,ah,apA (m3 i) b0 b1,aj (show j<9223372036854775807by omega)];cases(O (cE f) i).testBit s.toNat<;>rfl) (k:=N) (by omega);rw[this];unfold rD;by_cases hall:∀s,s∈bu ny x->(O (cE f) i).testBit s.toNat=true;.rw[be hall,bi (λ⟨s,h1,h2⟩=>by rw[hall s h1]at h2;cases h2),bi (by decide)]
    .have hex:∃s,s∈bu ny x/\(!((O (cE f) i).testBit s.toNat))=true:=by rw[Classical.not_forall]at hall;obtain⟨s,hs⟩:=hall;rw[Classical.not_imp]at hs;exact⟨s,hs.1,by rw[fr];exact xc.2 hs.2⟩
     rw[be hex,bi hall,be (show(38:Int)≠0 by decide)]
   have l2:=sE (l:=f.2.2.2.2.1) (p:=rD (cE f)) (a:=(.inr (uM ts fs f,cN (cE f),0,0):(Int×Int)⊕_)) (out:=λi e=>.inl (i,e)) (Lf:=λk i=>ap1 N k (uM ts fs f,cN (cE f),f.2.2.2.2.1,(f.2.2.2.2.1.length:Int),i,0,0)) (λk=>by simp only[ap1.eq_2,aG,af]) (λk i x hx=>by
     have hi:=aC hx;simp only[ap1.eq_2,aD hi,aq,aB hx,ae,Ny,RS x (aS hx),l3 i x hx];by_cases hz:rD (cE f) i x=0;.simp only[bi (show¬rD (cE f) i x≠0fromλh=>h hz),aj (show i<9223372036854775807by omega)]
     .have e38:rD (cE f) i x=38:=by
       unfold rD at hz⊢;split at hz;.exact absurd rfl hz
       .rename_i h;rw[bi h]
      simp only[be (show rD (cE f) i x≠0from hz)];rw[e38]) (k:=N) (by omega);rw[l2];cases fB (rD (cE f)) 0 f.2.2.2.2.1with|some r=>rfl|none=>simp[xf,ae,LI (N:=N) (v:=uM ts fs f) (by omega) (by rw[qo];omega) (by rw[qo];omega),LI (N:=N) (v:=cN (cE f)) (by omega) (by rw[bR];omega) (by rw[bR];omega),show((0:Int)==0)=true from rfl,aq]
end
def lay(ts:List aA)(sl:List Field):List Int×Int×Int:=fu 1048576 (exs ts) 0 1 sl
def vt(ts:List aA)(sl:List Field):Int:=up 8 (up (lay ts sl).2.2 (lay ts sl).2.1)
def O6{x y:List Ex}:∀(fs:List Field)(s a:Int),(∀f,f∈fs->eD x f.2=eD y f.2/\AL (eD x f.2).2/\0<=(eD x f.2).1/\(eD x f.2).1<=256)->0<=s->s+fs.length*263<=10000->fu 1048576 x s a fs=fu 1000000 y s a fs/\(fu 1048576 x s a fs).2.1<=s+fs.length*263|[],s,a,_,_,_=>⟨rfl,by simp[fu]⟩|f::r,s,a,h,h0,hs=>by obtain⟨e1,e2,e3,e4⟩:=h f (ci ..);have hu:=oF e2 h0;simp at hs;obtain⟨g1,g2⟩:=O6 r (up (eD x f.2).2 s+(eD x f.2).1) (max a (eD x f.2).2) (λg hg=>h g (dp _ hg)) (by omega) (by omega);simp only[fu]<;>grind
section
variable{N:Nat}{ts:List aA}{xs:List (List UInt8)}{fs:List Func}
def wH(hT:eC ts)(hS:iZ ts){i:Int}(hi:0<=i/\i<ts.length):eD (exs ts) i=eD (bV 1000000 ts ts.length) i/\AL (eD (exs ts) i).2/\0<=(eD (exs ts) i).1/\(eD (exs ts) i).1<=256:=by
 obtain⟨n,rfl⟩:=bo hi.1;have h:=hS n (by omega);have hr:=uH hT.2.1 ts.length (bd _) (n:Int);obtain⟨e1,e2,e3⟩:=(ju (C:=1048576) (by omega) (by omega) hT.2.1 ts.length (bd _)).get (by omega) (n:Int);refine⟨?_,e1,e2,h⟩;rcases hr with⟨hr|hr,hq⟩;.exact Prod.ext hr hq
 .have:(eD (exs ts) (n:Int)).1=(eD (bV 1048576 ts ts.length) (n:Int)).1:=rfl;omega
def rC(hT:eC ts)(hS:iZ ts){sl:List Field}(A4:sl.length<=16)(hr:jl sl ts.length):lay ts sl=fu 1000000 (bV 1000000 ts ts.length) 0 1 sl/\(0<=(lay ts sl).2.1/\(lay ts sl).2.1<=4208)/\AL (lay ts sl).2.2/\(lay ts sl).1.length=sl.length:=by obtain⟨g1,g2⟩:=O6 (x:=exs ts) (y:=bV 1000000 ts ts.length) sl 0 1 (λf hf=>wH hT hS (hr f hf)) (by omega) (by omega);obtain⟨b1,b2,b3⟩:=oL (C:=1048576) (by omega) (ju (by omega) (by omega) hT.2.1 ts.length (bd _)) sl 0 1 (by omega) (by omega) (.inl rfl);exact⟨g1,⟨b1.1,by unfold lay;omega⟩,b2,b3⟩
def uI(hT:eC ts)(hS:iZ ts){sl:List Field}(A4:sl.length<=16)(hr:jl sl ts.length):(0<=up (lay ts sl).2.2 (lay ts sl).2.1/\up (lay ts sl).2.2 (lay ts sl).2.1<=4215)/\0<=vt ts sl/\vt ts sl<=4222:=by obtain⟨_,b1,b2,_⟩:=rC hT hS A4 hr;have h1:=oF b2 b1.1;have h2:=oF (a:=8) (s:=up (lay ts sl).2.2 (lay ts sl).2.1) (.inr rfl) (by omega);unfold vt;omega
def wI(hN:1300<N)(hl:uE ts)(hT:eC ts)(hS:iZ ts){sl:List Field}(A4:sl.length<=16)(hr:jl sl ts.length):F34 N (ts,sl)=some ((lay ts sl).1,up (lay ts sl).2.2 (lay ts sl).2.1,(lay ts sl).2.2,0):=by
 have hE:=ju (C:=1048576) (by omega) (by omega) hT.2.1 ts.length (bd _);have l1:ap2 N N (ts,sl,exs ts,sl,(sl.length:Int),0)=some (.inr (sl,exs ts)):=by have:=dI (n:=sl.length) (Lf:=λk i=>ap2 N k (ts,sl,exs ts,sl,(sl.length:Int),i)) (g:=λ_=>some (.inr (sl,exs ts))) (λk=>by simp only[ap2.eq_2,aG,af]) (λk i hi ih=>by have hm:=aw hi;have hh:=hr _ (fw hi);simp only[ap2.eq_2,aD hi,aq,aB hm,ae,aL (show¬(sl[i]).2<0 by omega),af,aL (show¬(sl[i]).2>=(ts.length:Int)by omega),aj (show i<9223372036854775807by omega)];exact ih) N 0 (by omega) (by omega);omega
 have l2:ap3 N N (sl,exs ts,sl,(sl.length:Int),0)=some (.inr (sl,exs ts)):=by have:=dI (n:=sl.length) (Lf:=λk i=>ap3 N k (sl,exs ts,sl,(sl.length:Int),i)) (g:=λ_=>some (.inr (sl,exs ts))) (λk=>by simp only[ap3.eq_2,aG,af]) (λk i hi ih=>by have hm:=aw hi;have hh:=hr _ (fw hi);have he:=(wH hT hS hh).2.2.2;simp only[ap3.eq_2,aD hi,aq,aB hm,ae,oM (x:=exs ts) (show 0<=(sl[i]).2/\(sl[i]).2<(exs ts).length by rw[O3];exact hh),aL (show¬(eD (exs ts) (sl[i]).2).1>256by omega),af,aj (show i<9223372036854775807by omega)];exact ih) N 0 (by omega) (by omega);omega
 have l3:=XI (N:=N) (b:=[]) (by omega) hE (fs:=sl) (by omega) (λf hf=>by rw[dB];exact hr f hf);simp at l3;rw[F34.eq_1,u9 hN hl,be hT,ae,fJ,af,aL (show¬(sl.length:Int)>16by omega),DZ (by omega) hl.1 hT.2.1,ae,show bV 1048576 ts ts.length=exs ts from rfl,l1,ae];simp;rw[l2,ae];simp;rw[show exs ts=bV 1048576 ts ts.length from rfl,l3];rfl
def X8{n:Int}(h:0<=n/\n<=4000000):Ky N n=some (up 8 n,0):=by have e:=sw (a:=8) (s:=n) (.inr rfl) h;rw[aJ (n:=n+8) (by omega),show n+8-1=n+7by omega,aJ (n:=(8:Int)-1) (by decide)]at e;rw[Ky.eq_1,aL (show¬n<0 by omega),af,ae,aL (show¬n>1073741824by omega),af]<;>grind
def yp{i:Nat}(hi:i<fs.length):idx fs (i:Int)=some (gp fs i):=bK _ hi
def aaV(hN:1300<N)(hm:gK ts xs fs)(h:dG ts xs fs){f:Nat}(hf:f<fs.length):F73 N (ts,xs,fs,(f:Int))=some ((lay ts (gp fs f).2.2.2.1).1,vt ts (gp fs f).2.2.2.1):=by have hF:=h.func hf;have hb:=(uI h.1 h.2.2.2.1 hF.2.1 hF.2.2.2.2.2.1).1;rw[F73.eq_1,yp hf,ae,wI hN hm.1.1 h.1 h.2.2.2.1 hF.2.1 hF.2.2.2.2.2.1,ae];rw[X8 ⟨hb.1,by omega⟩];rfl
def A7(hN:1300<N)(hm:gK ts xs fs)(h:dG ts xs fs){sl:List Field}(A4:sl.length<=16)(hr:jl sl ts.length):F99 N (ts,sl)=some ((lay ts sl).1,up (lay ts sl).2.2 (lay ts sl).2.1,(lay ts sl).2.2):=by have hT:=h.1;have hE:=ju (C:=1000000) (by omega) (by omega) hT.2.1 ts.length (bd _);have l3:=XK (N:=N) (by omega) hE (fs:=sl) (by omega) (λf hf=>by rw[dB];exact hr f hf);rw[F99.eq_1,uG (by omega) hm.1.1.1 hT.2.1,ae];rw[l3,ae,(rC hT h.2.2.2.1 A4 hr).1]
def NC{n:Int}(h:0<=n/\n<=4000000):KK N n=some (up 8 n):=by rw[KK.eq_1,BM (.inr rfl) h];rfl
def Lk{l:List Int}(c:Int)(hl:l.length<=1000)(hN:1300<N)(hb:∀x,x∈l->0<=x/\x<=100000):av4 N N (l,c,0,List.replicate l.length 0)=some (c,l.map λx=>24+x):=by
 have:=dI (n:=l.length) (Lf:=λk i=>av4 N k (l,c,i,(l.take i.toNat).map (λx=>24+x)++List.replicate (l.length-i.toNat) 0)) (g:=λ_=>some (c,l.map λx=>24+x)) (λk=>by simp only[av4.eq_2,aG,af,am,f9,qr,m8,dv]) (λk i hi ih=>by
  have hm:=aw hi;have hlen:((l.take i).map (λx=>24+x)).length=i:=by simp;omega
  have hx:=hb _ (fw hi);have hg:((l.take i).map (λx=>24+x)++List.replicate (l.length-i) (0:Int))[i]?=some 0:=by rw[lL (by omega),hlen,qr,ka,be (by omega)]
  have hir:fM (i:Int) ((l.take i).map (λx=>24+x)++List.replicate (l.length-i) (0:Int)).length=true:=qj (by simp;omega);simp only[am]at ih⊢;simp only[av4.eq_2,aD hi,aq,aB hm,ae,hir,ah,am,hg,aj (show i<9223372036854775807by omega)];have e:(l.take (i+1)).map (λx=>24+x)=(l.take i).map (λx=>24+x)++[24+l[i]]:=by rw[List.take_add_one,hm,fx];rfl
  rw[O2 hlen hi,aJ (by omega),<-ih,e]) N 0 (by omega) (by omega);grind
def O7{x:List Ex}(hx:EX 1048576 x):∀(fs:List Field)(s a:Int),0<=s->(∀f,f∈fs->(eD x f.2).1<=256)->s+fs.length*263<=10000->∀o,o∈(fu 1048576 x s a fs).1->0<=o/\o<=10000
 |[],_,_,_,_,_,o,h=>by cases h|f::r,s,a,h0,hf,hs,o,h=>by
  obtain⟨e1,e2,e3⟩:=hx.get (by omega) f.2;have Rz:=hf f (ci ..);have hu:=oF e1 h0;simp at hs;rcases dq.1 h with rfl|h;.omega
  .exact O7 hx r (min 1048576 (up (eD x f.2).2 s+(eD x f.2).1)) (max a (eD x f.2).2) (by omega) (λg hg=>hf g (dp _ hg)) (by omega) o h
def X9(h:dG ts xs fs){sl:List Field}(A4:sl.length<=16)(hr:jl sl ts.length):∀o,o∈(lay ts sl).1->0<=o/\o<=10000:=O7 (ju (C:=1048576) (by omega) (by omega) h.1.2.1 ts.length (bd _)) sl 0 1 (by omega) (λf hf=>(wH h.1 h.2.2.2.1 (hr f hf)).2.2.2) (by omega)
def GD(hN:1300<N)(hm:gK ts xs fs)(h:dG ts xs fs){f:Nat}(hf:f<fs.length):F54 N (ts,xs,fs,(f:Int))=some ((lay ts (gp fs f).2.2.2.1).1.map (λx=>24+x),24+vt ts (gp fs f).2.2.2.1):=by
 have hF:=h.func hf;obtain⟨hb,vB⟩:=uI h.1 h.2.2.2.1 hF.2.1 hF.2.2.2.2.2.1;have hlen:=(rC h.1 h.2.2.2.1 hF.2.1 hF.2.2.2.2.2.1).2.2.2;have h0:decide (0<=((lay ts (gp fs f).2.2.2.1).1.length:Int))=true:=bv (by omega);have hro:(decide (Int.toNat ((lay ts (gp fs f).2.2.2.1).1.length:Int)<=Int.toNat ((lay ts (gp fs f).2.2.2.1).1.length:Int))&&room (Int.toNat ((lay ts (gp fs f).2.2.2.1).1.length:Int)) 8)=true:=by rw[bv (bd _),ak (by have:=hF.2.1;omega) (by omega)];rfl
 rw[F54.eq_1,yp hf,ae,A7 hN hm h hF.2.1 hF.2.2.2.2.2.1,ae];simp only;rw[h0,ah,ah,hro,ah,am,Lk _ (by have:=hF.2.1;omega) hN (λx hx=>by have:=X9 h hF.2.1 hF.2.2.2.2.2.1 x hx;omega),ae];rw[NC ⟨hb.1,by omega⟩,ae,show up 8 (up (lay ts (gp fs f).2.2.2.1).2.2 (lay ts (gp fs f).2.2.2.1).2.1)=vt ts (gp fs f).2.2.2.1from rfl,aJ (by omega)]
def ahg(fs:List Func)(f s:Int):Prop:=0<=f/\f<fs.length/\0<=s/\s<(gp fs f.toNat).2.2.2.1.length
def azg(ts:List aA)(xs:List (List UInt8))(fs:List Func)(f s:Int):Int×Int×Int:=if j6 ts xs fs=0then(if ahg fs f s then(24+(lay ts (gp fs f.toNat).2.2.2.1).1.getD s.toNat 0,(fl (gp fs f.toNat).2.2.2.1 s.toNat).2,0)else(0,0,2))else(0,0,j6 ts xs fs)
def yq(i:Int):Int->List e8->Int|a,[]=>a|a,x::r=>yq i (if x.1<=i then x.2else a) r
def It(i:Int):∀(l:List e8)(a:Int)(b:Nat),b<=l.length->(∀j,j<b->(rn l j).1<=i)->(∀j,b<=j->j<l.length->i<(rn l j).1)->yq i a l=if b=0then a else(rn l (b-1)).2
 |[],a,b,hb,_,_=>by
  have:b=0:=by grind
  rw[be this];rfl|x::r,a,0,hb,_,h2=>by have h0:i<x.1:=h2 0 (bd _) (by simp);rw[be rfl,yq,bi (by omega),It i r a 0 (by omega) (λj hj=>by omega) (λj _ hj=>h2 (j+1) (by omega) (by simp;omega)),be rfl]|x::r,a,b+1,hb,h1,h2=>by have h0:x.1<=i:=h1 0 (by omega);rw[yq,be h0,It i r x.2 b (by simpa using hb) (λj hj=>h1 (j+1) (by omega)) (λj hj hl=>h2 (j+1) (by omega) (by simp;omega))];cases b with|zero=>rfl|succ b=>rfl
def Ll{l:List e8}(hl:l.length<=1000)(hN:1300<N)(i:Int):F53 N (l,i)=some (yq i 0 l):=by
 have key:∀(r pre:List e8)(a:Int)(k:Nat),l=pre++r->r.length<k->aC9 N k (l,i,a,(pre.length:Int))=some (yq i a r):=by intro r;induction r with|nil=>intro pre a k h hk;obtain⟨k,rfl⟩:∃m,k=m+1:=⟨k-1,by simp at hk;omega⟩;simp at h;subst h;simp[aC9.eq_2,aG,af,yq]|cons x r ih=>
  intro pre a k h hk;obtain⟨k,rfl⟩:∃m,k=m+1:=⟨k-1,by simp at hk;omega⟩;have hlt:pre.length<l.length:=by rw[h];simp
  have ix:idx l (pre.length:Int)=some x:=l9 h rfl;have:=ih (pre++[x]) (if x.1<=i then x.2else a) k (by rw[h];simp) (by simpa using hk);rw[bc,dl]at this;simp only[aC9.eq_2,aD hlt,aq,ix,ae,zo,aj (show pre.length<9223372036854775807by omega)];rw[yq,<-this];by_cases hx:x.1<=i;.rw[aP hx,be hx];rfl
  .rw[aL hx,bi hx];rfl
 have:=key l [] 0 N rfl (by omega);simp at this;rw[F53.eq_1,this];rfl
def zA{l:List e8}{n:Int}(hr:dP l n)(hl:l.length<=1000){i:Int}:∀(k lo hi:Nat),hi-lo<k->lo<=hi->hi<=l.length->(∀j,j<lo->(rn l j).1<=i)->(∀j,hi<=j->j<l.length->i<(rn l j).1)->∃b:Nat,b<=l.length/\(∀j,j<b->(rn l j).1<=i)/\(∀j,b<=j->j<l.length->i<(rn l j).1)/\ap4 N k ((lo:Int),(hi:Int),l,i)=some ((b:Int),l)
 |0,_,_,h,_,_,_,_=>by omega|k+1,lo,hi,hk,hle,hhl,h1,h2=>by
  rw[ap4.eq_2];by_cases he:lo=hi;.subst he;rw[aG,af];exact⟨lo,hhl,h1,h2,rfl⟩
  .have hm:au (Int.fdiv (aK (au ((lo:Int)+(hi:Int)))) 2)=(((lo+hi)/2:Nat):Int):=by rw[aJ (n:=(lo:Int)+(hi:Int)) (by omega),aQ (by omega),se _ (by omega),aJ (by omega)];omega
   have hx:idx l (((lo+hi)/2:Nat):Int)=some (rn l ((lo+hi)/2)):=bK _ (by omega);rw[aD (show lo<hi by omega),aq,hm,hx,ae];by_cases hc:(rn l ((lo+hi)/2)).1>i;.rw[aP hc,dk,af];exact zA hr hl k lo ((lo+hi)/2) (by omega) (by omega) (by omega) h1 (λj hj hjl=>by have:=hr.mono hj hjl;omega)
   .rw[aL hc,i5,aq,aj (show(lo+hi)/2<9223372036854775807by omega)];exact zA hr hl k ((lo+hi)/2+1) hi (by omega) (by omega) hhl (λj hj=>by have:=hr.mono (i:=j) (j:=(lo+hi)/2) (by omega) (by omega);omega) h2
def ac9{l:List e8}{n i:Nat}(hN:1300<N)(hl:l.length<=300)(h:dP l n)(h1:1<=n)(h2:n<=200)(hi:i<n):F13 N (l,(n:Int),(i:Int))=some (yq i 0 l,0):=by
 obtain⟨b,hb,b1,b2,e⟩:=zA (N:=N) h (by omega) (i:=(i:Int)) N 0 l.length (by omega) (by omega) (bd _) (λj hj=>by omega) (λj hj hjl=>by omega);have e':ap4 N N (0,(l.length:Int),l,(i:Int))=some ((b:Int),l):=e;have hb0:b≠0:=λe0=>by have:=b2 0 (by omega) h.1;have:=h.2.1;omega
 have hx:idx l (((b-1:Nat)):Int)=some (rn l (b-1)):=bK _ (by omega);rw[F13.eq_1,u7 (by omega) (by omega),bi (by omega),be h,ae,fJ,af,aL (show¬(i:Int)<0 by omega),af,ae,aL (show¬(i:Int)>=(n:Int)by omega),af,e',ae];rw[u6 (by omega) (by omega),hx,ae,It i l 0 b hb b1 b2,bi hb0]
def O8{l:List e8}(h:Ik l)(i:Int):∀a,0<=a/\a<=18446744073709551615->0<=yq i a l/\yq i a l<=18446744073709551615:=by induction l with|nil=>intro a ha;exact ha|cons x r ih=>
 intro a ha;refine ih (λy hy=>h y (dp _ hy)) _ ?_;split;.exact h x (ci ..)
 omega
def D4(fs:List Func)(f i:Nat):Int:=yq i 0 (gp fs f).2.2.2.2.2.1
def jv(ts:List aA)(fs:List Func)(f i:Nat):Int:=24+vt ts (gp fs f).2.2.2.1+D4 fs f i
def GF(ts:List aA)(xs:List (List UInt8))(fs:List Func)(a:Nat):Int×Int:=if(sR ts xs fs a).2.2=0then(if jv ts fs (a/256-1) (a%256)>4096then(0,16)else(jv ts fs (a/256-1) (a%256),0))else(0,(sR ts xs fs a).2.2)
def ND{a:Nat}(h:(sR ts xs fs a).2.2=0):dG ts xs fs/\sX fs a/\sR ts xs fs a=(((a/256-1:Nat):Int),((a%256:Nat):Int),0):=by
 unfold sR at h⊢;by_cases hc:j6 ts xs fs=0
 .rw[be hc]at h⊢;by_cases ha:sX fs a;.rw[be ha];exact⟨(va hc).1,ha,rfl⟩
  grind
 grind
def zB(hm:gK ts xs fs){f i:Nat}(hf:f<fs.length):0<=D4 fs f i/\D4 fs f i<=18446744073709551615:=O8 (hm.1.2.2.2.2 _ (mc fn0 hf)).2.2.2.2.2.1 _ 0 (by omega)
def GG(hN:1300<N)(hm:gK ts xs fs){a:Nat}(ha:a<18446744073709551616):F33 N (ts,xs,fs,(a:Int))=some (GF ts xs fs a):=by
 rw[F33.eq_1,Is hN hm ha,ae,GF];by_cases h0:(sR ts xs fs a).2.2=0
 .obtain⟨EY,⟨a1,a2,a3⟩,e⟩:=ND h0;rw[be h0,e];have hF:=EY.func (i:=a/256-1) (by omega);obtain⟨_,hb⟩:=uI EY.1 EY.2.2.2.1 hF.2.1 hF.2.2.2.2.2.1;have hs:=zB hm (f:=a/256-1) (i:=a%256) (by omega);have hn:=hF.2.2.2.2.2.2.1;rw[fJ,af,aaV hN hm EY (by omega),ae,yp (by omega),ae,ae,ac9 hN (by have:=n5 hF.2.2.2.2.2.2.2.2.1;omega) hF.2.2.2.2.2.2.2.2.1 hn.1 hn.2 a3,ae];rw[show yq ((a%256:Nat):Int) 0 (gp fs (a/256-1)).2.2.2.2.2.1=D4 fs (a/256-1) (a%256)from rfl];by_cases hx:D4 fs (a/256-1) (a%256)>4096;.rw[aP hx,aq,ae,aq,be (show jv ts fs (a/256-1) (a%256)>4096by unfold jv;omega)]
  .have e2:au (au (24+vt ts (gp fs (a/256-1)).2.2.2.1)+au (D4 fs (a/256-1) (a%256)))=jv ts fs (a/256-1) (a%256):=by rw[aJ (n:=24+_) (by omega),aJ (n:=D4 _ _ _) (by omega),aJ (by omega)];rfl
   grind
 grind
end
def mh{d:gr}{r:List gr}(h:okD (d::r)):d.t.ok d.v/\okD r:=TX.1 h
def Ya{ts:List aA}{fs:List Func}(h1:(Ty.sl aR).ok ts)(h3:(Ty.sl dV).ok fs):O4 ts fs:=by
 refine⟨λt ht=>(h1.2 t ht).2.2.1,λf hf=>?_⟩;obtain⟨_,_,g3,_,g5,g6,g7⟩:=h3.2 f hf;refine⟨g3,λx hx=>?_,λx hx=>?_,λx hx=>?_⟩;.have:=g5.2 x hx;exact⟨this.2.1,this.2.2.1,this.2.2.2⟩
 .exact(g6.2 x hx).2
 .exact(g7.2 x hx).2
def aaW(l:List Int)(o:Nat)(bs:List Int):List Int:=l.take o++(bs++l.drop (o+bs.length))
def wb(v k:Nat):Int:=((v/256^k%256:Nat):Int)
def Yb(v:Nat):List Int:=(List.range 8).map (wb v)
section
variable{N:Nat}{ts:List aA}{xs:List (List UInt8)}{fs:List Func}
def apj(l:List Int)(v w r:Nat):List Int:=aaW (aaW (aaW l 0 (Yb v)) 8 (Yb w)) 16 (Yb r)
def szF(ts:List aA)(f:Field):Nat:=(eD (exs ts) f.2).1.toNat
def ada(ts:List aA)(f:Field):Nat:=(up 8 (eD (exs ts) f.2).1).toNat
def adb(ts:List aA):List Field->Nat|[]=>0|f::r=>ada ts f+adb ts r
def ade(ts:List aA)(A:List Int):Nat->List Field->List Int->List Int->List Int|_,[],own,_=>own|i,f::r,own,args=>ade ts A (i+1) r (aaW own (24+(A.getD i 0).toNat) (args.take (szF ts f))) (args.drop (ada ts f))
def Lm{x:List Ex}(hx:EX 1048576 x):∀(fs:List Field)(s a:Int),0<=s->s+fs.length*263<=10000->(∀f,f∈fs->(eD x f.2).1<=256)->s<=(fu 1048576 x s a fs).2.1/\∀(i:Nat)f,fs[i]?=some f->0<=(fu 1048576 x s a fs).1.getD i 0/\(fu 1048576 x s a fs).1.getD i 0+(eD x f.2).1<=(fu 1048576 x s a fs).2.1
 |[],s,a,_,_,_=>⟨yk _,λi f h=>by simp at h⟩|f::r,s,a,h0,hs,hf=>by
  obtain⟨e1,e2,e3⟩:=hx.get (by omega) f.2;have Rz:=hf f (ci ..);have hu:=oF e1 h0;rw[eK]at hs;obtain⟨g1,g2⟩:=Lm hx r (up (eD x f.2).2 s+(eD x f.2).1) (max a (eD x f.2).2) (by omega) (by omega) (λg hg=>hf g (dp _ hg));simp only[fu];rw[show min 1048576 (up (eD x f.2).2 s+(eD x f.2).1)=up (eD x f.2).2 s+(eD x f.2).1by omega]
  refine⟨by omega,λi g hg=>?_⟩;cases i with|zero=>
   have:f=g:=by simpa using hg
   subst this;show 0<=up (eD x f.2).2 s/\up (eD x f.2).2 s+(eD x f.2).1<=_;omega|succ i=>exact g2 i g (by simpa using hg)
end
def gL(b:Int)(l:List Int):Prop:=b%16777216=0/\1<=b/16777216/\b/16777216<=16/\l.length%8=0/\l.length<=4096
def ja(m r:Int):Prop:=m<=3/\(r≠0↔2<=m)
def u64(v:Int):Prop:=0<=v/\v<=18446744073709551615
def Bo(l:List Int):Prop:=∀x,x∈l->0<=x/\x<=255
section
variable{N:Nat}{ts:List aA}{xs:List (List UInt8)}{fs:List Func}
def A8{b:Int}{l:List Int}(hb:u64 b):F70 N (b,l)=some (if gL b l then 0 else 8):=by
 have e0:Int.tmod (l.length:Int) 8=((l.length%8:Nat):Int):=by grind
 obtain⟨h0,h1⟩:=hb;rw[F70.eq_1,kG h0,BH h0,aQ (by omega),e0];by_cases c1:b%16777216=0
 .rw[show(b%16777216!=0)=false by simpa using c1,af];by_cases c2:b/16777216<1;.rw[aP c2,bi λh=>by have:=h.2.1;omega];rfl
  .rw[aL c2,af];by_cases c3:b/16777216>16;.rw[aP c3,bi λh=>by have:=h.2.2.1;omega];rfl
   .rw[aL c3,af];by_cases c4:l.length%8=0
    .rw[show(((l.length%8:Nat):Int)!=0)=false by simp;omega,af];by_cases c5:(l.length:Int)>4096;.rw[aP c5,bi λh=>by have:=h.2.2.2.2;omega];rfl
     .rw[aL c5,be ⟨c1,by omega,by omega,c4,by omega⟩];rfl
    .rw[show(((l.length%8:Nat):Int)!=0)=true by simp;omega,bi λh=>c4 h.2.2.2.1];rfl
 .rw[show(b%16777216!=0)=true by simpa using c1,bi λh=>c1 h.1];rfl
def D5(hN:1300<N){b:Int}{l:List Int}(hb:u64 b):F49 N (b,l)=some (decide (gL b l)):=by
 have e0:Int.tmod (l.length:Int) 8=((l.length%8:Nat):Int):=by grind
 have key:∀(m g:Nat)(k:Nat),g+m=17->1<=g->m<k->(∀q:Int,1<=q->q<(g:Int)->b≠16777216*q)->(av3 N k ((g:Int),b,l)=some (.inl (decide (gL b l)))\/(av3 N k ((g:Int),b,l)=some (.inr ())/\¬gL b l)):=by intro m;induction m with|zero=>intro g k hg _ hk hn;obtain⟨k,rfl⟩:∃m,k=m+1:=⟨k-1,by omega⟩;right;refine⟨by rw[av3.eq_2,aL (show¬(g:Int)<=16by omega),af],λh=>?_⟩;obtain⟨a1,a2,a3,_⟩:=h<;>grind|succ m ih=>
   intro g k hg h1 hk hn;obtain⟨k,rfl⟩:∃m,k=m+1:=⟨k-1,by omega⟩;rw[av3.eq_2,aP (show(g:Int)<=16by omega),aq,aQ (n:=16777216*(g:Int)) (by omega),aQ (n:=(g:Int)+1) (by omega)];by_cases hc:b=16777216*(g:Int)
   .left;rw[show(b==16777216*(g:Int))=true by simpa using hc,aq,e0];by_cases c4:l.length%8=0;.rw[show(((l.length%8:Nat):Int)==0)=true by simp;omega,aq,ae];congr 2;rw[la];exact⟨λh=>⟨by omega,by omega,by omega,c4,by omega⟩,λh=>by have:=h.2.2.2.2;omega⟩
    .rw[show(((l.length%8:Nat):Int)==0)=false by simp;omega,af,ae,aL (show¬gL b l fromλh=>c4 h.2.2.2.1)]
   .rw[show(b==16777216*(g:Int))=false by simpa using hc];exact ih (g+1) k (by omega) (by omega) (by omega) λq q1 q2=>by
     by_cases e:q=(g:Int);.rw[e];exact hc
     .exact hn q q1 (by omega)
 rw[F49.eq_1];rcases key 16 1 N (by omega) (by omega) (by omega) (λq q1 q2=>by omega)with h|⟨h,h'⟩<;>grind
def RA{m r:Int}:Vm N (m,r)=some (decide (ja m r)):=by
 rw[Vm.eq_1];by_cases c:m<=3
 .rw[aP c,aq];by_cases c1:r=0<;>by_cases c2:2<=m;.rw[aL (show¬ja m r fromλh=>h.2.2 c2 c1),show(r !=0)=false by simpa using c1,aP (show m>=2by omega)];rfl
  .rw[aP (show ja m r from⟨c,λh=>absurd c1 h,λh=>absurd h c2⟩),show(r !=0)=false by simpa using c1,aL (show¬m>=2by omega)];rfl
  .rw[aP (show ja m r from⟨c,λ_=>c2,λ_=>c1⟩),show(r !=0)=true by simpa using c1,aP (show m>=2by omega)];rfl
  .rw[aL (show¬ja m r fromλh=>c2 (h.2.1 c1)),show(r !=0)=true by simpa using c1,aL (show¬m>=2by omega)];rfl
 .rw[aL c,aL (show¬ja m r fromλh=>c h.1)];rfl
def RB{m r:Int}(hm:0<=m)(hr:0<=r):W6 N (m,r)=some (decide (ja m r)):=by
 have hq:∀k:Int,m≠k->(m==k)=false:=λk h=>by simpa using h
 have h4:m=0\/m=1\/m=2\/m=3\/3<m:=by omega
 rw[W6.eq_1];by_cases c1:r=0
 .subst c1;rcases h4 with rfl|rfl|rfl|rfl|h;.rw[aP (show ja 0 0from⟨by decide,by decide⟩)];rfl
  .rw[aP (show ja 1 0from⟨by decide,by decide⟩)];rfl
  .rw[aL (show¬ja 2 0fromλh=>absurd (h.2.2 (by decide)) (by decide))];rfl
  .rw[aL (show¬ja 3 0fromλh=>absurd (h.2.2 (by decide)) (by decide))];rfl
  .rw[hq 0 (by omega),hq 1 (by omega),hq 2 (by omega),hq 3 (by omega),aL (show¬ja m 0fromλh'=>by have:=h'.1;omega)];rfl
 .have hp:(r==0)=false:=by grind
  rw[hp,aP (show r>0 by omega)];rcases h4 with rfl|rfl|rfl|rfl|h;.rw[aL (show¬ja 0 r fromλh=>absurd (h.2.1 c1) (by decide))];rfl
  .rw[aL (show¬ja 1 r fromλh=>absurd (h.2.1 c1) (by decide))];rfl
  .rw[aP (show ja 2 r from⟨by decide,λ_=>by decide,λ_=>c1⟩)];rfl
  .rw[aP (show ja 3 r from⟨by decide,λ_=>by decide,λ_=>c1⟩)];rfl
  .rw[hq 0 (by omega),hq 1 (by omega),hq 2 (by omega),hq 3 (by omega),aL (show¬ja m r fromλh'=>by have:=h'.1;omega)];rfl
def Ln(fs:List Func)(n:Nat):List Field:=(gp fs n).2.2.2.1.take (gp fs n).2.1.toNat
def ahh(ts:List aA)(fs:List Func)(n back mode rec:Nat)(args:List Int):List Int:=ade ts (lay ts (gp fs n).2.2.2.1).1 0 (Ln fs n) (apj (List.replicate (24+vt ts (gp fs n).2.2.2.1).toNat 0) back mode rec) args
def azi(b:Int)(l:List Int)(ts:List aA)(xs:List (List UInt8))(fs:List Func)(f:Int)(back mode rec:Nat)(args:List Int)(limit:Int):Int×List Int×Int×Int:=if gL b l then if j6 ts xs fs=0then if 0<=f/\f<fs.length/\ja mode rec/\0<=limit/\limit<=4096/\args.length=adb ts (Ln fs f.toNat)then if(l.length:Int)+(24+vt ts (gp fs f.toNat).2.2.2.1)>limit then(0,[],0,18)else(b,l++ahh ts fs f.toNat back mode rec args,b+l.length,0)else(0,[],0,2)else(0,[],0,j6 ts xs fs)else(0,[],0,8)
end
def ec(l:List Int)(o:Nat):Int:=l.getD o 0+256*l.getD (o+1) 0+65536*l.getD (o+2) 0+16777216*l.getD (o+3) 0+4294967296*l.getD (o+4) 0+1099511627776*l.getD (o+5) 0+281474976710656*l.getD (o+6) 0+72057594037927936*l.getD (o+7) 0
def ct{l:List Int}(hb:Bo l)(i:Nat):0<=l.getD i 0/\l.getD i 0<=255:=by rw[da];cases e:l[i]?with|none=>grind|some x=>exact hb x (aS e)
def jT{l:List Int}(hb:Bo l)(o:Nat):0<=ec l o/\ec l o<=18446744073709551615:=by have:=ct hb o;have:=ct hb (o+1);have:=ct hb (o+2);have:=ct hb (o+3);have:=ct hb (o+4);have:=ct hb (o+5);have:=ct hb (o+6);have:=ct hb (o+7);unfold ec;omega
def Lo{v x:Int}(hv:0<=v/\v<72057594037927936)(hx:0<=x/\x<=255):BD .u64 (aK (v*256)) (aK x)=v*256+x:=by
 obtain⟨a,rfl⟩:=bo hv.1;obtain⟨i,rfl⟩:=bo hx.1;rw[aQ (by omega),aQ (by omega),show(a:Int)*256=((256*a:Nat):Int)by omega];unfold BD;have e:(BitVec.ofInt IntKind.u64.bits ((256*a:Nat):Int)|||BitVec.ofInt IntKind.u64.bits (i:Int)).toNat=256*a+i:=by show(BitVec.ofInt 64 ((256*a:Nat):Int)|||BitVec.ofInt 64 (i:Int)).toNat=_;rw[ns,ns,BitVec.toNat_or,pd,pd,rm (by omega),rm (by omega),ahf a i (by omega)]
 refine(aQ (by omega)).trans ?_;omega
section
variable{N:Nat}{ts:List aA}{xs:List (List UInt8)}{fs:List Func}
def RD(hN:1300<N){l:List Int}(hb:Bo l){o:Nat}(ho:o+8<=l.length)(hl:l.length<=100000)(b:Int):M2 N N ((o:Int),0,7,b,l)=some (ec l o):=by
 have ix:∀j:Nat,j<8->idx l (au ((o:Int)+(j:Int)))=some (l.getD (o+j) 0):=λj hj=>by rw[DL (by omega)];exact bK _ (by omega)
 have b0:=ct hb o;have b1:=ct hb (o+1);have b2:=ct hb (o+2);have b3:=ct hb (o+3);have b4:=ct hb (o+4);have b5:=ct hb (o+5);have b6:=ct hb (o+6);have b7:=ct hb (o+7);have step:∀(k j:Nat)(v:Int),j<8->0<=v/\v<72057594037927936->M2 N (k+1) ((o:Int),v,(j:Int),b,l)=M2 N k ((o:Int),v*256+l.getD (o+j) 0,(j:Int)-1,b,l):=λk j v hj hv=>by rw[M2.eq_2,aP (show(j:Int)>=0 by omega),aq,ix j hj,ae,Lo hv (ct hb _),aJ (by omega)]
 obtain⟨k,hk⟩:∃k,N=k+9:=⟨N-9,by omega⟩;have key:M2 N (k+9) ((o:Int),0,7,b,l)=some (ec l o):=by rw[show(7:Int)=((7:Nat):Int)from rfl,step _ 7 _ (by omega) (by omega),show((7:Nat):Int)-1=((6:Nat):Int)from rfl,step _ 6 _ (by omega) (by omega),show((6:Nat):Int)-1=((5:Nat):Int)from rfl,step _ 5 _ (by omega) (by omega),show((5:Nat):Int)-1=((4:Nat):Int)from rfl,step _ 4 _ (by omega) (by omega),show((4:Nat):Int)-1=((3:Nat):Int)from rfl,step _ 3 _ (by omega) (by omega),show((3:Nat):Int)-1=((2:Nat):Int)from rfl,step _ 2 _ (by omega) (by omega),show((2:Nat):Int)-1=((1:Nat):Int)from rfl,step _ 1 _ (by omega) (by omega),show((1:Nat):Int)-1=((0:Nat):Int)from rfl,step _ 0 _ (by omega) (by omega),M2.eq_2,show decide (((0:Nat):Int)-1>=0)=false from rfl,af];congr 1;unfold ec;simp only[dT];omega
 rw[<-hk]at key;exact key
def pQ(b:Int)(l:List Int):Prop:=8<=b/\b<=1099511627776/\b%8=0/\l.length<=20000
def GH{b:Int}{l:List Int}(h:gL b l):pQ b l:=by obtain⟨h1,h2,h3,h4,h5⟩:=h;exact⟨by omega,by omega,by omega,by omega⟩
def vb{b:Int}{l:List Int}(h:pQ b l):F82 N (b,l)=some 0:=by obtain⟨h1,h2,h3,h4⟩:=h;rw[F82.eq_1,aat.eq_1,aP (show b>=8by omega),aq,aP h2,aq,kG (by omega),show(b%8==0)=true by simpa using h3,ae,ae,dk,af,aL (show¬(l.length:Int)>20000by omega)];rfl
def yt{b:Int}{l:List Int}(h:pQ b l){a:Int}(ha:u64 a){n:Nat}(hn:n<=20000):∃i,Y0 N (b,l,a,(n:Int))=some (i,decide (b<=a/\a-b+n<=l.length))/\(b<=a/\a-b+n<=l.length->i=a-b):=by
 obtain⟨h1,h2,h3,h4⟩:=h;obtain⟨a1,a2⟩:=ha;rw[Y0.eq_1];by_cases c1:a<b;.exact⟨0,by rw[aP c1,aL (show¬(b<=a/\a-b+n<=l.length)by omega)];rfl,by omega⟩
 .rw[aL c1,af,aQ (n:=a-b) (by omega),aQ (n:=(l.length:Int)) (by omega),ae];by_cases c2:a-b>(l.length:Int);.exact⟨0,by rw[aP c2,aL (show¬(b<=a/\a-b+n<=l.length)by omega)];rfl,by omega⟩
  .rw[aL c2,af,aJ (n:=a-b) (by omega),aJ (by omega)];refine⟨a-b,?_,λ_=>rfl⟩;congr 2;rw[la];omega
def NF{b:Int}{l:List Int}(h:pQ b l){a:Int}(ha:u64 a){n:Nat}(hn:n<=20000):F86 N (b,l,a,(n:Int))=some (decide (b<=a/\a-b+n<=l.length),0):=by obtain⟨i,e,_⟩:=yt (N:=N) h ha hn;rw[F86.eq_1,vb h,ae,fJ,af,aL (show¬(n:Int)<0 by omega),af,e];rfl
def wY(hN:1300<N){b:Int}{l:List Int}(h:pQ b l)(hb:Bo l){o:Nat}(ho:o+8<=l.length):M6 N (b,l,b+o,8)=some (ec l o,0):=by obtain⟨i,e,hi⟩:=yt (N:=N) h (a:=b+o) ⟨by have:=h.1;omega,by have:=h.2.1;have:=h.2.2.2;omega⟩ (n:=8) (by omega);have hi:=hi (by omega);rw[show b+(o:Int)-b=(o:Int)by omega]at hi;subst hi;rw[aP (show b<=b+(o:Int)/\b+(o:Int)-b+((8:Nat):Int)<=(l.length:Int)by omega),show((8:Nat):Int)=8from rfl]at e;rw[M6.eq_1,aau.eq_1,vb h,ae,fJ,af,show((8:Int)!=1)=true from rfl,aq,show((8:Int)!=8)=false from rfl,ae,af,e,ae];rw[dk,af,ae];rw[fJ,show au ((8:Int)-1)=7from rfl,RD hN hb ho (by have:=h.2.2.2;omega)];rfl
def adf{b:Int}{l:List Int}(h:pQ b l){a:Int}(ha:u64 a){n:Nat}(hn:n<=20000):DH N (b,l,a,(n:Int))=some (decide (b<=a/\a-b+n<=l.length)):=by
 obtain⟨h1,h2,h3,h4⟩:=h;obtain⟨a1,a2⟩:=ha;rw[DH.eq_1,aL (show¬(n:Int)>20000by omega),af,ae];by_cases c:a>2199023255552;.rw[aP c,aL (show¬(b<=a/\a-b+n<=l.length)by omega)];rfl
 .rw[aL c,af];by_cases c2:a>=b;.rw[aP c2,aq,aQ (n:=(n:Int)) (by omega),aQ (n:=a+n) (by omega),aQ (n:=(l.length:Int)) (by omega),aQ (by omega),ae];congr 1;rw[la];omega
  .rw[aL c2,aL (show¬(b<=a/\a-b+n<=l.length)by omega)];rfl
def yu(hN:1300<N){b:Int}{l:List Int}(h:pQ b l)(hb:Bo l){o:Nat}(ho:o+8<=l.length):DI N (b,l,b+o,8)=some (ec l o):=by
 obtain⟨h1,h2,h3,h4⟩:=h;have b0:=ct hb o;have b1:=ct hb (o+1);have b2:=ct hb (o+2);have b3:=ct hb (o+3);have b4:=ct hb (o+4);have b5:=ct hb (o+5);have b6:=ct hb (o+6);have b7:=ct hb (o+7);have ix:∀j:Nat,j<8->idx l (aK (aK (b+(o:Int)-b)+aK (j:Int)))=some (l.getD (o+j) 0):=λj hj=>by rw[show b+(o:Int)-b=(o:Int)by omega,aQ (n:=(o:Int)) (by omega),aQ (n:=(j:Int)) (by omega),aQ (by omega),show(o:Int)+(j:Int)=((o+j:Nat):Int)by omega];exact bK _ (by omega)
 have step:∀(k j:Nat)(v p:Int),j<8->0<=v->0<=p->v+p*l.getD (o+j) 0<=18446744073709551615->0<=p*l.getD (o+j) 0->H0 N (k+1) (b+o,8,v,p,(j:Int),b,l)=H0 N k (b+o,8,v+p*l.getD (o+j) 0,aK (p*256),((j+1:Nat):Int),b,l):=λk j v p hj h1 h2 h3 h4=>by rw[H0.eq_2,aP (show(j:Int)<8by omega),aq,ix j hj,ae,aQ (n:=l.getD (o+j) 0) (by have:=ct hb (o+j);omega),aQ (n:=p*_) (by omega),aQ (by omega),aj (by omega)]
 obtain⟨k,hk⟩:∃k,N=k+9:=⟨N-9,by omega⟩;have key:H0 N (k+9) (b+o,8,0,1,0,b,l)=some (ec l o):=by rw[show H0 N (k+9) (b+(o:Int),8,0,1,0,b,l)=H0 N (k+8+1) (b+(o:Int),8,0,1,((0:Nat):Int),b,l)from rfl];rw[step _ 0 0 1 (by omega) (by omega) (by omega) (by simp only[dT];omega) (by simp only[dT];omega),show aK ((1:Int)*256)=256from rfl,step _ 1 _ 256 (by omega) (by simp only[dT];omega) (by omega) (by simp only[dT];omega) (by omega),show aK ((256:Int)*256)=65536from rfl,step _ 2 _ 65536 (by omega) (by simp only[dT];omega) (by omega) (by simp only[dT];omega) (by omega),show aK ((65536:Int)*256)=16777216from rfl,step _ 3 _ 16777216 (by omega) (by simp only[dT];omega) (by omega) (by simp only[dT];omega) (by omega),show aK ((16777216:Int)*256)=4294967296from rfl,step _ 4 _ 4294967296 (by omega) (by simp only[dT];omega) (by omega) (by simp only[dT];omega) (by omega),show aK ((4294967296:Int)*256)=1099511627776from rfl,step _ 5 _ 1099511627776 (by omega) (by simp only[dT];omega) (by omega) (by simp only[dT];omega) (by omega),show aK ((1099511627776:Int)*256)=281474976710656from rfl,step _ 6 _ 281474976710656 (by omega) (by simp only[dT];omega) (by omega) (by simp only[dT];omega) (by omega),show aK ((281474976710656:Int)*256)=72057594037927936from rfl,step _ 7 _ 72057594037927936 (by omega) (by simp only[dT];omega) (by omega) (by simp only[dT];omega) (by omega),H0.eq_2,show decide (((7+1:Nat):Int)<8)=false from rfl,af];congr 1;unfold ec;simp only[dT];omega
 rw[<-hk]at key;rw[DI.eq_1,key];rfl
def sS(b:Int)(l:List Int)(a:Int):Int×Int×Int×Int:=if gL b l then if b<=a/\a-b+24<=l.length/\a%8=0then if ja (ec l ((a-b).toNat+8)) (ec l ((a-b).toNat+16))then(ec l (a-b).toNat,ec l ((a-b).toNat+8),ec l ((a-b).toNat+16),0)else(0,0,0,12)else(0,0,0,16)else(0,0,0,8)
def adg{a:Int}(ha:u64 a):(Int.tmod a 8!=0)=!decide (a%8=0):=by grind
def aaX(hN:1300<N){b:Int}{l:List Int}(hbu:u64 b)(hb:Bo l){a:Int}(ha:u64 a):F72 N (b,l,a)=some (sS b l a):=by
 rw[F72.eq_1,A8 hbu,ae,sS];by_cases hs:gL b l
 .have hr:=GH hs;have hh:=NF (N:=N) hr ha (n:=24) (by omega);rw[show((24:Nat):Int)=24from rfl]at hh;rw[be hs,be hs,fJ,af,hh,ae];rw[adg ha];by_cases hc:b<=a/\a-b+24<=l.length
  .rw[aP hc,dk,af,ae];by_cases h8:a%8=0
   .rw[aP h8,dk,be ⟨hc.1,hc.2,h8⟩];obtain⟨o,ho⟩:=bo (show 0<=a-b by omega);have e0:a=b+(o:Int):=by omega
    have hl4:=hs.2.2.2.2;have au0:=hs.2.2.1;have qC:=hs.2.1;rw[ho,am];have l0:=wY (N:=N) hN hr hb (o:=o) (by omega);have l1:=wY (N:=N) hN hr hb (o:=o+8) (by omega);have l2:=wY (N:=N) hN hr hb (o:=o+16) (by omega);have q1:aK (a+8)=b+((o+8:Nat):Int):=by rw[aQ (by omega)];omega
    have q2:aK (a+16)=b+((o+16:Nat):Int):=by rw[aQ (by omega)];omega
    rw[q1,q2,e0,l0,ae,l1,ae,l2,ae];rw[RA,ae]<;>grind
   grind
  grind
 grind
def Yc(hN:1300<N){b:Int}{l:List Int}(hbu:u64 b)(hb:Bo l){a:Int}(ha:u64 a):F98 N (b,l,a)=some (sS b l a):=by
 rw[F98.eq_1,D5 hN hbu,ae,sS];by_cases hs:gL b l
 .have hr:=GH hs;have hin:=adf (N:=N) hr ha (n:=24) (by omega);rw[show((24:Nat):Int)=24from rfl]at hin;rw[be hs,aP hs,dk,af,adg ha,hin,ae];by_cases h8:a%8=0
  .rw[aP h8,dk,af,ae];by_cases hc:b<=a/\a-b+24<=l.length
   .rw[aP hc,dk,be ⟨hc.1,hc.2,h8⟩];obtain⟨o,ho⟩:=bo (show 0<=a-b by omega);have e0:a=b+(o:Int):=by omega
    have hl4:=hs.2.2.2.2;have au0:=hs.2.2.1;have qC:=hs.2.1;rw[ho,am];have l0:=yu (N:=N) hN hr hb (o:=o) (by omega);have l1:=yu (N:=N) hN hr hb (o:=o+8) (by omega);have l2:=yu (N:=N) hN hr hb (o:=o+16) (by omega);have q1:aK (a+8)=b+((o+8:Nat):Int):=by rw[aQ (by omega)];omega
    have q2:aK (a+16)=b+((o+16:Nat):Int):=by rw[aQ (by omega)];omega
    rw[q1,q2,e0,l0,ae,l1,ae,l2,ae,RB (jT hb _).1 (jT hb _).1,ae]<;>grind
   grind
  grind
 grind
def aBv(b:Int)(l:List Int)(a:Int):Int×List Int×Int×Int:=if(sS b l a).2.2.2=0then(b,l.take (a-b).toNat,(sS b l a).1,0)else(0,[],0,(sS b l a).2.2.2)
end
def Lp{l:List Int}(h:(Ty.sl (.int .u8)).ok l):Bo l:=λx hx=>h.2 x hx
section
variable{ts:List aA}{xs:List (List UInt8)}{fs:List Func}{f:Func}
def ij.fits(hv:ij ts xs fs){i:Nat}(h:fs[i]?=some f):sO f:=hv.fit.1.2.2.2.2 f (aS h)
def instrR{N:Nat}(hN:1300<N)(hv:ij ts xs fs){g:Int}(hf:idx fs g=some f)(hok:fo ts.length f){i:Nat}{x:Instr}(hx:f.2.2.2.2.1[i]?=some x)(r:Bool):Q3 N (ts,xs,fs,g,(i:Int),r)=some (if n7 xs.length (fV fs) f.2.2.2.1 x then(if r=true then(if LD ts (fV fs) f.2.2.2.1 f.2.2.1 x=true then 0 else 30)else 6)else 16):=by
 have hc:=hok.2.2.2.2.2.2.2.1 x (aS hx);rw[Q3.eq_1,hf];simp only[ae,aB hx,apt hN hf hc];by_cases hn:n7 xs.length (fV fs) f.2.2.2.1 x;.rw[aP hn,be hn,dk];cases r with|false=>rfl|true=>rw[ahp hv hok hc hn hf]<;>grind
 grind
def ahx{N:Nat}(hN:14000000<N)(hv:ij ts xs fs){g:Int}(hf:idx fs g=some f):WK N (ts,xs,fs,g)=some ((fW ts xs fs f g).2.2.1,(fW ts xs fs f g).2.2.2):=by
 obtain⟨g0,rR⟩:=tP hf;have hok:=hv.get rR;have hfit:=hv.fits rR;obtain⟨hpos,hle⟩:=hok.2.2.2.2.2.2.1;have RS:=hok.2.2.2.2.2.2.2.1;unfold fW;rw[WK.eq_1,hf];simp[ae,NK (N:=N) (l:=f.2.2.2.2.1) (by omega) (by omega) hfit.2.2.2.2.1];by_cases hval:kj f.2.2.2.2.1=true;case neg=>grind
 rw[be hval,hval];have hvc:=yo hval;have hp0:=hok.2.2.2.1.1;have hr0:=hok.2.2.2.2.1.1;by_cases LK:g=0/\(0<f.2.1\/0<=f.2.2.1);.grind
 rw[bi LK];have hmn:(bif g==(0:Int)then(bif f.2.1!=0then some true else some (f.2.2.1!=-1))else some false:Option Bool)=some false:=by
  by_cases h0:g=0;.rw[show(g==(0:Int))=true by simpa using h0,aq,cW];congr 1;grind
  grind
 rw[hmn];simp[ae,af,Ym hvc (show 500<N by omega),vf hpos (show f.2.2.2.2.1.length<=10000000by omega)];have l1:=sE (l:=f.2.2.2.2.1) (p:=sF ts xs fs f) (a:=(.inr (g,ts,xs,fs,f.1,f.2.1,f.2.2.1,f.2.2.2.1,f.2.2.2.2.1,f.2.2.2.2.2.1,f.2.2.2.2.2.2):(Int×Int)⊕_)) (out:=λi e=>.inl (i,e)) (Lf:=λk i=>aB6 N k (g,eN f.2.2.2.2.1,((f.2.2.2.2.1.length-1:Nat):Int),i,ts,xs,fs,f.1,f.2.1,f.2.2.1,f.2.2.2.1,f.2.2.2.2.1,f.2.2.2.2.2.1,f.2.2.2.2.2.2)) (λk=>by simp only[aB6.eq_2,aG,af]) (λk i x hx=>by
   have hi:=aC hx;simp only[aB6.eq_2,aD hi,aq,aB (kN hi),ae,instrR (show 1300<N by omega) hv hf hok hx,aj (show i<9223372036854775807by omega),zo];have key:(bif decide (Reach f.2.2.2.2.1 i)then(if n7 xs.length (fV fs) f.2.2.2.1 x then(if True then(if LD ts (fV fs) f.2.2.2.1 f.2.2.1 x=true then 0 else 30)else 6)else 16:Int)else(if n7 xs.length (fV fs) f.2.2.2.1 x then(if((i:Int)==((f.2.2.2.2.1.length-1:Nat):Int))=true then(if LD ts (fV fs) f.2.2.2.1 f.2.2.1 x=true then 0 else 30)else 6)else 16:Int))=sF ts xs fs f i x:=by
    by_cases h1:Reach f.2.2.2.2.1 i;.rw[aP h1,aq];unfold sF;rw[be (show zK f.2.2.2.2.1 i from .inl h1),be trivial]
    .rw[aL h1,af];unfold sF;by_cases h2:i=f.2.2.2.2.1.length-1;.rw[be (show zK f.2.2.2.2.1 i from .inr h2),be (show((i:Int)==((f.2.2.2.2.1.length-1:Nat):Int))=true by rw[ll];omega)]
     .rw[bi (show¬zK f.2.2.2.2.1 i fromλh=>h.elim h1 h2),bi (show¬((i:Int)==((f.2.2.2.2.1.length-1:Nat):Int))=true by rw[ll];omega)]
   rw[key];by_cases hz:sF ts xs fs f i x=0;.rw[bi (λh=>h hz),show(sF ts xs fs f i x !=0)=false by simp[hz],af]
   .rw[be hz,show(sF ts xs fs f i x !=0)=true by simp[bne,hz],aq]) (k:=N) (by omega);simp[l1,ae];cases he:fB (sF ts xs fs f) 0 f.2.2.2.2.1with
 |some r=>rfl
 |none=>have hz:=qp he;have hfn:Fn ts xs fs f:=⟨hv,hok,hval,λx hx=>by
   obtain⟨i,hi,rfl⟩:=jp.1 hx;have:=hz i _ (aw hi);unfold sF at this;split at this;.assumption
   .cases this⟩;obtain⟨r,c,s1,s2,s3⟩:=LH (show 1300<N by omega) hfn hf;have m1:=Yt hN hfn;obtain⟨_,m2,m3⟩:=IF hN hfn;simp[xf,s1,ae];cases c with|false=>grind|true=>
   rw[be (s2.1 rfl)];simp[dk,af,m1,ae];have l3:∀(i:Nat)x,f.2.2.2.2.1[i]?=some x->av0 N N (cN (cE f),(i:Int),bu ny x,0,f.1,f.2.1,f.2.2.1,f.2.2.2.1,f.2.2.2.2.1,f.2.2.2.2.2.1,f.2.2.2.2.2.2)=some (if rD (cE f) i x≠0then .inl ((i:Int),38)else .inr (cN (cE f),(i:Int),f.1,f.2.1,f.2.2.1,f.2.2.2.1,f.2.2.2.2.1,f.2.2.2.2.2.1,f.2.2.2.2.2.2)):=λi x hx=>by
    have hi:=aC hx;have h15:=(pR (RS x (aS hx))).1;have YU:(cN (cE f))[i]?=some ((O (cE f) i:Nat):Int):=gV (by omega);have hrl:=kO ny x;have:=gn (l:=bu ny x) (a:=(.inr (cN (cE f),(i:Int),f.1,f.2.1,f.2.2.1,f.2.2.2.1,f.2.2.2.2.1,f.2.2.2.2.2.1,f.2.2.2.2.2.2):(Int×Int)⊕_)) (b:=.inl ((i:Int),38)) (p:=λs=>!((O (cE f) i).testBit s.toNat)) (Lf:=λk j=>av0 N k (cN (cE f),(i:Int),bu ny x,j,f.1,f.2.1,f.2.2.1,f.2.2.2.1,f.2.2.2.2.1,f.2.2.2.2.2.1,f.2.2.2.2.2.2)) (λk _=>by simp only[av0.eq_2,aG,af]) (λk j s hs hm=>by have hj:=aC hs;obtain⟨b0,b1⟩:=h15 s hm;simp only[av0.eq_2,aD hj,aq,aB hs,ae,aB YU,show(!decide (s<0))=true by simp;omega,ah,avd b0 b1,aj (show j<9223372036854775807by omega)];cases(O (cE f) i).testBit s.toNat<;>rfl) (k:=N) (by omega);rw[this];unfold rD;by_cases hall:∀s,s∈bu ny x->(O (cE f) i).testBit s.toNat=true;.rw[be hall,bi (λ⟨s,h1,h2⟩=>by rw[hall s h1]at h2;cases h2),bi (by decide)]
    .have hex:∃s,s∈bu ny x/\(!((O (cE f) i).testBit s.toNat))=true:=by rw[Classical.not_forall]at hall;obtain⟨s,hs⟩:=hall;rw[Classical.not_imp]at hs;exact⟨s,hs.1,by rw[fr];exact xc.2 hs.2⟩
     rw[be hex,bi hall,be (show(38:Int)≠0 by decide)]
   have l2:=sE (l:=f.2.2.2.2.1) (p:=rD (cE f)) (a:=(.inr ():(Int×Int)⊕Unit)) (out:=λi e=>.inl (i,e)) (Lf:=λk i=>av1 N k (cN (cE f),i,f.1,f.2.1,f.2.2.1,f.2.2.2.1,f.2.2.2.2.1,f.2.2.2.2.2.1,f.2.2.2.2.2.2)) (λk=>by simp only[av1.eq_2,aG,af]) (λk i x hx=>by
     have hi:=aC hx;simp only[av1.eq_2,aD hi,aq,aB hx,ae,wJ N (RS x (aS hx)),l3 i x hx];by_cases hz:rD (cE f) i x=0;.simp only[bi (show¬rD (cE f) i x≠0fromλh=>h hz),aj (show i<9223372036854775807by omega)]
     .have e38:rD (cE f) i x=38:=by
       unfold rD at hz⊢;split at hz;.exact absurd rfl hz
       .rename_i h;rw[bi h]
      simp only[be (show rD (cE f) i x≠0from hz)];rw[e38]) (k:=N) (by omega);rw[l2];cases fB (rD (cE f)) 0 f.2.2.2.2.1with|some r=>rfl|none=>rfl
structure Yu(ts:List aA)(xs:List (List UInt8))(fs:List Func)(f:Func):Prop where
 fn:Fn ts xs fs f
 sc:vi f.2.2.2.2.1 (eZ ts fs f)
def El(hv:ij ts xs fs)(hok:fo ts.length f){g:Int}(h:(fW ts xs fs f g).2.2.2=0):Yu ts xs fs f/\fW ts xs fs f g=(yD (uM ts fs f),yD (cN (cE f)),0,0):=by
 unfold fW at h⊢;split at h;case isFalse=>grind
 rename_i hval;rw[be hval];split at h;.grind
 rename_i LK;rw[bi LK];cases he:fB (sF ts xs fs f) 0 f.2.2.2.2.1with|some r=>rw[he]at h;exact absurd h (zJ he)|none=>
  rw[he]at h;split at h;case isFalse=>grind
  rename_i hsc;rw[be hsc];have hz:=qp he;refine⟨⟨⟨hv,hok,hval,λx hx=>?_⟩,hsc⟩,?_⟩;.obtain⟨i,hi,rfl⟩:=jp.1 hx;have:=hz i _ (aw hi);unfold sF at this<;>grind
  .cases hl:fB (rD (cE f)) 0 f.2.2.2.2.1with|some r=>rw[hl]at h;exact absurd h (zJ hl)|none=>rfl
def Yv{N:Nat}(hN:1300<N)(hm:gK ts xs fs):WM N ts=some ts:=by obtain⟨⟨m1,m2,m3,m4,m5⟩,_⟩:=hm;have htl:=m1.1;have k1:=fH (l:=ts) (enc:=λt=>[t]) (g:=id) (B:=1000) (m:=1) (Lf:=λk i s=>aB7 N k (ts,s,i)) (λk s=>by simp only[aB7.eq_2,aG,af];rfl) (λk i x s hx Py hB=>by obtain⟨j,hj,rfl⟩:=rB ty0 Py;have hf:=(m1.2 j hj).1;simp only[bJ]at hf;simp only[aB7.eq_2,aD (aC hx),aq,aB hx,ae,ak (show 0+(ts.getD j ty0).2.2.2.length<=10000000by omega) (show 24<=1000by omega),ak (show s.length+1<=10000000by omega) (show 48<=1000by omega),ah,ge,aj (show i<9223372036854775807by have:=aC hx;omega)]) (λx _=>by simp) (k:=N) (s:=[]) (by omega) (by simp;omega);rw[Rx,ge]at k1;rw[WM.eq_1,k1,ae,id]
def Yw(h:sO f):room (0+f.2.2.2.1.length) 24=true/\room (0+f.2.2.2.2.1.length) 32=true/\room (0+f.2.2.2.2.2.1.length) 16=true/\room (0+f.2.2.2.2.2.2.length) 16=true:=by obtain⟨g1,g2,g3,g4,_⟩:=h;exact⟨ak (by omega) (by omega),ak (by omega) (by omega),ak (by omega) (by omega),ak (by omega) (by omega)⟩
def abi{N:Nat}(hN:14000000<N)(h:Yu ts xs fs f){g:Nat}(hf:fs[g]?=some f):WR N (ts,xs,fs,(g:Int))=some (f.1,f.2.1,f.2.2.1,f.2.2.2.1,f.2.2.2.2.1,yD (uM ts fs f),yD (cN (cE f))):=by
 have hv:=h.fn.img;obtain⟨hpos,hle⟩:=h.fn.len;have hgl:=aC hf;have Rm:=hv.fns.2;have aBF:xs.length<=32:=hv.Iz.2.1;have key:=dI (n:=fs.length) (Lf:=λk i=>aB8 N k (i,ts,xs,fs,ts,xs,fs.take i.toNat,ts,xs,fs,[],0,0)) (g:=λ_=>some (ts,xs,fs,ts,xs,fs,[],0,0)) (λk=>by simp only[aB8.eq_2,aG,af,am,f9]) (λk i hi ih=>by have hx:=aw hi;obtain⟨q1,q2,q3,q4⟩:=Yw (hv.fits hx);simp only[am]at ih⊢;simp only[aB8.eq_2,aD hi,aq,aB hx,ae,q1,q2,q3,q4,ah,ge,ak (show(fs.take i).length+1<=10000000by rw[io];omega) (show 128<=1000by omega),aj (show i<9223372036854775807by omega)];rw[<-ih,take_succ hx]) N 0 (by omega) (by omega);rw[show(((0:Nat):Int)).toNat=0from rfl,Do,show((0:Nat):Int)=0from rfl]at key;obtain⟨r,c,s1,s2,s3⟩:=LH (show 1300<N by omega) h.fn (aB hf);have hc:=s2.2 h.sc;have hr:=s3 hc;subst hc hr;have k2:=fI (l:=(List.range f.2.2.2.2.1.length).map (GM f.2.2.2.2.1 (eZ ts fs f))) (g:=λs:List Int=>(s,([]:List UInt8),(0:Int),(0:Int),f)) (Inv:=λi s=>s=(uM ts fs f).take i) (Lf:=λk i s=>aB9 N k ((List.range f.2.2.2.2.1.length).map (GM f.2.2.2.2.1 (eZ ts fs f)),s,i,ts,xs,fs,[],0,0,f.1,f.2.1,f.2.2.1,f.2.2.2.1,f.2.2.2.2.1,f.2.2.2.2.2.1,f.2.2.2.2.2.2)) (λk s _=>by simp only[aB9.eq_2,aG,af]) (λk i x s hx hs=>by
   have hi:=aC hx;have zU:i<f.2.2.2.2.1.length:=by simpa using hi
   rw[eI,nz zU]at hx;have hx:=dC hx;obtain⟨o1,o2⟩:=h.fn.NS i;rw[hx]at o1 o2;obtain⟨b1,b2⟩:=o1.pS hv;have cr:s.length<=200:=by rw[hs,io,qo];omega
   have hz:(uM ts fs f)[i]?=some (pS ts x):=by unfold uM;rw[eI,nz zU,<-hx];rfl
   have hgx:idx ((List.range f.2.2.2.2.1.length).map (GM f.2.2.2.2.1 (eZ ts fs f))) (i:Int)=some x:=aB (by rw[eI,nz zU,<-hx];rfl);refine⟨s++[pS ts x],by rw[hs,take_succ hz],?_⟩;simp only[aB9.eq_2,aD hi,aq,hgx,ae,NP (show 1300<N by omega) hv o1 (show x.length<=1000by omega),ak (show s.length+1<=10000000by omega) (show 8<=1000by omega),ah,aQ (n:=pS ts x) (by omega),aj (show i<9223372036854775807by omega)]) (k:=N) (s:=[]) rfl (by simp;omega);obtain⟨s,hs,k2⟩:=k2;have hs:s=uM ts fs f:=by
  rw[hs];have:((List.range f.2.2.2.2.1.length).map (GM f.2.2.2.2.1 (eZ ts fs f))).length=(uM ts fs f).length:=by simp[qo]
  rw[this,f9]
 subst hs;have m1:=Yt hN h.fn;obtain⟨_,m2,_⟩:=IF hN h.fn;have d1:=adk (N:=N) (v:=uM ts fs f) (by omega) (by rw[qo];omega);have d2:=adk (N:=N) (v:=cN (cE f)) (by omega) (by rw[bR];omega);rw[WR.eq_1,Yv (show 1300<N by omega) hv.fit];simp only[ae,ak (show 0+xs.length<=10000000by omega) (show 16<=1000by omega),ah,ge,key,aB hf,s1,k2,d1,m1,d2]
end
structure Rer(fs fs':List Func):Prop where
 len:fs'.length=fs.length
 get:∀(i:Nat)(f:Func),fs[i]?=some f->∃S L,fs'[i]?=some (f.1,f.2.1,f.2.2.1,f.2.2.2.1,f.2.2.2.2.1,S,L)/\(dP S (f.2.2.2.2.1.length:Int)/\dP L (f.2.2.2.2.1.length:Int))/\Ik S/\Ik L
section
variable{ts:List aA}{xs:List (List UInt8)}{fs fs':List Func}{f f':Func}
def apC{fs:List Func}{i:Nat}{f:Func}(h:fs[i]?=some f):gp fs i=f:=by unfold gp<;>grind
def Rer.at(h:Rer fs fs'){i:Nat}(hi:i<fs.length):∃S L,gp fs' i=((gp fs i).1,(gp fs i).2.1,(gp fs i).2.2.1,(gp fs i).2.2.2.1,(gp fs i).2.2.2.2.1,S,L)/\(dP S ((gp fs i).2.2.2.2.1.length:Int)/\dP L ((gp fs i).2.2.2.2.1.length:Int))/\Ik S/\Ik L:=by have e:=aw hi;obtain⟨S,L,h1,h2⟩:=h.get i _ e;rw[apC e,apC h1];exact⟨S,L,rfl,h2⟩
def Rer.name(h:Rer fs fs')(i:Nat):(gp fs' i).1=(gp fs i).1:=by
 by_cases hi:i<fs.length;.obtain⟨S,L,e,_⟩:=h.at hi<;>grind
 .unfold gp;rw[da,da,eJ (by rw[h.len];omega),eJ (by omega)]
def Rer.fV(h:Rer fs fs'):fV fs'=Go.Proofs.YtnfdnnplfbfgaaaGreat.fV fs:=by
 apply lO;intro i;unfold Go.Proofs.YtnfdnnplfbfgaaaGreat.fV;rw[eI,eI];by_cases hi:i<fs.length;.obtain⟨S,L,h1,_⟩:=h.get i _ (aw hi);rw[h1,aw hi];rfl
 .rw[eJ (by rw[h.len];omega),eJ (by omega)]
def ij.runs(hv:ij ts xs fs){i:Nat}(hi:fs[i]?=some f):(dP f.2.2.2.2.2.1 (f.2.2.2.2.1.length:Int)/\dP f.2.2.2.2.2.2 (f.2.2.2.2.1.length:Int))/\Ik f.2.2.2.2.2.1/\Ik f.2.2.2.2.2.2:=by obtain⟨_,_,_,_,_,_,_,_,h1,h2⟩:=hv.get hi;obtain⟨_,_,_,_,_,h3,h4⟩:=hv.fits hi<;>grind
def aqy(hS:fV fs'=fV fs)(hf:sg f'=sg f)(g:Int):fW ts xs fs' f' g=fW ts xs fs f g:=by
 obtain⟨n,p,r,s,l,a,b⟩:=f;obtain⟨n',p',r',s',l',a',b'⟩:=f';unfold sg at hf;simp at hf;obtain⟨rfl,rfl,rfl,rfl⟩:=hf;have e1:eZ ts fs' (n',p',r',s',l',a',b')=eZ ts fs (n,p',r',s',l',a,b):=by unfold eZ;rw[hS]
 have e2:uM ts fs' (n',p',r',s',l',a',b')=uM ts fs (n,p',r',s',l',a,b):=by unfold uM;rw[e1]
 have e3:sF ts xs fs' (n',p',r',s',l',a',b')=sF ts xs fs (n,p',r',s',l',a,b):=by unfold sF<;>grind
 unfold fW;rw[e1,e2,e3];rfl
def rE(h:Yu ts xs fs f):(dP (yD (uM ts fs f)) (f.2.2.2.2.1.length:Int)/\dP (yD (cN (cE f))) (f.2.2.2.2.1.length:Int))/\Ik (yD (uM ts fs f))/\Ik (yD (cN (cE f))):=by
 obtain⟨hpos,hle⟩:=h.fn.len;obtain⟨_,m2,m3⟩:=IF (N:=14000001) (by omega) h.fn;have h1:=Yr (v:=uM ts fs f) (by rw[qo];omega);have h2:=Yr (v:=cN (cE f)) (by rw[bR];omega);rw[qo]at h1;rw[bR,m2]at h2;refine⟨⟨h1,h2⟩,λx hx=>?_,λx hx=>?_⟩;.have:=h.fn.ahw (Pe hx);omega
 .obtain⟨k,hk,e⟩:=j1.1 (Pe hx);obtain⟨j,hj,rfl⟩:=jp.1 hk;have:=m3 j;unfold O at this<;>grind
def apD(ts:List aA)(xs:List (List UInt8))(fs:List Func)(i:Nat):Func:=if(fW ts xs fs (gp fs i) (i:Int)).2.2.2=0then((gp fs i).1,(gp fs i).2.1,(gp fs i).2.2.1,(gp fs i).2.2.2.1,(gp fs i).2.2.2.2.1,(fW ts xs fs (gp fs i) (i:Int)).1,(fW ts xs fs (gp fs i) (i:Int)).2.1)else gp fs i
def apE(ts:List aA)(xs:List (List UInt8))(fs:List Func)(a:Nat):List Func:=(List.range fs.length).map λi=>if i<a then apD ts xs fs i else gp fs i
def azu(ts:List aA)(xs:List (List UInt8))(fs:List Func):List Func:=apE ts xs fs fs.length
def mj(ts:List aA)(xs:List (List UInt8))(fs:List Func)(i:Nat)(f:Func):Int:=if(fW ts xs fs f (i:Int)).2.2.2=0then(if(fW ts xs fs f (i:Int)).1=f.2.2.2.2.2.1/\(fW ts xs fs f (i:Int)).2.1=f.2.2.2.2.2.2then 0 else 32)else(fW ts xs fs f (i:Int)).2.2.2
def ahy{N:Nat}(hN:14000000<N)(hv:ij ts xs fs){i:Nat}(hf:fs[i]?=some f):∃sU,WY N (ts,xs,fs,(i:Int))=some (sU,mj ts xs fs i f):=by
 rw[WY.eq_1,ahx hN hv (aB hf)];simp[ae];unfold mj;by_cases he:(fW ts xs fs f (i:Int)).2.2.2=0
 .obtain⟨h1,h2⟩:=El hv (hv.get hf) he;obtain⟨g1,g2,g3,g4⟩:=(⟨(rE h1).1.1,(rE h1).1.2,(rE h1).2.1,(rE h1).2.2⟩:_/\_/\_/\_);have hfit:sO (f.1,f.2.1,f.2.2.1,f.2.2.2.1,f.2.2.2.2.1,yD (uM ts fs f),yD (cN (cE f))):=by obtain⟨q1,q2,q3,q4,q5,_⟩:=hv.fits hf;have r1:=n5 g1;have r2:=n5 g2;exact⟨q1,q2,by show(yD (uM ts fs f)).length<=1000;omega,by show(yD (cN (cE f))).length<=1000;omega,q5,g3,g4⟩
  have hs:=Ry (g:=f) hfit (show 1300<N by omega);rw[show((fW ts xs fs f (i:Int)).2.2.2==0)=true by simpa using he,abi hN h1 hf];simp[ae,aB hf,hs];rw[h2];by_cases hq:yD (uM ts fs f)=f.2.2.2.2.2.1/\yD (cN (cE f))=f.2.2.2.2.2.2;.grind
  .rw[bi hq,aL (λh=>hq (by rw[<-h];exact⟨rfl,rfl⟩))]<;>grind
 grind
def NW(ts:List aA)(xs:List (List UInt8))(fs:List Func):Int:=if j6 ts xs fs=0then(fB (mj ts xs fs) 0 fs).elim 0 λr=>r.2else j6 ts xs fs
def GN(h:j6 ts xs fs=0):dG ts xs fs:=by unfold j6 at h<;>grind
def ahz{N:Nat}(hN:14000000<N)(hm:gK ts xs fs):F43 N (ts,xs,fs)=some (NW ts xs fs):=by
 have Rm:=hm.1.2.2.2.1;rw[F43.eq_1,F93.eq_1,Nw (show 1300<N by omega) hm];simp only[ae];unfold NW;by_cases hc:j6 ts xs fs=0
 .have hv:ij ts xs fs:=⟨hm,GN hc⟩;rw[be hc,show(j6 ts xs fs !=0)=false by simp[hc],af];rcases cL (l:=fs) (g:=λ_:Unit=>(.inr ():(Int×Int×Int)⊕Unit)) (Out:=λr=>∃i a e,r=.inl (i,a,e)/\(fB (mj ts xs fs) 0 fs).elim 0 (λr=>r.2)=e) (Inv:=λi _=>fB (mj ts xs fs) 0 fs=fB (mj ts xs fs) i (fs.drop i)) (Lf:=λk i _=>aC3 N k (i,ts,xs,fs)) (λk _ _=>by simp only[aC3.eq_2,aG,af]) (λk i x _ hx hI=>by
   have hi:=aC hx;obtain⟨a,ha⟩:=ahy hN hv hx;have hd:fs.drop i=x::fs.drop (i+1):=by rw[km hi];rw[aw hi]at hx;rw[dC hx]
   simp only[aC3.eq_2,aD hi,aq,ha,ae,aj (show i<9223372036854775807by omega)];rw[hd,fB]at hI;by_cases hz:mj ts xs fs i x=0;.rw[bi (λh=>h hz)]at hI;exact .inr ⟨(),hI,by rw[show(mj ts xs fs i x !=0)=false by simp[hz],af]⟩
   .rw[be hz]at hI;exact .inl ⟨_,⟨(i:Int),a,mj ts xs fs i x,rfl,by rw[hI];rfl⟩,by rw[show(mj ts xs fs i x !=0)=true by simp[bne,hz],aq]⟩) (k:=N) (s:=()) rfl (by omega)with⟨r,⟨i,a,e,rfl,h2⟩,h3⟩|⟨_,h1,h3⟩;.rw[h3,h2];rfl
  .rw[h3,h1,ti];rfl
 .rw[bi hc,show(j6 ts xs fs !=0)=true by simp[bne,hc],aq];rfl
end
section
variable{N:Nat}{ts:List aA}{xs:List (List UInt8)}{fs:List Func}
def Pf(hm:gK ts xs fs)(h:dG ts xs fs){a:Nat}(ha:sX fs a):24<=jv ts fs (a/256-1) (a%256):=by
 have hf:a/256-1<fs.length:=by have:=ha.1;have:=ha.2.1;omega
 have hF:=h.func hf;have hb:=(uI h.1 h.2.2.2.1 hF.2.1 hF.2.2.2.2.2.1).2;have hs:=zB hm (f:=a/256-1) (i:=a%256) hf;unfold jv;omega
def Yx(hN:1300<N)(hm:gK ts xs fs)(EY:dG ts xs fs){f:Nat}(i:Nat)(hf:f<fs.length):∃s:Int,F52 N (ts,xs,fs,(f:Int),(i:Int))=some s/\(0<=s/\s<=100000)/\(s=jv ts fs f i\/(s>4096/\jv ts fs f i>4096)):=by
 have hF:=EY.func hf;have hfit:sO (gp fs f):=hm.1.2.2.2.2 _ (mc fn0 hf);obtain⟨_,hb⟩:=uI EY.1 EY.2.2.2.1 hF.2.1 hF.2.2.2.2.2.1;have hs:=zB hm (i:=i) hf;rw[F52.eq_1,GD hN hm EY hf,ae,yp hf,ae,Ll (by have:=hfit.2.2.1;omega) hN,ae];rw[show yq (i:Int) 0 (gp fs f).2.2.2.2.2.1=D4 fs f i from rfl];by_cases hx:D4 fs f i>4096;.rw[aP hx];exact⟨_,rfl,by omega,.inr ⟨by decide,by unfold jv;omega⟩⟩
 .rw[aL hx];refine⟨_,rfl,?_,.inl ?_⟩;.rw[aJ (n:=D4 _ _ _) (by omega),aJ (by omega)];omega
  .rw[aJ (n:=D4 _ _ _) (by omega),aJ (by omega)];rfl
def abj{b:Int}{l:List Int}{a:Int}(hb:Bo l):u64 (sS b l a).1/\u64 (sS b l a).2.1/\u64 (sS b l a).2.2.1:=by
 have h0:u64 0:=⟨by omega,by omega⟩;unfold sS;split
 .split
  .split;.exact⟨jT hb _,jT hb _,jT hb _⟩
   grind
  grind
 grind
def nA{a b:Int}(h:a=b):(a==b)=true:=by simp[h]
def oP{a b:Int}(h:a≠b):(a==b)=false:=by simp[h]
def ot{a b:Int}(h:a≠b):(a !=b)=true:=by simp[h]
def mC{a b:Int}(h:a=b):(a !=b)=false:=by simp[h]
def RT(hN:1300<N)(hm:gK ts xs fs)(hc:j6 ts xs fs=0){b:Int}{l:List Int}(hbu:u64 b)(hs:gL b l)(hb:Bo l):∀(k a:Nat)(c q:Int)(out:List Km),a<18446744073709551616->0<=c->c<=l.length->c<k->0<=q/\q<=1->(out.length:Int)+c<=100000->(∃x W,az0 N k ((a:Int),c,q,out,b,l,ts,xs,fs)=some (out++x::W,0)/\aD0 N k ((a:Int),out,b+c,q,b,l,ts,xs,fs)=some (out++x::W,0)/\sX fs a/\x.2.1=((a/256-1:Nat):Int)/\x.2.2.1=((a%256:Nat):Int)-q/\jv ts fs (a/256-1) (a%256)<=c)\/∃e e',e≠0/\e'≠0/\az0 N k ((a:Int),c,q,out,b,l,ts,xs,fs)=some ([],e)/\aD0 N k ((a:Int),out,b+c,q,b,l,ts,xs,fs)=some ([],e'):=by have EY:=(va hc).1;obtain⟨hs1,hs2,hs3,hs4,hs5⟩:=hs;have hs:gL b l:=⟨hs1,hs2,hs3,hs4,hs5⟩;intro k;induction k with|zero=>intro a c q out _ h0 _ h1;omega|succ k ih=>
  intro a c q out ha h0 ov hk hq ho;rw[az0.eq_2,aD0.eq_2,Is hN hm ha,Le hm.1.2.2.2.1 ha,sR,be hc];by_cases hA:sX fs a
  .have hf:a/256-1<fs.length:=by have:=hA.1;have:=hA.2.1;omega
   obtain⟨s,s1,s0,s2⟩:=Yx (N:=N) hN hm EY (f:=a/256-1) (a%256) hf;have hlo:=Pf hm EY hA;have hz:GF ts xs fs a=if jv ts fs (a/256-1) (a%256)>4096then(0,16)else(jv ts fs (a/256-1) (a%256),0):=by rw[GF,sR,be hc,be hA,be rfl]
   simp only[be hA,ae,fJ,af,dk,GG hN hm ha,hz,s1];generalize hsn:jv ts fs (a/256-1) (a%256)=n at hlo s2⊢;rw[aQ (n:=s) (by omega),show b+c-b=c by omega,aQ (n:=c) (by omega)];by_cases h1:n>4096
   .have h2:s>4096:=by omega
    refine .inr ⟨16,16,by decide,by decide,?_,?_⟩;.rw[be h1];rfl
    .rw[aP h2];rfl
   .have e:s=n:=by omega
    subst e;rw[bi h1,aL h1];simp only[fJ,af,ae];rw[aQ (n:=s) (by omega)];by_cases h2:s>c
    .refine .inr ⟨16,16,by decide,by decide,?_,?_⟩;.rw[aP h2];rfl
     .rw[aP h2];rfl
    .rw[aL h2];have e1:aK (c-s)=c-s:=aQ (by omega);have e2:aK (b+c-s)=b+(c-s):=by rw[aQ (by omega)];omega
     have e3:aK (b+(c-s))=b+(c-s):=aQ (by omega);have hau:u64 (b+(c-s)):=⟨by omega,by omega⟩;obtain⟨w0,m0,r0⟩:=abj (b:=b) (a:=b+(c-s)) hb;simp only[af,e1,e2,e3,aaX hN hbu hb hau,Yc hN hbu hb hau,ae];generalize sS b l (b+(c-s))=h at w0 m0 r0⊢;obtain⟨w,m,r,e⟩:=h;simp only at w0 m0 r0⊢;by_cases c0:e=0
     .subst c0;rw[fJ,af,af,ak (show out.length+1<=10000000by omega) (show 40<=1000by omega),aJ (n:=((a%256:Nat):Int)-q) (by omega)];simp only[ah];by_cases cw:w=0
      .subst cw;by_cases cz:c-s=0
       .left;refine⟨(b+(c-s),((a/256-1:Nat):Int),((a%256:Nat):Int)-q,m,r),[],?_,?_,hA,rfl,rfl,by omega⟩;.rw[cz,nA rfl,fJ];cases(m==0)<;>rfl
        .rw[cz,pu,nA rfl,mC rfl,fJ];cases(m==0)<;>rfl
       .right;refine⟨12,12,by decide,by decide,?_,?_⟩;.rw[nA rfl,oP cz];rfl
        .rw[nA rfl,ot (show b+(c-s)≠b by omega)];rfl
      .by_cases cz:c-s=0
       .right;refine⟨12,12,by decide,by decide,?_,?_⟩;.rw[cz,oP cw,nA rfl];rfl
        .rw[cz,pu,oP cw,ot cw,nA rfl];rfl
       .rw[oP cw,ot cw,oP cz,oP (show b+(c-s)≠b by omega),kG w0.1];obtain⟨w',rfl⟩:=bo w0.1;have Oc:w'<18446744073709551616:=by have:=w0.2;omega
        by_cases cm:m=0
        .subst cm;by_cases c6:(w':Int)%256=0
         .right;refine⟨12,12,by decide,by decide,?_,?_⟩;.rw[nA rfl,nA c6];rfl
          .rw[nA rfl,nA c6];rfl
         .rw[nA rfl,oP c6];simp only[aq,af,ae,im,dk];rcases ih w' (c-s) 1 (out++[(b+(c-s),((a/256-1:Nat):Int),((a%256:Nat):Int)-q,0,r)]) Oc (by omega) (by omega) (by omega) (by omega) (by simp;omega)with⟨x,W,g1,g2,_⟩|⟨e,e',g0,g0',g1,g2⟩
          .left;refine⟨(b+(c-s),((a/256-1:Nat):Int),((a%256:Nat):Int)-q,0,r),x::W,?_,?_,hA,rfl,rfl,by omega⟩;.erw[g1,bj];rfl
           .erw[g2,bj];rfl
          .exact .inr ⟨e,e',g0,g0',g1,g2⟩
        .rw[oP cm];simp only[aq,af,ae,im,dk];rcases ih w' (c-s) 0 (out++[(b+(c-s),((a/256-1:Nat):Int),((a%256:Nat):Int)-q,m,r)]) Oc (by omega) (by omega) (by omega) (by omega) (by simp;omega)with⟨x,W,g1,g2,_⟩|⟨e,e',g0,g0',g1,g2⟩
         .left;refine⟨(b+(c-s),((a/256-1:Nat):Int),((a%256:Nat):Int)-q,m,r),x::W,?_,?_,hA,rfl,rfl,by omega⟩;.erw[g1,bj];rfl
          .erw[g2,bj];rfl
         .exact .inr ⟨e,e',g0,g0',g1,g2⟩
     .right;refine⟨12,12,by decide,by decide,?_,?_⟩;.rw[ot c0];rfl
      .rw[ot c0];rfl
  .right;refine⟨6,6,by decide,by decide,?_,?_⟩;.rw[bi hA];rfl
   .rw[bi hA];rfl
def Em(fs:List Func)(a:Nat)(x:Km):Prop:=sX fs a/\x.2.1=((a/256-1:Nat):Int)/\x.2.2.1=((a%256:Nat):Int)
def apG(hN:5000<N)(hm:gK ts xs fs)(hc:j6 ts xs fs=0){b:Int}{l:List Int}(hbu:u64 b)(hs:gL b l)(hb:Bo l){a:Nat}(ha:a<18446744073709551616):(∃x W,Y1 N (b,l,ts,xs,fs,(a:Int))=some (x::W,0)/\Y2 N (b,l,ts,xs,fs,(a:Int))=some (x::W,0)/\Em fs a x/\jv ts fs (a/256-1) (a%256)<=l.length)\/∃e e',e≠0/\e'≠0/\Y1 N (b,l,ts,xs,fs,(a:Int))=some ([],e)/\Y2 N (b,l,ts,xs,fs,(a:Int))=some ([],e'):=by
 have hs5:=hs.2.2.2.2;have hs3:=hs.2.2.1;have hs2:=hs.2.1;rw[Y1.eq_1,Y2.eq_1,A8 hbu,be hs,D2 (by omega) hm,hc];simp only[ae,fJ,af];rw[aQ (n:=(l.length:Int)) (by omega),aQ (n:=b+(l.length:Int)) (by omega)];rcases RT (N:=N) (by omega) hm hc hbu hs hb N a l.length 0 [] ha (by omega) (by omega) (by omega) (by omega) (by simp;omega)with⟨x,W,g1,g2,h1,h2,h3,h4⟩|⟨e,e',g0,g0',g1,g2⟩;.rw[g1,g2];exact .inl ⟨x,W,rfl,rfl,⟨h1,h2,by rw[h3,Int.sub_zero]⟩,h4⟩
 .rw[g1,g2];exact .inr ⟨e,e',g0,g0',rfl,rfl⟩
end
section
variable{N:Nat}
def fq(b:Int)(l:List Int):Prop:=b=65536/\l.length%8=0/\l.length<=16384
def Pg(l:List Int):Int.tmod (l.length:Int) 8=(l.length:Int)%8:=kG (by omega)
def zL(b:Int)(l:List Int)(lim:Int):F64 N (b,l,lim)=some (if fq b l then(if 0<=lim/\lim<=16384then 0 else 2)else 8):=by
 rw[F64.eq_1,Pg];by_cases h:fq b l;.obtain⟨h1,h2,h3⟩:=id h<;>grind
 .rw[bi h];by_cases c1:b=65536
  .rw[mC c1];by_cases c2:(l.length:Int)%8=0;.rw[mC c2,aP (show(l.length:Int)>16384by unfold fq at h;omega)];rfl
   grind
  grind
def Yy(b:Int)(l:List Int):∃r,F24 N (b,l,0)=some (r,if fq b l then 0 else 8):=by rw[F24.eq_1,zL];by_cases h:fq b l<;>simp_all
def Ph(b:Int)(l:List Int):F45 N (b,l)=some (decide (fq b l)):=by rw[F45.eq_1,Pg];simp[fT,ae];rw[ls];unfold fq<;>grind
def azw(x:Int):Int.tdiv x 8=if 0<=x then x/8 else-((-x)/8):=by grind
def sz(n:Nat):Nat:=max 8 ((n+7)/8*8)
def yF{n:Nat}(h:n<=64):8<=sz n/\n<=sz n/\sz n<=64/\sz n%8=0:=by unfold sz;omega
def Yz{n:Nat}(h:n<=64):QK N (n:Int)=some ((sz n:Nat):Int):=by rw[QK.eq_1];congr 1;rw[aJ (n:=(n:Int)+7) (by omega),BH (by omega),aJ (n:=((n:Int)+7)/8) (by omega),aJ (by omega)];unfold sz;omega
def zM(hN:1300<N){n:Nat}(h:n<=64):Ra N (n:Int)=some ((sz n:Nat):Int):=by
 have key:∀(m w k:Nat),8*w+8*m=sz n->1<=w->m<k->aC5 N k ((n:Int),(w:Int))=some ((sz n/8:Nat):Int):=by intro m;induction m with|zero=>intro w k h1 h2 h3;obtain⟨k,rfl⟩:∃q,k=q+1:=⟨k-1,by omega⟩;have:=yF h;rw[aC5.eq_2,aJ (by omega),aL (show¬(8*(w:Int)<(n:Int))by omega),af]<;>grind|succ m ih=>intro w k h1 h2 h3;obtain⟨k,rfl⟩:∃q,k=q+1:=⟨k-1,by omega⟩;have:=yF h;rw[aC5.eq_2,aJ (by omega),aP (show 8*(w:Int)<(n:Int)by unfold sz at h1;omega),aj (by omega)];exact ih (w+1) k (by omega) (by omega) (by omega)
 have hb:=yF h;have:=key (sz n/8-1) 1 N (by omega) (by omega) (by omega);simp at this;rw[Ra.eq_1,this,ae,aJ (by omega)]<;>grind
def RU{b:Int}{l:List Int}(h:fq b l){n:Nat}(hn:n<=64):Vg N (b,l,((l.length+n:Nat):Int))=some (b,l++List.replicate n 0,0):=by obtain⟨h1,h2,h3⟩:=h;rw[Vg.eq_1,vb (show pQ b l from⟨by omega,by omega,by omega,by omega⟩),ae,fJ,af,aL (show¬((l.length+n:Nat):Int)<0 by omega),af,ae,aL (show¬((l.length+n:Nat):Int)>20000by omega),af,aP (show(0:Int)<=((l.length+n:Nat):Int)by omega),ah,ah,am,aP (bd _),ak (by omega) (by omega),Fd0,ah];grind[CB]
def B2{b:Int}{l:List Int}(h:fq b l){n lim:Nat}(hn:n<=64)(hl:lim<=16384):Vh N (b,l,(n:Int),(lim:Int))=some (if l.length+sz n<=lim then(b,l++List.replicate (sz n) 0,((65536+l.length:Nat):Int),0)else(0,[],0,18)):=by
 obtain⟨h1,h2,h3⟩:=h;have h:fq b l:=⟨h1,h2,h3⟩;have hs:=yF hn;rw[Vh.eq_1,F24.eq_1,zL,be h,be (show(0:Int)<=(lim:Int)/\(lim:Int)<=16384by omega)];simp only[ae,fJ,af,Yz hn];rw[aL (show¬(n:Int)<0 by omega),af,aL (show¬(n:Int)>4096by omega),ae,aJ (n:=(lim:Int)-(l.length:Int)) (by omega)];have e1:au (au (Int.tdiv ((lim:Int)-(l.length:Int)) 8)*8)=Int.tdiv ((lim:Int)-(l.length:Int)) 8*8:=by
  have:-3000<=Int.tdiv ((lim:Int)-(l.length:Int)) 8/\Int.tdiv ((lim:Int)-(l.length:Int)) 8<=3000:=by grind
  rw[aJ (n:=Int.tdiv _ _) (by omega),aJ (by omega)]
 rw[e1];by_cases hc:l.length+sz n<=lim;.rw[be hc,BH (by omega),aL (show¬((sz n:Nat):Int)>max 0 (((lim:Int)-(l.length:Int))/8*8)by omega),aJ (by omega),show(l.length:Int)+((sz n:Nat):Int)=((l.length+sz n:Nat):Int)by omega,RU h hs.2.2.1];rw[aQ (n:=(l.length:Int)) (by omega),aQ (by omega),h1];rfl
 grind
def E3(l s:List Int):List Int:=l++s++List.replicate (sz s.length-s.length) 0
def YA{l s:List Int}(h:s.length<=64):(E3 l s).length=l.length+sz s.length:=by have:=yF h;unfold E3<;>grind
def YB{l s:List Int}(h:fq 65536 l)(hs:s.length<=64):Vi N (65536,l++List.replicate (sz s.length) 0,((65536+l.length:Nat):Int),s)=some (65536,E3 l s,0):=by
 obtain⟨h1,h2,h3⟩:=h;have hz:=yF hs;have hlen:(l++List.replicate (sz s.length) (0:Int)).length=l.length+sz s.length:=by grind
 have hr:pQ 65536 (l++List.replicate (sz s.length) (0:Int)):=⟨by omega,by omega,by omega,by omega⟩;have hu:u64 ((65536+l.length:Nat):Int):=⟨by omega,by omega⟩;obtain⟨i,e,hi⟩:=yt (N:=N) hr hu (n:=s.length) (by omega);rw[Vi.eq_1,NF hr hu (by omega),e,aP (show(65536:Int)<=((65536+l.length:Nat):Int)/\((65536+l.length:Nat):Int)-65536+((s.length:Nat):Int)<=((l++List.replicate (sz s.length) (0:Int)).length:Int)by omega)];simp only[ae,fJ,af,dk];have ei:i=(l.length:Int):=by omega
 subst ei;rw[ak (by omega) (by omega),ah,aP (show(0:Int)<=(l.length:Int)by omega),ah,am,aP (show l.length<=(l++List.replicate (sz s.length) (0:Int)).length by omega),ah,aP (show l.length+((l++List.replicate (sz s.length) (0:Int)).length-l.length)<=(l++List.replicate (sz s.length) (0:Int)).length by omega),ah,ph (by omega),f9,List.take_left',xt,t8 (by omega),List.drop_replicate];.unfold E3<;>grind
 .rfl
def ahA{l s:List Int}(h:fq 65536 l){lim:Nat}(hs:s.length<=64)(hl:lim<=16384):F68 N (65536,l,s,(lim:Int))=some (if l.length+sz s.length<=lim then(65536,E3 l s,((65536+l.length:Nat):Int),0)else(0,[],0,18)):=by
 rw[F68.eq_1,B2 h hs hl];by_cases hc:l.length+sz s.length<=lim;.rw[be hc,be hc];simp only[ae,fJ,af,YB h hs]
 grind
def abk{b:Int}{l:List Int}(hl:l.length<=100000):W2 N (b,l)=some (b,l):=by rw[W2.eq_1,ak (by omega) (by omega),ah,ge]
def YC(hN:1300<N){l:List Int}(h:fq 65536 l){n:Nat}(hn:n<=64):W4 N (65536,l,(n:Int))=some (65536,l++List.replicate (sz n) 0,((65536+l.length:Nat):Int)):=by
 obtain⟨h1,h2,h3⟩:=h;have hz:=yF hn;have key:∀(m i k:Nat)(a:List Int),i+m=sz n->m<k->a.length+m<=100000->aC6 N k ((n:Int),(i:Int),65536,l,0,65536,a)=some (65536,l,0,65536,a++List.replicate m 0):=by intro m;induction m with|zero=>intro i k a h1 h2 _;obtain⟨k,rfl⟩:∃q,k=q+1:=⟨k-1,by omega⟩;rw[aC6.eq_2,zM hN hn,ae,aL (show¬(i:Int)<((sz n:Nat):Int)by omega),af,m8,dv]|succ m ih=>intro i k a h1 h2 ha;obtain⟨k,rfl⟩:∃q,k=q+1:=⟨k-1,by omega⟩;rw[aC6.eq_2,zM hN hn,ae,aP (show(i:Int)<((sz n:Nat):Int)by omega),aq,ak (by omega) (by omega),aj (by omega),ih (i+1) k _ (by omega) (by omega) (by simp;omega),bj];rfl
 have:=key (sz n) 0 N l (by omega) (by omega) (by omega);simp at this;rw[W4.eq_1,abk (by omega),ae];rw[this,ae,aQ (n:=(l.length:Int)) (by omega),aQ (by omega)];rfl
def RW{l s:List Int}(hs:s.length<=64)(hl:l.length<=20000)(e h f g:Int){z:Nat}(hz:s.length<=z):∀(r pre:List Int)(k:Nat),s=pre++r->r.length<k->aC7 N k (s,e,(pre.length:Int),h,l,f,g,l++pre++List.replicate (z-pre.length) 0)=some (e,f,g,l++s++List.replicate (z-s.length) 0):=by intro r;induction r with|nil=>intro pre k hp hk;obtain⟨k,rfl⟩:∃q,k=q+1:=⟨k-1,by omega⟩;simp at hp;subst hp;rw[aC7.eq_2,aG,af]|cons x r ih=>
 intro pre k hp hk;obtain⟨k,rfl⟩:∃q,k=q+1:=⟨k-1,by omega⟩;have cr:s.length=pre.length+(r.length+1):=by rw[hp,bc];rfl
 have hw:au ((l.length:Int)+(pre.length:Int))=((l.length+pre.length:Nat):Int):=DL (by omega);have hlen:(l++pre++List.replicate (z-pre.length) (0:Int)).length=l.length+z:=by simp;omega
 have rR:(l++pre++List.replicate (z-pre.length) (0:Int))[l.length+pre.length]?=some 0:=by rw[lL (by rw[bc];omega),ka,be (by rw[bc];omega)]
 have Nq:(l++pre++List.replicate (z-pre.length) (0:Int)).set (l.length+pre.length) x=l++(pre++[x])++List.replicate (z-(pre++[x]).length) 0:=by rw[rl _ _ (by rw[bc];omega),bc,qr,show z-pre.length=(z-(pre++[x]).length)+1by simp;omega,py,wd];simp
 simp only[eK]at hk;rw[aC7.eq_2,aD (by omega),aq,l9 hp rfl,ae,hw,bQ (by omega),ah,am,rR,ae,aj (by omega),Nq];have:=ih (pre++[x]) k (by rw[hp,bj];rfl) (by omega);rw[show(((pre++[x]).length:Nat):Int)=((pre.length+1:Nat):Int)by simp]at this;exact this
def YD(hN:1300<N){l s:List Int}(h:fq 65536 l){lim:Nat}(hs:s.length<=64)(hl:lim<=16384):F97 N (65536,l,s,(lim:Int))=some (if l.length+sz s.length<=lim then(65536,E3 l s,((65536+l.length:Nat):Int),0)else(0,[],0,18)):=by
 obtain⟨h1,h2,h3⟩:=h;have h:fq 65536 l:=⟨h1,h2,h3⟩;have hz:=yF hs;rw[F97.eq_1,aaB.eq_1,W0.eq_1,Ph,aP h,aaA.eq_1,zM hN hs,YC hN h hs];simp only[ae,dk,af];rw[aL (show¬(lim:Int)<0 by omega),af,aL (show¬(lim:Int)>16384by omega)];simp only[ae,fJ,af];rw[aL (show¬(s.length:Int)<0 by omega),af,aL (show¬(s.length:Int)>4096by omega)];simp only[ae,af];rw[aJ (by omega)];by_cases hc:l.length+sz s.length<=lim;.have:=RW (N:=N) (l:=l) hs (by omega) ((65536+l.length:Nat):Int) 65536 0 65536 (z:=sz s.length) (by omega) s [] N rfl (by omega);rw[dv,show((([]:List Int).length:Nat):Int)=0from rfl,m7,GT]at this;rw[be hc,aP (show(l.length:Int)+((sz s.length:Nat):Int)<=(lim:Int)by omega),dk,af];simp only[ae];rw[fJ,af,this];rfl
 .rw[bi hc,aL (show¬(l.length:Int)+((sz s.length:Nat):Int)<=(lim:Int)by omega)];rfl
def YE(lim:Nat):List (List UInt8)->List Int->Option (List Int)|[],l=>some l|s::r,l=>if l.length+sz s.length<=lim then YE lim r (E3 l (bP s))else none
def En{l:List Int}{s:List UInt8}{lim:Nat}(h:fq 65536 l)(hl:lim<=16384)(hs:s.length<=64)(hc:l.length+sz s.length<=lim):fq 65536 (E3 l (bP s)):=by have hz:=yF hs;have:=YA (l:=l) (s:=bP s) (by rw[dc];omega);rw[dc]at this;obtain⟨h1,h2,h3⟩:=h;exact⟨rfl,by omega,by omega⟩
def LL{lim:Nat}(hl:lim<=16384):∀(r:List (List UInt8))(l h:List Int),(∀s,s∈r->s.length<=64)->fq 65536 l->YE lim r l=some h->fq 65536 h
 |[],l,h,_,hh,e=>by cases e;exact hh|s::r,l,h,hs,hh,e=>by
  rw[YE]at e;split at e;.rename_i hc;exact LL hl r _ h (λx hx=>hs x (dp _ hx)) (En hh hl (hs s (ci ..)) hc) e
  grind
def NX{xs:List (List UInt8)}(hx:xs.length<=32){lim:Nat}(hl:lim<=16384):∀(r pre:List (List UInt8))(l sU:List Int)(k:Nat),xs=pre++r->(∀s,s∈r->s.length<=64)->fq 65536 l->sU.length=pre.length->r.length<k->match YE lim r l with|some h=>∃q,UV N k ((lim:Int),xs,(xs.length:Int),(pre.length:Int),65536,l,sU,0)=some (.inr (65536,h,q,0))|none=>∃q,UV N k ((lim:Int),xs,(xs.length:Int),(pre.length:Int),65536,l,sU,0)=some (.inl (0,[],q,18)):=by intro r;induction r with|nil=>intro pre l sU k hp _ _ _ hk;obtain⟨k,rfl⟩:∃q,k=q+1:=⟨k-1,by omega⟩;simp at hp;subst hp;exact⟨sU,by rw[UV.eq_2,aG,af]⟩|cons s r ih=>
 intro pre l sU k hp hs hh ha hk;obtain⟨k,rfl⟩:∃q,k=q+1:=⟨k-1,by omega⟩;have cr:xs.length=pre.length+(r.length+1):=by rw[hp,bc];rfl
 have ahB:=hs s (ci ..);simp only[eK]at hk;have hput:=ahA (N:=N) hh (s:=bP s) (lim:=lim) (by rw[dc];omega) hl;rw[dc]at hput;rw[YE];by_cases hc:l.length+sz s.length<=lim;.rw[be hc]at hput⊢;have:=ih (pre++[s]) (E3 l (bP s)) (sU++[((65536+l.length:Nat):Int)]) k (by rw[hp,bj];rfl) (λx hx=>hs x (dp _ hx)) (En hh hl ahB hc) (by simp[ha]) (by omega);rw[show(((pre++[s]).length:Nat):Int)=((pre.length+1:Nat):Int)by simp]at this;rw[UV.eq_2,aD (by omega),aq,l9 hp rfl,ae,hput,ae];simp only;rw[fJ,af,ak (by omega) (by omega),ah,aj (by omega)];exact this
 .rw[bi hc]at hput⊢;refine⟨sU,?_⟩;rw[UV.eq_2,aD (by omega),aq,l9 hp rfl,ae,hput,ae];rfl
def IG(hN:1300<N){xs:List (List UInt8)}(hx:xs.length<=32){lim:Nat}(hl:lim<=16384):∀(r pre:List (List UInt8))(l sU:List Int)(k:Nat),xs=pre++r->(∀s,s∈r->s.length<=64)->fq 65536 l->sU.length=pre.length->r.length<k->match YE lim r l with|some h=>∃q,ah3 N k (xs,(lim:Int),sU,(pre.length:Int),0,65536,l)=some (.inr (q,0,65536,h))|none=>ah3 N k (xs,(lim:Int),sU,(pre.length:Int),0,65536,l)=some (.inl (18,0)):=by intro r;induction r with|nil=>intro pre l sU k hp _ _ _ hk;obtain⟨k,rfl⟩:∃q,k=q+1:=⟨k-1,by omega⟩;simp at hp;subst hp;exact⟨sU,by rw[ah3.eq_2,aG,af]⟩|cons s r ih=>
 intro pre l sU k hp hs hh ha hk;obtain⟨k,rfl⟩:∃q,k=q+1:=⟨k-1,by omega⟩;have cr:xs.length=pre.length+(r.length+1):=by rw[hp,bc];rfl
 have ahB:=hs s (ci ..);simp only[eK]at hk;have hput:=YD (N:=N) hN hh (s:=bP s) (lim:=lim) (by rw[dc];omega) hl;rw[dc]at hput;rw[YE];by_cases hc:l.length+sz s.length<=lim;.rw[be hc]at hput⊢;have:=ih (pre++[s]) (E3 l (bP s)) (sU++[((65536+l.length:Nat):Int)]) k (by rw[hp,bj];rfl) (λx hx=>hs x (dp _ hx)) (En hh hl ahB hc) (by simp[ha]) (by omega);rw[show(((pre++[s]).length:Nat):Int)=((pre.length+1:Nat):Int)by simp]at this;rw[ah3.eq_2,aD (by omega),aq,l9 hp rfl,ae,hput,ae];simp only;rw[fJ,af,ak (by omega) (by omega),ah,aj (by omega)];exact this
 .rw[bi hc]at hput⊢;simp only;rw[ah3.eq_2,aD (by omega),aq,l9 hp rfl,ae,hput,ae];rfl
def RX{xs:List (List UInt8)}(hx:xs.length<=32)(hs:∀s,s∈xs->s.length<=64)(lim b h:Int)(l:List Int):∀(r pre:List (List UInt8))(k:Nat),xs=pre++r->r.length<k->ay9 N k (xs,lim,xs,(xs.length:Int),(pre.length:Int),b,l,h)=some (.inr (xs,lim,b,l,h)):=by intro r;induction r with|nil=>intro pre k hp hk;obtain⟨k,rfl⟩:∃q,k=q+1:=⟨k-1,by omega⟩;simp at hp;subst hp;rw[ay9.eq_2,aG,af]|cons s r ih=>
 intro pre k hp hk;obtain⟨k,rfl⟩:∃q,k=q+1:=⟨k-1,by omega⟩;have cr:xs.length=pre.length+(r.length+1):=by grind
 have h64:=hs s (by rw[hp];simp);simp at hk;have:=ih (pre++[s]) k (by rw[hp,bj];rfl) (by omega);simp at this;rw[ay9.eq_2,aD (by omega),aq,l9 hp rfl,ae,aL (show¬(s.length:Int)>64by omega),af,aj (by omega)]<;>grind
def LM{xs:List (List UInt8)}(hx:xs.length<=32)(hs:∀s,s∈xs->s.length<=64)(lim d:Int):∀(r pre:List (List UInt8))(k:Nat),xs=pre++r->r.length<k->aC8 N k (xs,lim,(pre.length:Int),d)=some (.inr (xs,lim,d)):=by intro r;induction r with|nil=>intro pre k hp hk;obtain⟨k,rfl⟩:∃q,k=q+1:=⟨k-1,by omega⟩;simp at hp;subst hp;rw[aC8.eq_2,aG,af]|cons s r ih=>
 intro pre k hp hk;obtain⟨k,rfl⟩:∃q,k=q+1:=⟨k-1,by omega⟩;have cr:xs.length=pre.length+(r.length+1):=by grind
 have h64:=hs s (by rw[hp];simp);simp at hk;have:=ih (pre++[s]) k (by rw[hp,bj];rfl) (by omega);simp at this;rw[aC8.eq_2,aD (by omega),aq,l9 hp rfl,ae,aL (show¬(s.length:Int)>64by omega),af,aj (by omega)]<;>grind
def NY(hN:1300<N){xs:List (List UInt8)}(hx:xs.length<=32)(hs:∀s,s∈xs->s.length<=64){lim:Nat}(hl:lim<=16384):match YE lim xs []with|some h=>fq 65536 h/\(∃q,F26 N (xs,(lim:Int))=some (65536,h,q,0))/\∃q,F47 N (xs,(lim:Int))=some (65536,h,q,0)|none=>(∃q,F26 N (xs,(lim:Int))=some (0,[],q,18))/\∃q b,F47 N (xs,(lim:Int))=some (b,[],q,18):=by have h0:fq 65536 []:=⟨rfl,rfl,by simp⟩;have l1:=RX (N:=N) hx hs (lim:Int) 65536 0 [] xs [] N rfl (by omega);have l2:=LM (N:=N) hx hs (lim:Int) 0 xs [] N rfl (by omega);have k1:=NX (N:=N) hx hl xs [] [] [] N rfl hs h0 rfl (by omega);have k2:=IG (N:=N) hN hx hl xs [] [] [] N rfl hs h0 rfl (by omega);have hh:∀h,YE lim xs []=some h->fq 65536 h:=λh e=>LL hl xs [] h hs h0 e;rw[show((([]:List (List UInt8)).length:Nat):Int)=0from rfl]at l1 l2;rw[F26.eq_1,F47.eq_1,F67.eq_1,F96.eq_1];simp only[ae];rw[zL,be h0,be (show(0:Int)<=(lim:Int)/\(lim:Int)<=16384by omega)];simp only[ae];rw[fJ,af,aL (show¬(xs.length:Int)>32by omega),af,aL (show¬(lim:Int)<0 by omega),af,aL (show¬(lim:Int)>16384by omega),ae,af,af,l1,l2];simp only[ae];generalize YE lim xs []=t at k1 k2 hh⊢;cases t with|some h=>obtain⟨q1,k1⟩:=k1;obtain⟨q2,k2⟩:=k2;rw[show((([]:List (List UInt8)).length:Nat):Int)=0from rfl]at k1 k2;exact⟨hh h rfl,⟨q1,by rw[k1];rfl⟩,⟨q2,by rw[k2];rfl⟩⟩|none=>obtain⟨q1,k1⟩:=k1;rw[show((([]:List (List UInt8)).length:Nat):Int)=0from rfl]at k1 k2;exact⟨⟨[],by rw[k1];rfl⟩,⟨[],0,by erw[k2];rfl⟩⟩
def wM(l h:List Int):Bool:=decide (h.length<=l.length)&&((l.take h.length).map λ(n:Int)=>UInt8.ofNat n.toNat)==(h.map λ(n:Int)=>UInt8.ofNat n.toNat)
def RY(l h:List Int):F27 N (l,h)=some (wM l h):=by
 rw[F27.eq_1];unfold wM;by_cases hc:h.length<=l.length;.rw[aP (show(l.length:Int)>=(h.length:Int)by omega),aq,aP (show(0:Int)<=(h.length:Int)by omega),ah,am,aP hc,ah,F69.eq_1];rfl
 grind
end
section
variable{N:Nat}{ts:List aA}{xs:List (List UInt8)}{fs:List Func}
def YF{l m:List e8}(hN:l.length<N)(hl:l.length<=100000):KC N (l,m)=some (decide (l=m)):=by
 rw[KC.eq_1];by_cases h:l.length=m.length;.rw[mC (show(l.length:Int)=(m.length:Int)by omega)];have key:=uZ (l:=l) (m:=m) (a:=(.inr ():Bool⊕Unit)) (b:=.inl false) (Lf:=λk i=>ay6 N k (l,m,(l.length:Int),i)) h (λk=>by simp only[ay6.eq_2,aG,af]) (λk i x y hx hy h1 h2=>by
  have hi:=aC h1;simp only[ay6.eq_2,aD hi,aq,aB h1,aB h2,ae,aj (show i<9223372036854775807by omega)];by_cases e:x=y;.subst e;simp
  .rw[bi e,show(x.1==y.1&&(x.2==y.2&&true))=false by cases hh:(x.1==y.1&&(x.2==y.2&&true))with|false=>rfl|true=>simp only[lA,ba,ll]at hh;exact absurd (Prod.ext hh.1 hh.2) e];rfl) N hN;grind
 .rw[ot (show(l.length:Int)≠(m.length:Int)by omega),aL (λe=>h (by rw[e]))];rfl
def ahC(hN:14000000<N)(hm:gK ts xs fs):F22 N (ts,xs,fs)=some (NW ts xs fs):=by
 have Rm:=hm.1.2.2.2.1;rw[F22.eq_1,F60.eq_1,D2 (show 1300<N by omega) hm];simp only[ae];unfold NW;by_cases hc:j6 ts xs fs=0
 .have hv:ij ts xs fs:=⟨hm,GN hc⟩;rw[be hc,show(j6 ts xs fs !=0)=false by simp[hc],af];rcases cL (l:=fs) (g:=λ_:Unit=>(.inr ():(Int×Int×Int)⊕Unit)) (Out:=λr=>∃i a e,r=.inl (i,a,e)/\(fB (mj ts xs fs) 0 fs).elim 0 (λr=>r.2)=e) (Inv:=λi _=>fB (mj ts xs fs) 0 fs=fB (mj ts xs fs) i (fs.drop i)) (Lf:=λk i _=>ay7 N k (fs,(fs.length:Int),i,ts,xs,fs)) (λk _ _=>by simp only[ay7.eq_2,aG,af]) (λk i x _ hx hI=>by
    have hi:=aC hx;have hd:fs.drop i=x::fs.drop (i+1):=by rw[km hi];rw[aw hi]at hx;rw[dC hx]
    simp only[ay7.eq_2,aD hi,aq,aB hx,apB hN hv (aB hx),ae,aj (show i<9223372036854775807by omega)];have hq:(bif(fW ts xs fs x (i:Int)).2.2.2==0then Option.bind (KC N ((fW ts xs fs x (i:Int)).1,x.2.2.2.2.2.1)) (λy=>bif !y then some true else Option.bind (KC N ((fW ts xs fs x (i:Int)).2.1,x.2.2.2.2.2.2)) λz=>some (!z))else some false)=some (decide ((fW ts xs fs x (i:Int)).2.2.2=0/\¬((fW ts xs fs x (i:Int)).1=x.2.2.2.2.2.1/\(fW ts xs fs x (i:Int)).2.1=x.2.2.2.2.2.2))):=by
     by_cases he:(fW ts xs fs x (i:Int)).2.2.2=0
     .obtain⟨h1,h2⟩:=El hv (hv.get hx) he;obtain⟨⟨g1,g2⟩,_⟩:=rE h1;have r1:=n5 g1;have r2:=n5 g2;have hle:=h1.fn.len.2;rw[he,nA rfl,aq,h2];simp only;rw[YF (by omega) (by omega),YF (by omega) (by omega)];simp only[ae];by_cases e1:yD (uM ts fs x)=x.2.2.2.2.2.1
      .rw[aP e1,dk,af];by_cases e2:yD (cN (cE x))=x.2.2.2.2.2.2;.rw[aP e2,aL (show¬(True/\¬(yD (uM ts fs x)=x.2.2.2.2.2.1/\yD (cN (cE x))=x.2.2.2.2.2.2))fromλh=>h.2 ⟨e1,e2⟩)];rfl
       .rw[aL e2,aP (show True/\¬(yD (uM ts fs x)=x.2.2.2.2.2.1/\yD (cN (cE x))=x.2.2.2.2.2.2)from⟨trivial,λh=>e2 h.2⟩)];rfl
      .rw[aL e1,aP (show True/\¬(yD (uM ts fs x)=x.2.2.2.2.2.1/\yD (cN (cE x))=x.2.2.2.2.2.2)from⟨trivial,λh=>e1 h.1⟩)];rfl
     .rw[oP he,af,aL (λh=>he h.1)]
    rw[hq,ae];rw[hd,fB]at hI;unfold mj at hI⊢;by_cases he:(fW ts xs fs x (i:Int)).2.2.2=0
    .rw[be he]at hI;by_cases hs:(fW ts xs fs x (i:Int)).1=x.2.2.2.2.2.1/\(fW ts xs fs x (i:Int)).2.1=x.2.2.2.2.2.2;.rw[be hs,bi (λh=>h rfl)]at hI;exact .inr ⟨(),hI,by rw[aL (λh=>h.2 hs),af,mC he,af]⟩
     .rw[bi hs,be (by decide)]at hI;exact .inl ⟨_,⟨(i:Int),-1,32,rfl,by rw[hI];rfl⟩,by rw[aP ⟨he,hs⟩,aq]⟩
    .rw[bi he,be he]at hI;exact .inl ⟨_,⟨(i:Int),(fW ts xs fs x (i:Int)).2.2.1,(fW ts xs fs x (i:Int)).2.2.2,rfl,by rw[hI];rfl⟩,by rw[aL (λh=>he h.1),af,ot he,aq]⟩) (k:=N) (s:=()) rfl (by omega)with⟨r,⟨i,a,e,rfl,h2⟩,h3⟩|⟨_,h1,h3⟩;.rw[h3,h2];rfl
  .rw[h3,h1,ti];rfl
 .rw[bi hc,show(j6 ts xs fs !=0)=true by simp[bne,hc],aq];rfl
def RZ(h:NW ts xs fs=0):j6 ts xs fs=0:=by unfold NW at h<;>grind
def Eo(s k h r:Int):Prop:=(1<=s/\s<=5000)/\(0<=k/\k<=4096)/\(0<=h/\h<=16384)/\1<=r/\r<=16
def YG(a b c:Int):F61 N (a,b,c)=some (decide (b<=a/\a<=c)):=by rw[F61.eq_1,fT,ae,ui]
def abl(hN:1300<N)(s k h r:Int):F23 N ([],s,k,h,r)=some (if Eo s k h r then 0 else 8):=by
 rw[F23.eq_1];simp only[YG,ae];obtain⟨n,rfl⟩:∃q,N=q+1:=⟨N-1,by omega⟩;have hl:aE3 (n+1) (n+1) ([],(([]:List Int).length:Int),0)=some (.inr ()):=by rfl
 unfold Eo<;>grind
def limited(hN:1300<N)(s k h r:Int):F44 N (s,k,h,r)=some (decide (Eo s k h r)):=by
 rw[F44.eq_1,F94.eq_1,aaz.eq_1];obtain⟨n,rfl⟩:∃q,N=q+1:=⟨N-1,by omega⟩;have hl:aE2 (n+1) (n+1) (0,[],s,k,h,r)=some (.inr ()):=by rw[aE2.eq_2];rfl
 rw[hl];simp only[fT,ae];rw[show(decide (s>=1)&&(decide (s<=5000)&&(decide (k>=0)&&(decide (k<=4096)&&(decide (h>=0)&&(decide (h<=16384)&&(decide (r>=1)&&decide (r<=16))))))))=decide (Eo s k h r)by rw[ls];unfold Eo;simp only[ba,dj,ge_iff_le,and_assoc]];rw[aL (show¬(([]:List Int).length:Int)>2000by decide),af];cases decide (Eo s k h r)<;>rfl
def RV(g:Nat)(x:eY):Prop:=(x.1=3/\x.2.1=0/\x.2.2.1=16777216*(g+1)/\x.2.2.2.1=0/\x.2.2.2.2.1=0/\x.2.2.2.2.2=0)\/((x.1=1/\x.2.2.2.2.2=0\/x.1=2)/\(256<=x.2.1/\x.2.1<8448)/\(16777216*(g+1)+24<=x.2.2.1/\x.2.2.1<=16777216*(g+1)+4096/\x.2.2.1%8=0)/\(x.2.2.2.1=0\/65536<=x.2.2.2.1/\x.2.2.2.1%8=0)/\(x.2.2.2.2.1=0\/65536<=x.2.2.2.2.1/\x.2.2.2.2.1%8=0))
def rtn(x:eY):Prop:=u64 x.2.1/\u64 x.2.2.1/\u64 x.2.2.2.1/\u64 x.2.2.2.2.1
def apH{g:Nat}(h:g<=100):M5 N (g:Int)=some (16777216*((g:Int)+1)):=by rw[M5.eq_1,aJ (by omega),aQ (n:=(g:Int)+1) (by omega),aQ (by omega)]
def Pj{g:Nat}(h:g<=100):F48 N (g:Int)=some (16777216*((g:Int)+1)):=by rw[F48.eq_1,aJ (n:=(g:Int)+1) (by omega),aJ (by omega),aQ (by omega)]
def ahD(a:Int):QJ N a=some (decide (256<=a/\a<8448)):=by rw[QJ.eq_1,fT,ae,ui]
def adn{a:Int}(h:u64 a):WZ N a=some (decide (256<=a/\a<8448)):=by have h1:=h.1;have h2:=h.2;rw[WZ.eq_1,BH h1,aQ (by omega),fT,ae];congr 1;grind
def Pk{a:Int}(h:u64 a):KD N a=some (decide (a=0\/65536<=a/\a%8=0)):=by rw[KD.eq_1,kG h.1,fT,cW,ae];congr 1;grind
def BQ{a:Int}(h:u64 a):Q9 N a=some (decide (a=0\/65536<=a/\a%8=0)):=by rw[Q9.eq_1,kG h.1,fT,cW,ae];congr 1;grind
def ahE{g:Nat}(hg:g<=100){x:eY}(hx:rtn x):F65 N ((g:Int),x.1,x.2.1,x.2.2.1,x.2.2.2.1,x.2.2.2.2.1,x.2.2.2.2.2)=some (decide (RV g x)):=by
 obtain⟨st,cd,sp,df,pn,ky⟩:=x;obtain⟨u1,u2,u3,u4⟩:=hx;simp at u1 u2 u3 u4;rw[F65.eq_1];simp only[apH hg,ahD,Pk u3,Pk u4,ae];have p2:=u2.2;by_cases c3:st=3;.subst c3;rw[nA rfl,aq];congr 1;rw[ls];unfold RV<;>grind
 .rw[oP c3];by_cases c4:sp<16777216*((g:Int)+1);.rw[aP c4,aL (show¬RV g (st,cd,sp,df,pn,ky)fromλh=>by unfold RV at h;simp at h;omega)];rfl
  .rw[aL c4,aQ (n:=sp-_) (by omega),kG (by omega)];by_cases c5:16777216*((g:Int)+1)+24<=sp/\sp<=16777216*((g:Int)+1)+4096/\sp%8=0
   .rw[aL (show¬sp-16777216*((g:Int)+1)<24by omega),aL (show¬sp-16777216*((g:Int)+1)>4096by omega),mC (show(sp-16777216*((g:Int)+1))%8=0 by omega)];have e:decide (RV g (st,cd,sp,df,pn,ky))=((decide (st=1/\ky=0\/st=2))&&(decide (256<=cd/\cd<8448)&&(decide (df=0\/65536<=df/\df%8=0)&&decide (pn=0\/65536<=pn/\pn%8=0)))):=by rw[ls];unfold RV<;>grind
    grind
   .have e1:(bif decide (sp-16777216*((g:Int)+1)<24)then some true else bif decide (sp-16777216*((g:Int)+1)>4096)then some true else some ((sp-16777216*((g:Int)+1))%8!=0))=some true:=by rw[cW,cW];congr 1;grind
    rw[e1,aL (show¬RV g (st,cd,sp,df,pn,ky)fromλh=>by unfold RV at h;simp only at h;omega)];rfl
def ahF{g:Nat}(hg:g<=100){x:eY}(hx:rtn x):F95 N ((g:Int),x.1,x.2.1,x.2.2.1,x.2.2.2.1,x.2.2.2.2.1,x.2.2.2.2.2)=some (decide (RV g x)):=by
 obtain⟨st,cd,sp,df,pn,ky⟩:=x;obtain⟨u1,u2,u3,u4⟩:=hx;simp only at u1 u2 u3 u4;rw[F95.eq_1];have p1:=u2.1;have p2:=u2.2;have e:(decide (256<=cd/\cd<8448)&&(decide (sp>=16777216*((g:Int)+1)+24)&&(decide (sp<=16777216*((g:Int)+1)+4096)&&(sp%8==0&&(decide (df=0\/65536<=df/\df%8=0)&&decide (pn=0\/65536<=pn/\pn%8=0))))))=decide ((256<=cd/\cd<8448)/\(16777216*((g:Int)+1)+24<=sp/\sp<=16777216*((g:Int)+1)+4096/\sp%8=0)/\(df=0\/65536<=df/\df%8=0)/\(pn=0\/65536<=pn/\pn%8=0)):=by rw[ls];simp only[ba,ll,dj];omega
 have b1:aK (16777216*((g:Int)+1)+24)=16777216*((g:Int)+1)+24:=aQ (by omega);have b2:aK (16777216*((g:Int)+1)+4096)=16777216*((g:Int)+1)+4096:=aQ (by omega);have Ch:∀{α:Type}(K:Bool->α),∀q:Bool,q=decide ((256<=cd/\cd<8448)/\(16777216*((g:Int)+1)+24<=sp/\sp<=16777216*((g:Int)+1)+4096/\sp%8=0)/\(df=0\/65536<=df/\df%8=0)/\(pn=0\/65536<=pn/\pn%8=0))->K q=K q:=λ_ _ _=>rfl;simp only[Pj hg,ae];by_cases c1:st=1
 .rw[nA c1,aq];by_cases c2:ky=0;.rw[mC c2,af];simp only[ae,Pj hg,adn u1,BQ u3,BQ u4,b1,b2,kG p1,fT,e];congr 1;rw[la];unfold RV;simp only;omega
  .rw[ot c2,aq,aL (show¬RV g (st,cd,sp,df,pn,ky)fromλh=>by unfold RV at h;simp only at h;omega)];rfl
 .rw[oP c1,af];by_cases c2:st=2;.rw[nA c2,aq];simp only[ae,Pj hg,adn u1,BQ u3,BQ u4,b1,b2,kG p1,fT,e];congr 1;rw[la];unfold RV;simp only;omega
  .rw[oP c2,af];by_cases c3:st=3;.rw[nA c3,aq];simp only[fT,ae];congr 1;rw[ls];unfold RV;simp only[ba,ll,dj];omega
   .rw[oP c3,af,aL (show¬RV g (st,cd,sp,df,pn,ky)fromλh=>by unfold RV at h;simp only at h;omega)];rfl
def RVs(l:List eY):Prop:=(1<=l.length/\l.length<=16)/\∀(i:Nat)x,l[i]?=some x->RV i x
def abm(hN:1300<N){l:List eY}(hr:∀x,x∈l->rtn x):F25 N l=some (if RVs l then 0 else 8):=by
 rw[F25.eq_1];by_cases h1:(l.length:Int)<1;.rw[aP h1,bi (λh=>by have:=h.1.1;omega)];rfl
 rw[aL h1,af,ae];by_cases h2:(l.length:Int)>16;.rw[aP h2,bi (λh=>by have:=h.1.2;omega)];rfl
 rw[aL h2];rcases cL (l:=l) (g:=λ_:Unit=>(.inr ():Int⊕Unit)) (Out:=λr=>r=.inl 8/\¬RVs l) (Inv:=λi _=>∀(j:Nat)x,j<i->l[j]?=some x->RV j x) (Lf:=λk i _=>ay8 N k (l,(l.length:Int),i)) (λk _ _=>by simp only[ay8.eq_2,aG,af]) (λk i x _ hx hI=>by
  have hi:=aC hx;simp only[ay8.eq_2,aD hi,aq,aB hx,ae,ahE (show i<=100by omega) (hr x (aS hx)),aj (show i<9223372036854775807by omega)];by_cases hv:RV i x;.exact .inr ⟨(),λj y hj hy=>by
   by_cases e:j=i;.subst e;rw[hx]at hy;rw[<-dC hy];exact hv
   .exact hI j y (by omega) hy,by rw[aP hv];rfl⟩
  .exact .inl ⟨_,⟨rfl,λh=>hv (h.2 i x hx)⟩,by rw[aL hv];rfl⟩) (k:=N) (s:=()) (λj x hj=>by omega) (by omega)with⟨r,⟨rfl,h3⟩,h4⟩|⟨_,h3,h4⟩;.grind
 .rw[h4,be ⟨by omega,λi x hx=>h3 i x (aC hx) hx⟩];rfl
def abn(hN:1300<N){l:List eY}(hr:∀x,x∈l->rtn x):F46 N l=some (if RVs l then 0 else 8):=by
 rw[F46.eq_1];by_cases h1:(l.length:Int)=0;.rw[nA h1,bi (λh=>by have:=h.1.1;omega)];rfl
 rw[oP h1,af,ae];by_cases h2:(l.length:Int)>16;.rw[aP h2,bi (λh=>by have:=h.1.2;omega)];rfl
 rw[aL h2];rcases cL (l:=l) (g:=λ_:Unit=>(.inr ():Int⊕Unit)) (Out:=λr=>r=.inl 8/\¬RVs l) (Inv:=λi _=>∀(j:Nat)x,j<i->l[j]?=some x->RV j x) (Lf:=λk i _=>aC4 N k (l,i)) (λk _ _=>by simp only[aC4.eq_2,aG,af]) (λk i x _ hx hI=>by
  have hi:=aC hx;simp only[aC4.eq_2,aD hi,aq,aB hx,ae,ahF (show i<=100by omega) (hr x (aS hx)),aj (show i<9223372036854775807by omega)];by_cases hv:RV i x;.exact .inr ⟨(),λj y hj hy=>by
   by_cases e:j=i;.subst e;rw[hx]at hy;rw[<-dC hy];exact hv
   .exact hI j y (by omega) hy,by rw[aP hv];rfl⟩
  .exact .inl ⟨_,⟨rfl,λh=>hv (h.2 i x hx)⟩,by rw[aL hv];rfl⟩) (k:=N) (s:=()) (λj x hj=>by omega) (by omega)with⟨r,⟨rfl,h3⟩,h4⟩|⟨_,h3,h4⟩;.grind
 .rw[h4,be ⟨by omega,λi x hx=>h3 i x (aC hx) hx⟩];rfl
end
section
variable{N:Nat}{ts:List aA}{xs:List (List UInt8)}{fs:List Func}
def rgn(s:Region):Prop:=u64 s.1/\Bo s.2
def LN{g:Nat}(hg:g<16){l:List Int}:gL (16777216*((g:Int)+1)) l↔l.length%8=0/\l.length<=4096:=by unfold gL;omega
def LO(lim:Int)(g:Nat)(s:Region)(x:eY):Prop:=s.1=16777216*((g:Int)+1)/\s.1+s.2.length=x.2.2.1/\(s.2.length:Int)<=lim/\s.2.length%8=0
def avg(hN:14000000<N)(hm:gK ts xs fs)(hc:j6 ts xs fs=0){st:List Region}{rs:List eY}(hs:∀s,s∈st->rgn s)(hr:∀x,x∈rs->rtn x)(hl:st.length=rs.length)(A4:rs.length<=16){kl:Int}(hk:kl<=4096)(sl hp gl hb sp:Int)(bs:List Int):∃r:Int,(r=0\/r=8)/\((WF N N (st,(st.length:Int),0,ts,xs,fs,sl,kl,hp,gl,hb,bs,st,rs,sp))=some (if r=0then .inr ()else .inl 8))/\ah4 N N (0,ts,xs,fs,sl,kl,hp,gl,hb,bs,st,rs,sp)=some (if r=0then .inr ()else .inl 8)/\(r=0->∀(g:Nat)s x,st[g]?=some s->rs[g]?=some x->LO kl g s x/\(x.1≠3->∃y W,Y1 N (s.1,s.2,ts,xs,fs,x.2.1)=some (y::W,0)/\Y2 N (s.1,s.2,ts,xs,fs,x.2.1)=some (y::W,0)/\Em fs x.2.1.toNat y/\jv ts fs (x.2.1.toNat/256-1) (x.2.1.toNat%256)<=s.2.length)):=by
 have key:∀(n g k:Nat),g+n=st.length->n<k->(∀(j:Nat)s x,j<g->st[j]?=some s->rs[j]?=some x->LO kl j s x/\(x.1≠3->∃y W,Y1 N (s.1,s.2,ts,xs,fs,x.2.1)=some (y::W,0)/\Y2 N (s.1,s.2,ts,xs,fs,x.2.1)=some (y::W,0)/\Em fs x.2.1.toNat y/\jv ts fs (x.2.1.toNat/256-1) (x.2.1.toNat%256)<=s.2.length))->∃r:Int,(r=0\/r=8)/\((WF N k (st,(st.length:Int),(g:Int),ts,xs,fs,sl,kl,hp,gl,hb,bs,st,rs,sp))=some (if r=0then .inr ()else .inl 8))/\ah4 N k ((g:Int),ts,xs,fs,sl,kl,hp,gl,hb,bs,st,rs,sp)=some (if r=0then .inr ()else .inl 8)/\(r=0->∀(g:Nat)s x,st[g]?=some s->rs[g]?=some x->LO kl g s x/\(x.1≠3->∃y W,Y1 N (s.1,s.2,ts,xs,fs,x.2.1)=some (y::W,0)/\Y2 N (s.1,s.2,ts,xs,fs,x.2.1)=some (y::W,0)/\Em fs x.2.1.toNat y/\jv ts fs (x.2.1.toNat/256-1) (x.2.1.toNat%256)<=s.2.length)):=by
  intro n;induction n with|zero=>
   intro g k h1 h2 hI;obtain⟨k,rfl⟩:∃q,k=q+1:=⟨k-1,by omega⟩;refine⟨0,.inl rfl,?_,?_,λ_ j s x h3 h4=>hI j s x (by have:=aC h3;omega) h3 h4⟩;.rw[WF.eq_2,aL (show¬(g:Int)<(st.length:Int)by omega),af,be rfl]
   .rw[ah4.eq_2,aL (show¬(g:Int)<(st.length:Int)by omega),af,be rfl]|succ n ih=>
   intro g k h1 h2 hI;obtain⟨k,rfl⟩:∃q,k=q+1:=⟨k-1,by omega⟩;obtain⟨s,es⟩:=di (l:=st) (i:=g) (by omega);obtain⟨x,ex⟩:=di (l:=rs) (i:=g) (by omega);have zd:=hs s (aS es);have hxr:=hr x (aS ex);obtain⟨sb,dy⟩:=s;obtain⟨x1,x2,x3,x4,x5,x6⟩:=x;obtain⟨⟨qC,vB⟩,Hj⟩:=zd;obtain⟨⟨hc1,qD⟩,⟨hp1,hp2⟩,_⟩:=hxr;simp only at qC vB Hj hc1 qD hp1 hp2;have hbase:aK (16777216*aK (au ((g:Int)+1)))=16777216*((g:Int)+1):=by rw[aJ (by omega),aQ (n:=(g:Int)+1) (by omega),aQ (by omega)]
   rw[WF.eq_2,ah4.eq_2,aP (show(g:Int)<(st.length:Int)by omega)];simp only[aq,aB es,aB ex,ae,hbase,Pj (show g<=100by omega)];by_cases hst:LO kl g (sb,dy) (x1,x2,x3,x4,x5,x6)
   .obtain⟨c1,c2,c3,c4⟩:=id hst;simp only at c1 c2 c3 c4;have hsk:gL sb dy:=by rw[c1];exact(LN (by omega)).2 ⟨c4,by omega⟩
    have e1:aK (sb+aK (dy.length:Int))=sb+dy.length:=by rw[aQ (n:=(dy.length:Int)) (by omega),aQ (by omega)]
    rw[e1,D5 (show 1300<N by omega) ⟨qC,vB⟩,aP hsk,mC c1,mC c2,aL (show¬(dy.length:Int)>kl by omega),Pg,mC (show(dy.length:Int)%8=0 by omega)];simp only[af,ae,dk];by_cases c5:x1=3
    .rw[nA c5,aq,aq,aj (by omega)];exact ih (g+1) k (by omega) (by omega) λj s y h3 h4 h5=>by
      by_cases e:j=g;.subst e;rw[es]at h4;rw[ex]at h5;cases dC h4;cases dC h5;exact⟨hst,λh=>absurd c5 h⟩
      .exact hI j s y (by omega) h4 h5
    .rw[oP c5,af,af];obtain⟨a,rfl⟩:=bo hc1;rcases apG (N:=N) (by omega) hm hc ⟨qC,vB⟩ hsk Hj (a:=a) (by omega)with⟨y,W,w1,w2,w3,w4⟩|⟨e,e',e0,e0',w1,w2⟩
     .rw[w1,w2];simp only[ae,fJ,af];rw[aj (by omega)];exact ih (g+1) k (by omega) (by omega) λj s y' h3 h4 h5=>by
       by_cases e:j=g;.subst e;rw[es]at h4;rw[ex]at h5;cases dC h4;cases dC h5;exact⟨hst,λ_=>⟨y,W,w1,w2,by simpa using w3,by simpa using w4⟩⟩
       .exact hI j s y' (by omega) h4 h5
     .rw[w1,w2];simp only[ae,ot e0,ot e0',aq];exact⟨8,.inr rfl,rfl,rfl,λh=>absurd h (by decide)⟩
   .refine⟨8,.inr rfl,?_,?_,λh=>absurd h (by decide)⟩
    .by_cases c1:sb=16777216*((g:Int)+1)
     .by_cases ahl:dy.length>100000;.rw[mC c1,af];have:decide ((dy.length:Int)>kl)=true:=aP (by omega);rw[this];cases(aK (sb+aK (dy.length:Int))!=x3)<;>rfl
      have e1:aK (sb+aK (dy.length:Int))=sb+dy.length:=by rw[aQ (n:=(dy.length:Int)) (by omega),aQ (by omega)]
      rw[mC c1,af,e1];by_cases c2:sb+dy.length=x3
      .rw[mC c2,af];by_cases c3:(dy.length:Int)>kl;.rw[aP c3];rfl
       .rw[aL c3,af,Pg,ot (show(dy.length:Int)%8≠0fromλh=>hst ⟨c1,c2,by simp only;omega,by simp only;omega⟩)];rfl
      .rw[ot c2];rfl
     .rw[ot c1];rfl
    .by_cases c1:sb=16777216*((g:Int)+1)
     .rw[mC c1,af,D5 (show 1300<N by omega) ⟨qC,vB⟩];by_cases hsk:gL sb dy
      .have apI:=hsk;rw[c1]at apI;obtain⟨k1,k2⟩:=(LN (by omega)).1 apI;have e1:aK (sb+aK (dy.length:Int))=sb+dy.length:=by rw[aQ (n:=(dy.length:Int)) (by omega),aQ (by omega)]
       rw[aP hsk,ae,dk,af,e1];by_cases c2:sb+dy.length=x3;.rw[mC c2,af,aP (show(dy.length:Int)>kl by false_or_by_contra;rename_i h;exact hst ⟨c1,c2,by simp only;omega,k1⟩)];rfl
       .rw[ot c2];rfl
      .rw[aL hsk];rfl
     .rw[ot c1];rfl
 have:=key st.length 0 N (by omega) (by omega) (λj s x hj=>by omega);exact this
def ahG(hN:14000000<N)(hm:gK ts xs fs){st:List Region}{rs:List eY}(hs:∀s,s∈st->rgn s)(hr:∀x,x∈rs->rtn x)(sl kl hp gl hb sp:Int){bs:List Int}:(F11 N (ts,xs,fs,sl,kl,hp,gl,hb,bs,st,rs,sp)=some 8/\F15 N (ts,xs,fs,sl,kl,hp,gl,hb,bs,st,rs,sp)=some 8)\/(F11 N (ts,xs,fs,sl,kl,hp,gl,hb,bs,st,rs,sp)=some 0/\F15 N (ts,xs,fs,sl,kl,hp,gl,hb,bs,st,rs,sp)=some 0/\j6 ts xs fs=0/\fq hb bs/\RVs rs/\st.length=rs.length/\∀(g:Nat)s x,st[g]?=some s->rs[g]?=some x->LO kl g s x/\(x.1≠3->∃y W,Y1 N (s.1,s.2,ts,xs,fs,x.2.1)=some (y::W,0)/\Y2 N (s.1,s.2,ts,xs,fs,x.2.1)=some (y::W,0)/\Em fs x.2.1.toNat y/\jv ts fs (x.2.1.toNat/256-1) (x.2.1.toNat%256)<=s.2.length)):=by
 rw[F11.eq_1,F15.eq_1,ahC hN hm,ahz hN hm,abl (by omega),limited (by omega),Ph,abm (by omega) hr,abn (by omega) hr];obtain⟨q0,hq0⟩:=Yy (N:=N) hb bs;rw[hq0];simp only[ae];by_cases c1:NW ts xs fs=0;rotate_left;.rw[ot c1];exact .inl ⟨rfl,rfl⟩
 rw[mC c1,af];by_cases c2:Eo sl kl hp gl;rotate_left;.rw[bi c2,aL c2];exact .inl ⟨rfl,rfl⟩
 rw[be c2,aP c2,fJ,af,dk,af];by_cases c3:sp<0;.rw[aP c3];exact .inl ⟨rfl,rfl⟩
 rw[aL c3,af];by_cases c4:sp>sl;.rw[aP c4];exact .inl ⟨rfl,rfl⟩
 rw[aL c4];simp only[af,ae];by_cases c5:fq hb bs;rotate_left;.rw[bi c5,aL c5];exact .inl ⟨rfl,rfl⟩
 rw[be c5,aP c5,fJ,af,dk,af];by_cases c6:(bs.length:Int)>hp;.rw[aP c6];exact .inl ⟨rfl,rfl⟩
 rw[aL c6];simp only[af,ae];by_cases c7:RVs rs;rotate_left;.rw[bi c7];exact .inl ⟨rfl,rfl⟩
 rw[be c7,fJ];simp only[af];by_cases c8:(rs.length:Int)>gl;.rw[aP c8];exact .inl ⟨rfl,rfl⟩
 rw[aL c8];simp only[af,ae];by_cases c9:st.length=rs.length;rotate_left;.rw[ot (show(st.length:Int)≠(rs.length:Int)by omega)];exact .inl ⟨rfl,rfl⟩
 rw[mC (show(st.length:Int)=(rs.length:Int)by omega)];simp only[af];have hc:=RZ c1;have hF:=(va hc).1;obtain⟨⟨l1,l2⟩,⟨l3,l4⟩,⟨l5,l6⟩,l7,l8⟩:=c2;obtain⟨h,rfl⟩:=bo l5;have ht:=NY (N:=N) (by omega) hF.2.1 hF.2.2.2.2.1 (lim:=h) (by omega);have fin:∀b:Bool,b=false->((some (!b):Option Bool)=some true):=λb e=>by rw[e];rfl
 generalize YE h xs []=t at ht;cases t with|none=>obtain⟨⟨q1,t1⟩,q2,q3,t2⟩:=ht;rw[t1,t2];exact .inl ⟨rfl,rfl⟩|some b=>
  obtain⟨qC,⟨q1,t1⟩,q2,t2⟩:=ht;rw[t1,t2];simp only[ae,fJ,af,RY];by_cases c10:(b.length:Int)>(bs.length:Int);.rw[aP c10,show wM bs b=false by unfold wM;rw[aL (show¬b.length<=bs.length by omega)];rfl];exact .inl ⟨rfl,rfl⟩
  rw[aL c10,af,aP (show(0:Int)<=(b.length:Int)by omega),ah,am,aP (show b.length<=bs.length by omega),ah,BEq.comm (a:=b.map _),show(((bs.take b.length).map λ(n:Int)=>UInt8.ofNat n.toNat)==(b.map λ(n:Int)=>UInt8.ofNat n.toNat))=wM bs b by unfold wM;rw[aP (show b.length<=bs.length by omega)];rfl];cases wM bs b with|false=>exact .inl ⟨rfl,rfl⟩|true=>
   simp only[dk,af];obtain⟨r,r0,r1,r2,r3⟩:=avg hN hm hc hs hr c9 c7.1.2 l4 sl (h:Int) gl hb sp bs;rw[r1,r2];rcases r0 with rfl|rfl;.exact .inr ⟨rfl,rfl,hc,c5,c7,c9,r3 rfl⟩
   .exact .inl ⟨rfl,rfl⟩
end
section
variable{N:Nat}
def azx(l:List Int)(a:Int):Int×Int×Int×Bool×Int×Int:=if 65536<=a/\a-65536+40<=l.length/\a%8=0then if ec l ((a-65536).toNat+16)>=32\/ec l ((a-65536).toNat+24)>1\/(ec l ((a-65536).toNat+24)=0/\ec l ((a-65536).toNat+32)≠0)then(0,0,0,false,0,12)else(ec l (a-65536).toNat,ec l ((a-65536).toNat+8),ec l ((a-65536).toNat+16),ec l ((a-65536).toNat+24)==1,ec l ((a-65536).toNat+32),0)else(0,0,0,false,0,16)
end
section
variable{N:Nat}{ts:List aA}{xs:List (List UInt8)}{fs:List Func}
def abo(hN:1300<N)(ht:O4 ts fs)(sl kl hp gl hb sp:Int)(bs:List Int)(st:List Region)(rs:List eY):F4 N (ts,xs,fs,sl,kl,hp,gl,hb,bs,st,rs,sp)=some true\/(F4 N (ts,xs,fs,sl,kl,hp,gl,hb,bs,st,rs,sp)=some false/\gK ts xs fs/\bs.length<=4200/\st.length<=20/\rs.length<=20/\∀s,s∈st->s.2.length<=4200):=by
 rw[F4.eq_1];rcases XU (N:=N) (xs:=xs) hN ht with h|⟨h,hm⟩;.rw[h];exact .inl rfl
 rw[h];simp only[ae,af];by_cases c1:(bs.length:Int)>4200;.rw[aP c1];exact .inl rfl
 rw[aL c1,af];by_cases c2:(st.length:Int)>20;.rw[aP c2];exact .inl rfl
 rw[aL c2,af];by_cases c3:(rs.length:Int)>20;.rw[aP c3];exact .inl rfl
 rw[aL c3,ae,af];rcases cL (l:=st) (g:=λ_:Unit=>(.inr ():Bool⊕Unit)) (Out:=λr=>r=.inl true) (Inv:=λi _=>∀(j:Nat)s,j<i->st[j]?=some s->s.2.length<=4200) (Lf:=λk i _=>aw2 N k (i,ts,xs,fs,sl,kl,hp,gl,hb,bs,st,rs,sp)) (λk _ _=>by simp only[aw2.eq_2,aG,af]) (λk i s _ hx hI=>by
  have hi:=aC hx;simp only[aw2.eq_2,aD hi,aq,aB hx,ae,aj (show i<9223372036854775807by omega)];by_cases hv:(s.2.length:Int)>4200;.exact .inl ⟨_,rfl,by rw[aP hv];rfl⟩
  .exact .inr ⟨(),λj y hj hy=>by
   by_cases e:j=i;.subst e;rw[hx]at hy;rw[<-dC hy];omega
   .exact hI j y (by omega) hy,by rw[aL hv];rfl⟩) (k:=N) (s:=()) (λj x hj=>by omega) (by omega)with⟨r,rfl,h4⟩|⟨_,h3,h4⟩;.rw[h4];exact .inl rfl
 .rw[h4];exact .inr ⟨rfl,hm,by omega,by omega,by omega,λs hs=>by obtain⟨j,hj⟩:=List.getElem?_of_mem hs;exact h3 j s (aC hj) hj⟩
end
end Go.Proofs.YtnfdnnplfbfgaaaGreat
end
