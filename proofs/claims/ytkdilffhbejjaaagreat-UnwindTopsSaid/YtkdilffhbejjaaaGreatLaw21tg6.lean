/- A part of the proof: Law21tg5, Law21tg6. -/
import Derived.Test.YtkdilffhbejjaaaGreatLaw21tg4
set_option linter.unusedVariables false
set_option linter.unusedSimpArgs false
namespace Go.Proofs.YtkdilffhbejjaaaGreat
open Go Go.bM Go.Sym
open Classical
structure Fn(ts:List aA)(xs:List (List UInt8))(fs:List Func)(f:Func):Prop where
 img:gS ts xs fs
 ok:eX ts.length f
 code:jX f.2.2.2.2.1=true
 near:∀x,x∈f.2.2.2.2.1->nB xs.length (fD fs) f.2.2.2.1 x
noncomputable def eL(ts:List aA)(fs:List Func)(f:Func):Instr->List Int->Option (List Int):=Qv ts (fD fs) f.2.2.2.1
section
variable{ts:List aA}{xs:List (List UInt8)}{fs:List Func}{f:Func}
theorem Fn.len(h:Fn ts xs fs f):1<=f.2.2.2.2.1.length/\f.2.2.2.2.1.length<=200:=h.ok.2.2.2.2.2.2.1
theorem Fn.aF(h:Fn ts xs fs f){x:Instr}(hx:x∈f.2.2.2.2.1):eA x=true:=h.ok.2.2.2.2.2.2.2.1 x hx
theorem Fn.rng(h:Fn ts xs fs f):jW f.2.2.2.1 ts.length:=h.ok.2.2.2.2.2.1
theorem Fn.vc(h:Fn ts xs fs f):VC f.2.2.2.2.1:=xh h.code
theorem Fn.ps(h:Fn ts xs fs f){k:Nat}{s:List Int}(hp:PS f.2.2.2.2.1 (eL ts fs f) k s):Km ts s/\s.length<=512:=by induction hp with|zero=>exact⟨λt ht=>(by cases ht),by simp⟩|step _ hx ha _ ih=>exact aeN h.img h.rng (h.aF (aU hx)) (h.near _ (aU hx)) ih.1 ha
theorem alo{N:Nat}{l:List Instr}(hv:jX l=true)(hl:l.length<=200)(hN:500<N){i:Nat}(hi:i<l.length):TF N (l,(i:Int))=some (cN (nx l i),0):=by rw[TF.eq_1,Mt (by omega) (by omega),hv];simp only[aq,ae,show((0:Int)!=0)=false from rfl,af,show decide ((i:Int)<0)=false by simp,show decide ((i:Int)>=(l.length:Int))=false by grind,Mu (xh hv) hi]
theorem ML{N:Nat}(hN:1300<N)(h:Fn ts xs fs f){b:List (List Int)}{m:List Bool}{o:List Nat}{i:Nat}{x:Instr}{s s':List Int}(hk:Kn f.2.2.2.2.1 (eL ts fs f) b m)(ho:o.length<=1000)(hp:PS f.2.2.2.2.1 (eL ts fs f) i s)(hx:f.2.2.2.2.1[i]?=some x)(ha:eL ts fs f x s=some s'):(∃r:Bool⊕_,(¬uy f.2.2.2.2.1 (eL ts fs f)/\r=.inl false)/\f109.fe N N (f.2.2.2.2.1,s',cN (nx f.2.2.2.2.1 i),((cN (nx f.2.2.2.2.1 i)).length:Int),0,ts,xs,fs,f.1,f.2.1,f.2.2.1,f.2.2.2.1,f.2.2.2.2.1,f.2.2.2.2.2.1,f.2.2.2.2.2.2,b,m,cN o)=some r)\/∃b' m' p,(Kn f.2.2.2.2.1 (eL ts fs f) b' m'/\Grow b m b' m'/\(∀q,q∈p->T m' q)/\(∀q,T m' q->T m q\/q∈p)/\fI m'+p.length<=fI m/\∀k,k∈nx f.2.2.2.2.1 i->T m' k/\b'[k]?=some s')/\f109.fe N N (f.2.2.2.2.1,s',cN (nx f.2.2.2.2.1 i),((cN (nx f.2.2.2.2.1 i)).length:Int),0,ts,xs,fs,f.1,f.2.1,f.2.2.1,f.2.2.2.1,f.2.2.2.2.1,f.2.2.2.2.2.1,f.2.2.2.2.2.2,b,m,cN o)=some (.inr (f.2.2.2.2.1,ts,xs,fs,f.1,f.2.1,f.2.2.1,f.2.2.2.1,f.2.2.2.2.1,f.2.2.2.2.2.1,f.2.2.2.2.2.2,b',m',cN (o++p))):=by
 have hle:=h.len.2;have hv:=h.vc;have key:=de (l:=cN (nx f.2.2.2.2.1 i)) (g:=λq:List (List Int)×List Bool×List Nat=>(.inr (f.2.2.2.2.1,ts,xs,fs,f.1,f.2.1,f.2.2.1,f.2.2.2.1,f.2.2.2.2.1,f.2.2.2.2.2.1,f.2.2.2.2.2.2,q.1,q.2.1,cN (o++q.2.2)):Bool⊕_)) (Out:=λr=>¬uy f.2.2.2.2.1 (eL ts fs f)/\r=.inl false) (Inv:=λj q=>Kn f.2.2.2.2.1 (eL ts fs f) q.1 q.2.1/\Grow b m q.1 q.2.1/\(∀z,z∈q.2.2->T q.2.1 z)/\(∀z,T q.2.1 z->T m z\/z∈q.2.2)/\fI q.2.1+q.2.2.length<=fI m/\∀k,k∈(nx f.2.2.2.2.1 i).take j->T q.2.1 k/\q.1[k]?=some s') (Lf:=λk j q=>f109.fe N k (f.2.2.2.2.1,s',cN (nx f.2.2.2.2.1 i),((cN (nx f.2.2.2.2.1 i)).length:Int),j,ts,xs,fs,f.1,f.2.1,f.2.2.1,f.2.2.2.1,f.2.2.2.2.1,f.2.2.2.2.2.1,f.2.2.2.2.2.2,q.1,q.2.1,cN (o++q.2.2))) (λk q _=>by simp only[f109.fe.eq_2,aJ,af]) (λk j y q hy⟨h1,h2,h3,h4,h5,h6⟩=>by
   obtain⟨t,ht,rfl⟩:=yF hy;have hlt:=Ah hv (aU ht);have Q0:t<q.2.1.length:=by rw[h1.lm];exact hlt
   have hlb:t<q.1.length:=by rw[h1.lb];exact hlt
   have hL:=aC hy;have hj:j<9223372036854775807:=by have:=aC ht;have:=rF f.2.2.2.2.1 i;omega
   have hpt:PS f.2.2.2.2.1 (eL ts fs f) t s':=.step hp hx ha (aU ht);have tk:∀{b':List (List Int)}{m':List Bool},Grow q.1 q.2.1 b' m'->(T m' t/\b'[t]?=some s')->∀k,k∈(nx f.2.2.2.2.1 i).take (j+1)->T m' k/\b'[k]?=some s':=λhg hh k hk'=>by
    rw[take_succ ht,bj,bo]at hk';rcases hk' with hk'|rfl;.obtain⟨g1,g2⟩:=h6 k hk';exact⟨(hg k g1).1,by rw[(hg k g1).2];exact g2⟩
    .exact hh
   rcases Ke Q0 with hb|hb
   .obtain⟨v,v1,v2⟩:=h1.met t hb;have v3:=(h.ps v2).2;simp only[f109.fe.eq_2,aG hL,aq,aD hy,ae,cl Q0,cl hlb,aj,bd,ai hj,hb,da,af,v1,Qz (N:=N) (l:=v) (m:=s') (by omega) (by omega)];by_cases he:v=s';.subst he;refine .inr ⟨q,⟨h1,h2,h3,h4,h5,tk (.refl _ _) ⟨hb,v1⟩⟩,by simp⟩
    .exact .inl ⟨_,⟨λhS=>he (hS.one t v s' v2 hpt),rfl⟩,by rw[aM he,ge,aq]⟩
   .have hnT:¬T q.2.1 t:=λhT=>by unfold T at hT;rw[hb]at hT;cases hT
    have hc:=tQ hb;have nM:=rG m;rw[hk.lm]at nM;have hr:room ((cN (o++q.2.2)).length+1) 8=true:=ak (by rw[bL,ba];omega) (by omega);have e1:=al hlb;refine .inr ⟨(q.1.set t s',q.2.1.set t true,q.2.2++[t]),⟨h1.add hlt hnT hpt,h2.trans (.add hnT),λz hz=>?_,λz hz=>?_,?_,tk (.add hnT) ⟨(eG Q0).2 (.inl rfl),by simp[hlb]⟩⟩,?_⟩
    .rcases bj.1 hz with hz|hz;.exact(eG Q0).2 (.inr (h3 z hz))
     .rw[bo.1 hz];exact(eG Q0).2 (.inl rfl)
    .rcases(eG Q0).1 hz with rfl|hz;.exact .inr (bj.2 (.inr (bo.2 rfl)))
     .rcases h4 z hz with hz|hz;.exact .inl hz
      .exact .inr (bj.2 (.inl hz))
    .simp only[ba,eQ,lL];omega
    .simp only[f109.fe.eq_2,aG hL,aq,aD hy,ae,cl Q0,cl hlb,aj,bd,ai hj,hb,ge,hr,e1];rw[<-bi,uu (o++q.2.2) [t]];rfl) (k:=N) (s:=(b,m,[])) ⟨hk,.refl _ _,λz hz=>(by cases hz),λz hz=>.inl hz,by simp,λk hk=>by simp at hk⟩ (by rw[bL];have:=rF f.2.2.2.2.1 i;omega);rcases key with⟨r,h1,h2⟩|⟨⟨b',m',p⟩,⟨h1,h2,h3,h4,h5,h6⟩,he⟩;.grind
 .refine .inr ⟨b',m',p,⟨h1,h2,h3,h4,h5,λk hk'=>h6 k (by rw[bL,fi];exact hk')⟩,by simpa using he⟩
structure aqi(l:List Instr)(a:Instr->List Int->Option (List Int))(s:List (List Int)×List Bool)(o:List Nat):Prop where
 kn:Kn l a s.1 s.2xl:∀j,j∈o->T s.2 j
 shut:∀j,T s.2 j->j∈o\/yK l a s.1 s.2 j
 few:fI s.2+o.length<=300
theorem QA{N:Nat}(hN:1300<N)(h:Fn ts xs fs f):(∃r:Bool⊕_,(¬uy f.2.2.2.2.1 (eL ts fs f)/\r=.inl false)/\f109.aP N N (f.2.2.2.2.1,ts,xs,fs,f.1,f.2.1,f.2.2.1,f.2.2.2.1,f.2.2.2.2.1,f.2.2.2.2.2.1,f.2.2.2.2.2.2,List.replicate f.2.2.2.2.1.length [],(List.replicate f.2.2.2.2.1.length false).set 0 true,[0])=some r)\/∃b m,(Kn f.2.2.2.2.1 (eL ts fs f) b m/\∀j,T m j->yK f.2.2.2.2.1 (eL ts fs f) b m j)/\f109.aP N N (f.2.2.2.2.1,ts,xs,fs,f.1,f.2.1,f.2.2.1,f.2.2.2.1,f.2.2.2.2.1,f.2.2.2.2.2.1,f.2.2.2.2.2.2,List.replicate f.2.2.2.2.1.length [],(List.replicate f.2.2.2.2.1.length false).set 0 true,[0])=some (.inr (f.2.2.2.2.1,ts,xs,fs,f.1,f.2.1,f.2.2.1,f.2.2.2.1,f.2.2.2.2.1,f.2.2.2.2.2.1,f.2.2.2.2.2.2,b)):=by
 obtain⟨hpos,hle⟩:=h.len;have hv:=h.vc;have hc0:=rG ((List.replicate f.2.2.2.2.1.length false).set 0 true);simp at hc0;have key:=Kk (σ:=List (List Int)×List Bool) (Inv:=aqi f.2.2.2.2.1 (eL ts fs f)) (μ:=λs=>fI s.2) (g:=λs=>(.inr (f.2.2.2.2.1,ts,xs,fs,f.1,f.2.1,f.2.2.1,f.2.2.2.1,f.2.2.2.2.1,f.2.2.2.2.2.1,f.2.2.2.2.2.2,s.1):Bool⊕_)) (Out:=λr=>¬uy f.2.2.2.2.1 (eL ts fs f)/\r=.inl false) (Lf:=λk s o=>f109.aP N k (f.2.2.2.2.1,ts,xs,fs,f.1,f.2.1,f.2.2.1,f.2.2.2.1,f.2.2.2.2.1,f.2.2.2.2.2.1,f.2.2.2.2.2.2,s.1,s.2,cN o)) (λk s _=>by rw[show cN []=[]from rfl,f109.aP.eq_2,show decide (((([]:List Int).length:Nat):Int)>0)=false from rfl,af]) (λk s o i hI=>by
  have hi:T s.2 i:=hI.xl i (by simp);have yY:i<f.2.2.2.2.1.length:=by rw[<-hI.kn.lm];exact hi.lt
  have aqj:=hI.few;rw[ba,dj]at aqj;obtain⟨v,v1,v2⟩:=hI.kn.met i hi;obtain⟨v3,v4⟩:=h.ps v2;have hx:=al yY;have hm:=aU hx;obtain⟨r,c,e1,e2⟩:=alm hN h.img h.rng (h.aF hm) (h.near _ hm) v3 (show v.length<=600by omega);have hlen:(cN (o++[i])).length=o.length+1:=by simp[cN]
  have q1:av (((o.length+1:Nat):Int)-1)=(o.length:Int):=by rw[aI (by omega)];omega
  have q2:(cN (o++[i]))[o.length]?=some (i:Int):=by simp[cN]
  have q3:(cN (o++[i])).take o.length=cN o:=by simp[cN]
  have hib:i<s.1.length:=by rw[hI.kn.lb];exact yY
  simp only[f109.aP.eq_2,hlen,q1,bm (show((o.length+1:Nat):Int)>0 by omega),aq,cl (show o.length<o.length+1by omega),aj,bd,q2,ae,show decide ((0:Int)<=(o.length:Int))=true by simp,show decide (o.length<=o.length+1)=true by simp,aD hx,cl hib,v1,e1,alo h.code hle (show 500<N by omega) yY,show((0:Int)!=0)=false from rfl,q3];cases c with|false=>refine .inl ⟨_,⟨λhS=>?_,rfl⟩,rfl⟩;obtain⟨s',hs'⟩:=hS.go i v _ v2 hx;unfold eL at hs';rw[e2]at hs';cases hs'|true=>
    have ha:eL ts fs f f.2.2.2.2.1[i] v=some r:=e2;simp only[da,af,ae];rcases ML hN h (o:=o) hI.kn (by omega) v2 hx ha with⟨z,⟨z1,rfl⟩,z2⟩|⟨b',m',p,⟨g1,g2,g3,g4,g5,g6⟩,g7⟩;.exact .inl ⟨_,⟨z1,rfl⟩,by rw[z2];rfl⟩
    .refine .inr ⟨(b',m'),p,⟨g1,λj hj=>?_,λj hj=>?_,?_⟩,g5,by rw[g7];rfl⟩
     .rcases bj.1 hj with hj|hj;.exact(g2 j (hI.xl j (by simp[hj]))).1
      .exact g3 j hj
     .rcases g4 j hj with hj|hj
      .by_cases hji:j=i;.subst hji;exact .inr ⟨_,v,r,hx,by rw[(g2 j hj).2];exact v1,ha,g6⟩
       .rcases hI.shut j hj with hs|hs
        .rcases bj.1 hs with hs|hs;.exact .inl (bj.2 (.inl hs))
         .exact absurd (bo.1 hs) hji
        .exact .inr (hs.grow hj g2)
      .exact .inl (bj.2 (.inr hj))
     .show fI m'+(o++p).length<=300;rw[ba];omega) N (List.replicate f.2.2.2.2.1.length [],(List.replicate f.2.2.2.2.1.length false).set 0 true) [0] ⟨.start hv,λj hj=>by rw[bo.1 hj];exact(kf hpos 0).2 rfl,λj hj=>by rw[(kf hpos j).1 hj];exact .inl (bo.2 rfl),by simp only[dj];omega⟩ (by simp only[dj];omega);rcases key with⟨r,h1,h2⟩|⟨⟨b,m⟩,hI,he⟩;.exact .inl ⟨r,h1,h2⟩
 .refine .inr ⟨b,m,⟨hI.kn,λj hj=>?_⟩,he⟩;rcases hI.shut j hj with hs|hs<;>grind
noncomputable def tT(ts:List aA)(fs:List Func)(f:Func):List Int:=(List.range f.2.2.2.2.1.length).map λk=>oN ts (FM f.2.2.2.2.1 (eL ts fs f) k)
theorem Fn.MM(h:Fn ts xs fs f)(k:Nat):Km ts (FM f.2.2.2.2.1 (eL ts fs f) k)/\(Go.Proofs.YtkdilffhbejjaaaGreat.FM f.2.2.2.2.1 (eL ts fs f) k).length<=512:=by
 unfold Go.Proofs.YtkdilffhbejjaaaGreat.FM;split;.rename_i e;exact h.ps e.choose_spec
 .exact⟨λt ht=>(by cases ht),by simp⟩
theorem Fn.aeS(h:Fn ts xs fs f){y:Int}(hy:y∈tT ts fs f):0<=y/\y<=1000000:=by obtain⟨k,_,rfl⟩:=im.1 hy;obtain⟨h1,h2⟩:=h.MM k;have:=h1.oN h.img;omega
theorem pK(ts:List aA)(fs:List Func)(f:Func):(tT ts fs f).length=f.2.2.2.2.1.length:=by simp[tT]
theorem Wz{N:Nat}(hN:1300<N)(h:Fn ts xs fs f):∃r c,PA N (ts,xs,fs,f.1,f.2.1,f.2.2.1,f.2.2.2.1,f.2.2.2.2.1,f.2.2.2.2.2.1,f.2.2.2.2.2.2)=some (r,c)/\(c=true↔uy f.2.2.2.2.1 (eL ts fs f))/\(c=true->r=tT ts fs f):=by
 obtain⟨hpos,hle⟩:=h.len;have pre:∀X:Bool⊕_,f109.aP N N (f.2.2.2.2.1,ts,xs,fs,f.1,f.2.1,f.2.2.1,f.2.2.2.1,f.2.2.2.2.1,f.2.2.2.2.2.1,f.2.2.2.2.2.2,List.replicate f.2.2.2.2.1.length [],(List.replicate f.2.2.2.2.1.length false).set 0 true,[0])=some X->PA N (ts,xs,fs,f.1,f.2.1,f.2.2.1,f.2.2.2.1,f.2.2.2.2.1,f.2.2.2.2.2.1,f.2.2.2.2.2.2)=(match X with|.inl o=>some ([],o)|.inr a=>(aF (decide (0<=(a.1.length:Int))) (aF (decide (0<=(a.1.length:Int))) (aF (decide ((Int.toNat (a.1.length:Int))<=(Int.toNat (a.1.length:Int)))&&room (Int.toNat (a.1.length:Int)) 8) ((f109.zU N N (a.1,(a.2.2.2.2.2.2.2.2.2.2.2.length:Int),0,a.2.1,a.2.2.1,a.2.2.2.1,a.2.2.2.2.1,a.2.2.2.2.2.1,a.2.2.2.2.2.2.1,a.2.2.2.2.2.2.2.1,a.2.2.2.2.2.2.2.2.1,a.2.2.2.2.2.2.2.2.2.1,a.2.2.2.2.2.2.2.2.2.2.1,a.2.2.2.2.2.2.2.2.2.2.2,(List.replicate (Int.toNat (a.1.length:Int)) (0:Int)))).bind λp=>(match p with|.inl q=>some ([],q)|.inr c=>(aF (ga (av ((c.1.length:Int)-1)) c.2.1.length) ((c.2.1[(Int.toNat (av ((c.1.length:Int)-1)))]?).bind λr=>some (c.2.2,((r.length:Int)==0)))))))))):=λX hX=>by rw[PA.eq_1];simp only[bd,show decide ((0:Int)<=(f.2.2.2.2.1.length:Int))=true by simp,aj,bc,nl,fr,ak (show f.2.2.2.2.1.length<=10000000by omega) (show 24<=1000by omega),ak (show f.2.2.2.2.1.length<=10000000by omega) (show 1<=1000by omega),jn,show ga 0 f.2.2.2.2.1.length=true from cl (i:=0) (by omega),show Int.toNat 0=0from rfl,rI (show 1<=f.2.2.2.2.1.length by omega),ae,hX];rfl
 rcases QA hN h with⟨r,⟨h1,rfl⟩,h2⟩|⟨b,m,⟨hk,hs⟩,h2⟩;.grind
 .have Gg:=hk.lb;obtain⟨v,⟨hv,hvb⟩,he2⟩:=fO (l:=b) (g:=λv:List Int=>(.inr (f.2.2.2.2.1,b,v):Bool⊕_)) (Inv:=λi v=>v.length=f.2.2.2.2.1.length/\∀k,k<i->v[k]?=some (oN ts (FM f.2.2.2.2.1 (eL ts fs f) k))) (Lf:=λk i v=>f109.zU N k (f.2.2.2.2.1,(b.length:Int),i,ts,xs,fs,f.1,f.2.1,f.2.2.1,f.2.2.2.1,f.2.2.2.2.1,f.2.2.2.2.2.1,f.2.2.2.2.2.2,b,v)) (λk v _=>by simp only[f109.zU.eq_2,aJ,af]) (λk i y v hy⟨hv,hvb⟩=>by
    have hi:=aC hy;have e:=hk.get hs (k:=i) (by omega);rw[hy]at e;obtain⟨o1,o2⟩:=h.MM i;rw[<-fb e]at o1 o2;have hiv:i<v.length:=by omega
    obtain⟨b1,b2⟩:=o1.oN h.img;refine⟨v.set i (oN ts y),⟨by simp[hv],λj hj=>?_⟩,?_⟩
    .by_cases hji:j=i;.subst hji;rw[List.getElem?_set_self hiv,<-fb e]
     .rw[mr,be (pj hji)];exact hvb j (by omega)
    .simp only[f109.zU.eq_2,aG hi,aq,cl hi,aj,bd,hy,ae,HD hN h.img f o1 (show y.length<=1000by omega),show((0:Int)!=0)=false from rfl,af,cl hiv,al hiv,ai (show i<9223372036854775807by omega),aR (n:=oN ts y) (by omega)]) (k:=N) (s:=List.replicate f.2.2.2.2.1.length 0) ⟨by simp,λj hj=>by omega⟩ (by omega);have hvs:v=tT ts fs f:=by
   apply la;intro k;by_cases Xz:k<f.2.2.2.2.1.length;.rw[hvb k (by omega)];unfold tT<;>grind
   .rw[dT (by omega),dT (by rw[pK];omega)]
  have e1:av ((f.2.2.2.2.1.length:Int)-1)=((f.2.2.2.2.1.length-1:Nat):Int):=uv (by omega) (by omega);rw[Gg]at he2;refine⟨v,decide (FM f.2.2.2.2.1 (eL ts fs f) (f.2.2.2.2.1.length-1)=[]),?_,?_,λ_=>hvs⟩;.rw[pre _ h2];simp[bd,show decide ((0:Int)<=(f.2.2.2.2.1.length:Int))=true by simp,aj,bc,nl,fr,ak (show f.2.2.2.2.1.length<=10000000by omega) (show 8<=1000by omega),Gg,he2,ae,e1,cl (show f.2.2.2.2.1.length-1<f.2.2.2.2.1.length by omega),hk.get hs (show f.2.2.2.2.1.length-1<f.2.2.2.2.1.length by omega)];rw[lO,db,kv]<;>simp_all
  .rw[db];exact(hk.ok h.vc hs).symm
end
end Go.Proofs.YtkdilffhbejjaaaGreat
namespace Go.Proofs.YtkdilffhbejjaaaGreat
open Go Go.bM Go.Sym
open Classical
section
variable{ts:List aA}{xs:List (List UInt8)}{fs:List Func}{f:Func}
theorem MN{N:Nat}(hN:1300<N)(h:Fn ts xs fs f){b:List (List Int)}{m:List Bool}{c:Bool}{g:Int}{i:Nat}{x:Instr}{s s':List Int}(hk:Kn f.2.2.2.2.1 (eL ts fs f) b m)(hp:PS f.2.2.2.2.1 (eL ts fs f) i s)(hx:f.2.2.2.2.1[i]?=some x)(ha:eL ts fs f x s=some s'):(∃r:Bool⊕_,(¬uy f.2.2.2.2.1 (eL ts fs f)/\r=.inl false)/\f176.tH N N (g,f.2.2.2.2.1,c,(i:Int),s',cN (nx f.2.2.2.2.1 i),0,ts,xs,fs,b,m)=some r)\/∃b' m' c',(Kn f.2.2.2.2.1 (eL ts fs f) b' m'/\Grow b m b' m'/\(c'=false->c=false/\b'=b/\m'=m)/\fI m'<=fI m/\(c'=true->c=true\/fI m'<fI m)/\∀k,k∈nx f.2.2.2.2.1 i->T m' k/\b'[k]?=some s')/\f176.tH N N (g,f.2.2.2.2.1,c,(i:Int),s',cN (nx f.2.2.2.2.1 i),0,ts,xs,fs,b,m)=some (.inr (g,f.2.2.2.2.1,c',(i:Int),ts,xs,fs,b',m')):=by
 have hv:=h.vc;have key:=de (l:=cN (nx f.2.2.2.2.1 i)) (g:=λq:List (List Int)×List Bool×Bool=>(.inr (g,f.2.2.2.2.1,q.2.2,(i:Int),ts,xs,fs,q.1,q.2.1):Bool⊕_)) (Out:=λr=>¬uy f.2.2.2.2.1 (eL ts fs f)/\r=.inl false) (Inv:=λj q=>Kn f.2.2.2.2.1 (eL ts fs f) q.1 q.2.1/\Grow b m q.1 q.2.1/\(q.2.2=false->c=false/\q.1=b/\q.2.1=m)/\fI q.2.1<=fI m/\(q.2.2=true->c=true\/fI q.2.1<fI m)/\∀k,k∈(nx f.2.2.2.2.1 i).take j->T q.2.1 k/\q.1[k]?=some s') (Lf:=λk j q=>f176.tH N k (g,f.2.2.2.2.1,q.2.2,(i:Int),s',cN (nx f.2.2.2.2.1 i),j,ts,xs,fs,q.1,q.2.1)) (λk q _=>by simp only[f176.tH.eq_2,aJ,af]) (λk j y q hy⟨h1,h2,h3,h4,h5,h6⟩=>by
   obtain⟨t,ht,rfl⟩:=yF hy;have hlt:=Ah hv (aU ht);have Q0:t<q.2.1.length:=by rw[h1.lm];exact hlt
   have hlb:t<q.1.length:=by rw[h1.lb];exact hlt
   have hL:=aC hy;have hj:j<9223372036854775807:=by have:=aC ht;have:=rF f.2.2.2.2.1 i;omega
   have hpt:PS f.2.2.2.2.1 (eL ts fs f) t s':=.step hp hx ha (aU ht);have tk:∀{b':List (List Int)}{m':List Bool},Grow q.1 q.2.1 b' m'->(T m' t/\b'[t]?=some s')->∀k,k∈(nx f.2.2.2.2.1 i).take (j+1)->T m' k/\b'[k]?=some s':=λhg hh k hk'=>by
    rw[take_succ ht,bj,bo]at hk';rcases hk' with hk'|rfl;.obtain⟨g1,g2⟩:=h6 k hk';exact⟨(hg k g1).1,by rw[(hg k g1).2];exact g2⟩
    .exact hh
   rcases Ke Q0 with hb|hb
   .obtain⟨v,v1,v2⟩:=h1.met t hb;have v3:=(h.ps v2).2;simp only[f176.tH.eq_2,aG hL,aq,aD hy,ae,cl Q0,cl hlb,aj,bd,ai hj,hb,da,af,v1,Dx (N:=N) (l:=v) (m:=s') (by omega) (by omega)];by_cases he:v=s';.subst he;refine .inr ⟨q,⟨h1,h2,h3,h4,h5,tk (.refl _ _) ⟨hb,v1⟩⟩,by simp⟩
    .exact .inl ⟨_,⟨λhS=>he (hS.one t v s' v2 hpt),rfl⟩,by rw[aM he,ge,aq]⟩
   .have hnT:¬T q.2.1 t:=λhT=>by unfold T at hT;rw[hb]at hT;cases hT
    have hc:=tQ hb;have e1:=al hlb;refine .inr ⟨(q.1.set t s',q.2.1.set t true,true),⟨h1.add hlt hnT hpt,h2.trans (.add hnT),(λe=>by cases e),by simp only;omega,λ_=>.inr (by simp only;omega),tk (.add hnT) ⟨(eG Q0).2 (.inl rfl),by simp[hlb]⟩⟩,?_⟩;simp only[f176.tH.eq_2,aG hL,aq,af,aD hy,ae,cl Q0,cl hlb,aj,bd,ai hj,hb,ge,e1]) (k:=N) (s:=(b,m,c)) ⟨hk,.refl _ _,λe=>⟨e,rfl,rfl⟩,bc _,.inl,λk hk=>by simp at hk⟩ (by rw[bL];have:=rF f.2.2.2.2.1 i;omega);rcases key with⟨r,h1,h2⟩|⟨⟨b',m',c'⟩,⟨h1,h2,h3,h4,h5,h6⟩,he⟩;.grind
 .exact .inr ⟨b',m',c',⟨h1,h2,h3,h4,h5,λk hk'=>h6 k (by rw[bL,fi];exact hk')⟩,he⟩
theorem MO{N:Nat}(hN:1300<N)(h:Fn ts xs fs f){g:Int}(hf:idx fs g=some f){b:List (List Int)}{m:List Bool}(hk:Kn f.2.2.2.2.1 (eL ts fs f) b m):(∃r:Bool⊕_,(¬uy f.2.2.2.2.1 (eL ts fs f)/\r=.inl false)/\f176.gw N N (g,f.2.2.2.2.1,false,0,ts,xs,fs,b,m)=some r)\/∃b' m' c',(Kn f.2.2.2.2.1 (eL ts fs f) b' m'/\(c'=false->∀j,T m' j->yK f.2.2.2.2.1 (eL ts fs f) b' m' j)/\(c'=true->fI m'<fI m))/\f176.gw N N (g,f.2.2.2.2.1,false,0,ts,xs,fs,b,m)=some (.inr (g,f.2.2.2.2.1,c',ts,xs,fs,b',m')):=by
 have hle:=h.len.2;have hv:=h.vc;have key:=de (l:=f.2.2.2.2.1) (g:=λq:List (List Int)×List Bool×Bool=>(.inr (g,f.2.2.2.2.1,q.2.2,ts,xs,fs,q.1,q.2.1):Bool⊕_)) (Out:=λr=>¬uy f.2.2.2.2.1 (eL ts fs f)/\r=.inl false) (Inv:=λj q=>Kn f.2.2.2.2.1 (eL ts fs f) q.1 q.2.1/\(q.2.2=false->q.1=b/\q.2.1=m/\∀i,i<j->T m i->yK f.2.2.2.2.1 (eL ts fs f) b m i)/\fI q.2.1<=fI m/\(q.2.2=true->fI q.2.1<fI m)) (Lf:=λk j q=>f176.gw N k (g,f.2.2.2.2.1,q.2.2,j,ts,xs,fs,q.1,q.2.1)) (λk q _=>by simp only[f176.gw.eq_2,aJ,af]) (λk i x q hx⟨h1,h2,h3,h4⟩=>by
   have hi:=aC hx;have him:i<q.2.1.length:=by rw[h1.lm];exact hi
   have hib:i<q.1.length:=by rw[h1.lb];exact hi
   rcases Ke him with hb|hb;.obtain⟨v,v1,v2⟩:=h1.met i hb;obtain⟨v3,v4⟩:=h.ps v2;have hm:=aU hx;obtain⟨r,c,e1,e2⟩:=aeP hN h.img hf h.rng (h.aF hm) (h.near _ hm) v3 (show v.length<=600by omega);simp only[f176.gw.eq_2,aG hi,aq,cl him,cl hib,aj,bd,hb,ae,da,af,aD hx,v1,e1,yJ hv hi];cases c with|false=>refine .inl ⟨_,⟨λhS=>?_,rfl⟩,rfl⟩;obtain⟨s',hs'⟩:=hS.go i v _ v2 hx;unfold eL at hs';rw[e2]at hs';cases hs'|true=>
     have ha:eL ts fs f x v=some r:=e2;simp only[da,af];rcases MN hN h (c:=q.2.2) (g:=g) h1 v2 hx ha with⟨z,⟨z1,rfl⟩,z2⟩|⟨b',m',c',⟨g1,g2,g3,g4,g5,g6⟩,g7⟩;.exact .inl ⟨_,⟨z1,rfl⟩,by rw[z2];rfl⟩
     .refine .inr ⟨(b',m',c'),⟨g1,λhc=>?_,by simp only;omega,λhc=>?_⟩,by rw[g7];simp only[ae,ai (show i<9223372036854775807by omega)]⟩
      .obtain⟨q1,q2,q3⟩:=g3 hc;obtain⟨q4,q5,q6⟩:=h2 q1;simp only;refine⟨by rw[q2,q4],by rw[q3,q5],λj hj hT=>?_⟩;by_cases hji:j=i;.subst hji;rw[q2,q3,q4,q5]at g6;exact⟨x,v,r,hx,by rw[<-q4];exact v1,ha,g6⟩
       .exact q6 j (by omega) hT
      .rcases g5 hc with hc|hc;.have:=h4 hc;simp only at*;omega
       .simp only at*;omega
   .refine .inr ⟨q,⟨h1,λhc=>?_,h3,h4⟩,by simp only[f176.gw.eq_2,aG hi,aq,cl him,aj,bd,hb,ae,ge,ai (show i<9223372036854775807by omega)]⟩;obtain⟨q4,q5,q6⟩:=h2 hc;refine⟨q4,q5,λj hj hT=>?_⟩;by_cases hji:j=i;.subst hji;rw[q5]at hb;unfold T at hT;rw[hb]at hT;cases hT
    .exact q6 j (by omega) hT) (k:=N) (s:=(b,m,false)) ⟨hk,λ_=>⟨rfl,rfl,λi hi=>by omega⟩,bc _,λe=>by cases e⟩ (by omega);rcases key with⟨r,h1,h2⟩|⟨⟨b',m',c'⟩,⟨h1,h2,h3,h4⟩,he⟩;.grind
 .refine .inr ⟨b',m',c',⟨h1,λhc j hj=>?_,h4⟩,he⟩;obtain⟨g1,g2,g3⟩:=h2 hc;simp at g1 g2;rw[g1,g2];rw[g2]at hj;exact g3 j (by rw[<-hk.lm];exact hj.lt) hj
theorem Kt{N:Nat}(hN:1300<N)(h:Fn ts xs fs f){g:Int}(hf:idx fs g=some f):∃r c,PX N (ts,xs,fs,g)=some (r,c)/\(c=true↔uy f.2.2.2.2.1 (eL ts fs f))/\(c=true->r=(List.range f.2.2.2.2.1.length).map (FM f.2.2.2.2.1 (eL ts fs f))):=by
 obtain⟨hpos,hle⟩:=h.len;have hc0:=rG ((List.replicate f.2.2.2.2.1.length false).set 0 true);simp at hc0;have key:=Dq (σ:=List (List Int)×List Bool) (Inv:=λs=>Kn f.2.2.2.2.1 (eL ts fs f) s.1 s.2) (D6:=λs=>∀j,T s.2 j->yK f.2.2.2.2.1 (eL ts fs f) s.1 s.2 j) (μ:=λs=>fI s.2) (g:=λs=>(.inr (f.2.2.2.2.1,s.1):Bool⊕_)) (Out:=λr=>¬uy f.2.2.2.2.1 (eL ts fs f)/\r=.inl false) (Lf:=λk c s=>f176.aP N k (g,f.2.2.2.2.1,c,ts,xs,fs,s.1,s.2)) (λk s _ _=>by rw[f176.aP.eq_2];rfl) (λk s hI=>by
   rcases MO hN h hf hI with⟨z,⟨z1,rfl⟩,z2⟩|⟨b',m',c',⟨g1,g2,g3⟩,g4⟩;.exact .inl ⟨_,⟨z1,rfl⟩,by rw[f176.aP.eq_2,aq,z2];rfl⟩
   .exact .inr ⟨(b',m'),c',g1,g2,g3,by rw[f176.aP.eq_2,aq,g4];rfl⟩) N (List.replicate f.2.2.2.2.1.length [],(List.replicate f.2.2.2.2.1.length false).set 0 true) (.start h.vc) (by simp only;omega);rw[PX.eq_1,hf];simp only[ae,bd,show decide ((0:Int)<=(f.2.2.2.2.1.length:Int))=true by simp,aj,bc,nl,fr,ak (show f.2.2.2.2.1.length<=10000000by omega) (show 24<=1000by omega),ak (show f.2.2.2.2.1.length<=10000000by omega) (show 1<=1000by omega),jn,show ga 0 f.2.2.2.2.1.length=true from cl (i:=0) (by omega),show Int.toNat 0=0from rfl,rI (show 1<=f.2.2.2.2.1.length by omega)];rcases key with⟨r,⟨h1,rfl⟩,h2⟩|⟨⟨b,m⟩,hk,hs,h2⟩;.simp_all
 .have e1:av ((f.2.2.2.2.1.length:Int)-1)=((f.2.2.2.2.1.length-1:Nat):Int):=uv (by omega) (by omega);have Gg:=hk.lb;simp at Gg hk hs;refine⟨b,decide (FM f.2.2.2.2.1 (eL ts fs f) (f.2.2.2.2.1.length-1)=[]),?_,?_,λ_=>hk.eq hs⟩;.rw[h2];simp[ae,e1,cl (show f.2.2.2.2.1.length-1<b.length by omega),aj,bd,hk.get hs (show f.2.2.2.2.1.length-1<f.2.2.2.2.1.length by omega)];rw[lO,db,kv]<;>simp_all
  .rw[db];exact(hk.ok h.vc hs).symm
end
end Go.Proofs.YtkdilffhbejjaaaGreat
