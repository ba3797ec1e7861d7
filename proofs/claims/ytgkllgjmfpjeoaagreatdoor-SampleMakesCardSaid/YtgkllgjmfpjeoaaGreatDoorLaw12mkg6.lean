/- A part of the proof: Law12mkg5, Law12mkg6. -/
import Derived.Test.YtgkllgjmfpjeoaaGreatDoorLaw12mkg4
set_option linter.unusedVariables false
set_option linter.unusedSimpArgs false
namespace Go.Proofs.YtgkllgjmfpjeoaaGreatDoor
open Go Go.bJ Go.Sym
open Classical
structure Fn(ts:List aB)(xs:List (List UInt8))(fs:List Func)(f:Func):Prop where
 img:fE ts xs fs
 ok:eA ts.length f
 code:gZ f.2.2.2.2.1=true
 near:∀x,x∈f.2.2.2.2.1->kJ xs.length (eL fs) f.2.2.2.1 x
noncomputable def dL(ts:List aB)(fs:List Func)(f:Func):Instr->List Int->Option (List Int):=GL ts (eL fs) f.2.2.2.1
section
variable{ts:List aB}{xs:List (List UInt8)}{fs:List Func}{f:Func}
theorem Fn.len(h:Fn ts xs fs f):1<=f.2.2.2.2.1.length/\f.2.2.2.2.1.length<=200:=h.ok.2.2.2.2.2.2.1
theorem Fn.aF(h:Fn ts xs fs f){x:Instr}(hx:x∈f.2.2.2.2.1):dD x=true:=h.ok.2.2.2.2.2.2.2.1 x hx
theorem Fn.rng(h:Fn ts xs fs f):nO f.2.2.2.1 ts.length:=h.ok.2.2.2.2.2.1
theorem Fn.vc(h:Fn ts xs fs f):VC f.2.2.2.2.1:=tB h.code
theorem Fn.ps(h:Fn ts xs fs f){k:Nat}{s:List Int}(hp:PS f.2.2.2.2.1 (dL ts fs f) k s):Jt ts s/\s.length<=512:=by induction hp with|zero=>exact⟨λt ht=>(by cases ht),by simp⟩|step _ hx ha _ ih=>exact acq h.img h.rng (h.aF (aU hx)) (h.near _ (aU hx)) ih.1 ha
theorem ahM{N:Nat}{l:List Instr}(hv:gZ l=true)(hl:l.length<=200)(hN:500<N){i:Nat}(hi:i<l.length):SE N (l,(i:Int))=some (cN (nx l i),0):=by rw[SE.eq_1,Lu (by omega) (by omega),hv];simp only[au,Option.bind_some,show((0:Int)!=0)=false from rfl,aq,show decide ((i:Int)<0)=false by simp,show decide ((i:Int)>=(l.length:Int))=false by grind,Lw (tB hv) hi]
theorem LM{N:Nat}(hN:1300<N)(h:Fn ts xs fs f){b:List (List Int)}{m:List Bool}{o:List Nat}{i:Nat}{x:Instr}{s s':List Int}(hk:Kn f.2.2.2.2.1 (dL ts fs f) b m)(ho:o.length<=1000)(hp:PS f.2.2.2.2.1 (dL ts fs f) i s)(hx:f.2.2.2.2.1[i]?=some x)(ha:dL ts fs f x s=some s'):(∃r:Bool⊕_,(¬qZ f.2.2.2.2.1 (dL ts fs f)/\r=.inl false)/\f68.eR N N (f.2.2.2.2.1,s',cN (nx f.2.2.2.2.1 i),((cN (nx f.2.2.2.2.1 i)).length:Int),0,ts,xs,fs,f.1,f.2.1,f.2.2.1,f.2.2.2.1,f.2.2.2.2.1,f.2.2.2.2.2.1,f.2.2.2.2.2.2,b,m,cN o)=some r)\/∃b' m' p,(Kn f.2.2.2.2.1 (dL ts fs f) b' m'/\Grow b m b' m'/\(∀q,q∈p->T m' q)/\(∀q,T m' q->T m q\/q∈p)/\cntF m'+p.length<=cntF m/\∀k,k∈nx f.2.2.2.2.1 i->T m' k/\b'[k]?=some s')/\f68.eR N N (f.2.2.2.2.1,s',cN (nx f.2.2.2.2.1 i),((cN (nx f.2.2.2.2.1 i)).length:Int),0,ts,xs,fs,f.1,f.2.1,f.2.2.1,f.2.2.2.1,f.2.2.2.2.1,f.2.2.2.2.2.1,f.2.2.2.2.2.2,b,m,cN o)=some (.inr (f.2.2.2.2.1,ts,xs,fs,f.1,f.2.1,f.2.2.1,f.2.2.2.1,f.2.2.2.2.1,f.2.2.2.2.2.1,f.2.2.2.2.2.2,b',m',cN (o++p))):=by
 have hle:=h.len.2;have hv:=h.vc;have key:=fZ (l:=cN (nx f.2.2.2.2.1 i)) (g:=λq:List (List Int)×List Bool×List Nat=>(.inr (f.2.2.2.2.1,ts,xs,fs,f.1,f.2.1,f.2.2.1,f.2.2.2.1,f.2.2.2.2.1,f.2.2.2.2.2.1,f.2.2.2.2.2.2,q.1,q.2.1,cN (o++q.2.2)):Bool⊕_)) (Out:=λr=>¬qZ f.2.2.2.2.1 (dL ts fs f)/\r=.inl false) (Inv:=λj q=>Kn f.2.2.2.2.1 (dL ts fs f) q.1 q.2.1/\Grow b m q.1 q.2.1/\(∀z,z∈q.2.2->T q.2.1 z)/\(∀z,T q.2.1 z->T m z\/z∈q.2.2)/\cntF q.2.1+q.2.2.length<=cntF m/\∀k,k∈(nx f.2.2.2.2.1 i).take j->T q.2.1 k/\q.1[k]?=some s') (Lf:=λk j q=>f68.eR N k (f.2.2.2.2.1,s',cN (nx f.2.2.2.2.1 i),((cN (nx f.2.2.2.2.1 i)).length:Int),j,ts,xs,fs,f.1,f.2.1,f.2.2.1,f.2.2.2.1,f.2.2.2.2.1,f.2.2.2.2.2.1,f.2.2.2.2.2.2,q.1,q.2.1,cN (o++q.2.2))) (λk q _=>by simp only[f68.eR.eq_2,aM,aq]) (λk j y q hy⟨h1,h2,h3,h4,h5,h6⟩=>by
   obtain⟨t,ht,rfl⟩:=xM hy;have hlt:=zi hv (aU ht);have Qc:t<q.2.1.length:=by rw[h1.lm];exact hlt
   have hlb:t<q.1.length:=by rw[h1.lb];exact hlt
   have hL:=az hy;have hj:j<9223372036854775807:=by have:=az ht;have:=qA f.2.2.2.2.1 i;omega
   have hpt:PS f.2.2.2.2.1 (dL ts fs f) t s':=.step hp hx ha (aU ht);have tk:∀{b':List (List Int)}{m':List Bool},Grow q.1 q.2.1 b' m'->(T m' t/\b'[t]?=some s')->∀k,k∈(nx f.2.2.2.2.1 i).take (j+1)->T m' k/\b'[k]?=some s':=λhg hh k hk'=>by
    rw[take_succ ht,List.mem_append,List.mem_singleton]at hk';rcases hk' with hk'|rfl;.obtain⟨g1,g2⟩:=h6 k hk';exact⟨(hg k g1).1,by rw[(hg k g1).2];exact g2⟩
    .exact hh
   rcases Jl Qc with hb|hb
   .obtain⟨v,v1,v2⟩:=h1.met t hb;have v3:=(h.ps v2).2;simp only[f68.eR.eq_2,aJ hL,au,aE hy,Option.bind_some,bS Qc,bS hlb,ai,Int.toNat_natCast,aj hj,hb,Bool.not_true,aq,v1,Py (N:=N) (l:=v) (m:=s') (by omega) (by omega)];by_cases he:v=s';.subst he;refine .inr ⟨q,⟨h1,h2,h3,h4,h5,tk (.refl _ _) ⟨hb,v1⟩⟩,by simp⟩
    .exact .inl ⟨_,⟨λhS=>he (hS.one t v s' v2 hpt),rfl⟩,by rw[bE he,Bool.not_false,au]⟩
   .have hnT:¬T q.2.1 t:=λhT=>by unfold T at hT;rw[hb]at hT;cases hT
    have hc:=sR hb;have hcl:=qB m;rw[hk.lm]at hcl;have hr:room ((cN (o++q.2.2)).length+1) 8=true:=af (by rw[bG,List.length_append];omega) (by omega);have e1:=List.getElem?_eq_getElem hlb;refine .inr ⟨(q.1.set t s',q.2.1.set t true,q.2.2++[t]),⟨h1.add hlt hnT hpt,h2.trans (.add hnT),λz hz=>?_,λz hz=>?_,?_,tk (.add hnT) ⟨(dY Qc).2 (.inl rfl),by simp[hlb]⟩⟩,?_⟩
    .rcases List.mem_append.1 hz with hz|hz;.exact(dY Qc).2 (.inr (h3 z hz))
     .rw[List.mem_singleton.1 hz];exact(dY Qc).2 (.inl rfl)
    .rcases(dY Qc).1 hz with rfl|hz;.exact .inr (List.mem_append.2 (.inr (List.mem_singleton.2 rfl)))
     .rcases h4 z hz with hz|hz;.exact .inl hz
      .exact .inr (List.mem_append.2 (.inl hz))
    .simp only[List.length_append,List.length_cons,List.length_nil];omega
    .simp only[f68.eR.eq_2,aJ hL,au,aE hy,Option.bind_some,bS Qc,bS hlb,ai,Int.toNat_natCast,aj hj,hb,Bool.not_false,hr,e1];rw[<-List.append_assoc,tC (o++q.2.2) [t]];rfl) (k:=N) (s:=(b,m,[])) ⟨hk,.refl _ _,λz hz=>(by cases hz),λz hz=>.inl hz,by simp,λk hk=>by simp at hk⟩ (by rw[bG];have:=qA f.2.2.2.2.1 i;omega);rcases key with⟨r,h1,h2⟩|⟨⟨b',m',p⟩,⟨h1,h2,h3,h4,h5,h6⟩,he⟩;.grind
 .refine .inr ⟨b',m',p,⟨h1,h2,h3,h4,h5,λk hk'=>h6 k (by rw[bG,List.take_length];exact hk')⟩,by simpa using he⟩
structure alW(l:List Instr)(a:Instr->List Int->Option (List Int))(s:List (List Int)×List Bool)(o:List Nat):Prop where
 kn:Kn l a s.1 s.2wq:∀j,j∈o->T s.2 j
 shut:∀j,T s.2 j->j∈o\/xR l a s.1 s.2 j
 few:cntF s.2+o.length<=300
theorem Pz{N:Nat}(hN:1300<N)(h:Fn ts xs fs f):(∃r:Bool⊕_,(¬qZ f.2.2.2.2.1 (dL ts fs f)/\r=.inl false)/\f68.aT N N (f.2.2.2.2.1,ts,xs,fs,f.1,f.2.1,f.2.2.1,f.2.2.2.1,f.2.2.2.2.1,f.2.2.2.2.2.1,f.2.2.2.2.2.2,List.replicate f.2.2.2.2.1.length [],(List.replicate f.2.2.2.2.1.length false).set 0 true,[0])=some r)\/∃b m,(Kn f.2.2.2.2.1 (dL ts fs f) b m/\∀j,T m j->xR f.2.2.2.2.1 (dL ts fs f) b m j)/\f68.aT N N (f.2.2.2.2.1,ts,xs,fs,f.1,f.2.1,f.2.2.1,f.2.2.2.1,f.2.2.2.2.1,f.2.2.2.2.2.1,f.2.2.2.2.2.2,List.replicate f.2.2.2.2.1.length [],(List.replicate f.2.2.2.2.1.length false).set 0 true,[0])=some (.inr (f.2.2.2.2.1,ts,xs,fs,f.1,f.2.1,f.2.2.1,f.2.2.2.1,f.2.2.2.2.1,f.2.2.2.2.2.1,f.2.2.2.2.2.2,b)):=by
 obtain⟨hpos,hle⟩:=h.len;have hv:=h.vc;have hc0:=qB ((List.replicate f.2.2.2.2.1.length false).set 0 true);simp at hc0;have key:=Jr (σ:=List (List Int)×List Bool) (Inv:=alW f.2.2.2.2.1 (dL ts fs f)) (μ:=λs=>cntF s.2) (g:=λs=>(.inr (f.2.2.2.2.1,ts,xs,fs,f.1,f.2.1,f.2.2.1,f.2.2.2.1,f.2.2.2.2.1,f.2.2.2.2.2.1,f.2.2.2.2.2.2,s.1):Bool⊕_)) (Out:=λr=>¬qZ f.2.2.2.2.1 (dL ts fs f)/\r=.inl false) (Lf:=λk s o=>f68.aT N k (f.2.2.2.2.1,ts,xs,fs,f.1,f.2.1,f.2.2.1,f.2.2.2.1,f.2.2.2.2.1,f.2.2.2.2.2.1,f.2.2.2.2.2.2,s.1,s.2,cN o)) (λk s _=>by rw[show cN []=[]from rfl,f68.aT.eq_2,show decide (((([]:List Int).length:Nat):Int)>0)=false from rfl,aq]) (λk s o i hI=>by
  have hi:T s.2 i:=hI.wq i (by simp);have wM:i<f.2.2.2.2.1.length:=by rw[<-hI.kn.lm];exact hi.lt
  have alX:=hI.few;rw[List.length_append,List.length_singleton]at alX;obtain⟨v,v1,v2⟩:=hI.kn.met i hi;obtain⟨v3,v4⟩:=h.ps v2;have hx:=List.getElem?_eq_getElem wM;have hm:=aU hx;obtain⟨r,c,e1,e2⟩:=ahK hN h.img h.rng (h.aF hm) (h.near _ hm) v3 (show v.length<=600by omega);have hlen:(cN (o++[i])).length=o.length+1:=by simp[cN]
  have q1:av (((o.length+1:Nat):Int)-1)=(o.length:Int):=by rw[bn (by omega)];omega
  have q2:(cN (o++[i]))[o.length]?=some (i:Int):=by simp[cN]
  have q3:(cN (o++[i])).take o.length=cN o:=by simp[cN]
  have hib:i<s.1.length:=by rw[hI.kn.lb];exact wM
  simp only[f68.aT.eq_2,hlen,q1,decide_eq_true (show((o.length+1:Nat):Int)>0 by omega),au,bS (show o.length<o.length+1by omega),ai,Int.toNat_natCast,q2,Option.bind_some,show decide ((0:Int)<=(o.length:Int))=true by simp,show decide (o.length<=o.length+1)=true by simp,aE hx,bS hib,v1,e1,ahM h.code hle (show 500<N by omega) wM,show((0:Int)!=0)=false from rfl,q3];cases c with|false=>refine .inl ⟨_,⟨λhS=>?_,rfl⟩,rfl⟩;obtain⟨s',hs'⟩:=hS.go i v _ v2 hx;unfold dL at hs';rw[e2]at hs';cases hs'|true=>
    have ha:dL ts fs f f.2.2.2.2.1[i] v=some r:=e2;simp only[Bool.not_true,aq,Option.bind_some];rcases LM hN h (o:=o) hI.kn (by omega) v2 hx ha with⟨z,⟨z1,rfl⟩,z2⟩|⟨b',m',p,⟨g1,g2,g3,g4,g5,g6⟩,g7⟩;.exact .inl ⟨_,⟨z1,rfl⟩,by rw[z2];rfl⟩
    .refine .inr ⟨(b',m'),p,⟨g1,λj hj=>?_,λj hj=>?_,?_⟩,g5,by rw[g7];rfl⟩
     .rcases List.mem_append.1 hj with hj|hj;.exact(g2 j (hI.wq j (by simp[hj]))).1
      .exact g3 j hj
     .rcases g4 j hj with hj|hj
      .by_cases hji:j=i;.subst hji;exact .inr ⟨_,v,r,hx,by rw[(g2 j hj).2];exact v1,ha,g6⟩
       .rcases hI.shut j hj with hs|hs
        .rcases List.mem_append.1 hs with hs|hs;.exact .inl (List.mem_append.2 (.inl hs))
         .exact absurd (List.mem_singleton.1 hs) hji
        .exact .inr (hs.grow hj g2)
      .exact .inl (List.mem_append.2 (.inr hj))
     .show cntF m'+(o++p).length<=300;rw[List.length_append];omega) N (List.replicate f.2.2.2.2.1.length [],(List.replicate f.2.2.2.2.1.length false).set 0 true) [0] ⟨.start hv,λj hj=>by rw[List.mem_singleton.1 hj];exact(jE hpos 0).2 rfl,λj hj=>by rw[(jE hpos j).1 hj];exact .inl (List.mem_singleton.2 rfl),by simp only[List.length_singleton];omega⟩ (by simp only[List.length_singleton];omega);rcases key with⟨r,h1,h2⟩|⟨⟨b,m⟩,hI,he⟩;.exact .inl ⟨r,h1,h2⟩
 .refine .inr ⟨b,m,⟨hI.kn,λj hj=>?_⟩,he⟩;rcases hI.shut j hj with hs|hs<;>grind
noncomputable def uP(ts:List aB)(fs:List Func)(f:Func):List Int:=(List.range f.2.2.2.2.1.length).map λk=>nS ts (EI f.2.2.2.2.1 (dL ts fs f) k)
theorem Fn.LN(h:Fn ts xs fs f)(k:Nat):Jt ts (EI f.2.2.2.2.1 (dL ts fs f) k)/\(Go.Proofs.YtgkllgjmfpjeoaaGreatDoor.EI f.2.2.2.2.1 (dL ts fs f) k).length<=512:=by
 unfold Go.Proofs.YtgkllgjmfpjeoaaGreatDoor.EI;split;.rename_i e;exact h.ps e.choose_spec
 .exact⟨λt ht=>(by cases ht),by simp⟩
theorem Fn.acw(h:Fn ts xs fs f){y:Int}(hy:y∈uP ts fs f):0<=y/\y<=1000000:=by obtain⟨k,_,rfl⟩:=List.mem_map.1 hy;obtain⟨h1,h2⟩:=h.LN k;have:=h1.nS h.img;omega
theorem oH(ts:List aB)(fs:List Func)(f:Func):(uP ts fs f).length=f.2.2.2.2.1.length:=by simp[uP]
theorem Ux{N:Nat}(hN:1300<N)(h:Fn ts xs fs f):∃r c,F68 N (ts,xs,fs,f.1,f.2.1,f.2.2.1,f.2.2.2.1,f.2.2.2.2.1,f.2.2.2.2.2.1,f.2.2.2.2.2.2)=some (r,c)/\(c=true↔qZ f.2.2.2.2.1 (dL ts fs f))/\(c=true->r=uP ts fs f):=by
 obtain⟨hpos,hle⟩:=h.len;have pre:∀X:Bool⊕_,f68.aT N N (f.2.2.2.2.1,ts,xs,fs,f.1,f.2.1,f.2.2.1,f.2.2.2.1,f.2.2.2.2.1,f.2.2.2.2.2.1,f.2.2.2.2.2.2,List.replicate f.2.2.2.2.1.length [],(List.replicate f.2.2.2.2.1.length false).set 0 true,[0])=some X->F68 N (ts,xs,fs,f.1,f.2.1,f.2.2.1,f.2.2.2.1,f.2.2.2.2.1,f.2.2.2.2.2.1,f.2.2.2.2.2.2)=(match X with|.inl o=>some ([],o)|.inr a=>(aF (decide (0<=(a.1.length:Int))) (aF (decide (0<=(a.1.length:Int))) (aF (decide ((Int.toNat (a.1.length:Int))<=(Int.toNat (a.1.length:Int)))&&room (Int.toNat (a.1.length:Int)) 8) ((f68.yX N N (a.1,(a.2.2.2.2.2.2.2.2.2.2.2.length:Int),0,a.2.1,a.2.2.1,a.2.2.2.1,a.2.2.2.2.1,a.2.2.2.2.2.1,a.2.2.2.2.2.2.1,a.2.2.2.2.2.2.2.1,a.2.2.2.2.2.2.2.2.1,a.2.2.2.2.2.2.2.2.2.1,a.2.2.2.2.2.2.2.2.2.2.1,a.2.2.2.2.2.2.2.2.2.2.2,(List.replicate (Int.toNat (a.1.length:Int)) (0:Int)))).bind λp=>(match p with|.inl q=>some ([],q)|.inr c=>(aF (fP (av ((c.1.length:Int)-1)) c.2.1.length) ((c.2.1[(Int.toNat (av ((c.1.length:Int)-1)))]?).bind λr=>some (c.2.2,((r.length:Int)==0)))))))))):=λX hX=>by rw[F68.eq_1];simp only[Int.toNat_natCast,show decide ((0:Int)<=(f.2.2.2.2.1.length:Int))=true by simp,ai,Nat.le_refl,decide_true,Bool.true_and,af (show f.2.2.2.2.1.length<=10000000by omega) (show 24<=1000by omega),af (show f.2.2.2.2.1.length<=10000000by omega) (show 1<=1000by omega),List.length_replicate,show fP 0 f.2.2.2.2.1.length=true from bS (i:=0) (by omega),show Int.toNat 0=0from rfl,qD (show 1<=f.2.2.2.2.1.length by omega),Option.bind_some,hX];rfl
 rcases Pz hN h with⟨r,⟨h1,rfl⟩,h2⟩|⟨b,m,⟨hk,hs⟩,h2⟩;.grind
 .have Ff:=hk.lb;obtain⟨v,⟨hv,hvb⟩,he2⟩:=eS (l:=b) (g:=λv:List Int=>(.inr (f.2.2.2.2.1,b,v):Bool⊕_)) (Inv:=λi v=>v.length=f.2.2.2.2.1.length/\∀k,k<i->v[k]?=some (nS ts (EI f.2.2.2.2.1 (dL ts fs f) k))) (Lf:=λk i v=>f68.yX N k (f.2.2.2.2.1,(b.length:Int),i,ts,xs,fs,f.1,f.2.1,f.2.2.1,f.2.2.2.1,f.2.2.2.2.1,f.2.2.2.2.2.1,f.2.2.2.2.2.2,b,v)) (λk v _=>by simp only[f68.yX.eq_2,aM,aq]) (λk i y v hy⟨hv,hvb⟩=>by
    have hi:=az hy;have e:=hk.get hs (k:=i) (by omega);rw[hy]at e;obtain⟨o1,o2⟩:=h.LN i;rw[<-Option.some.inj e]at o1 o2;have hiv:i<v.length:=by omega
    obtain⟨b1,b2⟩:=o1.nS h.img;refine⟨v.set i (nS ts y),⟨by simp[hv],λj hj=>?_⟩,?_⟩
    .by_cases hji:j=i;.subst hji;rw[List.getElem?_set_self hiv,<-Option.some.inj e]
     .rw[List.getElem?_set,if_neg (Ne.symm hji)];exact hvb j (by omega)
    .simp only[f68.yX.eq_2,aJ hi,au,bS hi,ai,Int.toNat_natCast,hy,Option.bind_some,GA hN h.img f o1 (show y.length<=1000by omega),show((0:Int)!=0)=false from rfl,aq,bS hiv,List.getElem?_eq_getElem hiv,aj (show i<9223372036854775807by omega),iD (n:=nS ts y) (by omega)]) (k:=N) (s:=List.replicate f.2.2.2.2.1.length 0) ⟨by simp,λj hj=>by omega⟩ (by omega);have hvs:v=uP ts fs f:=by
   apply List.ext_getElem?;intro k;by_cases NZ:k<f.2.2.2.2.1.length;.rw[hvb k (by omega)];unfold uP<;>grind
   .rw[List.getElem?_eq_none (by omega),List.getElem?_eq_none (by rw[oH];omega)]
  have e1:av ((f.2.2.2.2.1.length:Int)-1)=((f.2.2.2.2.1.length-1:Nat):Int):=tD (by omega) (by omega);rw[Ff]at he2;refine⟨v,decide (EI f.2.2.2.2.1 (dL ts fs f) (f.2.2.2.2.1.length-1)=[]),?_,?_,λ_=>hvs⟩;.rw[pre _ h2];simp[Int.toNat_natCast,show decide ((0:Int)<=(f.2.2.2.2.1.length:Int))=true by simp,ai,Nat.le_refl,decide_true,Bool.true_and,af (show f.2.2.2.2.1.length<=10000000by omega) (show 8<=1000by omega),Ff,he2,Option.bind_some,e1,bS (show f.2.2.2.2.1.length-1<f.2.2.2.2.1.length by omega),hk.get hs (show f.2.2.2.2.1.length-1<f.2.2.2.2.1.length by omega)];rw[Bool.eq_iff_iff,decide_eq_true_eq,beq_iff_eq]<;>simp_all
  .rw[decide_eq_true_eq];exact(hk.ok h.vc hs).symm
end
end Go.Proofs.YtgkllgjmfpjeoaaGreatDoor
namespace Go.Proofs.YtgkllgjmfpjeoaaGreatDoor
open Go Go.bJ Go.Sym
open Classical
section
variable{ts:List aB}{xs:List (List UInt8)}{fs:List Func}{f:Func}
theorem LO{N:Nat}(hN:1300<N)(h:Fn ts xs fs f){b:List (List Int)}{m:List Bool}{c:Bool}{g:Int}{i:Nat}{x:Instr}{s s':List Int}(hk:Kn f.2.2.2.2.1 (dL ts fs f) b m)(hp:PS f.2.2.2.2.1 (dL ts fs f) i s)(hx:f.2.2.2.2.1[i]?=some x)(ha:dL ts fs f x s=some s'):(∃r:Bool⊕_,(¬qZ f.2.2.2.2.1 (dL ts fs f)/\r=.inl false)/\f78.sH N N (g,f.2.2.2.2.1,c,(i:Int),s',cN (nx f.2.2.2.2.1 i),0,ts,xs,fs,b,m)=some r)\/∃b' m' c',(Kn f.2.2.2.2.1 (dL ts fs f) b' m'/\Grow b m b' m'/\(c'=false->c=false/\b'=b/\m'=m)/\cntF m'<=cntF m/\(c'=true->c=true\/cntF m'<cntF m)/\∀k,k∈nx f.2.2.2.2.1 i->T m' k/\b'[k]?=some s')/\f78.sH N N (g,f.2.2.2.2.1,c,(i:Int),s',cN (nx f.2.2.2.2.1 i),0,ts,xs,fs,b,m)=some (.inr (g,f.2.2.2.2.1,c',(i:Int),ts,xs,fs,b',m')):=by
 have hv:=h.vc;have key:=fZ (l:=cN (nx f.2.2.2.2.1 i)) (g:=λq:List (List Int)×List Bool×Bool=>(.inr (g,f.2.2.2.2.1,q.2.2,(i:Int),ts,xs,fs,q.1,q.2.1):Bool⊕_)) (Out:=λr=>¬qZ f.2.2.2.2.1 (dL ts fs f)/\r=.inl false) (Inv:=λj q=>Kn f.2.2.2.2.1 (dL ts fs f) q.1 q.2.1/\Grow b m q.1 q.2.1/\(q.2.2=false->c=false/\q.1=b/\q.2.1=m)/\cntF q.2.1<=cntF m/\(q.2.2=true->c=true\/cntF q.2.1<cntF m)/\∀k,k∈(nx f.2.2.2.2.1 i).take j->T q.2.1 k/\q.1[k]?=some s') (Lf:=λk j q=>f78.sH N k (g,f.2.2.2.2.1,q.2.2,(i:Int),s',cN (nx f.2.2.2.2.1 i),j,ts,xs,fs,q.1,q.2.1)) (λk q _=>by simp only[f78.sH.eq_2,aM,aq]) (λk j y q hy⟨h1,h2,h3,h4,h5,h6⟩=>by
   obtain⟨t,ht,rfl⟩:=xM hy;have hlt:=zi hv (aU ht);have Qc:t<q.2.1.length:=by rw[h1.lm];exact hlt
   have hlb:t<q.1.length:=by rw[h1.lb];exact hlt
   have hL:=az hy;have hj:j<9223372036854775807:=by have:=az ht;have:=qA f.2.2.2.2.1 i;omega
   have hpt:PS f.2.2.2.2.1 (dL ts fs f) t s':=.step hp hx ha (aU ht);have tk:∀{b':List (List Int)}{m':List Bool},Grow q.1 q.2.1 b' m'->(T m' t/\b'[t]?=some s')->∀k,k∈(nx f.2.2.2.2.1 i).take (j+1)->T m' k/\b'[k]?=some s':=λhg hh k hk'=>by
    rw[take_succ ht,List.mem_append,List.mem_singleton]at hk';rcases hk' with hk'|rfl;.obtain⟨g1,g2⟩:=h6 k hk';exact⟨(hg k g1).1,by rw[(hg k g1).2];exact g2⟩
    .exact hh
   rcases Jl Qc with hb|hb
   .obtain⟨v,v1,v2⟩:=h1.met t hb;have v3:=(h.ps v2).2;simp only[f78.sH.eq_2,aJ hL,au,aE hy,Option.bind_some,bS Qc,bS hlb,ai,Int.toNat_natCast,aj hj,hb,Bool.not_true,aq,v1,wB (N:=N) (l:=v) (m:=s') (by omega) (by omega)];by_cases he:v=s';.subst he;refine .inr ⟨q,⟨h1,h2,h3,h4,h5,tk (.refl _ _) ⟨hb,v1⟩⟩,by simp⟩
    .exact .inl ⟨_,⟨λhS=>he (hS.one t v s' v2 hpt),rfl⟩,by rw[bE he,Bool.not_false,au]⟩
   .have hnT:¬T q.2.1 t:=λhT=>by unfold T at hT;rw[hb]at hT;cases hT
    have hc:=sR hb;have e1:=List.getElem?_eq_getElem hlb;refine .inr ⟨(q.1.set t s',q.2.1.set t true,true),⟨h1.add hlt hnT hpt,h2.trans (.add hnT),(λe=>by cases e),by simp only;omega,λ_=>.inr (by simp only;omega),tk (.add hnT) ⟨(dY Qc).2 (.inl rfl),by simp[hlb]⟩⟩,?_⟩;simp only[f78.sH.eq_2,aJ hL,au,aq,aE hy,Option.bind_some,bS Qc,bS hlb,ai,Int.toNat_natCast,aj hj,hb,Bool.not_false,e1]) (k:=N) (s:=(b,m,c)) ⟨hk,.refl _ _,λe=>⟨e,rfl,rfl⟩,Nat.le_refl _,.inl,λk hk=>by simp at hk⟩ (by rw[bG];have:=qA f.2.2.2.2.1 i;omega);rcases key with⟨r,h1,h2⟩|⟨⟨b',m',c'⟩,⟨h1,h2,h3,h4,h5,h6⟩,he⟩;.grind
 .exact .inr ⟨b',m',c',⟨h1,h2,h3,h4,h5,λk hk'=>h6 k (by rw[bG,List.take_length];exact hk')⟩,he⟩
theorem LP{N:Nat}(hN:1300<N)(h:Fn ts xs fs f){g:Int}(hf:idx fs g=some f){b:List (List Int)}{m:List Bool}(hk:Kn f.2.2.2.2.1 (dL ts fs f) b m):(∃r:Bool⊕_,(¬qZ f.2.2.2.2.1 (dL ts fs f)/\r=.inl false)/\f78.sI N N (g,f.2.2.2.2.1,false,0,ts,xs,fs,b,m)=some r)\/∃b' m' c',(Kn f.2.2.2.2.1 (dL ts fs f) b' m'/\(c'=false->∀j,T m' j->xR f.2.2.2.2.1 (dL ts fs f) b' m' j)/\(c'=true->cntF m'<cntF m))/\f78.sI N N (g,f.2.2.2.2.1,false,0,ts,xs,fs,b,m)=some (.inr (g,f.2.2.2.2.1,c',ts,xs,fs,b',m')):=by
 have hle:=h.len.2;have hv:=h.vc;have key:=fZ (l:=f.2.2.2.2.1) (g:=λq:List (List Int)×List Bool×Bool=>(.inr (g,f.2.2.2.2.1,q.2.2,ts,xs,fs,q.1,q.2.1):Bool⊕_)) (Out:=λr=>¬qZ f.2.2.2.2.1 (dL ts fs f)/\r=.inl false) (Inv:=λj q=>Kn f.2.2.2.2.1 (dL ts fs f) q.1 q.2.1/\(q.2.2=false->q.1=b/\q.2.1=m/\∀i,i<j->T m i->xR f.2.2.2.2.1 (dL ts fs f) b m i)/\cntF q.2.1<=cntF m/\(q.2.2=true->cntF q.2.1<cntF m)) (Lf:=λk j q=>f78.sI N k (g,f.2.2.2.2.1,q.2.2,j,ts,xs,fs,q.1,q.2.1)) (λk q _=>by simp only[f78.sI.eq_2,aM,aq]) (λk i x q hx⟨h1,h2,h3,h4⟩=>by
   have hi:=az hx;have him:i<q.2.1.length:=by rw[h1.lm];exact hi
   have hib:i<q.1.length:=by rw[h1.lb];exact hi
   rcases Jl him with hb|hb;.obtain⟨v,v1,v2⟩:=h1.met i hb;obtain⟨v3,v4⟩:=h.ps v2;have hm:=aU hx;obtain⟨r,c,e1,e2⟩:=acs hN h.img hf h.rng (h.aF hm) (h.near _ hm) v3 (show v.length<=600by omega);simp only[f78.sI.eq_2,aJ hi,au,bS him,bS hib,ai,Int.toNat_natCast,hb,Option.bind_some,Bool.not_true,aq,aE hx,v1,e1,xQ hv hi];cases c with|false=>refine .inl ⟨_,⟨λhS=>?_,rfl⟩,rfl⟩;obtain⟨s',hs'⟩:=hS.go i v _ v2 hx;unfold dL at hs';rw[e2]at hs';cases hs'|true=>
     have ha:dL ts fs f x v=some r:=e2;simp only[Bool.not_true,aq];rcases LO hN h (c:=q.2.2) (g:=g) h1 v2 hx ha with⟨z,⟨z1,rfl⟩,z2⟩|⟨b',m',c',⟨g1,g2,g3,g4,g5,g6⟩,g7⟩;.exact .inl ⟨_,⟨z1,rfl⟩,by rw[z2];rfl⟩
     .refine .inr ⟨(b',m',c'),⟨g1,λhc=>?_,by simp only;omega,λhc=>?_⟩,by rw[g7];simp only[Option.bind_some,aj (show i<9223372036854775807by omega)]⟩
      .obtain⟨q1,q2,q3⟩:=g3 hc;obtain⟨q4,q5,q6⟩:=h2 q1;simp only;refine⟨by rw[q2,q4],by rw[q3,q5],λj hj hT=>?_⟩;by_cases hji:j=i;.subst hji;rw[q2,q3,q4,q5]at g6;exact⟨x,v,r,hx,by rw[<-q4];exact v1,ha,g6⟩
       .exact q6 j (by omega) hT
      .rcases g5 hc with hc|hc;.have:=h4 hc;simp only at*;omega
       .simp only at*;omega
   .refine .inr ⟨q,⟨h1,λhc=>?_,h3,h4⟩,by simp only[f78.sI.eq_2,aJ hi,au,bS him,ai,Int.toNat_natCast,hb,Option.bind_some,Bool.not_false,aj (show i<9223372036854775807by omega)]⟩;obtain⟨q4,q5,q6⟩:=h2 hc;refine⟨q4,q5,λj hj hT=>?_⟩;by_cases hji:j=i;.subst hji;rw[q5]at hb;unfold T at hT;rw[hb]at hT;cases hT
    .exact q6 j (by omega) hT) (k:=N) (s:=(b,m,false)) ⟨hk,λ_=>⟨rfl,rfl,λi hi=>by omega⟩,Nat.le_refl _,λe=>by cases e⟩ (by omega);rcases key with⟨r,h1,h2⟩|⟨⟨b',m',c'⟩,⟨h1,h2,h3,h4⟩,he⟩;.grind
 .refine .inr ⟨b',m',c',⟨h1,λhc j hj=>?_,h4⟩,he⟩;obtain⟨g1,g2,g3⟩:=h2 hc;simp at g1 g2;rw[g1,g2];rw[g2]at hj;exact g3 j (by rw[<-hk.lm];exact hj.lt) hj
theorem Jy{N:Nat}(hN:1300<N)(h:Fn ts xs fs f){g:Int}(hf:idx fs g=some f):∃r c,F78 N (ts,xs,fs,g)=some (r,c)/\(c=true↔qZ f.2.2.2.2.1 (dL ts fs f))/\(c=true->r=(List.range f.2.2.2.2.1.length).map (EI f.2.2.2.2.1 (dL ts fs f))):=by
 obtain⟨hpos,hle⟩:=h.len;have hc0:=qB ((List.replicate f.2.2.2.2.1.length false).set 0 true);simp at hc0;have key:=Ch (σ:=List (List Int)×List Bool) (Inv:=λs=>Kn f.2.2.2.2.1 (dL ts fs f) s.1 s.2) (C2:=λs=>∀j,T s.2 j->xR f.2.2.2.2.1 (dL ts fs f) s.1 s.2 j) (μ:=λs=>cntF s.2) (g:=λs=>(.inr (f.2.2.2.2.1,s.1):Bool⊕_)) (Out:=λr=>¬qZ f.2.2.2.2.1 (dL ts fs f)/\r=.inl false) (Lf:=λk c s=>f78.aT N k (g,f.2.2.2.2.1,c,ts,xs,fs,s.1,s.2)) (λk s _ _=>by rw[f78.aT.eq_2];rfl) (λk s hI=>by
   rcases LP hN h hf hI with⟨z,⟨z1,rfl⟩,z2⟩|⟨b',m',c',⟨g1,g2,g3⟩,g4⟩;.exact .inl ⟨_,⟨z1,rfl⟩,by rw[f78.aT.eq_2,au,z2];rfl⟩
   .exact .inr ⟨(b',m'),c',g1,g2,g3,by rw[f78.aT.eq_2,au,g4];rfl⟩) N (List.replicate f.2.2.2.2.1.length [],(List.replicate f.2.2.2.2.1.length false).set 0 true) (.start h.vc) (by simp only;omega);rw[F78.eq_1,hf];simp only[Option.bind_some,Int.toNat_natCast,show decide ((0:Int)<=(f.2.2.2.2.1.length:Int))=true by simp,ai,Nat.le_refl,decide_true,Bool.true_and,af (show f.2.2.2.2.1.length<=10000000by omega) (show 24<=1000by omega),af (show f.2.2.2.2.1.length<=10000000by omega) (show 1<=1000by omega),List.length_replicate,show fP 0 f.2.2.2.2.1.length=true from bS (i:=0) (by omega),show Int.toNat 0=0from rfl,qD (show 1<=f.2.2.2.2.1.length by omega)];rcases key with⟨r,⟨h1,rfl⟩,h2⟩|⟨⟨b,m⟩,hk,hs,h2⟩;.simp_all
 .have e1:av ((f.2.2.2.2.1.length:Int)-1)=((f.2.2.2.2.1.length-1:Nat):Int):=tD (by omega) (by omega);have Ff:=hk.lb;simp at Ff hk hs;refine⟨b,decide (EI f.2.2.2.2.1 (dL ts fs f) (f.2.2.2.2.1.length-1)=[]),?_,?_,λ_=>hk.eq hs⟩;.rw[h2];simp[Option.bind_some,e1,bS (show f.2.2.2.2.1.length-1<b.length by omega),ai,Int.toNat_natCast,hk.get hs (show f.2.2.2.2.1.length-1<f.2.2.2.2.1.length by omega)];rw[Bool.eq_iff_iff,decide_eq_true_eq,beq_iff_eq]<;>simp_all
  .rw[decide_eq_true_eq];exact(hk.ok h.vc hs).symm
end
end Go.Proofs.YtgkllgjmfpjeoaaGreatDoor
