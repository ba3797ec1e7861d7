/- A part of the proof: Law21th, Law21ti. -/
import Derived.Test.YtkdilffhbejjaaaGreatLaw21tg
set_option linter.unusedVariables false
set_option linter.unusedSimpArgs false
namespace Go.Proofs.YtkdilffhbejjaaaGreat
open Go Go.bM Go.Sym
open Classical
noncomputable def up(a s:Int):Int:=(s+a-1)/a*a
theorem Hr(s:Int):up 1 s=s:=by unfold up;omega
theorem xd(s:Int):up 8 s=(s+7)/8*8:=by unfold up;omega
noncomputable def AL(a:Int):Prop:=a=1\/a=8
theorem oK{a s:Int}(ha:AL a)(hs:0<=s):s<=up a s/\up a s<=s+7:=by
 rcases ha with rfl|rfl;.rw[Hr];omega
 .rw[xd];omega
theorem Hs{a s C:Int}(ha:AL a)(hC:C%8=0)(hs:s<=C):up a s<=C:=by
 rcases ha with rfl|rfl;.rw[Hr];omega
 .rw[xd];omega
theorem YJ(n:Nat)(hn:n<18446744073709551616):(BitVec.ofNat 64 n&&&~~~(7#64)).toNat=n/8*8:=by
 have e:n/8*8=(n>>>3)<<<3:=by omega
 rw[e];refine Nat.eq_of_testBit_eq λk=>?_;rw[BitVec.toNat_and,Nat.testBit_and,nb,pt hn,BitVec.testBit_toNat,BitVec.getLsbD_not,Nat.testBit_shiftLeft,Nat.testBit_shiftRight];rcases f6 k 64with h|h
 .rw[bm h,fr];by_cases h3:k<3
  .have:k=0\/k=1\/k=2:=by omega
   rcases this with rfl|rfl|rfl<;>simp
  .rw[bm (show k>=3by omega),fr,show 3+(k-3)=k by omega];have:(7#64).getLsbD k=false:=by rw[BitVec.getLsbD_ofNat,rm (x:=7) (i:=k) (i7 (show 7<2^3by omega) (nn (by omega) (by omega))),f0]
   grind
 .have h1:n.testBit k=false:=rm (i7 hn (by rw[show 18446744073709551616=2^64by decide];exact nn (by omega) h))<;>grind
theorem rC{a s:Int}(ha:AL a)(hs:0<=s/\s<=4000000):pq .i64 (av ((av (s+a))-(1:Int))) (av (a-(1:Int)))=up a s:=by
 rcases ha with rfl|rfl
 .rw[aI (n:=s+1) (by omega),show s+1-1=s by omega,aI (by omega),show av ((1:Int)-1)=0from by decide,Hr];obtain⟨n,rfl⟩:=du hs.1;unfold pq;have e:(BitVec.ofInt IntKind.i64.bits ((n:Nat):Int)&&&~~~(BitVec.ofInt IntKind.i64.bits 0)).toNat=n:=by show(BitVec.ofInt 64 ((n:Nat):Int)&&&~~~(BitVec.ofInt 64 0)).toNat=n;rw[show~~~(BitVec.ofInt 64 0)=BitVec.allOnes 64by decide,BitVec.and_allOnes,mt,nb];omega
  rw[e];exact aI (by omega)
 .rw[aI (n:=s+8) (by omega),show s+8-1=s+7by omega,aI (by omega),show av ((8:Int)-1)=7from by decide,xd];obtain⟨n,rfl⟩:=du hs.1;unfold pq;have e:(BitVec.ofInt IntKind.i64.bits ((n:Int)+7)&&&~~~(BitVec.ofInt IntKind.i64.bits 7)).toNat=(n+7)/8*8:=by show(BitVec.ofInt 64 ((n:Int)+7)&&&~~~(BitVec.ofInt 64 7)).toNat=_;rw[show(n:Int)+7=((n+7:Nat):Int)by omega,mt];exact YJ _ (by omega)
  rw[e,show IntKind.i64.wrap (((n+7)/8*8:Nat):Int)=(((n+7)/8*8:Nat):Int)from aI (by omega)];omega
theorem A1{N:Nat}{a s:Int}(ha:AL a)(hs:0<=s/\s<=4000000):L5 N (s,a)=some (up a s):=by
 rw[L5.eq_1];rcases ha with rfl|rfl;.rw[show(!decide ((1:Int)=0))=true from rfl,aj,aI (n:=s+1) (by omega),show s+1-1=s by omega,aI (n:=s) (by omega),Int.tdiv_one,aI (n:=s) (by omega),aI (by omega),Hr,Int.mul_one]
 .rw[show(!decide ((8:Int)=0))=true from rfl,aj,aI (n:=s+8) (by omega),show s+8-1=s+7by omega,aI (n:=s+7) (by omega),Int.tdiv_eq_ediv_of_nonneg (by omega),aI (n:=(s+7)/8) (by omega),aI (by omega),xd]
abbrev Ex:=Int×Int
noncomputable def fC(x:List Ex)(i:Int):Ex:=x.getD i.toNat (0,1)
noncomputable def fQ(C:Int)(x:List Ex):Int->Int->List Field->List Int×Int×Int|s,a,[]=>([],s,a)|s,a,f::r=>let q:=fQ C x (min C (up (fC x f.2).2 s+(fC x f.2).1)) (max a (fC x f.2).2) r;(up (fC x f.2).2 s::q.1,q.2.1,q.2.2)
noncomputable def EX(C:Int)(x:List Ex):Prop:=∀e,e∈x->AL e.2/\0<=e.1/\e.1<=C
theorem EX.get{C:Int}(hC:0<=C){x:List Ex}(h:EX C x)(i:Int):AL (fC x i).2/\0<=(fC x i).1/\(fC x i).1<=C:=by unfold fC;rw[ci];cases e:x[i.toNat]?with|none=>exact⟨.inl rfl,by show(0:Int)<=0;omega,hC⟩|some y=>exact h y (aU e)
theorem AL.max{a b:Int}(ha:AL a)(hb:AL b):AL (max a b):=by grind
theorem pE{C:Int}(hC:0<=C){x:List Ex}(hx:EX C x):∀(fs:List Field)(s a:Int),0<=s->s<=C->AL a->(0<=(fQ C x s a fs).2.1/\(fQ C x s a fs).2.1<=C)/\AL (fQ C x s a fs).2.2/\(fQ C x s a fs).1.length=fs.length|[],s,a,h0,hs,ha=>⟨⟨h0,hs⟩,ha,rfl⟩|f::r,s,a,h0,hs,ha=>by obtain⟨e1,e2,e3⟩:=hx.get hC f.2;have hu:=oK e1 h0;obtain⟨g1,g2,g3⟩:=pE hC hx r (min C (up (fC x f.2).2 s+(fC x f.2).1)) (max a (fC x f.2).2) (by omega) (by omega) (ha.max e1);simp only[fQ]<;>grind
theorem rD{x:List Ex}{i:Int}(h:0<=i/\i<x.length):idx x i=some (fC x i):=by refine oG h.1 ?_;unfold fC<;>grind
theorem NW{a b:List Ex}{i:Int}(h:0<=i/\i<a.length):fC (a++b) i=fC a i:=C7 _ (by omega)
theorem VO{N:Nat}{x b:List Ex}(hx:EX 1048576 x){fs:List Field}(hl:fs.length<=1000)(c1 c2:Int):∀(r pre:List Field)(os:List Int)(s a:Int)(k:Nat),fs=pre++r->os.length=pre.length->(∀f,f∈r->0<=f.2/\f.2<x.length)->0<=s->s<=1048576->AL a->r.length<k->f124.bz N k (x++b,fs,(fs.length:Int),(pre.length:Int),c1,c2,os++List.replicate r.length 0,s,a)=some (c1,c2,os++(fQ 1048576 x s a r).1,(fQ 1048576 x s a r).2.1,(fQ 1048576 x s a r).2.2):=by intro r;induction r with|nil=>intro pre os s a k he _ _ _ _ _ hk;obtain⟨k,rfl⟩:∃k',k=k'+1:=⟨k-1,by simp at hk;omega⟩;simp at he;subst he;rw[f124.bz.eq_2,aJ];rfl|cons f r ih=>
 intro pre os s a k he ho hf h0 hs ha hk;obtain⟨k,rfl⟩:∃k',k=k'+1:=⟨k-1,by simp at hk;omega⟩;have hlen:pre.length+(r.length+1)=fs.length:=by rw[he];simp
 have hxf:idx fs (pre.length:Int)=some f:=by rw[he];exact rz _ _ _
 have hf2:=hf f cb;have hif:idx (x++b) f.2=some (fC x f.2):=by rw[rD (by rw[ba];omega),NW hf2]
 obtain⟨e1,e2,e3⟩:=hx.get (by omega) f.2;have hu:=oK e1 h0;have huc:=Hs (C:=1048576) e1 (by omega) hs;have J1:(os++List.replicate (f::r).length (0:Int)).length=fs.length:=by simp[ho];omega
 have Mi:∀v:Int,(os++List.replicate (f::r).length (0:Int)).set pre.length v=(os++[v])++List.replicate r.length 0:=λv=>by rw[pr _ _ (by omega),eQ,pb,show pre.length-os.length=0 by omega,List.set_cons_zero,bi];rfl
 have ih:=ih (pre++[f]) (os++[up (fC x f.2).2 s]) (min 1048576 (up (fC x f.2).2 s+(fC x f.2).1)) (max a (fC x f.2).2) k (by rw[he];simp) (by simp[ho]) (λg h=>hf g (dl _ h)) (by omega) (by omega) (ha.max e1) (by simp at hk;omega);rw[f124.bz.eq_2,aG (by omega),aq,hxf,ae,hif,ae,pz (by rw[J1];omega),aj,rC e1 ⟨h0,by omega⟩,bd,lC (by rw[J1];omega),ae,Mi,pz (by simp[ho];omega),aj];have hg:(os++[up (fC x f.2).2 s]++List.replicate r.length (0:Int))[pre.length]?=some (up (fC x f.2).2 s):=by rw[bi,kx (by omega),ho,pm];rfl
 rw[hg,ae,ai (by omega),aI (by omega)];rw[show((pre++[f]).length:Int)=((pre.length+1:Nat):Int)by simp]at ih;rw[ih];simp only[fQ];rw[bi];rfl
theorem VP{N:Nat}{x b:List Ex}(hN:1100<N)(hx:EX 1048576 x){fs:List Field}(hl:fs.length<=1000)(hf:∀f,f∈fs->0<=f.2/\f.2<x.length):LW N (x++b,fs)=some ((fQ 1048576 x 0 1 fs).1,up (fQ 1048576 x 0 1 fs).2.2 (fQ 1048576 x 0 1 fs).2.1,(fQ 1048576 x 0 1 fs).2.2):=by
 have h0:decide (0<=(fs.length:Int))=true:=bm (by omega);have hr:(decide (Int.toNat (fs.length:Int)<=Int.toNat (fs.length:Int))&&room (Int.toNat (fs.length:Int)) 8)=true:=by rw[bm (bc _),ak (by omega) (by omega)];rfl
 have:=VO (N:=N) (b:=b) hx hl 0 0 fs [] [] 0 1 N rfl rfl hf (by omega) (by omega) (.inl rfl) (by omega);simp at this;obtain⟨b1,b2,_⟩:=pE (C:=1048576) (by omega) hx fs 0 1 (by omega) (by omega) (.inl rfl);rw[LW.eq_1,h0,aj,aj,hr,aj,bd,this,ae];rw[rC b2 ⟨b1.1,by omega⟩]
theorem xe{α β:Type}{g:α->β}{x:List α}{i:Int}{y:α}(h:idx x i=some y):idx (x.map g) i=some (g y):=by grind[idx]
theorem VQ{N:Nat}{x:List Ex}(hx:EX 1000000 x){fs:List Field}(hl:fs.length<=1000):∀(r pre:List Field)(os:List Int)(s a:Int)(k:Nat),fs=pre++r->os.length=pre.length->(∀f,f∈r->0<=f.2/\f.2<x.length)->0<=s->s<=1000000->AL a->r.length<k->f104.cW N k (x.map (·.1),x.map (·.2),fs,os,s,a,(pre.length:Int))=some (os++(fQ 1000000 x s a r).1,(fQ 1000000 x s a r).2.1,(fQ 1000000 x s a r).2.2):=by intro r;induction r with|nil=>intro pre os s a k he _ _ _ _ _ hk;obtain⟨k,rfl⟩:∃k',k=k'+1:=⟨k-1,by simp at hk;omega⟩;simp at he;subst he;rw[f104.cW.eq_2,aJ,af];simp[fQ,dt]|cons f r ih=>
 intro pre os s a k he ho hf h0 hs ha hk;obtain⟨k,rfl⟩:∃k',k=k'+1:=⟨k-1,by simp at hk;omega⟩;have hlen:pre.length+(r.length+1)=fs.length:=by rw[he];simp
 have hxf:idx fs (pre.length:Int)=some f:=by rw[he];exact rz _ _ _
 have hf2:=hf f cb;obtain⟨e1,e2,e3⟩:=hx.get (by omega) f.2;have hu:=oK e1 h0;have huc:=Hs (C:=1000000) e1 (by omega) hs;have hi:=rD hf2;have ih:=ih (pre++[f]) (os++[up (fC x f.2).2 s]) (min 1000000 (up (fC x f.2).2 s+(fC x f.2).1)) (max a (fC x f.2).2) k (by rw[he];simp) (by simp[ho]) (λg h=>hf g (dl _ h)) (by omega) (by omega) (ha.max e1) (by simp at hk;omega);rw[f104.cW.eq_2,aG (by omega),aq,hxf,ae,xe (g:=λe:Ex=>e.2) hi,ae,A1 e1 ⟨h0,by omega⟩,ae,ak (by omega) (by omega),aj,xe (g:=λe:Ex=>e.1) hi,ae,ae,ai (by omega),aI (by omega)];rw[show((pre++[f]).length:Int)=((pre.length+1:Nat):Int)by simp]at ih;rw[ih];simp only[fQ];rw[bi];rfl
theorem VS{N:Nat}{x:List Ex}(hN:1100<N)(hx:EX 1000000 x){fs:List Field}(hl:fs.length<=1000)(hf:∀f,f∈fs->0<=f.2/\f.2<x.length):L6 N (x.map (·.1),x.map (·.2),fs)=some ((fQ 1000000 x 0 1 fs).1,up (fQ 1000000 x 0 1 fs).2.2 (fQ 1000000 x 0 1 fs).2.1,(fQ 1000000 x 0 1 fs).2.2):=by have:=VQ (N:=N) hx hl fs [] [] 0 1 N rfl rfl hf (by omega) (by omega) (.inl rfl) (by omega);obtain⟨b1,b2,_⟩:=pE (C:=1000000) (by omega) hx fs 0 1 (by omega) (by omega) (.inl rfl);have:=Hs (C:=1000000) b2 (by omega) b1.2;rw[L6.eq_1,‹f104.cW N N _=_›,ae,A1 b2 ⟨b1.1,by omega⟩,ae]<;>grind
noncomputable def pF(C:Int)(out:List Ex)(t:aA):Ex:=if t.1=1then(1,1)else if t.1=3then(16,8)else if t.1=7then(24,8)else if t.1=6then(min C (t.2.2.1*(fC out t.2.1).1),(fC out t.2.1).2)else if t.1=5then(up (fQ C out 0 1 t.2.2.2).2.2 (fQ C out 0 1 t.2.2.2).2.1,(fQ C out 0 1 t.2.2.2).2.2)else(8,8)
noncomputable def cE(C:Int)(l:List aA):Nat->List Ex|0=>[]|i+1=>cE C l i++[pF C (cE C l i) (dQ l i)]
theorem ff(C:Int)(l:List aA):∀i,(cE C l i).length=i|0=>rfl|i+1=>by simp[cE,ff C l i]
theorem C9{a b C:Int}(ha:1<=a/\a<=16)(hb:0<=b/\b<=C)(_hC:0<=C):0<=a*b/\a*b<=16*C:=⟨se (by omega) hb.1,sf ha.2 hb.2 hb.1 (by omega)⟩
theorem VT{C:Int}(hC:1000<=C)(h8:C%8=0){out:List Ex}(ho:EX C out){n i:Nat}{t:aA}(ht:cU n i t):AL (pF C out t).2/\0<=(pF C out t).1/\(pF C out t).1<=C:=by
 unfold pF;have ha:=ho.get (by omega) t.2.1;obtain⟨b1,b2,_⟩:=pE (C:=C) (by omega) ho t.2.2.2 0 1 (by omega) (by omega) (.inl rfl);have hc:=Hs b2 h8 b1.2;have hu:=oK b2 b1.1;split;.exact⟨.inl rfl,by show(0:Int)<=1;omega,by show(1:Int)<=C;omega⟩
 .split;.exact⟨.inr rfl,by show(0:Int)<=16;omega,by show(16:Int)<=C;omega⟩
  .split;.exact⟨.inr rfl,by show(0:Int)<=24;omega,by show(24:Int)<=C;omega⟩
   .split;.rename_i h6;have:=C9 (ht.arr h6).2 ha.2 (by omega)<;>grind
    .split;.grind
     .exact⟨.inr rfl,by show(0:Int)<=8;omega,by show(8:Int)<=C;omega⟩
theorem ke{C:Int}(hC:1000<=C)(h8:C%8=0){l:List aA}(ht:yw l):∀i,i<=l.length->EX C (cE C l i)
 |0,_=>λe he=>by cases he|i+1,hi=>λe he=>by
  simp[cE,bj,bo]at he;rcases he with he|rfl;.exact ke hC h8 ht i (by omega) e he
  .exact VT hC h8 (ke hC h8 ht i (by omega)) (ht i (by omega))
theorem aex{a:List Ex}{n i:Nat}{v:Ex}(ha:a.length=i)(hi:i<n):(a++List.replicate (n-i) (0,0)).set i v=(a++[v])++List.replicate (n-(i+1)) (0,0):=by rw[pr _ _ (by omega),show n-i=(n-(i+1))+1by omega,pb,show i-a.length=0 by omega,bi];rfl
end Go.Proofs.YtkdilffhbejjaaaGreat
namespace Go.Proofs.YtkdilffhbejjaaaGreat
open Go Go.bM Go.Sym
open Classical
theorem Af{n i:Nat}{t:aA}(h:cU n i t):t.1=1\/t.1=2\/t.1=3\/t.1=4\/t.1=5\/t.1=6\/t.1=7:=by unfold cU at h<;>grind
theorem Da{N:Nat}{l:List aA}(hN:1100<N)(hl:l.length<=100)(ht:yw l):Pu N l=some (cE 1048576 l l.length):=by
 have h0:decide (0<=(l.length:Int))=true:=bm (by omega);have hr:(decide (Int.toNat (l.length:Int)<=Int.toNat (l.length:Int))&&room (Int.toNat (l.length:Int)) 16)=true:=by rw[bm (bc _),ak (by omega) (by omega)];rfl
 rw[Pu.eq_1,h0,aj,hr,aj,bd];have key:=jP (n:=l.length) (Lf:=λk i=>f123.bz N k (l,(l.length:Int),i,cE 1048576 l i.toNat++List.replicate (l.length-i.toNat) (0,0))) (g:=λ_=>some (cE 1048576 l l.length)) (λk=>by simp only[f123.bz.eq_2,aJ,af,bd,pm,px,dt]) (λk i hi ih=>by
   have e:idx l (i:Int)=some (dQ l i):=cq _ hi;have ht':=ht i hi;have Xn:=ht'.fields;have hE:=ke (C:=1048576) (by omega) (by omega) ht i (by omega);have J1:=ff 1048576 l i;have hnl:(cE 1048576 l i++List.replicate (l.length-i) ((0:Int),(0:Int))).length=l.length:=by simp[J1];omega
   have Mi:∀v:Ex,(cE 1048576 l i++List.replicate (l.length-i) (0,0)).set i v=(cE 1048576 l i++[v])++List.replicate (l.length-(i+1)) (0,0):=λv=>aex J1 hi;obtain⟨w,hw⟩:=mA (l:=cE 1048576 l i++List.replicate (l.length-i) ((0:Int),(0:Int))) (i:=i) (by omega);simp only[bd]at ih⊢;rw[cE]at ih;have fin:∀v:Ex,v=pF 1048576 (cE 1048576 l i) (dQ l i)->f123.bz N k (l,(l.length:Int),((i+1:Nat):Int),(cE 1048576 l i++[v])++List.replicate (l.length-(i+1)) (0,0))=some (cE 1048576 l l.length):=by rintro _ rfl;exact ih
   have hin:ga (i:Int) (cE 1048576 l i++List.replicate (l.length-i) ((0:Int),(0:Int))).length=true:=by rw[hnl];exact cl hi
   simp only[f123.bz.eq_2,aG hi,aq,e,ae,bd,hin,hw,Mi,aj,ai (show i<9223372036854775807by omega),dg];unfold pF at fin;rcases Af ht' with h|h|h|h|h|h|h;.rw[h];exact fin _ (by rw[bb h])
   .rw[h];exact fin _ (by rw[h];rfl)
   .rw[h];exact fin _ (by rw[h];rfl)
   .rw[h];exact fin _ (by rw[h];rfl)
   .rw[h]at fin⊢;have:=VP (N:=N) (b:=List.replicate (l.length-i) (0,0)) hN hE (fs:=(dQ l i).2.2.2) (by omega) (λf hf=>by rw[J1];exact Xn.2.2 f hf);have hq:(Option.bind (LW N (cE 1048576 l i++List.replicate (l.length-i) (0,0),(dQ l i).2.2.2)) λy12=>f123.bz N k (l,(l.length:Int),((i+1:Nat):Int),(cE 1048576 l i++[y12.2])++List.replicate (l.length-(i+1)) (0,0)))=some (cE 1048576 l l.length):=by rw[this,ae];exact fin _ rfl
    exact hq
   .have hp:=ht'.arr h;have ha:=hE.get (by omega) (dQ l i).2.1;have hm:=C9 hp.2 ha.2 (by omega);have hx:(cE 1048576 l i++List.replicate (l.length-i) ((0:Int),(0:Int)))[(dQ l i).2.1.toNat]?=some (fC (cE 1048576 l i) (dQ l i).2.1):=by have:=(sO (rD (x:=cE 1048576 l i++List.replicate (l.length-i) ((0:Int),(0:Int))) (i:=(dQ l i).2.1) (by rw[hnl];omega))).2;rw[this,NW (by rw[J1];exact hp.1)]
    have hq:(aF (ga (dQ l i).2.1 (cE 1048576 l i++List.replicate (l.length-i) ((0:Int),(0:Int))).length) (Option.bind ((cE 1048576 l i++List.replicate (l.length-i) ((0:Int),(0:Int)))[(Int.toNat (dQ l i).2.1)]?) λx10=>f123.bz N k (l,(l.length:Int),((i+1:Nat):Int),(cE 1048576 l i++[((min (1048576:Int) (av ((dQ l i).2.2.1*x10.1))),x10.2)])++List.replicate (l.length-(i+1)) (0,0))))=some (cE 1048576 l l.length):=by rw[pz (by rw[hnl];omega),aj,hx,ae];refine fin _ ?_;rw[aI (by omega),h];rfl
    rw[h];exact hq
   .rw[h];exact fin _ (by rw[h];rfl)) N 0 (by omega) (by omega);have:f123.bz N N (l,(l.length:Int),(0:Int),List.replicate l.length (0,0))=some (cE 1048576 l l.length):=by simpa[cE]using key
 rw[this];rfl
theorem Db{N:Nat}{l:List aA}(hN:1100<N)(hl:l.length<=100)(ht:yw l):L7 N l=some ((cE 1000000 l l.length).map (·.1),(cE 1000000 l l.length).map (·.2)):=by
 rw[L7.eq_1];have key:=jP (n:=l.length) (Lf:=λk i=>f103.bz N k (l,(cE 1000000 l i.toNat).map (·.1),(cE 1000000 l i.toNat).map (·.2),i)) (g:=λ_=>some ((cE 1000000 l l.length).map (·.1),(cE 1000000 l l.length).map (·.2))) (λk=>by simp only[f103.bz.eq_2,aJ,af,bd]) (λk i hi ih=>by
   have e:idx l (i:Int)=some (dQ l i):=cq _ hi;have ht':=ht i hi;have Xn:=ht'.fields;have hE:=ke (C:=1000000) (by omega) (by omega) ht i (by omega);have J1:=ff 1000000 l i;simp only[bd]at ih⊢;rw[cE,fw,fw,fj,fj,kw,kw]at ih;have fin:∀a b:Int,(a,b)=pF 1000000 (cE 1000000 l i) (dQ l i)->f103.bz N k (l,(cE 1000000 l i).map (·.1)++[a],(cE 1000000 l i).map (·.2)++[b],((i+1:Nat):Int))=some ((cE 1000000 l l.length).map (·.1),(cE 1000000 l l.length).map (·.2)):=by intro a b h;rw[<-h]at ih;exact ih
   have r1:room (((cE 1000000 l i).map (·.1)).length+1) 8=true:=ak (by rw[ll];omega) (by omega);have r2:room (((cE 1000000 l i).map (·.2)).length+1) 8=true:=ak (by rw[ll];omega) (by omega);simp only[f103.bz.eq_2,aG hi,aq,e,ae,r1,r2,aj,ai (show i<9223372036854775807by omega)];unfold pF at fin;rcases Af ht' with h|h|h|h|h|h|h;.rw[h];exact fin _ _ (by rw[bb h])
   .rw[h];exact fin _ _ (by rw[h];rfl)
   .rw[h];exact fin _ _ (by rw[h];rfl)
   .rw[h];exact fin _ _ (by rw[h];rfl)
   .have:=VS (N:=N) hN hE (fs:=(dQ l i).2.2.2) (by omega) (λf hf=>by rw[J1];exact Xn.2.2 f hf);have hq:(Option.bind (L6 N ((cE 1000000 l i).map (·.1),(cE 1000000 l i).map (·.2),(dQ l i).2.2.2)) λy11=>f103.bz N k (l,(cE 1000000 l i).map (·.1)++[y11.2.1],(cE 1000000 l i).map (·.2)++[y11.2.2],((i+1:Nat):Int)))=some ((cE 1000000 l l.length).map (·.1),(cE 1000000 l l.length).map (·.2)):=by rw[this,ae];exact fin _ _ (by rw[h];rfl)
    rw[h];exact hq
   .have hp:=ht'.arr h;have ha:=hE.get (by omega) (dQ l i).2.1;have hm:=C9 hp.2 ha.2 (by omega);have hi2:idx (cE 1000000 l i) (dQ l i).2.1=some (fC (cE 1000000 l i) (dQ l i).2.1):=rD (by rw[J1];exact hp.1);have hq:(Option.bind (idx ((cE 1000000 l i).map (·.1)) (dQ l i).2.1) λx7=>(Option.bind (idx ((cE 1000000 l i).map (·.2)) (dQ l i).2.1) λx9=>f103.bz N k (l,(cE 1000000 l i).map (·.1)++[(min (1000000:Int) (av ((dQ l i).2.2.1*x7)))],(cE 1000000 l i).map (·.2)++[x9],((i+1:Nat):Int))))=some ((cE 1000000 l l.length).map (·.1),(cE 1000000 l l.length).map (·.2)):=by rw[xe (g:=λe:Ex=>e.1) hi2,ae,xe (g:=λe:Ex=>e.2) hi2,ae,aI (by omega)];exact fin _ _ (by rw[h];rfl)
    rw[h];exact hq
   .rw[h];exact fin _ _ (by rw[h];rfl)) N 0 (by omega) (by omega);have:f103.bz N N (l,[],[],(0:Int))=some ((cE 1000000 l l.length).map (·.1),(cE 1000000 l l.length).map (·.2)):=by simpa[cE]using key
 grind
noncomputable def Rel(a b:Ex):Prop:=(a.1=b.1\/(256<a.1/\256<b.1))/\a.2=b.2
theorem J4{x y:List Ex}(hx:EX 1048576 x)(hy:EX 1000000 y)(h:∀i:Int,Rel (fC x i) (fC y i)):∀(fs:List Field)(s s' a:Int),(s=s'\/(256<s/\256<s'))->0<=s->0<=s'->s<=1048576->s'<=1000000->AL a->((fQ 1048576 x s a fs).2.1=(fQ 1000000 y s' a fs).2.1\/(256<(fQ 1048576 x s a fs).2.1/\256<(fQ 1000000 y s' a fs).2.1))/\(fQ 1048576 x s a fs).2.2=(fQ 1000000 y s' a fs).2.2|[],s,s',a,hs,_,_,_,_,_=>⟨hs,rfl⟩|f::r,s,s',a,hs,h0,h0',hc,DH,ha=>by obtain⟨e1,e2,e3⟩:=hx.get (by omega) f.2;obtain⟨g1,g2,g3⟩:=hy.get (by omega) f.2;obtain⟨r1,r2⟩:=h f.2;simp[fQ];rw[<-r2]at g1⊢;have u1:=oK e1 h0;have u2:=oK e1 h0';refine J4 hx hy h r _ _ _ ?_ (by omega) (by omega) (by omega) (by omega) (ha.max e1)<;>grind
theorem Qa{x y:List Ex}(hx:EX 1048576 x)(hy:EX 1000000 y)(h:∀i:Int,Rel (fC x i) (fC y i)){n i:Nat}{t:aA}(ht:cU n i t):Rel (pF 1048576 x t) (pF 1000000 y t):=by
 unfold pF;split;.exact⟨.inl rfl,rfl⟩
 .split;.exact⟨.inl rfl,rfl⟩
  .split;.exact⟨.inl rfl,rfl⟩
   .split
    .rename_i h6;obtain⟨r1,r2⟩:=h t.2.1;have e:=hx.get (by omega) t.2.1;have g:=hy.get (by omega) t.2.1;have hl:=(ht.arr h6).2;have k1:(fC x t.2.1).1<=t.2.2.1*(fC x t.2.1).1:=by have:=Int.mul_le_mul_of_nonneg_right hl.1 e.2.1<;>omega
     have k2:(fC y t.2.1).1<=t.2.2.1*(fC y t.2.1).1:=by have:=Int.mul_le_mul_of_nonneg_right hl.1 g.2.1<;>omega
     refine⟨?_,r2⟩<;>grind
    .split
     .obtain⟨q1,q2⟩:=J4 hx hy h t.2.2.2 0 0 1 (.inl rfl) (by omega) (by omega) (by omega) (by omega) (.inl rfl);obtain⟨b1,b2,_⟩:=pE (C:=1048576) (by omega) hx t.2.2.2 0 1 (by omega) (by omega) (.inl rfl);obtain⟨c1,c2,_⟩:=pE (C:=1000000) (by omega) hy t.2.2.2 0 1 (by omega) (by omega) (.inl rfl);refine⟨?_,q2⟩;rcases q1 with q1|q1;.grind
      .have:=oK b2 b1.1;have:=oK c2 c1.1<;>grind
     .exact⟨.inl rfl,rfl⟩
theorem Dc{a:List Ex}{v:Ex}(i:Int):fC (a++[v]) i=if i.toNat<a.length then fC a i else if i.toNat=a.length then v else(0,1):=by unfold fC<;>grind
theorem tN{l:List aA}(ht:yw l):∀i,i<=l.length->∀j:Int,Rel (fC (cE 1048576 l i) j) (fC (cE 1000000 l i) j)
 |0,_,j=>⟨.inl rfl,rfl⟩|i+1,hi,j=>by
  rw[cE,cE,Dc,Dc,ff,ff];split;.exact tN ht i (by omega) j
  .split;.exact Qa (ke (by omega) (by omega) ht i (by omega)) (ke (by omega) (by omega) ht i (by omega)) (tN ht i (by omega)) (ht i (by omega))
   .exact⟨.inl rfl,rfl⟩
noncomputable def exs(l:List aA):List Ex:=cE 1048576 l l.length
noncomputable def rE(l:List aA):Prop:=∀i:Nat,i<l.length->(fC (exs l) i).1<=256
theorem NX(l:List aA):(exs l).length=l.length:=ff _ _ _
theorem NY{N:Nat}{l:List aA}(hN:1300<N)(hl:J3 l)(ht:j9 l){i:Int}(hi:0<=i/\i<l.length):Pv N (l,i)=some (if(fC (exs l) i).1<=256then((fC (exs l) i).1,(fC (exs l) i).2,0)else(0,0,16)):=by have e:idx (exs l) i=some (fC (exs l) i):=rD (by rw[NX];exact hi);rw[Pv.eq_1,Yv.eq_1,yy hN hl,bb ht,ae,gR,af,bv (show¬i<0 by omega),af,ae,bv (show¬i>=(l.length:Int)by omega),af,Da (by omega) hl.1 ht.2.1,ae,show cE 1048576 l l.length=exs l from rfl,e,ae]<;>grind
end Go.Proofs.YtkdilffhbejjaaaGreat
