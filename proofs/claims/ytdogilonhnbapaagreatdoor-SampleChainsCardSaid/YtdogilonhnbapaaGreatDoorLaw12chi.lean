/- A part of the proof: Law12chh, Law12chi. -/
import Derived.Test.YtdogilonhnbapaaGreatDoorLaw12chg
set_option linter.unusedVariables false
set_option linter.unusedSimpArgs false
namespace Go.Proofs.YtdogilonhnbapaaGreatDoor
open Go Go.bI Go.Sym
open Classical
noncomputable def up(a s:Int):Int:=(s+a-1)/a*a
theorem Hg(s:Int):up 1 s=s:=by unfold up;omega
theorem wL(s:Int):up 8 s=(s+7)/8*8:=by unfold up;omega
noncomputable def AL(a:Int):Prop:=a=1\/a=8
theorem uk{a s:Int}(ha:AL a)(hs:0<=s):s<=up a s/\up a s<=s+7:=by
 rcases ha with rfl|rfl;.rw[Hg];omega
 .rw[wL];omega
theorem Hh{a s C:Int}(ha:AL a)(hC:C%8=0)(hs:s<=C):up a s<=C:=by
 rcases ha with rfl|rfl;.rw[Hg];omega
 .rw[wL];omega
theorem YZ(n:Nat)(hn:n<18446744073709551616):(BitVec.ofNat 64 n&&&~~~(7#64)).toNat=n/8*8:=by
 have e:n/8*8=(n>>>3)<<<3:=by omega
 rw[e];refine Nat.eq_of_testBit_eq λk=>?_;rw[BitVec.toNat_and,Nat.testBit_and,BitVec.toNat_ofNat,Nat.mod_eq_of_lt hn,BitVec.testBit_toNat,BitVec.getLsbD_not,Nat.testBit_shiftLeft,Nat.testBit_shiftRight];rcases Nat.lt_or_ge k 64with h|h
 .rw[decide_eq_true h,Bool.true_and];by_cases h3:k<3
  .have:k=0\/k=1\/k=2:=by omega
   rcases this with rfl|rfl|rfl<;>simp
  .rw[decide_eq_true (show k>=3by omega),Bool.true_and,show 3+(k-3)=k by omega];have:(7#64).getLsbD k=false:=by rw[BitVec.getLsbD_ofNat,Nat.testBit_lt_two_pow (x:=7) (i:=k) (Nat.lt_of_lt_of_le (show 7<2^3by omega) (Nat.pow_le_pow_right (by omega) (by omega))),Bool.and_false]
   grind
 .have h1:n.testBit k=false:=Nat.testBit_lt_two_pow (Nat.lt_of_lt_of_le hn (by rw[show 18446744073709551616=2^64by decide];exact Nat.pow_le_pow_right (by omega) h))<;>grind
theorem u0{a s:Int}(ha:AL a)(hs:0<=s/\s<=4000000):oF .i64 (av ((av (s+a))-(1:Int))) (av (a-(1:Int)))=up a s:=by
 rcases ha with rfl|rfl
 .rw[bp (n:=s+1) (by omega),show s+1-1=s by omega,bp (by omega),show av ((1:Int)-1)=0from by decide,Hg];obtain⟨n,rfl⟩:=Int.eq_ofNat_of_zero_le hs.1;unfold oF;have e:(BitVec.ofInt IntKind.i64.bits ((n:Nat):Int)&&&~~~(BitVec.ofInt IntKind.i64.bits 0)).toNat=n:=by show(BitVec.ofInt 64 ((n:Nat):Int)&&&~~~(BitVec.ofInt 64 0)).toNat=n;rw[show~~~(BitVec.ofInt 64 0)=BitVec.allOnes 64by decide,BitVec.and_allOnes,BitVec.ofInt_natCast,BitVec.toNat_ofNat];omega
  rw[e];exact bp (by omega)
 .rw[bp (n:=s+8) (by omega),show s+8-1=s+7by omega,bp (by omega),show av ((8:Int)-1)=7from by decide,wL];obtain⟨n,rfl⟩:=Int.eq_ofNat_of_zero_le hs.1;unfold oF;have e:(BitVec.ofInt IntKind.i64.bits ((n:Int)+7)&&&~~~(BitVec.ofInt IntKind.i64.bits 7)).toNat=(n+7)/8*8:=by show(BitVec.ofInt 64 ((n:Int)+7)&&&~~~(BitVec.ofInt 64 7)).toNat=_;rw[show(n:Int)+7=((n+7:Nat):Int)by omega,BitVec.ofInt_natCast];exact YZ _ (by omega)
  rw[e,show IntKind.i64.wrap (((n+7)/8*8:Nat):Int)=(((n+7)/8*8:Nat):Int)from bp (by omega)];omega
theorem Hi{N:Nat}{a s:Int}(ha:AL a)(hs:0<=s/\s<=4000000):JI N (s,a)=some (up a s):=by
 rw[JI.eq_1];rcases ha with rfl|rfl;.rw[show(!decide ((1:Int)=0))=true from rfl,af,bp (n:=s+1) (by omega),show s+1-1=s by omega,bp (n:=s) (by omega),Int.tdiv_one,bp (n:=s) (by omega),bp (by omega),Hg,Int.mul_one]
 .rw[show(!decide ((8:Int)=0))=true from rfl,af,bp (n:=s+8) (by omega),show s+8-1=s+7by omega,bp (n:=s+7) (by omega),Int.tdiv_eq_ediv_of_nonneg (by omega),bp (n:=(s+7)/8) (by omega),bp (by omega),wL]
abbrev Ex:=Int×Int
noncomputable def iY(x:List Ex)(i:Int):Ex:=x.getD i.toNat (0,1)
noncomputable def jl(C:Int)(x:List Ex):Int->Int->List Field->List Int×Int×Int|s,a,[]=>([],s,a)|s,a,f::r=>let q:=jl C x (min C (up (iY x f.2).2 s+(iY x f.2).1)) (max a (iY x f.2).2) r;(up (iY x f.2).2 s::q.1,q.2.1,q.2.2)
noncomputable def EX(C:Int)(x:List Ex):Prop:=∀e,e∈x->AL e.2/\0<=e.1/\e.1<=C
theorem EX.get{C:Int}(hC:0<=C){x:List Ex}(h:EX C x)(i:Int):AL (iY x i).2/\0<=(iY x i).1/\(iY x i).1<=C:=by unfold iY;rw[List.getD_eq_getElem?_getD];cases e:x[i.toNat]?with|none=>exact⟨.inl rfl,by show(0:Int)<=0;omega,hC⟩|some y=>exact h y (aS e)
theorem AL.max{a b:Int}(ha:AL a)(hb:AL b):AL (max a b):=by grind
theorem qJ{C:Int}(hC:0<=C){x:List Ex}(hx:EX C x):∀(fs:List Field)(s a:Int),0<=s->s<=C->AL a->(0<=(jl C x s a fs).2.1/\(jl C x s a fs).2.1<=C)/\AL (jl C x s a fs).2.2/\(jl C x s a fs).1.length=fs.length|[],s,a,h0,hs,ha=>⟨⟨h0,hs⟩,ha,rfl⟩|f::r,s,a,h0,hs,ha=>by obtain⟨e1,e2,e3⟩:=hx.get hC f.2;have hu:=uk e1 h0;obtain⟨g1,g2,g3⟩:=qJ hC hx r (min C (up (iY x f.2).2 s+(iY x f.2).1)) (max a (iY x f.2).2) (by omega) (by omega) (ha.max e1);simp only[jl]<;>grind
theorem tQ{x:List Ex}{i:Int}(h:0<=i/\i<x.length):idx x i=some (iY x i):=by refine nV h.1 ?_;unfold iY<;>grind
theorem Og{a b:List Ex}{i:Int}(h:0<=i/\i<a.length):iY (a++b) i=iY a i:=Cz _ (by omega)
theorem UN{N:Nat}{x b:List Ex}(hx:EX 1048576 x){fs:List Field}(hl:fs.length<=1000)(c1 c2:Int):∀(r pre:List Field)(os:List Int)(s a:Int)(k:Nat),fs=pre++r->os.length=pre.length->(∀f,f∈r->0<=f.2/\f.2<x.length)->0<=s->s<=1048576->AL a->r.length<k->f213.bg N k (x++b,fs,(fs.length:Int),(pre.length:Int),c1,c2,os++List.replicate r.length 0,s,a)=some (c1,c2,os++(jl 1048576 x s a r).1,(jl 1048576 x s a r).2.1,(jl 1048576 x s a r).2.2):=by intro r;induction r with|nil=>intro pre os s a k he _ _ _ _ _ hk;obtain⟨k,rfl⟩:∃k',k=k'+1:=⟨k-1,by simp at hk;omega⟩;simp at he;subst he;rw[f213.bg.eq_2,aL];rfl|cons f r ih=>
 intro pre os s a k he ho hf h0 hs ha hk;obtain⟨k,rfl⟩:∃k',k=k'+1:=⟨k-1,by simp at hk;omega⟩;have hlen:pre.length+(r.length+1)=fs.length:=by rw[he];simp
 have hxf:idx fs (pre.length:Int)=some f:=by rw[he];exact qF _ _ _
 have hf2:=hf f List.mem_cons_self;have hif:idx (x++b) f.2=some (iY x f.2):=by rw[tQ (by rw[List.length_append];omega),Og hf2]
 obtain⟨e1,e2,e3⟩:=hx.get (by omega) f.2;have hu:=uk e1 h0;have huc:=Hh (C:=1048576) e1 (by omega) hs;have hol:(os++List.replicate (f::r).length (0:Int)).length=fs.length:=by simp[ho];omega
 have UK:∀v:Int,(os++List.replicate (f::r).length (0:Int)).set pre.length v=(os++[v])++List.replicate r.length 0:=λv=>by rw[List.set_append_right _ _ (by omega),List.length_cons,List.replicate_succ,show pre.length-os.length=0 by omega,List.set_cons_zero,List.append_assoc];rfl
 have ih:=ih (pre++[f]) (os++[up (iY x f.2).2 s]) (min 1048576 (up (iY x f.2).2 s+(iY x f.2).1)) (max a (iY x f.2).2) k (by rw[he];simp) (by simp[ho]) (λg h=>hf g (List.mem_cons_of_mem _ h)) (by omega) (by omega) (ha.max e1) (by simp at hk;omega);rw[f213.bg.eq_2,aI (by omega),au,hxf,Option.bind_some,hif,Option.bind_some,qI (by rw[hol];omega),af,u0 e1 ⟨h0,by omega⟩,Int.toNat_natCast,kL (by rw[hol];omega),Option.bind_some,UK,qI (by simp[ho];omega),af];have hg:(os++[up (iY x f.2).2 s]++List.replicate r.length (0:Int))[pre.length]?=some (up (iY x f.2).2 s):=by rw[List.append_assoc,List.getElem?_append_right (by omega),ho,Nat.sub_self];rfl
 rw[hg,Option.bind_some,aj (by omega),bp (by omega)];rw[show((pre++[f]).length:Int)=((pre.length+1:Nat):Int)by simp]at ih;rw[ih];simp only[jl];rw[List.append_assoc];rfl
theorem afk{N:Nat}{x b:List Ex}(hN:1100<N)(hx:EX 1048576 x){fs:List Field}(hl:fs.length<=1000)(hf:∀f,f∈fs->0<=f.2/\f.2<x.length):LY N (x++b,fs)=some ((jl 1048576 x 0 1 fs).1,up (jl 1048576 x 0 1 fs).2.2 (jl 1048576 x 0 1 fs).2.1,(jl 1048576 x 0 1 fs).2.2):=by
 have h0:decide (0<=(fs.length:Int))=true:=decide_eq_true (by omega);have hr:(decide (Int.toNat (fs.length:Int)<=Int.toNat (fs.length:Int))&&room (Int.toNat (fs.length:Int)) 8)=true:=by rw[decide_eq_true (Nat.le_refl _),ah (by omega) (by omega)];rfl
 have:=UN (N:=N) (b:=b) hx hl 0 0 fs [] [] 0 1 N rfl rfl hf (by omega) (by omega) (.inl rfl) (by omega);simp at this;obtain⟨b1,b2,_⟩:=qJ (C:=1048576) (by omega) hx fs 0 1 (by omega) (by omega) (.inl rfl);rw[LY.eq_1,h0,af,af,hr,af,Int.toNat_natCast,this,Option.bind_some];rw[u0 b2 ⟨b1.1,by omega⟩]
theorem wM{α β:Type}{g:α->β}{x:List α}{i:Int}{y:α}(h:idx x i=some y):idx (x.map g) i=some (g y):=by grind[idx]
theorem UO{N:Nat}{x:List Ex}(hx:EX 1000000 x){fs:List Field}(hl:fs.length<=1000):∀(r pre:List Field)(os:List Int)(s a:Int)(k:Nat),fs=pre++r->os.length=pre.length->(∀f,f∈r->0<=f.2/\f.2<x.length)->0<=s->s<=1000000->AL a->r.length<k->f175.dB N k (x.map (·.1),x.map (·.2),fs,os,s,a,(pre.length:Int))=some (os++(jl 1000000 x s a r).1,(jl 1000000 x s a r).2.1,(jl 1000000 x s a r).2.2):=by intro r;induction r with|nil=>intro pre os s a k he _ _ _ _ _ hk;obtain⟨k,rfl⟩:∃k',k=k'+1:=⟨k-1,by simp at hk;omega⟩;simp at he;subst he;rw[f175.dB.eq_2,aL,ak];simp[jl,List.append_nil]|cons f r ih=>
 intro pre os s a k he ho hf h0 hs ha hk;obtain⟨k,rfl⟩:∃k',k=k'+1:=⟨k-1,by simp at hk;omega⟩;have hlen:pre.length+(r.length+1)=fs.length:=by rw[he];simp
 have hxf:idx fs (pre.length:Int)=some f:=by rw[he];exact qF _ _ _
 have hf2:=hf f List.mem_cons_self;obtain⟨e1,e2,e3⟩:=hx.get (by omega) f.2;have hu:=uk e1 h0;have huc:=Hh (C:=1000000) e1 (by omega) hs;have hi:=tQ hf2;have ih:=ih (pre++[f]) (os++[up (iY x f.2).2 s]) (min 1000000 (up (iY x f.2).2 s+(iY x f.2).1)) (max a (iY x f.2).2) k (by rw[he];simp) (by simp[ho]) (λg h=>hf g (List.mem_cons_of_mem _ h)) (by omega) (by omega) (ha.max e1) (by simp at hk;omega);rw[f175.dB.eq_2,aI (by omega),au,hxf,Option.bind_some,wM (g:=λe:Ex=>e.2) hi,Option.bind_some,Hi e1 ⟨h0,by omega⟩,Option.bind_some,ah (by omega) (by omega),af,wM (g:=λe:Ex=>e.1) hi,Option.bind_some,Option.bind_some,aj (by omega),bp (by omega)];rw[show((pre++[f]).length:Int)=((pre.length+1:Nat):Int)by simp]at ih;rw[ih];simp only[jl];rw[List.append_assoc];rfl
theorem afl{N:Nat}{x:List Ex}(hN:1100<N)(hx:EX 1000000 x){fs:List Field}(hl:fs.length<=1000)(hf:∀f,f∈fs->0<=f.2/\f.2<x.length):Mg N (x.map (·.1),x.map (·.2),fs)=some ((jl 1000000 x 0 1 fs).1,up (jl 1000000 x 0 1 fs).2.2 (jl 1000000 x 0 1 fs).2.1,(jl 1000000 x 0 1 fs).2.2):=by have:=UO (N:=N) hx hl fs [] [] 0 1 N rfl rfl hf (by omega) (by omega) (.inl rfl) (by omega);obtain⟨b1,b2,_⟩:=qJ (C:=1000000) (by omega) hx fs 0 1 (by omega) (by omega) (.inl rfl);have:=Hh (C:=1000000) b2 (by omega) b1.2;rw[Mg.eq_1,‹f175.dB N N _=_›,Option.bind_some,Hi b2 ⟨b1.1,by omega⟩,Option.bind_some]<;>grind
noncomputable def oK(C:Int)(out:List Ex)(t:aB):Ex:=if t.1=1then(1,1)else if t.1=3then(16,8)else if t.1=7then(24,8)else if t.1=6then(min C (t.2.2.1*(iY out t.2.1).1),(iY out t.2.1).2)else if t.1=5then(up (jl C out 0 1 t.2.2.2).2.2 (jl C out 0 1 t.2.2.2).2.1,(jl C out 0 1 t.2.2.2).2.2)else(8,8)
noncomputable def cA(C:Int)(l:List aB):Nat->List Ex|0=>[]|i+1=>cA C l i++[oK C (cA C l i) (dP l i)]
theorem ga(C:Int)(l:List aB):∀i,(cA C l i).length=i|0=>rfl|i+1=>by simp[cA,ga C l i]
theorem CB{a b C:Int}(ha:1<=a/\a<=16)(hb:0<=b/\b<=C)(_hC:0<=C):0<=a*b/\a*b<=16*C:=⟨Int.mul_nonneg (by omega) hb.1,Int.mul_le_mul ha.2 hb.2 hb.1 (by omega)⟩
theorem UP{C:Int}(hC:1000<=C)(h8:C%8=0){out:List Ex}(ho:EX C out){n i:Nat}{t:aB}(ht:cK n i t):AL (oK C out t).2/\0<=(oK C out t).1/\(oK C out t).1<=C:=by
 unfold oK;have ha:=ho.get (by omega) t.2.1;obtain⟨b1,b2,_⟩:=qJ (C:=C) (by omega) ho t.2.2.2 0 1 (by omega) (by omega) (.inl rfl);have hc:=Hh b2 h8 b1.2;have hu:=uk b2 b1.1;split;.exact⟨.inl rfl,by show(0:Int)<=1;omega,by show(1:Int)<=C;omega⟩
 .split;.exact⟨.inr rfl,by show(0:Int)<=16;omega,by show(16:Int)<=C;omega⟩
  .split;.exact⟨.inr rfl,by show(0:Int)<=24;omega,by show(24:Int)<=C;omega⟩
   .split;.rename_i h6;have:=CB (ht.arr h6).2 ha.2 (by omega)<;>grind
    .split;.grind
     .exact⟨.inr rfl,by show(0:Int)<=8;omega,by show(8:Int)<=C;omega⟩
theorem qK{C:Int}(hC:1000<=C)(h8:C%8=0){l:List aB}(ht:x4 l):∀i,i<=l.length->EX C (cA C l i)
 |0,_=>λe he=>by cases he|i+1,hi=>λe he=>by
  simp[cA,List.mem_append,List.mem_singleton]at he;rcases he with he|rfl;.exact qK hC h8 ht i (by omega) e he
  .exact UP hC h8 (qK hC h8 ht i (by omega)) (ht i (by omega))
theorem afm{a:List Ex}{n i:Nat}{v:Ex}(ha:a.length=i)(hi:i<n):(a++List.replicate (n-i) (0,0)).set i v=(a++[v])++List.replicate (n-(i+1)) (0,0):=by rw[List.set_append_right _ _ (by omega),show n-i=(n-(i+1))+1by omega,List.replicate_succ,show i-a.length=0 by omega,List.append_assoc];rfl
end Go.Proofs.YtdogilonhnbapaaGreatDoor
namespace Go.Proofs.YtdogilonhnbapaaGreatDoor
open Go Go.bI Go.Sym
open Classical
theorem zJ{n i:Nat}{t:aB}(h:cK n i t):t.1=1\/t.1=2\/t.1=3\/t.1=4\/t.1=5\/t.1=6\/t.1=7:=by unfold cK at h<;>grind
theorem MA{N:Nat}{l:List aB}(hN:1100<N)(hl:l.length<=100)(ht:x4 l):PY N l=some (cA 1048576 l l.length):=by
 have h0:decide (0<=(l.length:Int))=true:=decide_eq_true (by omega);have hr:(decide (Int.toNat (l.length:Int)<=Int.toNat (l.length:Int))&&room (Int.toNat (l.length:Int)) 16)=true:=by rw[decide_eq_true (Nat.le_refl _),ah (by omega) (by omega)];rfl
 rw[PY.eq_1,h0,af,hr,af,Int.toNat_natCast];have key:=kI (n:=l.length) (Lf:=λk i=>f206.bg N k (l,(l.length:Int),i,cA 1048576 l i.toNat++List.replicate (l.length-i.toNat) (0,0))) (g:=λ_=>some (cA 1048576 l l.length)) (λk=>by simp only[f206.bg.eq_2,aL,ak,Int.toNat_natCast,Nat.sub_self,List.replicate_zero,List.append_nil]) (λk i hi ih=>by
   have e:idx l (i:Int)=some (dP l i):=cW _ hi;have ht':=ht i hi;have Wf:=ht'.fields;have hE:=qK (C:=1048576) (by omega) (by omega) ht i (by omega);have hol:=ga 1048576 l i;have hnl:(cA 1048576 l i++List.replicate (l.length-i) ((0:Int),(0:Int))).length=l.length:=by simp[hol];omega
   have UK:∀v:Ex,(cA 1048576 l i++List.replicate (l.length-i) (0,0)).set i v=(cA 1048576 l i++[v])++List.replicate (l.length-(i+1)) (0,0):=λv=>afm hol hi;obtain⟨w,hw⟩:=EZ (l:=cA 1048576 l i++List.replicate (l.length-i) ((0:Int),(0:Int))) (i:=i) (by omega);simp only[Int.toNat_natCast]at ih⊢;rw[cA]at ih;have fin:∀v:Ex,v=oK 1048576 (cA 1048576 l i) (dP l i)->f206.bg N k (l,(l.length:Int),((i+1:Nat):Int),(cA 1048576 l i++[v])++List.replicate (l.length-(i+1)) (0,0))=some (cA 1048576 l l.length):=by rintro _ rfl;exact ih
   have hin:fP (i:Int) (cA 1048576 l i++List.replicate (l.length-i) ((0:Int),(0:Int))).length=true:=by rw[hnl];exact bW hi
   simp only[f206.bg.eq_2,aI hi,au,e,Option.bind_some,Int.toNat_natCast,hin,hw,UK,af,aj (show i<9223372036854775807by omega),dK];unfold oK at fin;rcases zJ ht' with h|h|h|h|h|h|h;.rw[h];exact fin _ (by rw[if_pos h])
   .rw[h];exact fin _ (by rw[h];rfl)
   .rw[h];exact fin _ (by rw[h];rfl)
   .rw[h];exact fin _ (by rw[h];rfl)
   .rw[h]at fin⊢;have:=afk (N:=N) (b:=List.replicate (l.length-i) (0,0)) hN hE (fs:=(dP l i).2.2.2) (by omega) (λf hf=>by rw[hol];exact Wf.2.2 f hf);have hq:(Option.bind (LY N (cA 1048576 l i++List.replicate (l.length-i) (0,0),(dP l i).2.2.2)) λy12=>f206.bg N k (l,(l.length:Int),((i+1:Nat):Int),(cA 1048576 l i++[y12.2])++List.replicate (l.length-(i+1)) (0,0)))=some (cA 1048576 l l.length):=by rw[this,Option.bind_some];exact fin _ rfl
    exact hq
   .have hp:=ht'.arr h;have ha:=hE.get (by omega) (dP l i).2.1;have hm:=CB hp.2 ha.2 (by omega);have hx:(cA 1048576 l i++List.replicate (l.length-i) ((0:Int),(0:Int)))[(dP l i).2.1.toNat]?=some (iY (cA 1048576 l i) (dP l i).2.1):=by have:=(sD (tQ (x:=cA 1048576 l i++List.replicate (l.length-i) ((0:Int),(0:Int))) (i:=(dP l i).2.1) (by rw[hnl];omega))).2;rw[this,Og (by rw[hol];exact hp.1)]
    have hq:(aE (fP (dP l i).2.1 (cA 1048576 l i++List.replicate (l.length-i) ((0:Int),(0:Int))).length) (Option.bind ((cA 1048576 l i++List.replicate (l.length-i) ((0:Int),(0:Int)))[(Int.toNat (dP l i).2.1)]?) λx10=>f206.bg N k (l,(l.length:Int),((i+1:Nat):Int),(cA 1048576 l i++[((min (1048576:Int) (av ((dP l i).2.2.1*x10.1))),x10.2)])++List.replicate (l.length-(i+1)) (0,0))))=some (cA 1048576 l l.length):=by rw[qI (by rw[hnl];omega),af,hx,Option.bind_some];refine fin _ ?_;rw[bp (by omega),h];rfl
    rw[h];exact hq
   .rw[h];exact fin _ (by rw[h];rfl)) N 0 (by omega) (by omega);have:f206.bg N N (l,(l.length:Int),(0:Int),List.replicate l.length (0,0))=some (cA 1048576 l l.length):=by simpa[cA]using key
 rw[this];rfl
theorem J0{N:Nat}{l:List aB}(hN:1100<N)(hl:l.length<=100)(ht:x4 l):Mh N l=some ((cA 1000000 l l.length).map (·.1),(cA 1000000 l l.length).map (·.2)):=by
 rw[Mh.eq_1];have key:=kI (n:=l.length) (Lf:=λk i=>f124.bg N k (l,(cA 1000000 l i.toNat).map (·.1),(cA 1000000 l i.toNat).map (·.2),i)) (g:=λ_=>some ((cA 1000000 l l.length).map (·.1),(cA 1000000 l l.length).map (·.2))) (λk=>by simp only[f124.bg.eq_2,aL,ak,Int.toNat_natCast]) (λk i hi ih=>by
   have e:idx l (i:Int)=some (dP l i):=cW _ hi;have ht':=ht i hi;have Wf:=ht'.fields;have hE:=qK (C:=1000000) (by omega) (by omega) ht i (by omega);have hol:=ga 1000000 l i;simp only[Int.toNat_natCast]at ih⊢;rw[cA,List.map_append,List.map_append,List.map_cons,List.map_cons,List.map_nil,List.map_nil]at ih;have fin:∀a b:Int,(a,b)=oK 1000000 (cA 1000000 l i) (dP l i)->f124.bg N k (l,(cA 1000000 l i).map (·.1)++[a],(cA 1000000 l i).map (·.2)++[b],((i+1:Nat):Int))=some ((cA 1000000 l l.length).map (·.1),(cA 1000000 l l.length).map (·.2)):=by intro a b h;rw[<-h]at ih;exact ih
   have r1:room (((cA 1000000 l i).map (·.1)).length+1) 8=true:=ah (by rw[List.length_map];omega) (by omega);have r2:room (((cA 1000000 l i).map (·.2)).length+1) 8=true:=ah (by rw[List.length_map];omega) (by omega);simp only[f124.bg.eq_2,aI hi,au,e,Option.bind_some,r1,r2,af,aj (show i<9223372036854775807by omega)];unfold oK at fin;rcases zJ ht' with h|h|h|h|h|h|h;.rw[h];exact fin _ _ (by rw[if_pos h])
   .rw[h];exact fin _ _ (by rw[h];rfl)
   .rw[h];exact fin _ _ (by rw[h];rfl)
   .rw[h];exact fin _ _ (by rw[h];rfl)
   .have:=afl (N:=N) hN hE (fs:=(dP l i).2.2.2) (by omega) (λf hf=>by rw[hol];exact Wf.2.2 f hf);have hq:(Option.bind (Mg N ((cA 1000000 l i).map (·.1),(cA 1000000 l i).map (·.2),(dP l i).2.2.2)) λy11=>f124.bg N k (l,(cA 1000000 l i).map (·.1)++[y11.2.1],(cA 1000000 l i).map (·.2)++[y11.2.2],((i+1:Nat):Int)))=some ((cA 1000000 l l.length).map (·.1),(cA 1000000 l l.length).map (·.2)):=by rw[this,Option.bind_some];exact fin _ _ (by rw[h];rfl)
    rw[h];exact hq
   .have hp:=ht'.arr h;have ha:=hE.get (by omega) (dP l i).2.1;have hm:=CB hp.2 ha.2 (by omega);have hi2:idx (cA 1000000 l i) (dP l i).2.1=some (iY (cA 1000000 l i) (dP l i).2.1):=tQ (by rw[hol];exact hp.1);have hq:(Option.bind (idx ((cA 1000000 l i).map (·.1)) (dP l i).2.1) λx7=>(Option.bind (idx ((cA 1000000 l i).map (·.2)) (dP l i).2.1) λx9=>f124.bg N k (l,(cA 1000000 l i).map (·.1)++[(min (1000000:Int) (av ((dP l i).2.2.1*x7)))],(cA 1000000 l i).map (·.2)++[x9],((i+1:Nat):Int))))=some ((cA 1000000 l l.length).map (·.1),(cA 1000000 l l.length).map (·.2)):=by rw[wM (g:=λe:Ex=>e.1) hi2,Option.bind_some,wM (g:=λe:Ex=>e.2) hi2,Option.bind_some,bp (by omega)];exact fin _ _ (by rw[h];rfl)
    rw[h];exact hq
   .rw[h];exact fin _ _ (by rw[h];rfl)) N 0 (by omega) (by omega);have:f124.bg N N (l,[],[],(0:Int))=some ((cA 1000000 l l.length).map (·.1),(cA 1000000 l l.length).map (·.2)):=by simpa[cA]using key
 grind
noncomputable def Rel(a b:Ex):Prop:=(a.1=b.1\/(256<a.1/\256<b.1))/\a.2=b.2
theorem J1{x y:List Ex}(hx:EX 1048576 x)(hy:EX 1000000 y)(h:∀i:Int,Rel (iY x i) (iY y i)):∀(fs:List Field)(s s' a:Int),(s=s'\/(256<s/\256<s'))->0<=s->0<=s'->s<=1048576->s'<=1000000->AL a->((jl 1048576 x s a fs).2.1=(jl 1000000 y s' a fs).2.1\/(256<(jl 1048576 x s a fs).2.1/\256<(jl 1000000 y s' a fs).2.1))/\(jl 1048576 x s a fs).2.2=(jl 1000000 y s' a fs).2.2|[],s,s',a,hs,_,_,_,_,_=>⟨hs,rfl⟩|f::r,s,s',a,hs,h0,h0',hc,C6,ha=>by obtain⟨e1,e2,e3⟩:=hx.get (by omega) f.2;obtain⟨g1,g2,g3⟩:=hy.get (by omega) f.2;obtain⟨r1,r2⟩:=h f.2;simp[jl];rw[<-r2]at g1⊢;have u1:=uk e1 h0;have u2:=uk e1 h0';refine J1 hx hy h r _ _ _ ?_ (by omega) (by omega) (by omega) (by omega) (ha.max e1)<;>grind
theorem Qv{x y:List Ex}(hx:EX 1048576 x)(hy:EX 1000000 y)(h:∀i:Int,Rel (iY x i) (iY y i)){n i:Nat}{t:aB}(ht:cK n i t):Rel (oK 1048576 x t) (oK 1000000 y t):=by
 unfold oK;split;.exact⟨.inl rfl,rfl⟩
 .split;.exact⟨.inl rfl,rfl⟩
  .split;.exact⟨.inl rfl,rfl⟩
   .split
    .rename_i h6;obtain⟨r1,r2⟩:=h t.2.1;have e:=hx.get (by omega) t.2.1;have g:=hy.get (by omega) t.2.1;have hl:=(ht.arr h6).2;have k1:(iY x t.2.1).1<=t.2.2.1*(iY x t.2.1).1:=by have:=Int.mul_le_mul_of_nonneg_right hl.1 e.2.1<;>omega
     have k2:(iY y t.2.1).1<=t.2.2.1*(iY y t.2.1).1:=by have:=Int.mul_le_mul_of_nonneg_right hl.1 g.2.1<;>omega
     refine⟨?_,r2⟩<;>grind
    .split
     .obtain⟨q1,q2⟩:=J1 hx hy h t.2.2.2 0 0 1 (.inl rfl) (by omega) (by omega) (by omega) (by omega) (.inl rfl);obtain⟨b1,b2,_⟩:=qJ (C:=1048576) (by omega) hx t.2.2.2 0 1 (by omega) (by omega) (.inl rfl);obtain⟨c1,c2,_⟩:=qJ (C:=1000000) (by omega) hy t.2.2.2 0 1 (by omega) (by omega) (.inl rfl);refine⟨?_,q2⟩;rcases q1 with q1|q1;.grind
      .have:=uk b2 b1.1;have:=uk c2 c1.1<;>grind
     .exact⟨.inl rfl,rfl⟩
theorem CC{a:List Ex}{v:Ex}(i:Int):iY (a++[v]) i=if i.toNat<a.length then iY a i else if i.toNat=a.length then v else(0,1):=by unfold iY<;>grind
theorem wN{l:List aB}(ht:x4 l):∀i,i<=l.length->∀j:Int,Rel (iY (cA 1048576 l i) j) (iY (cA 1000000 l i) j)
 |0,_,j=>⟨.inl rfl,rfl⟩|i+1,hi,j=>by
  rw[cA,cA,CC,CC,ga,ga];split;.exact wN ht i (by omega) j
  .split;.exact Qv (qK (by omega) (by omega) ht i (by omega)) (qK (by omega) (by omega) ht i (by omega)) (wN ht i (by omega)) (ht i (by omega))
   .exact⟨.inl rfl,rfl⟩
noncomputable def exs(l:List aB):List Ex:=cA 1048576 l l.length
noncomputable def Hj(l:List aB):Prop:=∀i:Nat,i<l.length->(iY (exs l) i).1<=256
theorem Y0(l:List aB):(exs l).length=l.length:=ga _ _ _
theorem Oh{N:Nat}{l:List aB}(hN:1300<N)(hl:Of l)(ht:oJ l){i:Int}(hi:0<=i/\i<l.length):LZ N (l,i)=some (if(iY (exs l) i).1<=256then((iY (exs l) i).1,(iY (exs l) i).2,0)else(0,0,16)):=by have e:idx (exs l) i=some (iY (exs l) i):=tQ (by rw[Y0];exact hi);rw[LZ.eq_1,Tp.eq_1,Fc hN hl,if_pos ht,Option.bind_some,JR,ak,decide_eq_false (show¬i<0 by omega),ak,Option.bind_some,decide_eq_false (show¬i>=(l.length:Int)by omega),ak,MA (by omega) hl.1 ht.2.1,Option.bind_some,show cA 1048576 l l.length=exs l from rfl,e,Option.bind_some]<;>grind
end Go.Proofs.YtdogilonhnbapaaGreatDoor
