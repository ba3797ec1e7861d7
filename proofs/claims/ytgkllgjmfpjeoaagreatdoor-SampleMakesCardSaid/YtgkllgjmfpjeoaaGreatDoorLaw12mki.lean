/- A part of the proof: Law12mkh, Law12mki. -/
import Derived.Test.YtgkllgjmfpjeoaaGreatDoorLaw12mkg
set_option linter.unusedVariables false
set_option linter.unusedSimpArgs false
namespace Go.Proofs.YtgkllgjmfpjeoaaGreatDoor
open Go Go.bJ Go.Sym
open Classical
noncomputable def up(a s:Int):Int:=(s+a-1)/a*a
theorem Gn(s:Int):up 1 s=s:=by unfold up;omega
theorem wh(s:Int):up 8 s=(s+7)/8*8:=by unfold up;omega
noncomputable def AL(a:Int):Prop:=a=1\/a=8
theorem tT{a s:Int}(ha:AL a)(hs:0<=s):s<=up a s/\up a s<=s+7:=by
 rcases ha with rfl|rfl;.rw[Gn];omega
 .rw[wh];omega
theorem Gp{a s C:Int}(ha:AL a)(hC:C%8=0)(hs:s<=C):up a s<=C:=by
 rcases ha with rfl|rfl;.rw[Gn];omega
 .rw[wh];omega
theorem WK(n:Nat)(hn:n<18446744073709551616):(BitVec.ofNat 64 n&&&~~~(7#64)).toNat=n/8*8:=by
 have e:n/8*8=(n>>>3)<<<3:=by omega
 rw[e];refine Nat.eq_of_testBit_eq λk=>?_;rw[BitVec.toNat_and,Nat.testBit_and,BitVec.toNat_ofNat,Nat.mod_eq_of_lt hn,BitVec.testBit_toNat,BitVec.getLsbD_not,Nat.testBit_shiftLeft,Nat.testBit_shiftRight];rcases Nat.lt_or_ge k 64with h|h
 .rw[decide_eq_true h,Bool.true_and];by_cases h3:k<3
  .have:k=0\/k=1\/k=2:=by omega
   rcases this with rfl|rfl|rfl<;>simp
  .rw[decide_eq_true (show k>=3by omega),Bool.true_and,show 3+(k-3)=k by omega];have:(7#64).getLsbD k=false:=by rw[BitVec.getLsbD_ofNat,Nat.testBit_lt_two_pow (x:=7) (i:=k) (Nat.lt_of_lt_of_le (show 7<2^3by omega) (Nat.pow_le_pow_right (by omega) (by omega))),Bool.and_false]
   grind
 .have h1:n.testBit k=false:=Nat.testBit_lt_two_pow (Nat.lt_of_lt_of_le hn (by rw[show 18446744073709551616=2^64by decide];exact Nat.pow_le_pow_right (by omega) h))<;>grind
theorem uL{a s:Int}(ha:AL a)(hs:0<=s/\s<=4000000):oo .i64 (av ((av (s+a))-(1:Int))) (av (a-(1:Int)))=up a s:=by
 rcases ha with rfl|rfl
 .rw[bn (n:=s+1) (by omega),show s+1-1=s by omega,bn (by omega),show av ((1:Int)-1)=0from by decide,Gn];obtain⟨n,rfl⟩:=Int.eq_ofNat_of_zero_le hs.1;unfold oo;have e:(BitVec.ofInt IntKind.i64.bits ((n:Nat):Int)&&&~~~(BitVec.ofInt IntKind.i64.bits 0)).toNat=n:=by show(BitVec.ofInt 64 ((n:Nat):Int)&&&~~~(BitVec.ofInt 64 0)).toNat=n;rw[show~~~(BitVec.ofInt 64 0)=BitVec.allOnes 64by decide,BitVec.and_allOnes,BitVec.ofInt_natCast,BitVec.toNat_ofNat];omega
  rw[e];exact bn (by omega)
 .rw[bn (n:=s+8) (by omega),show s+8-1=s+7by omega,bn (by omega),show av ((8:Int)-1)=7from by decide,wh];obtain⟨n,rfl⟩:=Int.eq_ofNat_of_zero_le hs.1;unfold oo;have e:(BitVec.ofInt IntKind.i64.bits ((n:Int)+7)&&&~~~(BitVec.ofInt IntKind.i64.bits 7)).toNat=(n+7)/8*8:=by show(BitVec.ofInt 64 ((n:Int)+7)&&&~~~(BitVec.ofInt 64 7)).toNat=_;rw[show(n:Int)+7=((n+7:Nat):Int)by omega,BitVec.ofInt_natCast];exact WK _ (by omega)
  rw[e,show IntKind.i64.wrap (((n+7)/8*8:Nat):Int)=(((n+7)/8*8:Nat):Int)from bn (by omega)];omega
theorem Gq{N:Nat}{a s:Int}(ha:AL a)(hs:0<=s/\s<=4000000):Lc N (s,a)=some (up a s):=by
 rw[Lc.eq_1];rcases ha with rfl|rfl;.rw[show(!decide ((1:Int)=0))=true from rfl,ai,bn (n:=s+1) (by omega),show s+1-1=s by omega,bn (n:=s) (by omega),Int.tdiv_one,bn (n:=s) (by omega),bn (by omega),Gn,Int.mul_one]
 .rw[show(!decide ((8:Int)=0))=true from rfl,ai,bn (n:=s+8) (by omega),show s+8-1=s+7by omega,bn (n:=s+7) (by omega),Int.tdiv_eq_ediv_of_nonneg (by omega),bn (n:=(s+7)/8) (by omega),bn (by omega),wh]
abbrev Ex:=Int×Int
noncomputable def iV(x:List Ex)(i:Int):Ex:=x.getD i.toNat (0,1)
noncomputable def jk(C:Int)(x:List Ex):Int->Int->List Field->List Int×Int×Int|s,a,[]=>([],s,a)|s,a,f::r=>let q:=jk C x (min C (up (iV x f.2).2 s+(iV x f.2).1)) (max a (iV x f.2).2) r;(up (iV x f.2).2 s::q.1,q.2.1,q.2.2)
noncomputable def EX(C:Int)(x:List Ex):Prop:=∀e,e∈x->AL e.2/\0<=e.1/\e.1<=C
theorem EX.get{C:Int}(hC:0<=C){x:List Ex}(h:EX C x)(i:Int):AL (iV x i).2/\0<=(iV x i).1/\(iV x i).1<=C:=by unfold iV;rw[List.getD_eq_getElem?_getD];cases e:x[i.toNat]?with|none=>exact⟨.inl rfl,by show(0:Int)<=0;omega,hC⟩|some y=>exact h y (aU e)
theorem AL.max{a b:Int}(ha:AL a)(hb:AL b):AL (max a b):=by grind
theorem qx{C:Int}(hC:0<=C){x:List Ex}(hx:EX C x):∀(fs:List Field)(s a:Int),0<=s->s<=C->AL a->(0<=(jk C x s a fs).2.1/\(jk C x s a fs).2.1<=C)/\AL (jk C x s a fs).2.2/\(jk C x s a fs).1.length=fs.length|[],s,a,h0,hs,ha=>⟨⟨h0,hs⟩,ha,rfl⟩|f::r,s,a,h0,hs,ha=>by obtain⟨e1,e2,e3⟩:=hx.get hC f.2;have hu:=tT e1 h0;obtain⟨g1,g2,g3⟩:=qx hC hx r (min C (up (iV x f.2).2 s+(iV x f.2).1)) (max a (iV x f.2).2) (by omega) (by omega) (ha.max e1);simp only[jk]<;>grind
theorem tA{x:List Ex}{i:Int}(h:0<=i/\i<x.length):idx x i=some (iV x i):=by refine nM h.1 ?_;unfold iV<;>grind
theorem M8{a b:List Ex}{i:Int}(h:0<=i/\i<a.length):iV (a++b) i=iV a i:=B3 _ (by omega)
theorem T0{N:Nat}{x b:List Ex}(hx:EX 1048576 x){fs:List Field}(hl:fs.length<=1000)(c1 c2:Int):∀(r pre:List Field)(os:List Int)(s a:Int)(k:Nat),fs=pre++r->os.length=pre.length->(∀f,f∈r->0<=f.2/\f.2<x.length)->0<=s->s<=1048576->AL a->r.length<k->f220.bx N k (x++b,fs,(fs.length:Int),(pre.length:Int),c1,c2,os++List.replicate r.length 0,s,a)=some (c1,c2,os++(jk 1048576 x s a r).1,(jk 1048576 x s a r).2.1,(jk 1048576 x s a r).2.2):=by intro r;induction r with|nil=>intro pre os s a k he _ _ _ _ _ hk;obtain⟨k,rfl⟩:∃k',k=k'+1:=⟨k-1,by simp at hk;omega⟩;simp at he;subst he;rw[f220.bx.eq_2,aM];rfl|cons f r ih=>
 intro pre os s a k he ho hf h0 hs ha hk;obtain⟨k,rfl⟩:∃k',k=k'+1:=⟨k-1,by simp at hk;omega⟩;have hlen:pre.length+(r.length+1)=fs.length:=by rw[he];simp
 have hxf:idx fs (pre.length:Int)=some f:=by rw[he];exact qt _ _ _
 have hf2:=hf f List.mem_cons_self;have hif:idx (x++b) f.2=some (iV x f.2):=by rw[tA (by rw[List.length_append];omega),M8 hf2]
 obtain⟨e1,e2,e3⟩:=hx.get (by omega) f.2;have hu:=tT e1 h0;have huc:=Gp (C:=1048576) e1 (by omega) hs;have hol:(os++List.replicate (f::r).length (0:Int)).length=fs.length:=by simp[ho];omega
 have TX:∀v:Int,(os++List.replicate (f::r).length (0:Int)).set pre.length v=(os++[v])++List.replicate r.length 0:=λv=>by rw[List.set_append_right _ _ (by omega),List.length_cons,List.replicate_succ,show pre.length-os.length=0 by omega,List.set_cons_zero,List.append_assoc];rfl
 have ih:=ih (pre++[f]) (os++[up (iV x f.2).2 s]) (min 1048576 (up (iV x f.2).2 s+(iV x f.2).1)) (max a (iV x f.2).2) k (by rw[he];simp) (by simp[ho]) (λg h=>hf g (List.mem_cons_of_mem _ h)) (by omega) (by omega) (ha.max e1) (by simp at hk;omega);rw[f220.bx.eq_2,aJ (by omega),au,hxf,Option.bind_some,hif,Option.bind_some,qw (by rw[hol];omega),ai,uL e1 ⟨h0,by omega⟩,Int.toNat_natCast,kG (by rw[hol];omega),Option.bind_some,TX,qw (by simp[ho];omega),ai];have hg:(os++[up (iV x f.2).2 s]++List.replicate r.length (0:Int))[pre.length]?=some (up (iV x f.2).2 s):=by rw[List.append_assoc,List.getElem?_append_right (by omega),ho,Nat.sub_self];rfl
 rw[hg,Option.bind_some,aj (by omega),bn (by omega)];rw[show((pre++[f]).length:Int)=((pre.length+1:Nat):Int)by simp]at ih;rw[ih];simp only[jk];rw[List.append_assoc];rfl
theorem ab9{N:Nat}{x b:List Ex}(hN:1100<N)(hx:EX 1048576 x){fs:List Field}(hl:fs.length<=1000)(hf:∀f,f∈fs->0<=f.2/\f.2<x.length):OL N (x++b,fs)=some ((jk 1048576 x 0 1 fs).1,up (jk 1048576 x 0 1 fs).2.2 (jk 1048576 x 0 1 fs).2.1,(jk 1048576 x 0 1 fs).2.2):=by
 have h0:decide (0<=(fs.length:Int))=true:=decide_eq_true (by omega);have hr:(decide (Int.toNat (fs.length:Int)<=Int.toNat (fs.length:Int))&&room (Int.toNat (fs.length:Int)) 8)=true:=by rw[decide_eq_true (Nat.le_refl _),af (by omega) (by omega)];rfl
 have:=T0 (N:=N) (b:=b) hx hl 0 0 fs [] [] 0 1 N rfl rfl hf (by omega) (by omega) (.inl rfl) (by omega);simp at this;obtain⟨b1,b2,_⟩:=qx (C:=1048576) (by omega) hx fs 0 1 (by omega) (by omega) (.inl rfl);rw[OL.eq_1,h0,ai,ai,hr,ai,Int.toNat_natCast,this,Option.bind_some];rw[uL b2 ⟨b1.1,by omega⟩]
theorem wj{α β:Type}{g:α->β}{x:List α}{i:Int}{y:α}(h:idx x i=some y):idx (x.map g) i=some (g y):=by grind[idx]
theorem T3{N:Nat}{x:List Ex}(hx:EX 1000000 x){fs:List Field}(hl:fs.length<=1000):∀(r pre:List Field)(os:List Int)(s a:Int)(k:Nat),fs=pre++r->os.length=pre.length->(∀f,f∈r->0<=f.2/\f.2<x.length)->0<=s->s<=1000000->AL a->r.length<k->f180.dB N k (x.map (·.1),x.map (·.2),fs,os,s,a,(pre.length:Int))=some (os++(jk 1000000 x s a r).1,(jk 1000000 x s a r).2.1,(jk 1000000 x s a r).2.2):=by intro r;induction r with|nil=>intro pre os s a k he _ _ _ _ _ hk;obtain⟨k,rfl⟩:∃k',k=k'+1:=⟨k-1,by simp at hk;omega⟩;simp at he;subst he;rw[f180.dB.eq_2,aM,aq];simp[jk,List.append_nil]|cons f r ih=>
 intro pre os s a k he ho hf h0 hs ha hk;obtain⟨k,rfl⟩:∃k',k=k'+1:=⟨k-1,by simp at hk;omega⟩;have hlen:pre.length+(r.length+1)=fs.length:=by rw[he];simp
 have hxf:idx fs (pre.length:Int)=some f:=by rw[he];exact qt _ _ _
 have hf2:=hf f List.mem_cons_self;obtain⟨e1,e2,e3⟩:=hx.get (by omega) f.2;have hu:=tT e1 h0;have huc:=Gp (C:=1000000) e1 (by omega) hs;have hi:=tA hf2;have ih:=ih (pre++[f]) (os++[up (iV x f.2).2 s]) (min 1000000 (up (iV x f.2).2 s+(iV x f.2).1)) (max a (iV x f.2).2) k (by rw[he];simp) (by simp[ho]) (λg h=>hf g (List.mem_cons_of_mem _ h)) (by omega) (by omega) (ha.max e1) (by simp at hk;omega);rw[f180.dB.eq_2,aJ (by omega),au,hxf,Option.bind_some,wj (g:=λe:Ex=>e.2) hi,Option.bind_some,Gq e1 ⟨h0,by omega⟩,Option.bind_some,af (by omega) (by omega),ai,wj (g:=λe:Ex=>e.1) hi,Option.bind_some,Option.bind_some,aj (by omega),bn (by omega)];rw[show((pre++[f]).length:Int)=((pre.length+1:Nat):Int)by simp]at ih;rw[ih];simp only[jk];rw[List.append_assoc];rfl
theorem acd{N:Nat}{x:List Ex}(hN:1100<N)(hx:EX 1000000 x){fs:List Field}(hl:fs.length<=1000)(hf:∀f,f∈fs->0<=f.2/\f.2<x.length):OV N (x.map (·.1),x.map (·.2),fs)=some ((jk 1000000 x 0 1 fs).1,up (jk 1000000 x 0 1 fs).2.2 (jk 1000000 x 0 1 fs).2.1,(jk 1000000 x 0 1 fs).2.2):=by have:=T3 (N:=N) hx hl fs [] [] 0 1 N rfl rfl hf (by omega) (by omega) (.inl rfl) (by omega);obtain⟨b1,b2,_⟩:=qx (C:=1000000) (by omega) hx fs 0 1 (by omega) (by omega) (.inl rfl);have:=Gp (C:=1000000) b2 (by omega) b1.2;rw[OV.eq_1,‹f180.dB N N _=_›,Option.bind_some,Gq b2 ⟨b1.1,by omega⟩,Option.bind_some]<;>grind
noncomputable def oA(C:Int)(out:List Ex)(t:aB):Ex:=if t.1=1then(1,1)else if t.1=3then(16,8)else if t.1=7then(24,8)else if t.1=6then(min C (t.2.2.1*(iV out t.2.1).1),(iV out t.2.1).2)else if t.1=5then(up (jk C out 0 1 t.2.2.2).2.2 (jk C out 0 1 t.2.2.2).2.1,(jk C out 0 1 t.2.2.2).2.2)else(8,8)
noncomputable def cy(C:Int)(l:List aB):Nat->List Ex|0=>[]|i+1=>cy C l i++[oA C (cy C l i) (dO l i)]
theorem ga(C:Int)(l:List aB):∀i,(cy C l i).length=i|0=>rfl|i+1=>by simp[cy,ga C l i]
theorem B5{a b C:Int}(ha:1<=a/\a<=16)(hb:0<=b/\b<=C)(_hC:0<=C):0<=a*b/\a*b<=16*C:=⟨Int.mul_nonneg (by omega) hb.1,Int.mul_le_mul ha.2 hb.2 hb.1 (by omega)⟩
theorem T4{C:Int}(hC:1000<=C)(h8:C%8=0){out:List Ex}(ho:EX C out){n i:Nat}{t:aB}(ht:cK n i t):AL (oA C out t).2/\0<=(oA C out t).1/\(oA C out t).1<=C:=by
 unfold oA;have ha:=ho.get (by omega) t.2.1;obtain⟨b1,b2,_⟩:=qx (C:=C) (by omega) ho t.2.2.2 0 1 (by omega) (by omega) (.inl rfl);have hc:=Gp b2 h8 b1.2;have hu:=tT b2 b1.1;split;.exact⟨.inl rfl,by show(0:Int)<=1;omega,by show(1:Int)<=C;omega⟩
 .split;.exact⟨.inr rfl,by show(0:Int)<=16;omega,by show(16:Int)<=C;omega⟩
  .split;.exact⟨.inr rfl,by show(0:Int)<=24;omega,by show(24:Int)<=C;omega⟩
   .split;.rename_i h6;have:=B5 (ht.arr h6).2 ha.2 (by omega)<;>grind
    .split;.grind
     .exact⟨.inr rfl,by show(0:Int)<=8;omega,by show(8:Int)<=C;omega⟩
theorem qy{C:Int}(hC:1000<=C)(h8:C%8=0){l:List aB}(ht:xJ l):∀i,i<=l.length->EX C (cy C l i)
 |0,_=>λe he=>by cases he|i+1,hi=>λe he=>by
  simp[cy,List.mem_append,List.mem_singleton]at he;rcases he with he|rfl;.exact qy hC h8 ht i (by omega) e he
  .exact T4 hC h8 (qy hC h8 ht i (by omega)) (ht i (by omega))
theorem ace{a:List Ex}{n i:Nat}{v:Ex}(ha:a.length=i)(hi:i<n):(a++List.replicate (n-i) (0,0)).set i v=(a++[v])++List.replicate (n-(i+1)) (0,0):=by rw[List.set_append_right _ _ (by omega),show n-i=(n-(i+1))+1by omega,List.replicate_succ,show i-a.length=0 by omega,List.append_assoc];rfl
end Go.Proofs.YtgkllgjmfpjeoaaGreatDoor
namespace Go.Proofs.YtgkllgjmfpjeoaaGreatDoor
open Go Go.bJ Go.Sym
open Classical
theorem zh{n i:Nat}{t:aB}(h:cK n i t):t.1=1\/t.1=2\/t.1=3\/t.1=4\/t.1=5\/t.1=6\/t.1=7:=by unfold cK at h<;>grind
theorem Lp{N:Nat}{l:List aB}(hN:1100<N)(hl:l.length<=100)(ht:xJ l):Sc N l=some (cy 1048576 l l.length):=by
 have h0:decide (0<=(l.length:Int))=true:=decide_eq_true (by omega);have hr:(decide (Int.toNat (l.length:Int)<=Int.toNat (l.length:Int))&&room (Int.toNat (l.length:Int)) 16)=true:=by rw[decide_eq_true (Nat.le_refl _),af (by omega) (by omega)];rfl
 rw[Sc.eq_1,h0,ai,hr,ai,Int.toNat_natCast];have key:=kE (n:=l.length) (Lf:=λk i=>f213.bx N k (l,(l.length:Int),i,cy 1048576 l i.toNat++List.replicate (l.length-i.toNat) (0,0))) (g:=λ_=>some (cy 1048576 l l.length)) (λk=>by simp only[f213.bx.eq_2,aM,aq,Int.toNat_natCast,Nat.sub_self,List.replicate_zero,List.append_nil]) (λk i hi ih=>by
   have e:idx l (i:Int)=some (dO l i):=cS _ hi;have ht':=ht i hi;have Vm:=ht'.fields;have hE:=qy (C:=1048576) (by omega) (by omega) ht i (by omega);have hol:=ga 1048576 l i;have hnl:(cy 1048576 l i++List.replicate (l.length-i) ((0:Int),(0:Int))).length=l.length:=by simp[hol];omega
   have TX:∀v:Ex,(cy 1048576 l i++List.replicate (l.length-i) (0,0)).set i v=(cy 1048576 l i++[v])++List.replicate (l.length-(i+1)) (0,0):=λv=>ace hol hi;obtain⟨w,hw⟩:=Em (l:=cy 1048576 l i++List.replicate (l.length-i) ((0:Int),(0:Int))) (i:=i) (by omega);simp only[Int.toNat_natCast]at ih⊢;rw[cy]at ih;have fin:∀v:Ex,v=oA 1048576 (cy 1048576 l i) (dO l i)->f213.bx N k (l,(l.length:Int),((i+1:Nat):Int),(cy 1048576 l i++[v])++List.replicate (l.length-(i+1)) (0,0))=some (cy 1048576 l l.length):=by rintro _ rfl;exact ih
   have hin:fP (i:Int) (cy 1048576 l i++List.replicate (l.length-i) ((0:Int),(0:Int))).length=true:=by rw[hnl];exact bS hi
   simp only[f213.bx.eq_2,aJ hi,au,e,Option.bind_some,Int.toNat_natCast,hin,hw,TX,ai,aj (show i<9223372036854775807by omega),dK];unfold oA at fin;rcases zh ht' with h|h|h|h|h|h|h;.rw[h];exact fin _ (by rw[if_pos h])
   .rw[h];exact fin _ (by rw[h];rfl)
   .rw[h];exact fin _ (by rw[h];rfl)
   .rw[h];exact fin _ (by rw[h];rfl)
   .rw[h]at fin⊢;have:=ab9 (N:=N) (b:=List.replicate (l.length-i) (0,0)) hN hE (fs:=(dO l i).2.2.2) (by omega) (λf hf=>by rw[hol];exact Vm.2.2 f hf);have hq:(Option.bind (OL N (cy 1048576 l i++List.replicate (l.length-i) (0,0),(dO l i).2.2.2)) λy12=>f213.bx N k (l,(l.length:Int),((i+1:Nat):Int),(cy 1048576 l i++[y12.2])++List.replicate (l.length-(i+1)) (0,0)))=some (cy 1048576 l l.length):=by rw[this,Option.bind_some];exact fin _ rfl
    exact hq
   .have hp:=ht'.arr h;have ha:=hE.get (by omega) (dO l i).2.1;have hm:=B5 hp.2 ha.2 (by omega);have hx:(cy 1048576 l i++List.replicate (l.length-i) ((0:Int),(0:Int)))[(dO l i).2.1.toNat]?=some (iV (cy 1048576 l i) (dO l i).2.1):=by have:=(rT (tA (x:=cy 1048576 l i++List.replicate (l.length-i) ((0:Int),(0:Int))) (i:=(dO l i).2.1) (by rw[hnl];omega))).2;rw[this,M8 (by rw[hol];exact hp.1)]
    have hq:(aF (fP (dO l i).2.1 (cy 1048576 l i++List.replicate (l.length-i) ((0:Int),(0:Int))).length) (Option.bind ((cy 1048576 l i++List.replicate (l.length-i) ((0:Int),(0:Int)))[(Int.toNat (dO l i).2.1)]?) λx10=>f213.bx N k (l,(l.length:Int),((i+1:Nat):Int),(cy 1048576 l i++[((min (1048576:Int) (av ((dO l i).2.2.1*x10.1))),x10.2)])++List.replicate (l.length-(i+1)) (0,0))))=some (cy 1048576 l l.length):=by rw[qw (by rw[hnl];omega),ai,hx,Option.bind_some];refine fin _ ?_;rw[bn (by omega),h];rfl
    rw[h];exact hq
   .rw[h];exact fin _ (by rw[h];rfl)) N 0 (by omega) (by omega);have:f213.bx N N (l,(l.length:Int),(0:Int),List.replicate l.length (0,0))=some (cy 1048576 l l.length):=by simpa[cy]using key
 rw[this];rfl
theorem Jd{N:Nat}{l:List aB}(hN:1100<N)(hl:l.length<=100)(ht:xJ l):OW N l=some ((cy 1000000 l l.length).map (·.1),(cy 1000000 l l.length).map (·.2)):=by
 rw[OW.eq_1];have key:=kE (n:=l.length) (Lf:=λk i=>f127.bx N k (l,(cy 1000000 l i.toNat).map (·.1),(cy 1000000 l i.toNat).map (·.2),i)) (g:=λ_=>some ((cy 1000000 l l.length).map (·.1),(cy 1000000 l l.length).map (·.2))) (λk=>by simp only[f127.bx.eq_2,aM,aq,Int.toNat_natCast]) (λk i hi ih=>by
   have e:idx l (i:Int)=some (dO l i):=cS _ hi;have ht':=ht i hi;have Vm:=ht'.fields;have hE:=qy (C:=1000000) (by omega) (by omega) ht i (by omega);have hol:=ga 1000000 l i;simp only[Int.toNat_natCast]at ih⊢;rw[cy,List.map_append,List.map_append,List.map_cons,List.map_cons,List.map_nil,List.map_nil]at ih;have fin:∀a b:Int,(a,b)=oA 1000000 (cy 1000000 l i) (dO l i)->f127.bx N k (l,(cy 1000000 l i).map (·.1)++[a],(cy 1000000 l i).map (·.2)++[b],((i+1:Nat):Int))=some ((cy 1000000 l l.length).map (·.1),(cy 1000000 l l.length).map (·.2)):=by intro a b h;rw[<-h]at ih;exact ih
   have r1:room (((cy 1000000 l i).map (·.1)).length+1) 8=true:=af (by rw[List.length_map];omega) (by omega);have r2:room (((cy 1000000 l i).map (·.2)).length+1) 8=true:=af (by rw[List.length_map];omega) (by omega);simp only[f127.bx.eq_2,aJ hi,au,e,Option.bind_some,r1,r2,ai,aj (show i<9223372036854775807by omega)];unfold oA at fin;rcases zh ht' with h|h|h|h|h|h|h;.rw[h];exact fin _ _ (by rw[if_pos h])
   .rw[h];exact fin _ _ (by rw[h];rfl)
   .rw[h];exact fin _ _ (by rw[h];rfl)
   .rw[h];exact fin _ _ (by rw[h];rfl)
   .have:=acd (N:=N) hN hE (fs:=(dO l i).2.2.2) (by omega) (λf hf=>by rw[hol];exact Vm.2.2 f hf);have hq:(Option.bind (OV N ((cy 1000000 l i).map (·.1),(cy 1000000 l i).map (·.2),(dO l i).2.2.2)) λy11=>f127.bx N k (l,(cy 1000000 l i).map (·.1)++[y11.2.1],(cy 1000000 l i).map (·.2)++[y11.2.2],((i+1:Nat):Int)))=some ((cy 1000000 l l.length).map (·.1),(cy 1000000 l l.length).map (·.2)):=by rw[this,Option.bind_some];exact fin _ _ (by rw[h];rfl)
    rw[h];exact hq
   .have hp:=ht'.arr h;have ha:=hE.get (by omega) (dO l i).2.1;have hm:=B5 hp.2 ha.2 (by omega);have hi2:idx (cy 1000000 l i) (dO l i).2.1=some (iV (cy 1000000 l i) (dO l i).2.1):=tA (by rw[hol];exact hp.1);have hq:(Option.bind (idx ((cy 1000000 l i).map (·.1)) (dO l i).2.1) λx7=>(Option.bind (idx ((cy 1000000 l i).map (·.2)) (dO l i).2.1) λx9=>f127.bx N k (l,(cy 1000000 l i).map (·.1)++[(min (1000000:Int) (av ((dO l i).2.2.1*x7)))],(cy 1000000 l i).map (·.2)++[x9],((i+1:Nat):Int))))=some ((cy 1000000 l l.length).map (·.1),(cy 1000000 l l.length).map (·.2)):=by rw[wj (g:=λe:Ex=>e.1) hi2,Option.bind_some,wj (g:=λe:Ex=>e.2) hi2,Option.bind_some,bn (by omega)];exact fin _ _ (by rw[h];rfl)
    rw[h];exact hq
   .rw[h];exact fin _ _ (by rw[h];rfl)) N 0 (by omega) (by omega);have:f127.bx N N (l,[],[],(0:Int))=some ((cy 1000000 l l.length).map (·.1),(cy 1000000 l l.length).map (·.2)):=by simpa[cy]using key
 grind
noncomputable def Rel(a b:Ex):Prop:=(a.1=b.1\/(256<a.1/\256<b.1))/\a.2=b.2
theorem Je{x y:List Ex}(hx:EX 1048576 x)(hy:EX 1000000 y)(h:∀i:Int,Rel (iV x i) (iV y i)):∀(fs:List Field)(s s' a:Int),(s=s'\/(256<s/\256<s'))->0<=s->0<=s'->s<=1048576->s'<=1000000->AL a->((jk 1048576 x s a fs).2.1=(jk 1000000 y s' a fs).2.1\/(256<(jk 1048576 x s a fs).2.1/\256<(jk 1000000 y s' a fs).2.1))/\(jk 1048576 x s a fs).2.2=(jk 1000000 y s' a fs).2.2|[],s,s',a,hs,_,_,_,_,_=>⟨hs,rfl⟩|f::r,s,s',a,hs,h0,h0',hc,CA,ha=>by obtain⟨e1,e2,e3⟩:=hx.get (by omega) f.2;obtain⟨g1,g2,g3⟩:=hy.get (by omega) f.2;obtain⟨r1,r2⟩:=h f.2;simp[jk];rw[<-r2]at g1⊢;have u1:=tT e1 h0;have u2:=tT e1 h0';refine Je hx hy h r _ _ _ ?_ (by omega) (by omega) (by omega) (by omega) (ha.max e1)<;>grind
theorem Pc{x y:List Ex}(hx:EX 1048576 x)(hy:EX 1000000 y)(h:∀i:Int,Rel (iV x i) (iV y i)){n i:Nat}{t:aB}(ht:cK n i t):Rel (oA 1048576 x t) (oA 1000000 y t):=by
 unfold oA;split;.exact⟨.inl rfl,rfl⟩
 .split;.exact⟨.inl rfl,rfl⟩
  .split;.exact⟨.inl rfl,rfl⟩
   .split
    .rename_i h6;obtain⟨r1,r2⟩:=h t.2.1;have e:=hx.get (by omega) t.2.1;have g:=hy.get (by omega) t.2.1;have hl:=(ht.arr h6).2;have k1:(iV x t.2.1).1<=t.2.2.1*(iV x t.2.1).1:=by have:=Int.mul_le_mul_of_nonneg_right hl.1 e.2.1<;>omega
     have k2:(iV y t.2.1).1<=t.2.2.1*(iV y t.2.1).1:=by have:=Int.mul_le_mul_of_nonneg_right hl.1 g.2.1<;>omega
     refine⟨?_,r2⟩<;>grind
    .split
     .obtain⟨q1,q2⟩:=Je hx hy h t.2.2.2 0 0 1 (.inl rfl) (by omega) (by omega) (by omega) (by omega) (.inl rfl);obtain⟨b1,b2,_⟩:=qx (C:=1048576) (by omega) hx t.2.2.2 0 1 (by omega) (by omega) (.inl rfl);obtain⟨c1,c2,_⟩:=qx (C:=1000000) (by omega) hy t.2.2.2 0 1 (by omega) (by omega) (.inl rfl);refine⟨?_,q2⟩;rcases q1 with q1|q1;.grind
      .have:=tT b2 b1.1;have:=tT c2 c1.1<;>grind
     .exact⟨.inl rfl,rfl⟩
theorem B6{a:List Ex}{v:Ex}(i:Int):iV (a++[v]) i=if i.toNat<a.length then iV a i else if i.toNat=a.length then v else(0,1):=by unfold iV<;>grind
theorem wm{l:List aB}(ht:xJ l):∀i,i<=l.length->∀j:Int,Rel (iV (cy 1048576 l i) j) (iV (cy 1000000 l i) j)
 |0,_,j=>⟨.inl rfl,rfl⟩|i+1,hi,j=>by
  rw[cy,cy,B6,B6,ga,ga];split;.exact wm ht i (by omega) j
  .split;.exact Pc (qy (by omega) (by omega) ht i (by omega)) (qy (by omega) (by omega) ht i (by omega)) (wm ht i (by omega)) (ht i (by omega))
   .exact⟨.inl rfl,rfl⟩
noncomputable def exs(l:List aB):List Ex:=cy 1048576 l l.length
noncomputable def Gr(l:List aB):Prop:=∀i:Nat,i<l.length->(iV (exs l) i).1<=256
theorem WL(l:List aB):(exs l).length=l.length:=ga _ _ _
theorem M9{N:Nat}{l:List aB}(hN:1300<N)(hl:M7 l)(ht:ov l){i:Int}(hi:0<=i/\i<l.length):OM N (l,i)=some (if(iV (exs l) i).1<=256then((iV (exs l) i).1,(iV (exs l) i).2,0)else(0,0,16)):=by have e:idx (exs l) i=some (iV (exs l) i):=tA (by rw[WL];exact hi);rw[OM.eq_1,Wz.eq_1,EB hN hl,if_pos ht,Option.bind_some,I4,aq,decide_eq_false (show¬i<0 by omega),aq,Option.bind_some,decide_eq_false (show¬i>=(l.length:Int)by omega),aq,Lp (by omega) hl.1 ht.2.1,Option.bind_some,show cy 1048576 l l.length=exs l from rfl,e,Option.bind_some]<;>grind
end Go.Proofs.YtgkllgjmfpjeoaaGreatDoor
