/- A part of the proof: Law12chd, Law12che. -/
import Derived.Test.YtdogilonhnbapaaGreatDoorLaw12chc
set_option linter.unusedVariables false
set_option linter.unusedSimpArgs false
namespace Go.Proofs.YtdogilonhnbapaaGreatDoor
open Go Go.bI Go.Sym
open Classical
theorem cW{α:Type}{l:List α}{i:Nat}(d:α)(h:i<l.length):idx l (i:Int)=some (l.getD i d):=by grind[idx]
theorem th{α:Type}{l:List α}{i:Nat}(d:α)(h:i<l.length):l.getD i d∈l:=by grind
theorem p7{α:Type}{l:List α}{x:α}(d:α)(h:x∈l):∃i,i<l.length/\l.getD i d=x:=by obtain⟨i,hi,rfl⟩:=List.mem_iff_getElem.1 h;exact⟨i,hi,by rw[List.getD_eq_getElem?_getD,List.getElem?_eq_getElem hi];rfl⟩
theorem E6{i:Nat}(h0:0<i)(h:i<=9223372036854775807):av ((i:Int)-1)=((i-1:Nat):Int):=by rw[bp (by omega)];omega
theorem He{α:Type}{l:List α}(h:¬l.length=0):((l.length:Int)==(0:Int))=false:=by grind
noncomputable def rn(l:List fA)(i:Nat):fA:=l.getD i (0,0)
noncomputable def cQ(l:List fA)(n:Int):Prop:=0<l.length/\(rn l 0).1=0/\(∀i,i+1<l.length->(rn l i).1<(rn l (i+1)).1/\(rn l i).2≠(rn l (i+1)).2)/\∀i,i<l.length->(rn l i).1<n
theorem cQ.mono{l:List fA}{n:Int}(h:cQ l n){i:Nat}:∀{j:Nat},i<=j->j<l.length->(rn l i).1<=(rn l j).1
 |0,h1,_=>by grind|j+1,h1,h2=>by
  by_cases e:i=j+1;.grind
  .have:=h.mono (i:=i) (j:=j) (by omega) (by omega);have:=(h.2.2.1 j h2).1;omega
theorem UB{N:Nat}{l:List fA}{n:Int}(hN:l.length<N)(hl:l.length<=1000000):P0 N (l,n)=some (decide (cQ l n)):=by
 rw[P0.eq_1];by_cases h0:l.length=0;.rw[show((l.length:Int)==(0:Int))=true by rw[h0];rfl,au,Option.bind_some,au,decide_eq_false λh=>by have:=h.1;omega]
 .have e0:idx l (0:Int)=some (rn l 0):=cW (i:=0) (0,0) (by omega);have e1:idx l (av ((l.length:Int)-1))=some (rn l (l.length-1)):=by rw[E6 (by omega) (by omega)];exact cW _ (by omega)
  rw[He h0,ak,e0,Option.bind_some,e1,Option.bind_some];by_cases h1:(rn l 0).1=0
  .rw[show((rn l 0).1!=(0:Int))=false by simp[h1],ak,Option.bind_some];by_cases h2:(rn l (l.length-1)).1>=n;.rw[decide_eq_true h2,au,decide_eq_false λh=>by have:=h.2.2.2 (l.length-1) (by omega);omega]
   .rw[decide_eq_false h2,ak,Option.bind_some,decide_eq_true (show 1<=l.length by omega),af];have hd:(l.drop 1).length=l.length-1:=by simp
    have key:=fX (n:=(l.drop 1).length) (a:=(.inr ():Bool⊕Unit)) (b:=.inl false) (q:=λi=>decide ((rn l (i+1)).1<=(rn l i).1)||((rn l (i+1)).2==(rn l i).2)) (Lf:=λk i=>f209.ct N k (l.drop 1,((l.drop 1).length:Int),i,(rn l i.toNat).1,(rn l i.toNat).2)) (λk _=>by simp only[f209.ct.eq_2,aL,ak]) (λk i hi _=>by
      have e:idx (l.drop 1) (i:Int)=some (rn l (i+1)):=by refine aD ?_;rw[List.getElem?_drop,rn,List.getD_eq_getElem?_getD,Nat.add_comm 1 i,List.getElem?_eq_getElem (by omega)];rfl
      simp only[f209.ct.eq_2,aI hi,au,e,Option.bind_some,aj (show i<9223372036854775807by omega),Int.toNat_natCast,beq_self_eq_true,Bool.true_and,Bool.and_true];by_cases ha:(rn l (i+1)).1<=(rn l i).1;.simp[ha]
      .cases hb:((rn l (i+1)).2==(rn l i).2)<;>simp[ha]) (k:=N) (by omega);simp only[Int.toNat_zero]at key;rw[key,Option.bind_some];by_cases hex:∃i,i<(l.drop 1).length/\(decide ((rn l (i+1)).1<=(rn l i).1)||((rn l (i+1)).2==(rn l i).2))=true
    .rw[if_pos hex,decide_eq_false];rintro⟨_,_,h3,_⟩;obtain⟨i,hi,hq⟩:=hex;obtain⟨g1,g2⟩:=h3 i (by omega);rw[Bool.or_eq_true,decide_eq_true_eq,beq_iff_eq]at hq;rcases hq with hq|hq;.omega
     .exact g2 hq.symm
    .rw[if_neg hex,decide_eq_true];have h3:∀i,i+1<l.length->(rn l i).1<(rn l (i+1)).1/\(rn l i).2≠(rn l (i+1)).2:=λi hi=>by have:¬(decide ((rn l (i+1)).1<=(rn l i).1)||((rn l (i+1)).2==(rn l i).2))=true:=λh=>hex ⟨i,by omega,h⟩;rw[Bool.or_eq_true,decide_eq_true_eq,beq_iff_eq,not_or]at this;exact⟨by omega,λh=>this.2 h.symm⟩
     have m:∀j,j<l.length->∀i,i<=j->(rn l i).1<=(rn l j).1:=by intro j;induction j with|zero=>intro _ i hi;rw[Nat.le_zero.1 hi];exact Int.le_refl _|succ j ih=>
       intro hj i hi;by_cases e:i=j+1;.rw[e];exact Int.le_refl _
       .have:=ih (by omega) i (by omega);have:=(h3 j hj).1;omega
     exact⟨by omega,h1,h3,λi hi=>by have:=m (l.length-1) (by omega) i (by omega);omega⟩
  .rw[show((rn l 0).1!=(0:Int))=true by simp[h1],au,Option.bind_some,au,decide_eq_false λh=>h1 h.2.1]
theorem xY{N:Nat}{l:List fA}{n:Nat}(hN:l.length<N)(hl:l.length<=1000000):JC N (l,(n:Int))=some (if n<1\/n>200then 2 else if cQ l n then 0 else 8):=by rw[JC.eq_1,L0.eq_1,UB hN hl]<;>grind
theorem E7{N:Nat}{l:List fA}{n:Int}(hN:l.length<N)(hl:l.length<=1000000):Mj N (l,n)=some (decide (cQ l n)):=by
 rw[Mj.eq_1];by_cases h0:l.length=0;.rw[show decide ((l.length:Int)<1)=true by rw[h0];rfl,au,Option.bind_some,au,decide_eq_false λh=>by have:=h.1;omega]
 .have e0:idx l (0:Int)=some (rn l 0):=cW (i:=0) (0,0) (by omega);rw[decide_eq_false (show¬(l.length:Int)<1by omega),ak,e0,Option.bind_some,Option.bind_some];by_cases h1:(rn l 0).1=0
  .rw[show((rn l 0).1!=(0:Int))=false by simp[h1],ak];have key:=fX (n:=l.length) (a:=(.inr ():Bool⊕Unit)) (b:=.inl false) (q:=λi=>decide ((rn l i).1>=n\/0<i/\((rn l (i-1)).1>=(rn l i).1\/(rn l (i-1)).2=(rn l i).2))) (Lf:=λk i=>f178.aU N k (l,n,i)) (λk _=>by simp only[f178.aU.eq_2,aL,ak]) (λk i hi _=>by
     have e:idx l (i:Int)=some (rn l i):=cW _ hi;simp only[f178.aU.eq_2,aI hi,au,e,Option.bind_some,aj (show i<9223372036854775807by omega)];by_cases ha:(rn l i).1>=n;.simp[ha]
     .by_cases hz:0<i
      .have e':idx l (av ((i:Int)-1))=some (rn l (i-1)):=by rw[E6 hz (by omega)];exact cW _ (by omega)
       simp only[ha,e',decide_false,ak,decide_eq_true (show(i:Int)>0 by omega),au,Option.bind_some,hz,true_and,false_or];by_cases hb:(rn l (i-1)).1>=(rn l i).1;.simp[hb]
       .by_cases hd:(rn l (i-1)).2=(rn l i).2;.simp[hb,hd]
        .rw[show((rn l (i-1)).2==(rn l i).2)=false by simpa using hd];simp[hb,hd]
      .simp only[ha,decide_false,ak,decide_eq_false (show¬(i:Int)>0 by omega),Option.bind_some,hz,false_and,or_self];simp) (k:=N) hN;rw[key,Option.bind_some];by_cases hex:∃i,i<l.length/\decide ((rn l i).1>=n\/0<i/\((rn l (i-1)).1>=(rn l i).1\/(rn l (i-1)).2=(rn l i).2))=true
   .rw[if_pos hex,decide_eq_false];rintro⟨_,_,h3,h4⟩;obtain⟨i,hi,hq⟩:=hex;rcases of_decide_eq_true hq with hq|⟨hz,hq⟩;.have:=h4 i hi;omega
    .obtain⟨g1,g2⟩:=h3 (i-1) (by omega);rw[show i-1+1=i by omega]at g1 g2;rcases hq with hq|hq;.omega
     .exact g2 hq
   .rw[if_neg hex,decide_eq_true];have hno:∀i,i<l.length->¬((rn l i).1>=n\/0<i/\((rn l (i-1)).1>=(rn l i).1\/(rn l (i-1)).2=(rn l i).2)):=λi hi h=>hex ⟨i,hi,decide_eq_true h⟩;refine⟨by omega,h1,λi hi=>?_,λi hi=>?_⟩;.have:=hno (i+1) hi;simp only[Nat.add_sub_cancel,not_or,not_and]at this;have:=this.2 (by omega);exact⟨by omega,this.2⟩
    .have:=hno i hi;simp only[not_or]at this;omega
  .rw[show((rn l 0).1!=(0:Int))=true by simp[h1],au,decide_eq_false λh=>h1 h.2.1]
theorem mA{l:List fA}{n:Nat}(h:cQ l n):l.length<=n:=by
 have key:∀i:Nat,i<l.length->(i:Int)<=(rn l i).1:=by intro i;induction i with|zero=>have:=h.2.1;omega|succ i ih=>intro hi;have:=(h.2.2.1 i hi).1;omega
 have h0:=h.1;have:=key (l.length-1) (by omega);have:=h.2.2.2 (l.length-1) (by omega);omega
noncomputable def Cs:Int->List fA->List Int|_,[]=>[]|was,x::r=>V (x.1-was).toNat++(V x.2.toNat++Cs x.1 r)
noncomputable def oI(l:List fA):List Int:=V l.length++Cs 0 l
noncomputable def Inc:Int->List fA->Prop|_,[]=>True|was,x::r=>was<=x.1/\x.1<=1000/\(0<=x.2/\x.2<=18446744073709551615)/\Inc x.1 r
noncomputable def zF(l:List fA):Prop:=∀x∈l,0<=x.2/\x.2<=18446744073709551615
theorem JT:∀(was:Int)(l:List fA),(Cs was l).length<=l.length*20|_,[]=>by simp[Cs]|was,x::r=>by have:=cy (x.1-was).toNat;have:=cy x.2.toNat;have:=JT x.1 r;simp[Cs,List.length_append,List.length_cons];omega
theorem jU(l:List fA):(oI l).length<=10+l.length*20:=by have:=cy l.length;have:=JT 0 l;rw[oI,List.length_append];omega
theorem cQ.inc{l:List fA}{n:Int}(h:cQ l n)(hn:n<=1000)(hr:zF l):Inc 0 l:=by
 have key:∀(m i:Nat)(was:Int),m=l.length-i->was>=0->(i<l.length->was<=(rn l i).1)->Inc was (l.drop i):=by intro m;induction m with|zero=>intro i was hm _ _;rw[List.drop_eq_nil_of_le (by omega)];trivial|succ m ih=>
  intro i was hm hw hle;have hi:i<l.length:=by omega
  have e:l[i]=rn l i:=by rw[rn,List.getD_eq_getElem?_getD,List.getElem?_eq_getElem hi];rfl
  rw[List.drop_eq_getElem_cons hi,e];refine⟨hle hi,by have:=h.2.2.2 i hi;omega,hr _ (th _ hi),ih (i+1) _ (by omega) (by have:=hle hi;omega) λhi'=>?_⟩;have:=(h.2.2.1 i hi').1;omega
 have:=key l.length 0 0 (by omega) (by omega) λ_=>by rw[h.2.1];exact Int.le_refl _
 grind
theorem UC{a b:Int}(h:0<=b/\b<=a/\a<=1000):av (a-b)=a-b:=bp (by omega)
theorem E8{N:Nat}(hN:20<N){l:List fA}(hl:l.length<=100000):∀(r pre:List fA)(was:Int)(out:List Int)(k:Nat),l=pre++r->Inc was r->0<=was->r.length<k->out.length<=100000+pre.length*20->f161.tW N k (was,l,(l.length:Int),(pre.length:Int),out)=some (out++Cs was r)
 |[],pre,was,out,k+1,he,_,_,_,_=>by simp at he;subst he;rw[f161.tW.eq_2,aL,ak,Cs,List.append_nil]|x::r,pre,was,out,k+1,he,hi,hw,hk,ho=>by
  obtain⟨i1,i2,i3,i4⟩:=hi;have hlen:pre.length+(r.length+1)=l.length:=by rw[he];simp
  have:=cy (x.1-was).toNat;have:=cy x.2.toNat;have ih:=E8 hN hl r (pre++[x]) x.1 (out++V (x.1-was).toNat++V x.2.toNat) k (by rw[he];simp) i4 (by omega) (by simp at hk;omega) (by simp only[List.length_append,List.length_singleton];omega);obtain⟨v,hv⟩:=Int.eq_ofNat_of_zero_le i3.1;rw[f161.tW.eq_2,aI (by omega),au,he,qF,Option.bind_some,<-he,UC ⟨hw,i1,i2⟩,mw hN (by omega),Option.bind_some,ah (by omega) (by omega),af,hv,wI hN (by omega),Option.bind_some,ah (by simp only[List.length_append];have:=cy v;omega) (by omega),af,aj (by omega)];rw[show((pre++[x]).length:Int)=((pre.length+1:Nat):Int)by simp]at ih;rw[hv]at ih;simp only[Int.toNat_natCast]at ih;rw[ih,Cs,hv];simp[List.append_assoc]|_,_,_,_,0,_,_,_,h,_=>by omega
theorem Ct{N:Nat}(hN:20<N){l:List fA}(hl:l.length<=100000):∀(r pre:List fA)(was:Int)(out:List Int)(k:Nat),l=pre++r->Inc was r->0<=was->r.length<k->out.length<=100000+pre.length*20->f132.dB N k (l,was,(pre.length:Int),out)=some (out++Cs was r)
 |[],pre,was,out,k+1,he,_,_,_,_=>by simp at he;subst he;rw[f132.dB.eq_2,aL,ak,Cs,List.append_nil]|x::r,pre,was,out,k+1,he,hi,hw,hk,ho=>by
  obtain⟨i1,i2,i3,i4⟩:=hi;have hlen:pre.length+(r.length+1)=l.length:=by rw[he];simp
  have:=cy (x.1-was).toNat;have:=cy x.2.toNat;have ih:=Ct hN hl r (pre++[x]) x.1 (out++V (x.1-was).toNat++V x.2.toNat) k (by rw[he];simp) i4 (by omega) (by simp at hk;omega) (by simp only[List.length_append,List.length_singleton];omega);obtain⟨v,hv⟩:=Int.eq_ofNat_of_zero_le i3.1;have hx:idx l (pre.length:Int)=some x:=by rw[he];exact qF _ _ _
  simp only[f132.dB.eq_2,aI (show pre.length<l.length by omega),au,hx,Option.bind_some,UC ⟨hw,i1,i2⟩,zE hN (show 0<=x.1-was/\x.1-was<=9223372036854775807by omega),ah (show out.length+(V (x.1-was).toNat).length<=10000000by omega) (show 1<=1000by omega),af,hv,jL hN (show v<18446744073709551616by omega),ah (show(out++V (x.1-was).toNat).length+(V v).length<=10000000by simp only[List.length_append];have:=cy v;omega) (show 1<=1000by omega),aj (show pre.length<9223372036854775807by omega)];rw[show((pre++[x]).length:Int)=((pre.length+1:Nat):Int)by simp]at ih;rw[hv]at ih;simp only[Int.toNat_natCast]at ih;rw[ih,Cs,hv];simp[List.append_assoc]|_,_,_,_,0,_,_,_,h,_=>by omega
theorem YX{N:Nat}(hN:1000<N){l:List fA}{n:Nat}(hl:l.length<=1000)(h:cQ l n)(h1:1<=n)(h2:n<=200)(hr:zF l):P5 N (l,(n:Int))=some (oI l,0):=by have hi:=h.inc (by omega) hr;have hv:=cy l.length;rw[P5.eq_1,xY (by omega) (by omega),if_neg (by omega),if_pos h,Option.bind_some,JR,mo (by omega),wI (by omega) (by omega),Option.bind_some];have:=E8 (N:=N) (by omega) (l:=l) (by omega) l [] 0 (V l.length) N rfl hi (by omega) (by omega) (by simp;omega);simp at this;rw[this];rfl
theorem Cu{N:Nat}(hN:1000<N){l:List fA}{n:Nat}(hl:l.length<=1000)(h:cQ l n)(h2:n<=200)(hr:zF l):Ml N l=some (oI l):=by have hi:=h.inc (by omega) hr;have hv:=cy l.length;rw[Ml.eq_1,mo (by omega),jL (by omega) (by omega),Option.bind_some];have:=Ct (N:=N) (by omega) (l:=l) (by omega) l [] 0 (V l.length) N rfl hi (by omega) (by omega) (by simp;omega);simp at this;rw[this];rfl
end Go.Proofs.YtdogilonhnbapaaGreatDoor
namespace Go.Proofs.YtdogilonhnbapaaGreatDoor
open Go Go.bI Go.Sym
open Classical
noncomputable def JU(n:Nat):Bool:=(decide (97<=n)&&decide (n<=122))||(decide (65<=n)&&decide (n<=90))
noncomputable def tj(n:Nat):Bool:=JU n||(decide (48<=n)&&decide (n<=57))
noncomputable def kK(s:List UInt8):Bool:=decide (1<=s.length)&&(decide (s.length<=16)&&(JU ((s.getD 0 0).toNat)&&s.all λc=>tj c.toNat))
theorem UD:∀n:Nat,n<256->(bif(decide (((n:Nat):Int)>=(97:Int)))then(bif(decide (((n:Nat):Int)<=(122:Int)))then some true else(bif(decide (((n:Nat):Int)>=(65:Int)))then some (decide (((n:Nat):Int)<=(90:Int)))else some false))else(bif(decide (((n:Nat):Int)>=(65:Int)))then some (decide (((n:Nat):Int)<=(90:Int)))else some false))=some (JU n):=by decide+kernel
theorem E9(N:Nat)(c:UInt8):Mb N (c.toNat:Int)=some (JU c.toNat):=by rw[Mb.eq_1,UD _ c.toNat_lt];rfl
theorem UE:∀n:Nat,n<256->((bif(decide ((EU .u8 ((n:Nat):Int) (32:Int))<(97:Int)))then(bif(decide (((n:Nat):Int)<(48:Int)))then some true else some (decide (((n:Nat):Int)>(57:Int))))else(bif(decide ((EU .u8 ((n:Nat):Int) (32:Int))>(122:Int)))then(bif(decide (((n:Nat):Int)<(48:Int)))then some true else some (decide (((n:Nat):Int)>(57:Int))))else(bif((z8 .u8 ((n:Nat):Int) (64:Int))==(0:Int))then(bif(decide (((n:Nat):Int)<(48:Int)))then some true else some (decide (((n:Nat):Int)>(57:Int))))else some false))):Option Bool)=some (!tj n):=by decide+kernel
theorem Qq:∀n:Nat,n<256->((!decide (((n:Nat):Int)<=57))&&tj n)=(JU n&&tj n):=by decide+kernel
theorem qH{α:Type}{n:Nat}{q:Nat->Bool}{a b:α}:(if∃i,i<n/\(!q i)=true then b else a)=if∀i,i<n->q i=true then a else b:=by
 by_cases h:∀i,i<n->q i=true;.grind
 .rw[if_neg h,if_pos]<;>grind
theorem nc{α β:Type}{l:List α}{p:α->Bool}{a b:β}:(if∃x,x∈l/\(!p x)=true then b else a)=if∀x,x∈l->p x=true then a else b:=by
 by_cases h:∀x,x∈l->p x=true;.grind
 .rw[if_neg h,if_pos]<;>grind
theorem UF{α:Type}{l:List α}{p:α->Bool}:(if∃x,x∈l/\(!p x)=true then(Sum.inl false:Bool⊕Unit)else .inr ())=if l.all p=true then .inr ()else .inl false:=by by_cases h:l.all p=true<;>simp_all
theorem Cv{N:Nat}{s:List UInt8}(hN:100<N):JA N s=some (kK s):=by
 rw[JA.eq_1];unfold kK;by_cases h0:s.length=0;.rw[show((s.length:Int)==(0:Int))=true by rw[h0];rfl,au,Option.bind_some,au,decide_eq_false (by omega),Bool.false_and]
 .rw[He h0,ak,decide_eq_true (show 1<=s.length by omega),Bool.true_and];by_cases h1:s.length<=16
  .have e0:idx s (0:Int)=some (s.getD 0 0):=cW (i:=0) 0 (by omega);rw[decide_eq_false (show¬(s.length:Int)>16by omega),ak,e0,Option.bind_some,Option.bind_some,decide_eq_true h1,Bool.true_and];have hlt:=(s.getD 0 0).toNat_lt;have hall:s.all (λc=>tj c.toNat)=true->tj (s.getD 0 0).toNat=true:=λh=>List.all_eq_true.1 h _ (th 0 (by omega));have hf:=Qq _ hlt;have key:=fC (l:=bM s) (a:=(.inr ():Bool⊕Unit)) (b:=.inl false) (p:=λx=>!tj x.toNat) (Lf:=λk i=>f195.aU N k (bM s,((bM s).length:Int),i)) (λk _=>by simp only[f195.aU.eq_2,aL,ak]) (λk i x hx hm=>by obtain⟨c,hc,rfl⟩:=List.mem_map.1 hm;have hi:=aA hx;rw[eN]at hi;simp only[f195.aU.eq_2,aI (aA hx),au,aD hx,Option.bind_some,UE _ c.toNat_lt,aj (show i<9223372036854775807by omega),Int.toNat_natCast];by_cases hb:tj c.toNat=true<;>simp[hb]) (k:=N) (by rw[eN];omega);rw[key,UF (p:=λx:Int=>tj x.toNat)];have e2:(bM s).all (λx=>tj x.toNat)=s.all λc=>tj c.toNat:=by unfold bM;rw[List.all_map];rfl
   rw[e2];cases ha:s.all λc=>tj c.toNat;.rw[if_neg (by simp),Bool.and_false,Option.bind_some];cases decide (((s.getD 0 0).toNat:Int)<=57)<;>rfl
   .rw[hall ha,Bool.and_true,Bool.and_true]at hf;rw[if_pos rfl,Bool.and_true,Option.bind_some,<-hf];cases decide (((s.getD 0 0).toNat:Int)<=57)<;>rfl
  .rw[decide_eq_true (show(s.length:Int)>16by omega),au,Option.bind_some,au,decide_eq_false h1];rfl
theorem UG:∀n:Nat,n<256->(bif(!JU n)then(bif(decide (((n:Nat):Int)<(48:Int)))then some true else some (decide (((n:Nat):Int)>(57:Int))))else some false)=some (!tj n):=by decide+kernel
theorem Cw{N:Nat}{s:List UInt8}(hN:100<N):Mc N s=some (kK s):=by
 rw[Mc.eq_1];unfold kK;by_cases h0:1<=s.length
 .rw[decide_eq_false (show¬(s.length:Int)<1by omega),ak,decide_eq_true h0,Bool.true_and];by_cases h1:s.length<=16
  .have e0:idx s (0:Int)=some (s.getD 0 0):=cW (i:=0) 0 (by omega);rw[decide_eq_false (show¬(s.length:Int)>16by omega),ak,e0,Option.bind_some,E9,Option.bind_some,Option.bind_some,decide_eq_true h1,Bool.true_and];have key:=fC (l:=s) (a:=(.inr ():Bool⊕Unit)) (b:=.inl false) (p:=λc=>!tj c.toNat) (Lf:=λk i=>f176.aU N k (s,i)) (λk _=>by simp only[f176.aU.eq_2,aL,ak]) (λk i x hx hm=>by have hi:=aA hx;simp only[f176.aU.eq_2,aI (aA hx),au,aD hx,Option.bind_some,E9,UG _ x.toNat_lt,aj (show i<9223372036854775807by omega)];by_cases hb:tj x.toNat=true<;>simp[hb]) (k:=N) (by omega);rw[key,UF (p:=λc:UInt8=>tj c.toNat)];cases ha:s.all λc=>tj c.toNat;.rw[if_neg (by simp),Bool.and_false];cases JU (s.getD 0 0).toNat<;>rfl
   .rw[if_pos rfl,Bool.and_true];cases JU (s.getD 0 0).toNat<;>rfl
  .rw[decide_eq_true (show(s.length:Int)>16by omega),au,Option.bind_some,au,decide_eq_false h1];rfl
 .rw[decide_eq_true (show(s.length:Int)<1by omega),au,Option.bind_some,au,decide_eq_false h0,Bool.false_and]
theorem lK{s:List UInt8}(h:kK s=true):s.length<=16:=by unfold kK at h<;>grind
noncomputable def fl(l:List Field)(i:Nat):Field:=l.getD i ([],0)
noncomputable def JV(l:List Field)(i:Nat):Prop:=∃j,j<i/\(fl l j).1=(fl l i).1
noncomputable def okF(l:List Field)(i:Nat):Bool:=kK (fl l i).1&&!decide (JV l i)
noncomputable def cc(l:List Field):Prop:=∀i,i<l.length->okF l i=true
theorem Cy{N:Nat}{l:List Field}{i:Nat}(hi:i<=l.length)(hN:l.length<N)(hl:l.length<=1000000)(s:List UInt8)(v:Int):(∃j:Int,0<=j/\f196.cH N N (l.take i,((l.take i).length:Int),0,s,v)=some (.inl j)/\∃j,j<i/\(fl l j).1=s)\/(f196.cH N N (l.take i,((l.take i).length:Int),0,s,v)=some (.inr ())/\¬∃j,j<i/\(fl l j).1=s):=by
 have hlen:(l.take i).length=i:=by grind
 have key:∀k j,j<=i->i-j<k->(∀m,m<j->(fl l m).1≠s)->(∃q:Int,0<=q/\f196.cH N k (l.take i,((l.take i).length:Int),(j:Int),s,v)=some (.inl q)/\∃j,j<i/\(fl l j).1=s)\/(f196.cH N k (l.take i,((l.take i).length:Int),(j:Int),s,v)=some (.inr ())/\¬∃j,j<i/\(fl l j).1=s):=by intro k;induction k with|zero=>omega|succ k ih=>
   intro j hj hk hm;by_cases he:j=i;.subst he;refine .inr ⟨?_,λ⟨m,h1,h2⟩=>hm m h1 h2⟩;rw[f196.cH.eq_2,hlen,aL,ak]
   .have e:idx (l.take i) (j:Int)=some (fl l j):=by refine aD ?_;rw[List.getElem?_take,if_pos (by omega),fl,List.getD_eq_getElem?_getD,List.getElem?_eq_getElem (by omega)];rfl
    rw[f196.cH.eq_2,hlen,aI (by omega),au,e,Option.bind_some];by_cases hq:(fl l j).1=s;.rw[show((fl l j).1==s)=true by simpa using hq,au];exact .inl ⟨j,by omega,rfl,j,by omega,hq⟩
    .rw[show((fl l j).1==s)=false by simpa using hq,ak,aj (by omega)];have:=ih (j+1) (by omega) (by omega) λm h=>by
      by_cases e:m=j;.subst e;exact hq
      .exact hm m (by omega)
     rw[hlen]at this;exact this
 exact key N 0 (by omega) (by omega) λm h=>by omega
theorem JW{N:Nat}{l:List Field}(hN:l.length+100<N)(hl:l.length<=1000000):PZ N l=some (decide (cc l)):=by
 rw[PZ.eq_1];have key:=fX (n:=l.length) (a:=(.inr ():Bool⊕Unit)) (b:=.inl false) (q:=λi=>!okF l i) (Lf:=λk i=>f196.ku N k (l,l,(l.length:Int),i)) (λk _=>by simp only[f196.ku.eq_2,aL,ak]) (λk i hi _=>by
   have e:idx l (i:Int)=some (fl l i):=cW _ hi;simp only[f196.ku.eq_2,aI hi,au,e,Option.bind_some,Cv (show 100<N by omega)];cases hn:kK (fl l i).1;.simp[okF,hn]
   .rw[Bool.not_true,ak,decide_eq_true (show(0:Int)<=(i:Int)by omega),af,Int.toNat_natCast,decide_eq_true (show i<=l.length by omega),af,aj (by omega)];rcases Cy (l:=l) (i:=i) (by omega) (show l.length<N by omega) hl (fl l i).1 (fl l i).2with⟨j,h1,h2,h3⟩|⟨h2,h3⟩;.rw[h2,Option.bind_some];simp only[decide_eq_true (show j>=0from h1),au];rw[if_pos (by unfold okF;rw[decide_eq_true (show JV l i from h3)];simp)]
    .rw[h2,Option.bind_some];simp only;rw[if_neg (by unfold okF;rw[hn,decide_eq_false (show¬JV l i from h3)];simp)]) (k:=N) (by omega);rw[key,qH,Option.bind_some];by_cases h:cc l;.rw[if_pos (show∀i,i<l.length->okF l i=true from h),decide_eq_true h]
 .rw[if_neg (show¬∀i,i<l.length->okF l i=true from h),decide_eq_false h]
theorem tn{N:Nat}{l:List Field}(hN:l.length+100<N)(hl:l.length<=1000000)(m:Int):Md N (l,m)=some (decide ((l.length:Int)<=m/\cc l)):=by
 rw[Md.eq_1];by_cases hm:(l.length:Int)<=m
 .rw[decide_eq_false (show¬(l.length:Int)>m by omega),ak];have key:=fX (n:=l.length) (a:=(.inr ():Bool⊕Unit)) (b:=.inl false) (q:=λi=>!okF l i) (Lf:=λk i=>f177.aU N k (l,i)) (λk _=>by simp only[f177.aU.eq_2,aL,ak]) (λk i hi _=>by
    have e:idx l (i:Int)=some (fl l i):=cW _ hi;simp only[f177.aU.eq_2,aI hi,au,e,Option.bind_some,Cw (show 100<N by omega)];cases hn:kK (fl l i).1;.simp[okF,hn]
    .have inner:=fX (n:=i) (a:=(.inr (l,(i:Int)):Bool⊕(List Field×Int))) (b:=.inl false) (q:=λj=>(fl l j).1==(fl l i).1) (Lf:=λk j=>f177.oG N k (l,(i:Int),j)) (λk _=>by simp only[f177.oG.eq_2,aL,ak]) (λk j hj _=>by have ej:idx l (j:Int)=some (fl l j):=cW _ (by omega);simp only[f177.oG.eq_2,aI hj,au,e,ej,Option.bind_some,aj (show j<9223372036854775807by omega)];by_cases hb:((fl l j).1==(fl l i).1)=true<;>simp[hb]) (k:=N) (by omega);rw[Bool.not_true,ak,inner,Option.bind_some];by_cases hd:JV l i;.rw[if_pos,if_pos (by unfold okF;rw[decide_eq_true hd];simp)];obtain⟨j,h1,h2⟩:=hd;exact⟨j,h1,by simpa using h2⟩
     .rw[if_neg,if_neg (by unfold okF;rw[hn,decide_eq_false hd];simp)];.simp only;rw[aj (by omega)]
      .rintro⟨j,h1,h2⟩;exact hd ⟨j,h1,by simpa using h2⟩) (k:=N) (by omega);rw[key,qH,Option.bind_some];by_cases h:cc l;.rw[if_pos (show∀i,i<l.length->okF l i=true from h),decide_eq_true ⟨hm,h⟩]
  .rw[if_neg (show¬∀i,i<l.length->okF l i=true from h),decide_eq_false λh'=>h h'.2]
 grind
theorem Az{N:Nat}{l:List Int}(hN:l.length<N)(hl:l.length<=1000):GQ N l=some (l.all λx=>x==0):=by
 rw[GQ.eq_1];have key:∀(r pre:List Int)k,l=pre++r->r.length<k->(r.all (λx=>x==0)=true/\f205.dx N k (l,(l.length:Int),(pre.length:Int))=some (.inr ()))\/(r.all (λx=>x==0)=false/\∃j:Int,0<=j/\f205.dx N k (l,(l.length:Int),(pre.length:Int))=some (.inl j)):=by intro r;induction r with|nil=>intro pre k he hk;obtain⟨k,rfl⟩:∃k',k=k'+1:=⟨k-1,by simp at hk;omega⟩;simp at he;subst he;exact .inl ⟨rfl,by rw[f205.dx.eq_2,aL,ak]⟩|cons x r ih=>
  intro pre k he hk;obtain⟨k,rfl⟩:∃k',k=k'+1:=⟨k-1,by simp at hk;omega⟩;have hlen:pre.length+(r.length+1)=l.length:=by rw[he];simp
  have hx:idx l (pre.length:Int)=some x:=by rw[he];exact qF _ _ _
  rw[f205.dx.eq_2,aI (by omega),au,hx,Option.bind_some,Tc.eq_1,Option.bind_some];by_cases h0:x=0;.rw[show(x !=0)=false by simp[h0],ak,aj (by omega),List.all_cons,show(x==0)=true by simp[h0],Bool.true_and];have:=ih (pre++[x]) k (by rw[he];simp) (by simp at hk;omega);rwa[show((pre++[x]).length:Int)=((pre.length+1:Nat):Int)by simp]at this
  .rw[show(x !=0)=true by simp[h0],au,List.all_cons,show(x==0)=false by simp[h0],Bool.false_and];exact .inr ⟨rfl,pre.length,by omega,rfl⟩
 rcases key l [] N rfl hN with⟨h1,h2⟩|⟨h1,j,h2,h3⟩<;>grind
theorem Fa(N:Nat)(a b:Int):GP N (a,b)=some (decide (0<=a/\a<b)):=by rw[GP.eq_1,mL,Option.bind_some]<;>simp_all
noncomputable def ty0:aB:=(0,0,0,[])
noncomputable def dP(l:List aB)(i:Nat):aB:=l.getD i ty0
noncomputable def cK(n i:Nat)(t:aB):Prop:=if t.1=1\/t.1=2\/t.1=3then t.2.1=0/\t.2.2.1=0/\t.2.2.2.length=0 else if t.1=4\/t.1=7then(0<=t.2.1/\t.2.1<n)/\t.2.2.1=0/\t.2.2.2.length=0 else if t.1=6then(0<=t.2.1/\t.2.1<i)/\(1<=t.2.2.1/\t.2.2.1<=16)/\t.2.2.2.length=0 else if t.1=5then t.2.1=0/\t.2.2.1=0/\(0<t.2.2.2.length/\t.2.2.2.length<=8)/\cc t.2.2.2/\∀f,f∈t.2.2.2->0<=f.2/\f.2<i else False
theorem Fb{l:List Field}{i:Nat}(hi:i<l.length):hasB ((l.take i).map (·.1)) (fl l i).1=decide (JV l i):=by
 unfold hasB;by_cases h:JV l i;.rw[decide_eq_true h,List.any_eq_true];obtain⟨j,h1,h2⟩:=h;refine⟨(fl l j).1,List.mem_map.2 ⟨fl l j,?_,rfl⟩,decide_eq_true h2.symm⟩;rw[fl,List.getD_eq_getElem?_getD,List.getElem?_eq_getElem (by omega)];exact List.mem_take_iff_getElem.2 ⟨j,by omega,rfl⟩
 .rw[decide_eq_false h];cases ha:((l.take i).map (·.1)).any λq=>decide ((fl l i).1=q)with|false=>rfl|true=>exfalso;obtain⟨q,h1,h2⟩:=List.any_eq_true.1 ha;obtain⟨f,h3,rfl⟩:=List.mem_map.1 h1;obtain⟨j,h4,rfl⟩:=List.mem_take_iff_getElem.1 h3;refine h ⟨j,by omega,?_⟩;rw[of_decide_eq_true h2];rw[fl,List.getD_eq_getElem?_getD,List.getElem?_eq_getElem (by omega)];rfl
theorem aff{l:List Field}{i:Nat}(hi:i<l.length):l[i]?=some (fl l i):=by rw[fl,List.getD_eq_getElem?_getD,List.getElem?_eq_getElem hi];rfl
theorem Qr{l:List Field}{i:Nat}(hi:i<l.length)(h:¬JV l i):rL ((l.take i).map (·.1)) (fl l i).1=(l.take (i+1)).map (·.1):=by unfold rL;rw[Fb hi,decide_eq_false h,take_succ (aff hi),List.map_append];rfl
theorem JX{N:Nat}{l:List Field}{p:Nat}(hN:l.length+100<N)(hl:l.length<=1000000)(a b c:Int):f192.zo N N ((p:Int),l,(l.length:Int),(0:Int),a,b,c,l,([]:List (List UInt8)))=some (if cc l/\(∀f,f∈l->0<=f.2/\f.2<p)then .inr (a,b,c,l)else .inl false):=by
 have key:=fX (n:=l.length) (a:=(.inr (a,b,c,l):Bool⊕(Int×Int×Int×List Field))) (b:=.inl false) (q:=λi=>!(okF l i&&decide (0<=(fl l i).2/\(fl l i).2<p))) (Lf:=λk i=>f192.zo N k ((p:Int),l,(l.length:Int),i,a,b,c,l,(l.take i.toNat).map (·.1))) (λk _=>by simp only[f192.zo.eq_2,aL,ak]) (λk i hi _=>by
   have e:idx l (i:Int)=some (fl l i):=cW _ hi;simp only[f192.zo.eq_2,aI hi,au,e,Option.bind_some,Cv (show 100<N by omega),Int.toNat_natCast,Fb hi,Fa,aj (show i<9223372036854775807by omega)];cases hn:kK (fl l i).1;.simp[okF,hn]
   .by_cases hd:JV l i;.simp[okF,hd]
    .rw[Qr hi hd];unfold okF;rw[hn,decide_eq_false hd];cases decide (0<=(fl l i).2/\(fl l i).2<(p:Int))<;>rfl) (k:=N) (by omega);rw[show(0:Int).toNat=0from rfl,List.take_zero,List.map_nil]at key;rw[key,qH];have hiff:(∀i,i<l.length->(okF l i&&decide (0<=(fl l i).2/\(fl l i).2<(p:Int)))=true)↔cc l/\∀f,f∈l->0<=f.2/\f.2<(p:Int):=by simp only[Bool.and_eq_true,decide_eq_true_eq];refine⟨λh=>⟨λi hi=>(h i hi).1,λf hf=>?_⟩,λh i hi=>⟨h.1 i hi,h.2 _ (th _ hi)⟩⟩;obtain⟨i,hi,rfl⟩:=p7 ([],0) hf;exact(h i hi).2
 grind
theorem Mw{N:Nat}{l:List Field}{p:Nat}(hN:l.length<N)(hl:l.length<=1000000)(a b c:Int):f173.zz N N ((p:Int),(0:Int),a,b,c,l)=some (if∀f,f∈l->0<=f.2/\f.2<p then .inr (a,b,c,l)else .inl false):=by
 have key:=fC (l:=l) (a:=(.inr (a,b,c,l):Bool⊕(Int×Int×Int×List Field))) (b:=.inl false) (p:=λf=>!decide (0<=f.2/\f.2<(p:Int))) (Lf:=λk i=>f173.zz N k ((p:Int),i,a,b,c,l)) (λk _=>by simp only[f173.zz.eq_2,aL,ak]) (λk i x hx hm=>by
   simp only[f173.zz.eq_2,aI (aA hx),au,aD hx,Option.bind_some,aj (show i<9223372036854775807by have:=aA hx;omega)];by_cases h1:x.2<0;.rw[decide_eq_true h1,decide_eq_false (show¬(0<=x.2/\x.2<(p:Int))by omega)];rfl
   .by_cases h2:x.2>=(p:Int);.rw[decide_eq_false h1,decide_eq_true h2,decide_eq_false (show¬(0<=x.2/\x.2<(p:Int))by omega)];rfl
    .rw[decide_eq_false h1,decide_eq_false h2,decide_eq_true (show 0<=x.2/\x.2<(p:Int)by omega)];rfl) (k:=N) hN;rw[key,nc]<;>grind
theorem AA(a b:Int):(a==b)=decide (a=b):=by grind
theorem afg{v:Int}(h:i64 v):decide (0<=av (v-1)/\av (v-1)<16)=decide (1<=v/\v<=16):=by
 unfold i64 at h;by_cases h1:v=-9223372036854775808;.subst h1;rfl
 .rw[bp (by omega)]<;>grind
theorem UH{N:Nat}{l:List aB}{i:Nat}(hN:1100<N)(hi:i<l.length)(hf:(dP l i).2.2.2.length<=1000)(hb:i64 (dP l i).2.2.1):PW N (l,(i:Int))=some (decide (cK l.length i (dP l i))):=by
 have e:idx l (i:Int)=some (dP l i):=cW _ hi;rw[PW.eq_1,e,Option.bind_some];unfold cK;generalize dP l i=t at hf hb;obtain⟨k,el,le,fs⟩:=t;simp only at hf hb⊢;rw[JX (by omega) (by omega)];simp only[AA,dK,Option.bind_some,Fa,Az (show[el,le,(fs.length:Int)].length<N by simp;omega) (by simp),Az (show[le,(fs.length:Int)].length<N by simp;omega) (by simp),Az (show[(fs.length:Int)].length<N by simp;omega) (by simp),afg hb,List.all_cons,List.all_nil,Bool.and_true];by_cases h1:k=1\/k=2\/k=3;.rw[show(decide (k=1)||(decide (k=2)||decide (k=3)))=true by simpa using h1,au,if_pos h1];congr 1;by_cases a1:el=0<;>by_cases a2:le=0<;>by_cases a3:fs.length=0<;>simp[a1,a2,a3];all_goals(intro h;simp[h]at a3)
 .rw[show(decide (k=1)||(decide (k=2)||decide (k=3)))=false by simpa using h1,ak,if_neg h1];by_cases h2:k=4\/k=7;.rw[show(decide (k=4)||decide (k=7))=true by simpa using h2,au,if_pos h2,mL];congr 1;by_cases a1:0<=el/\el<(l.length:Int)<;>by_cases a2:le=0<;>by_cases a3:fs.length=0<;>simp[a1,a2,a3];all_goals(intro h;simp[h]at a3)
  .rw[show(decide (k=4)||decide (k=7))=false by simpa using h2,ak,if_neg h2];by_cases h3:k=6;.rw[decide_eq_true h3,au,if_pos h3];by_cases a1:0<=el/\el<(i:Int)<;>by_cases a2:1<=le/\le<=16<;>by_cases a3:fs.length=0<;>simp[a1,a2,a3];all_goals(intro h;simp[h]at a3)
   .rw[decide_eq_false h3,ak,if_neg h3];by_cases h4:k=5
    .rw[decide_eq_true h4,au,if_pos h4];by_cases hq:cc fs/\∀f,f∈fs->0<=f.2/\f.2<(i:Int)
     .rw[if_pos hq];simp only;rw[Az (show[el,le].length<N by simp;omega) (by simp),Option.bind_some];simp only[List.all_cons,List.all_nil,Bool.and_true];have g3:decide ((fs.length:Int)>0)=decide (0<fs.length):=by rw[decide_eq_decide];omega
      have g4:decide ((fs.length:Int)<=8)=decide (fs.length<=8):=by rw[decide_eq_decide];omega
      rw[g3,g4];by_cases a1:el=0
      .by_cases a2:le=0
       .by_cases a3:0<fs.length
        .by_cases a4:fs.length<=8;.rw[bJ (p:=el=0/\le=0/\(0<fs.length/\fs.length<=8)/\cc fs/\∀f,f∈fs->0<=f.2/\f.2<(i:Int)) ⟨a1,a2,⟨a3,a4⟩,hq⟩];simp[a1,a2,a3,a4]
         .rw[bE (p:=el=0/\le=0/\(0<fs.length/\fs.length<=8)/\cc fs/\∀f,f∈fs->0<=f.2/\f.2<(i:Int)) λh=>a4 h.2.2.1.2];simp[a1,a2,a3,a4]
        .rw[bE (p:=el=0/\le=0/\(0<fs.length/\fs.length<=8)/\cc fs/\∀f,f∈fs->0<=f.2/\f.2<(i:Int)) λh=>a3 h.2.2.1.1,decide_eq_false a3];simp[a1,a2]
       .rw[bE (p:=el=0/\le=0/\(0<fs.length/\fs.length<=8)/\cc fs/\∀f,f∈fs->0<=f.2/\f.2<(i:Int)) λh=>a2 h.2.1,show(le==0)=false by simpa using a2,Bool.and_false];rfl
      .rw[bE (p:=el=0/\le=0/\(0<fs.length/\fs.length<=8)/\cc fs/\∀f,f∈fs->0<=f.2/\f.2<(i:Int)) λh=>a1 h.1,show(el==0)=false by simpa using a1,Bool.false_and];rfl
     .rw[if_neg hq,bE (p:=el=0/\le=0/\(0<fs.length/\fs.length<=8)/\cc fs/\∀f,f∈fs->0<=f.2/\f.2<(i:Int)) λh=>hq ⟨h.2.2.2.1,h.2.2.2.2⟩]
    .rw[decide_eq_false h4,ak,if_neg h4,bE (p:=False) id]
end Go.Proofs.YtdogilonhnbapaaGreatDoor
