/- A part of the proof: Law12mkd, Law12mke. -/
import Derived.Test.YtgkllgjmfpjeoaaGreatDoorLaw12mkc
set_option linter.unusedVariables false
set_option linter.unusedSimpArgs false
namespace Go.Proofs.YtgkllgjmfpjeoaaGreatDoor
open Go Go.bJ Go.Sym
open Classical
theorem cS{α:Type}{l:List α}{i:Nat}(d:α)(h:i<l.length):idx l (i:Int)=some (l.getD i d):=by grind[idx]
theorem sL{α:Type}{l:List α}{i:Nat}(d:α)(h:i<l.length):l.getD i d∈l:=by grind
theorem pT{α:Type}{l:List α}{x:α}(d:α)(h:x∈l):∃i,i<l.length/\l.getD i d=x:=by obtain⟨i,hi,rfl⟩:=List.mem_iff_getElem.1 h;exact⟨i,hi,by rw[List.getD_eq_getElem?_getD,List.getElem?_eq_getElem hi];rfl⟩
theorem Et{i:Nat}(h0:0<i)(h:i<=9223372036854775807):av ((i:Int)-1)=((i-1:Nat):Int):=by rw[bn (by omega)];omega
theorem Gl{α:Type}{l:List α}(h:¬l.length=0):((l.length:Int)==(0:Int))=false:=by grind
noncomputable def rn(l:List fm)(i:Nat):fm:=l.getD i (0,0)
noncomputable def cO(l:List fm)(n:Int):Prop:=0<l.length/\(rn l 0).1=0/\(∀i,i+1<l.length->(rn l i).1<(rn l (i+1)).1/\(rn l i).2≠(rn l (i+1)).2)/\∀i,i<l.length->(rn l i).1<n
theorem cO.mono{l:List fm}{n:Int}(h:cO l n){i:Nat}:∀{j:Nat},i<=j->j<l.length->(rn l i).1<=(rn l j).1
 |0,h1,_=>by grind|j+1,h1,h2=>by
  by_cases e:i=j+1;.grind
  .have:=h.mono (i:=i) (j:=j) (by omega) (by omega);have:=(h.2.2.1 j h2).1;omega
theorem TM{N:Nat}{l:List fm}{n:Int}(hN:l.length<N)(hl:l.length<=1000000):Si N (l,n)=some (decide (cO l n)):=by
 rw[Si.eq_1];by_cases h0:l.length=0;.rw[show((l.length:Int)==(0:Int))=true by rw[h0];rfl,au,Option.bind_some,au,decide_eq_false λh=>by have:=h.1;omega]
 .have e0:idx l (0:Int)=some (rn l 0):=cS (i:=0) (0,0) (by omega);have e1:idx l (av ((l.length:Int)-1))=some (rn l (l.length-1)):=by rw[Et (by omega) (by omega)];exact cS _ (by omega)
  rw[Gl h0,aq,e0,Option.bind_some,e1,Option.bind_some];by_cases h1:(rn l 0).1=0
  .rw[show((rn l 0).1!=(0:Int))=false by simp[h1],aq,Option.bind_some];by_cases h2:(rn l (l.length-1)).1>=n;.rw[decide_eq_true h2,au,decide_eq_false λh=>by have:=h.2.2.2 (l.length-1) (by omega);omega]
   .rw[decide_eq_false h2,aq,Option.bind_some,decide_eq_true (show 1<=l.length by omega),ai];have hd:(l.drop 1).length=l.length-1:=by simp
    have key:=fX (n:=(l.drop 1).length) (a:=(.inr ():Bool⊕Unit)) (b:=.inl false) (q:=λi=>decide ((rn l (i+1)).1<=(rn l i).1)||((rn l (i+1)).2==(rn l i).2)) (Lf:=λk i=>f216.cI N k (l.drop 1,((l.drop 1).length:Int),i,(rn l i.toNat).1,(rn l i.toNat).2)) (λk _=>by simp only[f216.cI.eq_2,aM,aq]) (λk i hi _=>by
      have e:idx (l.drop 1) (i:Int)=some (rn l (i+1)):=by refine aE ?_;rw[List.getElem?_drop,rn,List.getD_eq_getElem?_getD,Nat.add_comm 1 i,List.getElem?_eq_getElem (by omega)];rfl
      simp only[f216.cI.eq_2,aJ hi,au,e,Option.bind_some,aj (show i<9223372036854775807by omega),Int.toNat_natCast,beq_self_eq_true,Bool.true_and,Bool.and_true];by_cases ha:(rn l (i+1)).1<=(rn l i).1;.simp[ha]
      .cases hb:((rn l (i+1)).2==(rn l i).2)<;>simp[ha]) (k:=N) (by omega);simp only[Int.toNat_zero]at key;rw[key,Option.bind_some];by_cases hex:∃i,i<(l.drop 1).length/\(decide ((rn l (i+1)).1<=(rn l i).1)||((rn l (i+1)).2==(rn l i).2))=true
    .rw[if_pos hex,decide_eq_false];rintro⟨_,_,h3,_⟩;obtain⟨i,hi,hq⟩:=hex;obtain⟨g1,g2⟩:=h3 i (by omega);rw[Bool.or_eq_true,decide_eq_true_eq,beq_iff_eq]at hq;rcases hq with hq|hq;.omega
     .exact g2 hq.symm
    .rw[if_neg hex,decide_eq_true];have h3:∀i,i+1<l.length->(rn l i).1<(rn l (i+1)).1/\(rn l i).2≠(rn l (i+1)).2:=λi hi=>by have:¬(decide ((rn l (i+1)).1<=(rn l i).1)||((rn l (i+1)).2==(rn l i).2))=true:=λh=>hex ⟨i,by omega,h⟩;rw[Bool.or_eq_true,decide_eq_true_eq,beq_iff_eq,not_or]at this;exact⟨by omega,λh=>this.2 h.symm⟩
     have m:∀j,j<l.length->∀i,i<=j->(rn l i).1<=(rn l j).1:=by intro j;induction j with|zero=>intro _ i hi;rw[Nat.le_zero.1 hi];exact Int.le_refl _|succ j ih=>
       intro hj i hi;by_cases e:i=j+1;.rw[e];exact Int.le_refl _
       .have:=ih (by omega) i (by omega);have:=(h3 j hj).1;omega
     exact⟨by omega,h1,h3,λi hi=>by have:=m (l.length-1) (by omega) i (by omega);omega⟩
  .rw[show((rn l 0).1!=(0:Int))=true by simp[h1],au,Option.bind_some,au,decide_eq_false λh=>h1 h.2.1]
theorem xH{N:Nat}{l:List fm}{n:Nat}(hN:l.length<N)(hl:l.length<=1000000):KV N (l,(n:Int))=some (if n<1\/n>200then 2 else if cO l n then 0 else 8):=by rw[KV.eq_1,ON.eq_1,TM hN hl]<;>grind
theorem Eu{N:Nat}{l:List fm}{n:Int}(hN:l.length<N)(hl:l.length<=1000000):OY N (l,n)=some (decide (cO l n)):=by
 rw[OY.eq_1];by_cases h0:l.length=0;.rw[show decide ((l.length:Int)<1)=true by rw[h0];rfl,au,Option.bind_some,au,decide_eq_false λh=>by have:=h.1;omega]
 .have e0:idx l (0:Int)=some (rn l 0):=cS (i:=0) (0,0) (by omega);rw[decide_eq_false (show¬(l.length:Int)<1by omega),aq,e0,Option.bind_some,Option.bind_some];by_cases h1:(rn l 0).1=0
  .rw[show((rn l 0).1!=(0:Int))=false by simp[h1],aq];have key:=fX (n:=l.length) (a:=(.inr ():Bool⊕Unit)) (b:=.inl false) (q:=λi=>decide ((rn l i).1>=n\/0<i/\((rn l (i-1)).1>=(rn l i).1\/(rn l (i-1)).2=(rn l i).2))) (Lf:=λk i=>f183.aT N k (l,n,i)) (λk _=>by simp only[f183.aT.eq_2,aM,aq]) (λk i hi _=>by
     have e:idx l (i:Int)=some (rn l i):=cS _ hi;simp only[f183.aT.eq_2,aJ hi,au,e,Option.bind_some,aj (show i<9223372036854775807by omega)];by_cases ha:(rn l i).1>=n;.simp[ha]
     .by_cases hz:0<i
      .have e':idx l (av ((i:Int)-1))=some (rn l (i-1)):=by rw[Et hz (by omega)];exact cS _ (by omega)
       simp only[ha,e',decide_false,aq,decide_eq_true (show(i:Int)>0 by omega),au,Option.bind_some,hz,true_and,false_or];by_cases hb:(rn l (i-1)).1>=(rn l i).1;.simp[hb]
       .by_cases hd:(rn l (i-1)).2=(rn l i).2;.simp[hb,hd]
        .rw[show((rn l (i-1)).2==(rn l i).2)=false by simpa using hd];simp[hb,hd]
      .simp only[ha,decide_false,aq,decide_eq_false (show¬(i:Int)>0 by omega),Option.bind_some,hz,false_and,or_self];simp) (k:=N) hN;rw[key,Option.bind_some];by_cases hex:∃i,i<l.length/\decide ((rn l i).1>=n\/0<i/\((rn l (i-1)).1>=(rn l i).1\/(rn l (i-1)).2=(rn l i).2))=true
   .rw[if_pos hex,decide_eq_false];rintro⟨_,_,h3,h4⟩;obtain⟨i,hi,hq⟩:=hex;rcases of_decide_eq_true hq with hq|⟨hz,hq⟩;.have:=h4 i hi;omega
    .obtain⟨g1,g2⟩:=h3 (i-1) (by omega);rw[show i-1+1=i by omega]at g1 g2;rcases hq with hq|hq;.omega
     .exact g2 hq
   .rw[if_neg hex,decide_eq_true];have hno:∀i,i<l.length->¬((rn l i).1>=n\/0<i/\((rn l (i-1)).1>=(rn l i).1\/(rn l (i-1)).2=(rn l i).2)):=λi hi h=>hex ⟨i,hi,decide_eq_true h⟩;refine⟨by omega,h1,λi hi=>?_,λi hi=>?_⟩;.have:=hno (i+1) hi;simp only[Nat.add_sub_cancel,not_or,not_and]at this;have:=this.2 (by omega);exact⟨by omega,this.2⟩
    .have:=hno i hi;simp only[not_or]at this;omega
  .rw[show((rn l 0).1!=(0:Int))=true by simp[h1],au,decide_eq_false λh=>h1 h.2.1]
theorem jz{l:List fm}{n:Nat}(h:cO l n):l.length<=n:=by
 have key:∀i:Nat,i<l.length->(i:Int)<=(rn l i).1:=by intro i;induction i with|zero=>have:=h.2.1;omega|succ i ih=>intro hi;have:=(h.2.2.1 i hi).1;omega
 have h0:=h.1;have:=key (l.length-1) (by omega);have:=h.2.2.2 (l.length-1) (by omega);omega
noncomputable def BW:Int->List fm->List Int|_,[]=>[]|was,x::r=>V (x.1-was).toNat++(V x.2.toNat++BW x.1 r)
noncomputable def ou(l:List fm):List Int:=V l.length++BW 0 l
noncomputable def Inc:Int->List fm->Prop|_,[]=>True|was,x::r=>was<=x.1/\x.1<=1000/\(0<=x.2/\x.2<=18446744073709551615)/\Inc x.1 r
noncomputable def wg(l:List fm):Prop:=∀x∈l,0<=x.2/\x.2<=18446744073709551615
theorem I6:∀(was:Int)(l:List fm),(BW was l).length<=l.length*20|_,[]=>by simp[BW]|was,x::r=>by have:=cF (x.1-was).toNat;have:=cF x.2.toNat;have:=I6 x.1 r;simp[BW,List.length_append,List.length_cons];omega
theorem iy(l:List fm):(ou l).length<=10+l.length*20:=by have:=cF l.length;have:=I6 0 l;rw[ou,List.length_append];omega
theorem cO.inc{l:List fm}{n:Int}(h:cO l n)(hn:n<=1000)(hr:wg l):Inc 0 l:=by
 have key:∀(m i:Nat)(was:Int),m=l.length-i->was>=0->(i<l.length->was<=(rn l i).1)->Inc was (l.drop i):=by intro m;induction m with|zero=>intro i was hm _ _;rw[List.drop_eq_nil_of_le (by omega)];trivial|succ m ih=>
  intro i was hm hw hle;have hi:i<l.length:=by omega
  have e:l[i]=rn l i:=by rw[rn,List.getD_eq_getElem?_getD,List.getElem?_eq_getElem hi];rfl
  rw[List.drop_eq_getElem_cons hi,e];refine⟨hle hi,by have:=h.2.2.2 i hi;omega,hr _ (sL _ hi),ih (i+1) _ (by omega) (by have:=hle hi;omega) λhi'=>?_⟩;have:=(h.2.2.1 i hi').1;omega
 have:=key l.length 0 0 (by omega) (by omega) λ_=>by rw[h.2.1];exact Int.le_refl _
 grind
theorem TN{a b:Int}(h:0<=b/\b<=a/\a<=1000):av (a-b)=a-b:=bn (by omega)
theorem Ew{N:Nat}(hN:20<N){l:List fm}(hl:l.length<=100000):∀(r pre:List fm)(was:Int)(out:List Int)(k:Nat),l=pre++r->Inc was r->0<=was->r.length<k->out.length<=100000+pre.length*20->f166.tI N k (was,l,(l.length:Int),(pre.length:Int),out)=some (out++BW was r)
 |[],pre,was,out,k+1,he,_,_,_,_=>by simp at he;subst he;rw[f166.tI.eq_2,aM,aq,BW,List.append_nil]|x::r,pre,was,out,k+1,he,hi,hw,hk,ho=>by
  obtain⟨i1,i2,i3,i4⟩:=hi;have hlen:pre.length+(r.length+1)=l.length:=by rw[he];simp
  have:=cF (x.1-was).toNat;have:=cF x.2.toNat;have ih:=Ew hN hl r (pre++[x]) x.1 (out++V (x.1-was).toNat++V x.2.toNat) k (by rw[he];simp) i4 (by omega) (by simp at hk;omega) (by simp only[List.length_append,List.length_singleton];omega);obtain⟨v,hv⟩:=Int.eq_ofNat_of_zero_le i3.1;rw[f166.tI.eq_2,aJ (by omega),au,he,qt,Option.bind_some,<-he,TN ⟨hw,i1,i2⟩,mo hN (by omega),Option.bind_some,af (by omega) (by omega),ai,hv,vY hN (by omega),Option.bind_some,af (by simp only[List.length_append];have:=cF v;omega) (by omega),ai,aj (by omega)];rw[show((pre++[x]).length:Int)=((pre.length+1:Nat):Int)by simp]at ih;rw[hv]at ih;simp only[Int.toNat_natCast]at ih;rw[ih,BW,hv];simp[List.append_assoc]|_,_,_,_,0,_,_,_,h,_=>by omega
theorem BX{N:Nat}(hN:20<N){l:List fm}(hl:l.length<=100000):∀(r pre:List fm)(was:Int)(out:List Int)(k:Nat),l=pre++r->Inc was r->0<=was->r.length<k->out.length<=100000+pre.length*20->f135.dB N k (l,was,(pre.length:Int),out)=some (out++BW was r)
 |[],pre,was,out,k+1,he,_,_,_,_=>by simp at he;subst he;rw[f135.dB.eq_2,aM,aq,BW,List.append_nil]|x::r,pre,was,out,k+1,he,hi,hw,hk,ho=>by
  obtain⟨i1,i2,i3,i4⟩:=hi;have hlen:pre.length+(r.length+1)=l.length:=by rw[he];simp
  have:=cF (x.1-was).toNat;have:=cF x.2.toNat;have ih:=BX hN hl r (pre++[x]) x.1 (out++V (x.1-was).toNat++V x.2.toNat) k (by rw[he];simp) i4 (by omega) (by simp at hk;omega) (by simp only[List.length_append,List.length_singleton];omega);obtain⟨v,hv⟩:=Int.eq_ofNat_of_zero_le i3.1;have hx:idx l (pre.length:Int)=some x:=by rw[he];exact qt _ _ _
  simp only[f135.dB.eq_2,aJ (show pre.length<l.length by omega),au,hx,Option.bind_some,TN ⟨hw,i1,i2⟩,zd hN (show 0<=x.1-was/\x.1-was<=9223372036854775807by omega),af (show out.length+(V (x.1-was).toNat).length<=10000000by omega) (show 1<=1000by omega),ai,hv,jK hN (show v<18446744073709551616by omega),af (show(out++V (x.1-was).toNat).length+(V v).length<=10000000by simp only[List.length_append];have:=cF v;omega) (show 1<=1000by omega),aj (show pre.length<9223372036854775807by omega)];rw[show((pre++[x]).length:Int)=((pre.length+1:Nat):Int)by simp]at ih;rw[hv]at ih;simp only[Int.toNat_natCast]at ih;rw[ih,BW,hv];simp[List.append_assoc]|_,_,_,_,0,_,_,_,h,_=>by omega
theorem WI{N:Nat}(hN:1000<N){l:List fm}{n:Nat}(hl:l.length<=1000)(h:cO l n)(h1:1<=n)(h2:n<=200)(hr:wg l):Su N (l,(n:Int))=some (ou l,0):=by have hi:=h.inc (by omega) hr;have hv:=cF l.length;rw[Su.eq_1,xH (by omega) (by omega),if_neg (by omega),if_pos h,Option.bind_some,I4,mg (by omega),vY (by omega) (by omega),Option.bind_some];have:=Ew (N:=N) (by omega) (l:=l) (by omega) l [] 0 (V l.length) N rfl hi (by omega) (by omega) (by simp;omega);simp at this;rw[this];rfl
theorem BY{N:Nat}(hN:1000<N){l:List fm}{n:Nat}(hl:l.length<=1000)(h:cO l n)(h2:n<=200)(hr:wg l):O0 N l=some (ou l):=by have hi:=h.inc (by omega) hr;have hv:=cF l.length;rw[O0.eq_1,mg (by omega),jK (by omega) (by omega),Option.bind_some];have:=BX (N:=N) (by omega) (l:=l) (by omega) l [] 0 (V l.length) N rfl hi (by omega) (by omega) (by simp;omega);simp at this;rw[this];rfl
end Go.Proofs.YtgkllgjmfpjeoaaGreatDoor
namespace Go.Proofs.YtgkllgjmfpjeoaaGreatDoor
open Go Go.bJ Go.Sym
open Classical
noncomputable def I7(n:Nat):Bool:=(decide (97<=n)&&decide (n<=122))||(decide (65<=n)&&decide (n<=90))
noncomputable def sM(n:Nat):Bool:=I7 n||(decide (48<=n)&&decide (n<=57))
noncomputable def kQ(s:List UInt8):Bool:=decide (1<=s.length)&&(decide (s.length<=16)&&(I7 ((s.getD 0 0).toNat)&&s.all λc=>sM c.toNat))
theorem TO:∀n:Nat,n<256->(bif(decide (((n:Nat):Int)>=(97:Int)))then(bif(decide (((n:Nat):Int)<=(122:Int)))then some true else(bif(decide (((n:Nat):Int)>=(65:Int)))then some (decide (((n:Nat):Int)<=(90:Int)))else some false))else(bif(decide (((n:Nat):Int)>=(65:Int)))then some (decide (((n:Nat):Int)<=(90:Int)))else some false))=some (I7 n):=by decide+kernel
theorem Ey(N:Nat)(c:UInt8):OS N (c.toNat:Int)=some (I7 c.toNat):=by rw[OS.eq_1,TO _ c.toNat_lt];rfl
theorem TP:∀n:Nat,n<256->((bif(decide ((Eh .u8 ((n:Nat):Int) (32:Int))<(97:Int)))then(bif(decide (((n:Nat):Int)<(48:Int)))then some true else some (decide (((n:Nat):Int)>(57:Int))))else(bif(decide ((Eh .u8 ((n:Nat):Int) (32:Int))>(122:Int)))then(bif(decide (((n:Nat):Int)<(48:Int)))then some true else some (decide (((n:Nat):Int)>(57:Int))))else(bif((zC .u8 ((n:Nat):Int) (64:Int))==(0:Int))then(bif(decide (((n:Nat):Int)<(48:Int)))then some true else some (decide (((n:Nat):Int)>(57:Int))))else some false))):Option Bool)=some (!sM n):=by decide+kernel
theorem O7:∀n:Nat,n<256->((!decide (((n:Nat):Int)<=57))&&sM n)=(I7 n&&sM n):=by decide+kernel
theorem qv{α:Type}{n:Nat}{q:Nat->Bool}{a b:α}:(if∃i,i<n/\(!q i)=true then b else a)=if∀i,i<n->q i=true then a else b:=by
 by_cases h:∀i,i<n->q i=true;.grind
 .rw[if_neg h,if_pos]<;>grind
theorem mV{α β:Type}{l:List α}{p:α->Bool}{a b:β}:(if∃x,x∈l/\(!p x)=true then b else a)=if∀x,x∈l->p x=true then a else b:=by
 by_cases h:∀x,x∈l->p x=true;.grind
 .rw[if_neg h,if_pos]<;>grind
theorem TQ{α:Type}{l:List α}{p:α->Bool}:(if∃x,x∈l/\(!p x)=true then(Sum.inl false:Bool⊕Unit)else .inr ())=if l.all p=true then .inr ()else .inl false:=by by_cases h:l.all p=true<;>simp_all
theorem BZ{N:Nat}{s:List UInt8}(hN:100<N):KU N s=some (kQ s):=by
 rw[KU.eq_1];unfold kQ;by_cases h0:s.length=0;.rw[show((s.length:Int)==(0:Int))=true by rw[h0];rfl,au,Option.bind_some,au,decide_eq_false (by omega),Bool.false_and]
 .rw[Gl h0,aq,decide_eq_true (show 1<=s.length by omega),Bool.true_and];by_cases h1:s.length<=16
  .have e0:idx s (0:Int)=some (s.getD 0 0):=cS (i:=0) 0 (by omega);rw[decide_eq_false (show¬(s.length:Int)>16by omega),aq,e0,Option.bind_some,Option.bind_some,decide_eq_true h1,Bool.true_and];have hlt:=(s.getD 0 0).toNat_lt;have hall:s.all (λc=>sM c.toNat)=true->sM (s.getD 0 0).toNat=true:=λh=>List.all_eq_true.1 h _ (sL 0 (by omega));have hf:=O7 _ hlt;have key:=fB (l:=bU s) (a:=(.inr ():Bool⊕Unit)) (b:=.inl false) (p:=λx=>!sM x.toNat) (Lf:=λk i=>f202.aT N k (bU s,((bU s).length:Int),i)) (λk _=>by simp only[f202.aT.eq_2,aM,aq]) (λk i x hx hm=>by obtain⟨c,hc,rfl⟩:=List.mem_map.1 hm;have hi:=az hx;rw[eH]at hi;simp only[f202.aT.eq_2,aJ (az hx),au,aE hx,Option.bind_some,TP _ c.toNat_lt,aj (show i<9223372036854775807by omega),Int.toNat_natCast];by_cases hb:sM c.toNat=true<;>simp[hb]) (k:=N) (by rw[eH];omega);rw[key,TQ (p:=λx:Int=>sM x.toNat)];have e2:(bU s).all (λx=>sM x.toNat)=s.all λc=>sM c.toNat:=by unfold bU;rw[List.all_map];rfl
   rw[e2];cases ha:s.all λc=>sM c.toNat;.rw[if_neg (by simp),Bool.and_false,Option.bind_some];cases decide (((s.getD 0 0).toNat:Int)<=57)<;>rfl
   .rw[hall ha,Bool.and_true,Bool.and_true]at hf;rw[if_pos rfl,Bool.and_true,Option.bind_some,<-hf];cases decide (((s.getD 0 0).toNat:Int)<=57)<;>rfl
  .rw[decide_eq_true (show(s.length:Int)>16by omega),au,Option.bind_some,au,decide_eq_false h1];rfl
theorem TS:∀n:Nat,n<256->(bif(!I7 n)then(bif(decide (((n:Nat):Int)<(48:Int)))then some true else some (decide (((n:Nat):Int)>(57:Int))))else some false)=some (!sM n):=by decide+kernel
theorem B0{N:Nat}{s:List UInt8}(hN:100<N):OT N s=some (kQ s):=by
 rw[OT.eq_1];unfold kQ;by_cases h0:1<=s.length
 .rw[decide_eq_false (show¬(s.length:Int)<1by omega),aq,decide_eq_true h0,Bool.true_and];by_cases h1:s.length<=16
  .have e0:idx s (0:Int)=some (s.getD 0 0):=cS (i:=0) 0 (by omega);rw[decide_eq_false (show¬(s.length:Int)>16by omega),aq,e0,Option.bind_some,Ey,Option.bind_some,Option.bind_some,decide_eq_true h1,Bool.true_and];have key:=fB (l:=s) (a:=(.inr ():Bool⊕Unit)) (b:=.inl false) (p:=λc=>!sM c.toNat) (Lf:=λk i=>f181.aT N k (s,i)) (λk _=>by simp only[f181.aT.eq_2,aM,aq]) (λk i x hx hm=>by have hi:=az hx;simp only[f181.aT.eq_2,aJ (az hx),au,aE hx,Option.bind_some,Ey,TS _ x.toNat_lt,aj (show i<9223372036854775807by omega)];by_cases hb:sM x.toNat=true<;>simp[hb]) (k:=N) (by omega);rw[key,TQ (p:=λc:UInt8=>sM c.toNat)];cases ha:s.all λc=>sM c.toNat;.rw[if_neg (by simp),Bool.and_false];cases I7 (s.getD 0 0).toNat<;>rfl
   .rw[if_pos rfl,Bool.and_true];cases I7 (s.getD 0 0).toNat<;>rfl
  .rw[decide_eq_true (show(s.length:Int)>16by omega),au,Option.bind_some,au,decide_eq_false h1];rfl
 .rw[decide_eq_true (show(s.length:Int)<1by omega),au,Option.bind_some,au,decide_eq_false h0,Bool.false_and]
theorem lG{s:List UInt8}(h:kQ s=true):s.length<=16:=by unfold kQ at h<;>grind
noncomputable def fl(l:List Field)(i:Nat):Field:=l.getD i ([],0)
noncomputable def I8(l:List Field)(i:Nat):Prop:=∃j,j<i/\(fl l j).1=(fl l i).1
noncomputable def okF(l:List Field)(i:Nat):Bool:=kQ (fl l i).1&&!decide (I8 l i)
noncomputable def bV(l:List Field):Prop:=∀i,i<l.length->okF l i=true
theorem B1{N:Nat}{l:List Field}{i:Nat}(hi:i<=l.length)(hN:l.length<N)(hl:l.length<=1000000)(s:List UInt8)(v:Int):(∃j:Int,0<=j/\f203.cJ N N (l.take i,((l.take i).length:Int),0,s,v)=some (.inl j)/\∃j,j<i/\(fl l j).1=s)\/(f203.cJ N N (l.take i,((l.take i).length:Int),0,s,v)=some (.inr ())/\¬∃j,j<i/\(fl l j).1=s):=by
 have hlen:(l.take i).length=i:=by grind
 have key:∀k j,j<=i->i-j<k->(∀m,m<j->(fl l m).1≠s)->(∃q:Int,0<=q/\f203.cJ N k (l.take i,((l.take i).length:Int),(j:Int),s,v)=some (.inl q)/\∃j,j<i/\(fl l j).1=s)\/(f203.cJ N k (l.take i,((l.take i).length:Int),(j:Int),s,v)=some (.inr ())/\¬∃j,j<i/\(fl l j).1=s):=by intro k;induction k with|zero=>omega|succ k ih=>
   intro j hj hk hm;by_cases he:j=i;.subst he;refine .inr ⟨?_,λ⟨m,h1,h2⟩=>hm m h1 h2⟩;rw[f203.cJ.eq_2,hlen,aM,aq]
   .have e:idx (l.take i) (j:Int)=some (fl l j):=by refine aE ?_;rw[List.getElem?_take,if_pos (by omega),fl,List.getD_eq_getElem?_getD,List.getElem?_eq_getElem (by omega)];rfl
    rw[f203.cJ.eq_2,hlen,aJ (by omega),au,e,Option.bind_some];by_cases hq:(fl l j).1=s;.rw[show((fl l j).1==s)=true by simpa using hq,au];exact .inl ⟨j,by omega,rfl,j,by omega,hq⟩
    .rw[show((fl l j).1==s)=false by simpa using hq,aq,aj (by omega)];have:=ih (j+1) (by omega) (by omega) λm h=>by
      by_cases e:m=j;.subst e;exact hq
      .exact hm m (by omega)
     rw[hlen]at this;exact this
 exact key N 0 (by omega) (by omega) λm h=>by omega
theorem I9{N:Nat}{l:List Field}(hN:l.length+100<N)(hl:l.length<=1000000):Sf N l=some (decide (bV l)):=by
 rw[Sf.eq_1];have key:=fX (n:=l.length) (a:=(.inr ():Bool⊕Unit)) (b:=.inl false) (q:=λi=>!okF l i) (Lf:=λk i=>f203.ko N k (l,l,(l.length:Int),i)) (λk _=>by simp only[f203.ko.eq_2,aM,aq]) (λk i hi _=>by
   have e:idx l (i:Int)=some (fl l i):=cS _ hi;simp only[f203.ko.eq_2,aJ hi,au,e,Option.bind_some,BZ (show 100<N by omega)];cases hn:kQ (fl l i).1;.simp[okF,hn]
   .rw[Bool.not_true,aq,decide_eq_true (show(0:Int)<=(i:Int)by omega),ai,Int.toNat_natCast,decide_eq_true (show i<=l.length by omega),ai,aj (by omega)];rcases B1 (l:=l) (i:=i) (by omega) (show l.length<N by omega) hl (fl l i).1 (fl l i).2with⟨j,h1,h2,h3⟩|⟨h2,h3⟩;.rw[h2,Option.bind_some];simp only[decide_eq_true (show j>=0from h1),au];rw[if_pos (by unfold okF;rw[decide_eq_true (show I8 l i from h3)];simp)]
    .rw[h2,Option.bind_some];simp only;rw[if_neg (by unfold okF;rw[hn,decide_eq_false (show¬I8 l i from h3)];simp)]) (k:=N) (by omega);rw[key,qv,Option.bind_some];by_cases h:bV l;.rw[if_pos (show∀i,i<l.length->okF l i=true from h),decide_eq_true h]
 .rw[if_neg (show¬∀i,i<l.length->okF l i=true from h),decide_eq_false h]
theorem sN{N:Nat}{l:List Field}(hN:l.length+100<N)(hl:l.length<=1000000)(m:Int):OU N (l,m)=some (decide ((l.length:Int)<=m/\bV l)):=by
 rw[OU.eq_1];by_cases hm:(l.length:Int)<=m
 .rw[decide_eq_false (show¬(l.length:Int)>m by omega),aq];have key:=fX (n:=l.length) (a:=(.inr ():Bool⊕Unit)) (b:=.inl false) (q:=λi=>!okF l i) (Lf:=λk i=>f182.aT N k (l,i)) (λk _=>by simp only[f182.aT.eq_2,aM,aq]) (λk i hi _=>by
    have e:idx l (i:Int)=some (fl l i):=cS _ hi;simp only[f182.aT.eq_2,aJ hi,au,e,Option.bind_some,B0 (show 100<N by omega)];cases hn:kQ (fl l i).1;.simp[okF,hn]
    .have inner:=fX (n:=i) (a:=(.inr (l,(i:Int)):Bool⊕(List Field×Int))) (b:=.inl false) (q:=λj=>(fl l j).1==(fl l i).1) (Lf:=λk j=>f182.oq N k (l,(i:Int),j)) (λk _=>by simp only[f182.oq.eq_2,aM,aq]) (λk j hj _=>by have ej:idx l (j:Int)=some (fl l j):=cS _ (by omega);simp only[f182.oq.eq_2,aJ hj,au,e,ej,Option.bind_some,aj (show j<9223372036854775807by omega)];by_cases hb:((fl l j).1==(fl l i).1)=true<;>simp[hb]) (k:=N) (by omega);rw[Bool.not_true,aq,inner,Option.bind_some];by_cases hd:I8 l i;.rw[if_pos,if_pos (by unfold okF;rw[decide_eq_true hd];simp)];obtain⟨j,h1,h2⟩:=hd;exact⟨j,h1,by simpa using h2⟩
     .rw[if_neg,if_neg (by unfold okF;rw[hn,decide_eq_false hd];simp)];.simp only;rw[aj (by omega)]
      .rintro⟨j,h1,h2⟩;exact hd ⟨j,h1,by simpa using h2⟩) (k:=N) (by omega);rw[key,qv,Option.bind_some];by_cases h:bV l;.rw[if_pos (show∀i,i<l.length->okF l i=true from h),decide_eq_true ⟨hm,h⟩]
  .rw[if_neg (show¬∀i,i<l.length->okF l i=true from h),decide_eq_false λh'=>h h'.2]
 grind
theorem zU{N:Nat}{l:List Int}(hN:l.length<N)(hl:l.length<=1000):IK N l=some (l.all λx=>x==0):=by
 rw[IK.eq_1];have key:∀(r pre:List Int)k,l=pre++r->r.length<k->(r.all (λx=>x==0)=true/\f212.dx N k (l,(l.length:Int),(pre.length:Int))=some (.inr ()))\/(r.all (λx=>x==0)=false/\∃j:Int,0<=j/\f212.dx N k (l,(l.length:Int),(pre.length:Int))=some (.inl j)):=by intro r;induction r with|nil=>intro pre k he hk;obtain⟨k,rfl⟩:∃k',k=k'+1:=⟨k-1,by simp at hk;omega⟩;simp at he;subst he;exact .inl ⟨rfl,by rw[f212.dx.eq_2,aM,aq]⟩|cons x r ih=>
  intro pre k he hk;obtain⟨k,rfl⟩:∃k',k=k'+1:=⟨k-1,by simp at hk;omega⟩;have hlen:pre.length+(r.length+1)=l.length:=by rw[he];simp
  have hx:idx l (pre.length:Int)=some x:=by rw[he];exact qt _ _ _
  rw[f212.dx.eq_2,aJ (by omega),au,hx,Option.bind_some,Wy.eq_1,Option.bind_some];by_cases h0:x=0;.rw[show(x !=0)=false by simp[h0],aq,aj (by omega),List.all_cons,show(x==0)=true by simp[h0],Bool.true_and];have:=ih (pre++[x]) k (by rw[he];simp) (by simp at hk;omega);rwa[show((pre++[x]).length:Int)=((pre.length+1:Nat):Int)by simp]at this
  .rw[show(x !=0)=true by simp[h0],au,List.all_cons,show(x==0)=false by simp[h0],Bool.false_and];exact .inr ⟨rfl,pre.length,by omega,rfl⟩
 rcases key l [] N rfl hN with⟨h1,h2⟩|⟨h1,j,h2,h3⟩<;>grind
theorem Ez(N:Nat)(a b:Int):IJ N (a,b)=some (decide (0<=a/\a<b)):=by rw[IJ.eq_1,mK,Option.bind_some]<;>simp_all
noncomputable def ty0:aB:=(0,0,0,[])
noncomputable def dO(l:List aB)(i:Nat):aB:=l.getD i ty0
noncomputable def cK(n i:Nat)(t:aB):Prop:=if t.1=1\/t.1=2\/t.1=3then t.2.1=0/\t.2.2.1=0/\t.2.2.2.length=0 else if t.1=4\/t.1=7then(0<=t.2.1/\t.2.1<n)/\t.2.2.1=0/\t.2.2.2.length=0 else if t.1=6then(0<=t.2.1/\t.2.1<i)/\(1<=t.2.2.1/\t.2.2.1<=16)/\t.2.2.2.length=0 else if t.1=5then t.2.1=0/\t.2.2.1=0/\(0<t.2.2.2.length/\t.2.2.2.length<=8)/\bV t.2.2.2/\∀f,f∈t.2.2.2->0<=f.2/\f.2<i else False
theorem EA{l:List Field}{i:Nat}(hi:i<l.length):hasB ((l.take i).map (·.1)) (fl l i).1=decide (I8 l i):=by
 unfold hasB;by_cases h:I8 l i;.rw[decide_eq_true h,List.any_eq_true];obtain⟨j,h1,h2⟩:=h;refine⟨(fl l j).1,List.mem_map.2 ⟨fl l j,?_,rfl⟩,decide_eq_true h2.symm⟩;rw[fl,List.getD_eq_getElem?_getD,List.getElem?_eq_getElem (by omega)];exact List.mem_take_iff_getElem.2 ⟨j,by omega,rfl⟩
 .rw[decide_eq_false h];cases ha:((l.take i).map (·.1)).any λq=>decide ((fl l i).1=q)with|false=>rfl|true=>exfalso;obtain⟨q,h1,h2⟩:=List.any_eq_true.1 ha;obtain⟨f,h3,rfl⟩:=List.mem_map.1 h1;obtain⟨j,h4,rfl⟩:=List.mem_take_iff_getElem.1 h3;refine h ⟨j,by omega,?_⟩;rw[of_decide_eq_true h2];rw[fl,List.getD_eq_getElem?_getD,List.getElem?_eq_getElem (by omega)];rfl
theorem ab4{l:List Field}{i:Nat}(hi:i<l.length):l[i]?=some (fl l i):=by rw[fl,List.getD_eq_getElem?_getD,List.getElem?_eq_getElem hi];rfl
theorem O8{l:List Field}{i:Nat}(hi:i<l.length)(h:¬I8 l i):q9 ((l.take i).map (·.1)) (fl l i).1=(l.take (i+1)).map (·.1):=by unfold q9;rw[EA hi,decide_eq_false h,take_succ (ab4 hi),List.map_append];rfl
theorem Ja{N:Nat}{l:List Field}{p:Nat}(hN:l.length+100<N)(hl:l.length<=1000000)(a b c:Int):f199.yS N N ((p:Int),l,(l.length:Int),(0:Int),a,b,c,l,([]:List (List UInt8)))=some (if bV l/\(∀f,f∈l->0<=f.2/\f.2<p)then .inr (a,b,c,l)else .inl false):=by
 have key:=fX (n:=l.length) (a:=(.inr (a,b,c,l):Bool⊕(Int×Int×Int×List Field))) (b:=.inl false) (q:=λi=>!(okF l i&&decide (0<=(fl l i).2/\(fl l i).2<p))) (Lf:=λk i=>f199.yS N k ((p:Int),l,(l.length:Int),i,a,b,c,l,(l.take i.toNat).map (·.1))) (λk _=>by simp only[f199.yS.eq_2,aM,aq]) (λk i hi _=>by
   have e:idx l (i:Int)=some (fl l i):=cS _ hi;simp only[f199.yS.eq_2,aJ hi,au,e,Option.bind_some,BZ (show 100<N by omega),Int.toNat_natCast,EA hi,Ez,aj (show i<9223372036854775807by omega)];cases hn:kQ (fl l i).1;.simp[okF,hn]
   .by_cases hd:I8 l i;.simp[okF,hd]
    .rw[O8 hi hd];unfold okF;rw[hn,decide_eq_false hd];cases decide (0<=(fl l i).2/\(fl l i).2<(p:Int))<;>rfl) (k:=N) (by omega);rw[show(0:Int).toNat=0from rfl,List.take_zero,List.map_nil]at key;rw[key,qv];have hiff:(∀i,i<l.length->(okF l i&&decide (0<=(fl l i).2/\(fl l i).2<(p:Int)))=true)↔bV l/\∀f,f∈l->0<=f.2/\f.2<(p:Int):=by simp only[Bool.and_eq_true,decide_eq_true_eq];refine⟨λh=>⟨λi hi=>(h i hi).1,λf hf=>?_⟩,λh i hi=>⟨h.1 i hi,h.2 _ (sL _ hi)⟩⟩;obtain⟨i,hi,rfl⟩:=pT ([],0) hf;exact(h i hi).2
 grind
theorem Ll{N:Nat}{l:List Field}{p:Nat}(hN:l.length<N)(hl:l.length<=1000000)(a b c:Int):f178.yZ N N ((p:Int),(0:Int),a,b,c,l)=some (if∀f,f∈l->0<=f.2/\f.2<p then .inr (a,b,c,l)else .inl false):=by
 have key:=fB (l:=l) (a:=(.inr (a,b,c,l):Bool⊕(Int×Int×Int×List Field))) (b:=.inl false) (p:=λf=>!decide (0<=f.2/\f.2<(p:Int))) (Lf:=λk i=>f178.yZ N k ((p:Int),i,a,b,c,l)) (λk _=>by simp only[f178.yZ.eq_2,aM,aq]) (λk i x hx hm=>by
   simp only[f178.yZ.eq_2,aJ (az hx),au,aE hx,Option.bind_some,aj (show i<9223372036854775807by have:=az hx;omega)];by_cases h1:x.2<0;.rw[decide_eq_true h1,decide_eq_false (show¬(0<=x.2/\x.2<(p:Int))by omega)];rfl
   .by_cases h2:x.2>=(p:Int);.rw[decide_eq_false h1,decide_eq_true h2,decide_eq_false (show¬(0<=x.2/\x.2<(p:Int))by omega)];rfl
    .rw[decide_eq_false h1,decide_eq_false h2,decide_eq_true (show 0<=x.2/\x.2<(p:Int)by omega)];rfl) (k:=N) hN;rw[key,mV]<;>grind
theorem zV(a b:Int):(a==b)=decide (a=b):=by grind
theorem ab5{v:Int}(h:i64 v):decide (0<=av (v-1)/\av (v-1)<16)=decide (1<=v/\v<=16):=by
 unfold i64 at h;by_cases h1:v=-9223372036854775808;.subst h1;rfl
 .rw[bn (by omega)]<;>grind
theorem TT{N:Nat}{l:List aB}{i:Nat}(hN:1100<N)(hi:i<l.length)(hf:(dO l i).2.2.2.length<=1000)(hb:i64 (dO l i).2.2.1):R3 N (l,(i:Int))=some (decide (cK l.length i (dO l i))):=by
 have e:idx l (i:Int)=some (dO l i):=cS _ hi;rw[R3.eq_1,e,Option.bind_some];unfold cK;generalize dO l i=t at hf hb;obtain⟨k,el,le,fs⟩:=t;simp only at hf hb⊢;rw[Ja (by omega) (by omega)];simp only[zV,dK,Option.bind_some,Ez,zU (show[el,le,(fs.length:Int)].length<N by simp;omega) (by simp),zU (show[le,(fs.length:Int)].length<N by simp;omega) (by simp),zU (show[(fs.length:Int)].length<N by simp;omega) (by simp),ab5 hb,List.all_cons,List.all_nil,Bool.and_true];by_cases h1:k=1\/k=2\/k=3;.rw[show(decide (k=1)||(decide (k=2)||decide (k=3)))=true by simpa using h1,au,if_pos h1];congr 1;by_cases a1:el=0<;>by_cases a2:le=0<;>by_cases a3:fs.length=0<;>simp[a1,a2,a3];all_goals(intro h;simp[h]at a3)
 .rw[show(decide (k=1)||(decide (k=2)||decide (k=3)))=false by simpa using h1,aq,if_neg h1];by_cases h2:k=4\/k=7;.rw[show(decide (k=4)||decide (k=7))=true by simpa using h2,au,if_pos h2,mK];congr 1;by_cases a1:0<=el/\el<(l.length:Int)<;>by_cases a2:le=0<;>by_cases a3:fs.length=0<;>simp[a1,a2,a3];all_goals(intro h;simp[h]at a3)
  .rw[show(decide (k=4)||decide (k=7))=false by simpa using h2,aq,if_neg h2];by_cases h3:k=6;.rw[decide_eq_true h3,au,if_pos h3];by_cases a1:0<=el/\el<(i:Int)<;>by_cases a2:1<=le/\le<=16<;>by_cases a3:fs.length=0<;>simp[a1,a2,a3];all_goals(intro h;simp[h]at a3)
   .rw[decide_eq_false h3,aq,if_neg h3];by_cases h4:k=5
    .rw[decide_eq_true h4,au,if_pos h4];by_cases hq:bV fs/\∀f,f∈fs->0<=f.2/\f.2<(i:Int)
     .rw[if_pos hq];simp only;rw[zU (show[el,le].length<N by simp;omega) (by simp),Option.bind_some];simp only[List.all_cons,List.all_nil,Bool.and_true];have g3:decide ((fs.length:Int)>0)=decide (0<fs.length):=by rw[decide_eq_decide];omega
      have g4:decide ((fs.length:Int)<=8)=decide (fs.length<=8):=by rw[decide_eq_decide];omega
      rw[g3,g4];by_cases a1:el=0
      .by_cases a2:le=0
       .by_cases a3:0<fs.length
        .by_cases a4:fs.length<=8;.rw[bI (p:=el=0/\le=0/\(0<fs.length/\fs.length<=8)/\bV fs/\∀f,f∈fs->0<=f.2/\f.2<(i:Int)) ⟨a1,a2,⟨a3,a4⟩,hq⟩];simp[a1,a2,a3,a4]
         .rw[bE (p:=el=0/\le=0/\(0<fs.length/\fs.length<=8)/\bV fs/\∀f,f∈fs->0<=f.2/\f.2<(i:Int)) λh=>a4 h.2.2.1.2];simp[a1,a2,a3,a4]
        .rw[bE (p:=el=0/\le=0/\(0<fs.length/\fs.length<=8)/\bV fs/\∀f,f∈fs->0<=f.2/\f.2<(i:Int)) λh=>a3 h.2.2.1.1,decide_eq_false a3];simp[a1,a2]
       .rw[bE (p:=el=0/\le=0/\(0<fs.length/\fs.length<=8)/\bV fs/\∀f,f∈fs->0<=f.2/\f.2<(i:Int)) λh=>a2 h.2.1,show(le==0)=false by simpa using a2,Bool.and_false];rfl
      .rw[bE (p:=el=0/\le=0/\(0<fs.length/\fs.length<=8)/\bV fs/\∀f,f∈fs->0<=f.2/\f.2<(i:Int)) λh=>a1 h.1,show(el==0)=false by simpa using a1,Bool.false_and];rfl
     .rw[if_neg hq,bE (p:=el=0/\le=0/\(0<fs.length/\fs.length<=8)/\bV fs/\∀f,f∈fs->0<=f.2/\f.2<(i:Int)) λh=>hq ⟨h.2.2.2.1,h.2.2.2.2⟩]
    .rw[decide_eq_false h4,aq,if_neg h4,bE (p:=False) id]
end Go.Proofs.YtgkllgjmfpjeoaaGreatDoor
