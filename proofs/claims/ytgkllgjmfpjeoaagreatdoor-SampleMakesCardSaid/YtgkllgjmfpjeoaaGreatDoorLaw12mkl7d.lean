/- A part of the proof: Law12mkl, Law12mkm, Law12mkl7b, Law12mkl7c, Law12mkl7d. -/
import Derived.Test.YtgkllgjmfpjeoaaGreatDoorLaw12mkk
set_option linter.unusedVariables false
set_option linter.unusedSimpArgs false
namespace Go.Proofs.YtgkllgjmfpjeoaaGreatDoor
open Go Go.bJ Go.Sym
open Classical
noncomputable def qU(ts:List aB)(xs:List (List UInt8))(fs:List Func):Prop:=Lr ts xs fs/\∀f,f∈fs->i64 f.2.2.1
theorem fC.XW{ts:List aB}{xs:List (List UInt8)}{fs:List Func}(h:fC ts xs fs):XW xs:=⟨h.2.1,h.2.2.2.2.1⟩
theorem fC.func{ts:List aB}{xs:List (List UInt8)}{fs:List Func}(h:fC ts xs fs){i:Nat}(hi:i<fs.length):eA ts.length (dZ fs i):=by have:=h.2.2.2.2.2 i hi;unfold B7 at this<;>grind
theorem fC.FnW{ts:List aB}{xs:List (List UInt8)}{fs:List Func}(h:fC ts xs fs)(hm:qU ts xs fs):FnW fs:=⟨h.2.2.1.2,λf hf=>by refine⟨hm.1.2.2.2.2 f hf,hm.2 f hf,ts.length,h.1.1,?_⟩;obtain⟨i,hi,rfl⟩:=pT fn0 hf;exact h.func hi⟩
noncomputable def me(ts:List aB)(xs:List (List UInt8))(fs:List Func):Int:=if fC ts xs fs then(if(qz ts xs fs).length<=20000then 0 else 4)else 8
section
variable{N:Nat}{ts:List aB}{xs:List (List UInt8)}{fs:List Func}
theorem ED(h:fC ts xs fs)(hm:qU ts xs fs):(ts.flatMap oC).length<=25600/\(xs.flatMap said).length<=3200/\(fs.flatMap mQ).length<=960000:=by
 have hT:=h.1.TW;have hX:=h.XW;have hF:=h.FnW hm;have h1:=fY (l:=ts) (enc:=oC) (m:=800) λx hx=>by obtain⟨n,i,hi,_,ht⟩:=hT.2 x hx;exact xK ht hi
 have h2:=fY (l:=xs) (enc:=said) (m:=100) λx hx=>by have:=mj x;have:=hX.2 x hx;omega
 have h3:=fY (l:=fs) (enc:=mQ) (m:=30000) λx hx=>by obtain⟨hf,_,n,hn,ho⟩:=hF.2 x hx;exact xL ho hn hf
 have a1:=hT.1;have a2:=hX.1;have a3:=hF.1<;>grind
theorem Pm(hN:1300<N)(hm:qU ts xs fs):F64 N (ts,xs,fs)=some (if me ts xs fs=0then qz ts xs fs else[],me ts xs fs):=by
 rw[F64.eq_1,Na hN hm.1,Option.bind_some];unfold me;by_cases h:fC ts xs fs
 .rw[bI h,Bool.not_true,aq,if_pos h];obtain⟨b1,b2,b3⟩:=ED h hm;have c1:=cF ts.length;have c2:=cF xs.length;have c3:=cF fs.length;have d1:=hm.1.1.1;have d2:=hm.1.2.1;have d3:=hm.1.2.2.2.1;rw[jA (by omega) (by omega),Option.bind_some,af (by omega) (by omega),ai,T7 hN h.1.TW (by omega),Option.bind_some];simp only;rw[jA (by omega) (by omega),Option.bind_some,af (by simp only[List.length_append];omega) (by omega),ai,T9 hN h.XW (by simp only[List.length_append];omega),Option.bind_some];simp only;rw[jA (by omega) (by omega),Option.bind_some,af (by simp only[List.length_append];omega) (by omega),ai,Ub hN (h.FnW hm) (by simp only[List.length_append];omega),Option.bind_some];have e:(((((V ts.length++ts.flatMap oC)++V xs.length)++xs.flatMap said)++V fs.length)++fs.flatMap mQ)=qz ts xs fs:=by simp[qz,List.append_assoc]
  grind
 grind
theorem Uc(hN:1300<N)(hm:qU ts xs fs)(h:fC ts xs fs):F74 N (ts,xs,fs)=some (qz ts xs fs):=by obtain⟨b1,b2,b3⟩:=ED h hm;have c1:=cF ts.length;have c2:=cF xs.length;have c3:=cF fs.length;have d1:=hm.1.1.1;have d2:=hm.1.2.1;have d3:=hm.1.2.2.2.1;rw[F74.eq_1,nc (by omega) (by omega),Option.bind_some,Ph hN h.1.TW (by omega),Option.bind_some];simp only;rw[nc (by omega) (by omega),Option.bind_some,af (by simp only[List.length_append];omega) (by omega),ai,Pj hN h.XW (by simp only[List.length_append];omega),Option.bind_some];simp only;rw[nc (by omega) (by omega),Option.bind_some,af (by simp only[List.length_append];omega) (by omega),ai,Pk hN (h.FnW hm) (by simp only[List.length_append];omega),Option.bind_some];simp[qz,List.append_assoc]
theorem Ca(hN:1300<N)(hm:qU ts xs fs):F50 N (ts,xs,fs)=some (me ts xs fs):=by
 rw[F50.eq_1,Pe hN hm.1,Option.bind_some];unfold me;by_cases h:fC ts xs fs;.rw[bI h,Bool.not_true,aq,if_pos h,Uc hN hm h,Option.bind_some]<;>grind
 grind
theorem Jg(hN:1300<N)(hm:qU ts xs fs):F43 N (ts,xs,fs)=some (me ts xs fs):=by rw[F43.eq_1,Pm hN hm,Option.bind_some]
noncomputable def acg(fs:List Func)(f i:Int):Prop:=0<=f/\f<fs.length/\0<=i/\i<(dZ fs f.toNat).2.2.2.2.1.length
noncomputable def ao3(ts:List aB)(xs:List (List UInt8))(fs:List Func)(f i:Int):Int×Int:=if me ts xs fs=0then(if acg fs f i then(256*(f+1)+i,0)else(0,2))else(0,me ts xs fs)
noncomputable def alN(fs:List Func)(a:Nat):Prop:=1<=a/256/\a/256<=fs.length/\a%256<(dZ fs (a/256-1)).2.2.2.2.1.length
noncomputable def ao4(ts:List aB)(xs:List (List UInt8))(fs:List Func)(a:Nat):Int×Int×Int:=if me ts xs fs=0then(if alN fs a then(((a/256-1:Nat):Int),((a%256:Nat):Int),0)else(0,0,6))else(0,0,me ts xs fs)
end
end Go.Proofs.YtgkllgjmfpjeoaaGreatDoor
namespace Go.Proofs.YtgkllgjmfpjeoaaGreatDoor
open Go Go.bJ Go.Sym
open Classical
noncomputable def ao5(ts:List aB)(fs:List Func):Prop:=(∀t,t∈ts->i64 t.2.2.1)/\∀f,f∈fs->i64 f.2.2.1/\(∀x,x∈f.2.2.2.2.1->O6 x)/\wg f.2.2.2.2.2.1/\wg f.2.2.2.2.2.2
section
variable{N:Nat}{ts:List aB}{xs:List (List UInt8)}{fs:List Func}
theorem Pn{α:Type}(l:List α):l.flatMap (λx=>[x])=l:=(sP id l).trans (List.map_id l)
theorem sQ{α β:Type}{l:List α}{m:List β}:((l.length:Int)!=(m.length:Int))=!decide (l.length=m.length):=by grind
theorem WT(a b:Int):(a !=b)=!decide (a=b):=by grind
theorem Ud(x y:Field):(x.1==y.1&&(x.2==y.2&&true))=decide (x=y):=by grind
theorem run_eq(x y:fm):(x.1==y.1&&(x.2==y.2&&true))=decide (x=y):=by grind
theorem instr_eq(x y:Instr):(x.1==y.1&&(x.2.1==y.2.1&&(x.2.2.1==y.2.2.1&&(x.2.2.2==y.2.2.2&&true))))=decide (x=y):=by grind
theorem Jh{l m:List Field}(hl:l.length<=1000)(hN:1300<N):F32 N (l,m)=some (decide (l=m)):=by
 rw[F32.eq_1,sQ];by_cases h:l.length=m.length;.rw[bI h,Bool.not_true,aq,ot (l:=l) (m:=m) (a:=(.inr ():Bool⊕Unit)) (b:=.inl false) (Lf:=λk i=>f32.aT N k (l,m,i)) h (λk=>by simp only[f32.aT.eq_2,aM,aq]) (λk i x y hx hy h1 h2=>by simp only[f32.aT.eq_2,aJ (az h1),au,aE h1,aE h2,Option.bind_some,Ud,aj (show i<9223372036854775807by have:=az h1;omega)];by_cases he:x=y<;>simp[he]) N (by omega),Option.bind_some];grind
 .rw[bE h,Bool.not_false,au,bE λe=>h (by rw[e])]
theorem Ji{l m:List fm}(hl:l.length<=1000)(hN:1300<N):F34 N (l,m)=some (decide (l=m)):=by
 rw[F34.eq_1,sQ];by_cases h:l.length=m.length;.rw[bI h,Bool.not_true,aq,ot (l:=l) (m:=m) (a:=(.inr ():Bool⊕Unit)) (b:=.inl false) (Lf:=λk i=>f34.aT N k (l,m,i)) h (λk=>by simp only[f34.aT.eq_2,aM,aq]) (λk i x y hx hy h1 h2=>by simp only[f34.aT.eq_2,aJ (az h1),au,aE h1,aE h2,Option.bind_some,run_eq,aj (show i<9223372036854775807by have:=az h1;omega)];by_cases he:x=y<;>simp[he]) N (by omega),Option.bind_some];grind
 .rw[bE h,Bool.not_false,au,bE λe=>h (by rw[e])]
theorem Ue{l m:List Instr}(hl:l.length<=1000)(hN:1300<N):F33 N (l,m)=some (decide (l=m)):=by
 rw[F33.eq_1,sQ];by_cases h:l.length=m.length;.rw[bI h,Bool.not_true,aq,ot (l:=l) (m:=m) (a:=(.inr ():Bool⊕Unit)) (b:=.inl false) (Lf:=λk i=>f33.aT N k (l,m,i)) h (λk=>by simp only[f33.aT.eq_2,aM,aq]) (λk i x y hx hy h1 h2=>by simp only[f33.aT.eq_2,aJ (az h1),au,aE h1,aE h2,Option.bind_some,instr_eq,aj (show i<9223372036854775807by have:=az h1;omega)];by_cases he:x=y<;>simp[he]) N (by omega),Option.bind_some];grind
 .rw[bE h,Bool.not_false,au,bE λe=>h (by rw[e])]
theorem Uf{l m:List aB}(hl:l.length<=1000)(hf:∀t,t∈l->t.2.2.2.length<=1000)(hN:1300<N):F16 N (l,m)=some (decide (l=m)):=by
 rw[F16.eq_1,sQ];by_cases h:l.length=m.length;.rw[bI h,Bool.not_true,aq,ot (l:=l) (m:=m) (a:=(.inr ():Bool⊕Unit)) (b:=.inl false) (Lf:=λk i=>f16.aT N k (l,m,i)) h (λk=>by simp only[f16.aT.eq_2,aM,aq]) (λk i x y hx hy h1 h2=>by simp only[f16.aT.eq_2,aJ (az h1),au,aE h1,aE h2,Option.bind_some,Jh (hf x hx) hN,dK,WT,aj (show i<9223372036854775807by have:=az h1;omega)];obtain⟨a,b,c,d⟩:=x;obtain⟨a',b',c',d'⟩:=y;by_cases e1:a=a'<;>by_cases e2:b=b'<;>by_cases e3:c=c'<;>by_cases e4:d=d'<;>simp[e1,e2,e3,e4]) N (by omega),Option.bind_some];grind
 .rw[bE h,Bool.not_false,au,bE λe=>h (by rw[e])]
theorem EE{f g:Func}(hf:oB f)(hN:1300<N):F17 N (f.1,f.2.1,f.2.2.1,f.2.2.2.1,f.2.2.2.2.1,f.2.2.2.2.2.1,f.2.2.2.2.2.2,g.1,g.2.1,g.2.2.1,g.2.2.2.1,g.2.2.2.2.1,g.2.2.2.2.2.1,g.2.2.2.2.2.2)=some (decide (f=g)):=by
 obtain⟨g1,g2,g3,g4,_⟩:=hf;rw[F17.eq_1];simp only[Jh (N:=N) (show f.2.2.2.1.length<=1000by omega) hN,Ue (N:=N) (show f.2.2.2.2.1.length<=1000by omega) hN,Ji (N:=N) (show f.2.2.2.2.2.1.length<=1000by omega) hN,Ji (N:=N) (show f.2.2.2.2.2.2.length<=1000by omega) hN,Option.bind_some,mK];obtain⟨a,b,c,d,e,i,j⟩:=f;obtain⟨a',b',c',d',e',i',j'⟩:=g;simp only;congr 1;by_cases e1:a=a'
 .by_cases e2:b=b'
  .by_cases e3:c=c'
   .by_cases e4:d=d'
    .by_cases e5:e=e';.by_cases e6:i=i'<;>by_cases e7:j=j'<;>simp[e1,e2,e3,e4,e5,e6,e7]
     .simp[e5]
    .simp[e4]
   .simp[e3]
  .simp[e2]
 .simp[e1]
theorem Nb{ts':List aB}{xs':List (List UInt8)}{fs':List Func}(hN:1300<N)(hm:qU ts xs fs):F8 N (ts,xs,fs,ts',xs',fs')=some (decide (ts=ts'/\xs=xs'/\fs=fs')):=by
 obtain⟨⟨m1,m2,m3,m4,m5⟩,_⟩:=hm;have htl:=m1.1;have htf:∀t,t∈ts->t.2.2.2.length<=1000:=λt h=>by obtain⟨j,hj,rfl⟩:=pT ty0 h;exact(m1.2 j hj).1
 rw[F8.eq_1,Uf (by omega) htf hN,sQ,sQ];simp only[Option.bind_some,dK];by_cases ht:ts=ts'
 .by_cases hx:xs.length=xs'.length
  .by_cases hf:fs.length=fs'.length
   .rw[bI ht,bI hx,bI hf,show(!true||(!true||!true))=false from rfl,aq,ot (l:=xs) (m:=xs') (a:=(.inr (ts,xs,fs,ts',xs',fs'):Bool⊕(List aB×List (List UInt8)×List Func×List aB×List (List UInt8)×List Func))) (b:=.inl false) (Lf:=λk i=>f8.aT N k (i,ts,xs,fs,ts',xs',fs')) hx (λk=>by simp only[f8.aT.eq_2,aM,aq]) (λk i x y hx hy h1 h2=>by
     simp only[f8.aT.eq_2,aJ (az h1),au,aE h1,aE h2,Option.bind_some,aj (show i<9223372036854775807by have:=az h1;omega)];by_cases he:x=y;.simp[he]
     .rw[show(x==y)=false by simpa using he,if_neg he];rfl) N (by omega),Option.bind_some];by_cases JM:xs=xs'
    .rw[if_pos JM];simp only;rw[ot (l:=fs) (m:=fs') (a:=(.inr ():Bool⊕Unit)) (b:=.inl false) (Lf:=λk i=>f8.mO N k (i,ts,xs,fs,ts',xs',fs')) hf (λk=>by simp only[f8.mO.eq_2,aM,aq]) (λk i x y hx hy h1 h2=>by simp only[f8.mO.eq_2,aJ (az h1),au,aE h1,aE h2,Option.bind_some,EE (m5 x hx) hN,aj (show i<9223372036854775807by have:=az h1;omega)];by_cases he:x=y<;>simp[he]) N (by omega),Option.bind_some];by_cases hfe:fs=fs';.rw[if_pos hfe,bI ⟨ht,JM,hfe⟩]
     .rw[if_neg hfe,bE λh=>hfe h.2.2]
    .rw[if_neg JM,bE λh=>JM h.2.1]
   .rw[bE hf,Bool.not_false,Bool.or_true,Bool.or_true,au,bE λh=>hf (by rw[h.2.2])]
  .rw[bE hx,Bool.not_false,Bool.true_or,Bool.or_true,au,bE λh=>hx (by rw[h.2.1])]
 .rw[bE ht,Bool.not_false,Bool.true_or,au,bE λh=>ht h.1]
end
end Go.Proofs.YtgkllgjmfpjeoaaGreatDoor
namespace Go.Proofs.YtgkllgjmfpjeoaaGreatDoor
open Go Go.bJ Go.Sym
noncomputable def jL(c:UInt8)(v:Int):Bool:=(U c).2.2.1&&decide (v>=0)
noncomputable def oE(c:UInt8)(v:Int):Bool:=(U c).2.2.2&&decide (v>=0)
noncomputable def one(b:Bool)(v:Int):List Int:=bif b then[v]else[]
noncomputable def aQ(f:UInt8->Int->Bool)(x:Instr):List Int:=match vX x.1with|some (a,b,c)=>(one (f a x.2.1) x.2.1++one (f b x.2.2.1) x.2.2.1)++one (f c x.2.2.2) x.2.2.2|none=>[]
theorem Lt(N:Nat)(x:Instr):F70 N (x.1,x.2.1,x.2.2.1,x.2.2.2)=some (bif dD x then(aQ jL x,aQ oE x,0)else([],[],8)):=by have h:=uK N x.1;rw[F70.eq_1,tw,h];unfold aQ;cases hc:dD x with|false=>rfl|true=>simp only[au,Option.bind_some,IM.eq_1];cases hs:vX x.1with|none=>simp[dD,hs]at hc|some s=>obtain⟨a,b,c⟩:=s;simp only[mK,Option.bind_some,jL,oE];cases((U a).2.2.1&&decide (x.2.1>=0))<;>cases((U a).2.2.2&&decide (x.2.1>=0))<;>cases((U b).2.2.1&&decide (x.2.2.1>=0))<;>cases((U b).2.2.2&&decide (x.2.2.1>=0))<;>cases((U c).2.2.1&&decide (x.2.2.2>=0))<;>cases((U c).2.2.2&&decide (x.2.2.2>=0))<;>rfl
theorem Ug{c:UInt8}{v:Int}(hc:kF c=true):(bif((c.toNat:Int)==114)then some (decide (v>=0))else bif((c.toNat:Int)==101)then some (decide (v>=0))else some false:Option Bool)=some (jL c v):=by
 have h:c=119\/c=114\/c=110\/c=116\/c=99\/c=98\/c=102\/c=105\/c=103\/c=101\/c=45:=by simpa[kF]using hc
 rcases h with rfl|rfl|rfl|rfl|rfl|rfl|rfl|rfl|rfl|rfl|rfl<;>rfl
theorem Uh{c:UInt8}{v:Int}(hc:kF c=true):(bif((c.toNat:Int)==119)then some (decide (v>=0))else bif((c.toNat:Int)==103)then some (decide (v>=0))else some false:Option Bool)=some (oE c v):=by
 have h:c=119\/c=114\/c=110\/c=116\/c=99\/c=98\/c=102\/c=105\/c=103\/c=101\/c=45:=by simpa[kF]using hc
 rcases h with rfl|rfl|rfl|rfl|rfl|rfl|rfl|rfl|rfl|rfl|rfl<;>rfl
end Go.Proofs.YtgkllgjmfpjeoaaGreatDoor
namespace Go.Proofs.YtgkllgjmfpjeoaaGreatDoor
open Go Go.bJ Go.Sym
noncomputable def C1(n:Int)(x:Instr):Bool:=(x.1==22&&decide (x.2.1>=n))||(x.1==23&&decide (x.2.2.1>=n))
noncomputable def Jj(n:Int)(x:Instr):Bool:=!dD x||C1 n x
noncomputable def Ui(x:Instr):Bool:=x.1==(34:Int)&&(x.2.1==(-1:Int)&&(x.2.2.1==(0:Int)&&(x.2.2.2==(0:Int)&&true)))
noncomputable def qV(l:List Instr):Instr:=l.getD (l.length-1) (0,0,0,0)
noncomputable def gZ(l:List Instr):Bool:=decide (1<=l.length)&&(decide (l.length<=200)&&(!(l.any (Jj (l.length:Int)))&&Ui (qV l)))
theorem Jk{l:List Instr}(h:1<=l.length)(h2:l.length<=9223372036854775807):idx l (av ((l.length:Int)-1))=some (qV l):=by
 have e:av ((l.length:Int)-1)=((l.length-1:Nat):Int):=by rw[bn (by omega)];omega
 rw[e];refine aE ?_;simp only[qV,List.getD_eq_getElem?_getD]<;>grind
theorem Nc(x:Instr)(n:Int):(bif(x.1==(22:Int))then(bif(decide (x.2.1>=n))then some true else(bif(x.1==(23:Int))then some (decide (x.2.2.1>=n))else some false))else(bif(x.1==(23:Int))then some (decide (x.2.2.1>=n))else some false))=some (C1 n x):=by unfold C1<;>grind
theorem Lu{N:Nat}{l:List Instr}(hN:210<N)(hl:l.length<=9223372036854775807):KY N l=some (bif gZ l then 0 else 8):=by
 rw[KY.eq_1];unfold gZ;by_cases h1:1<=l.length
 .rw[show((l.length:Int)==0)=false by simp;intro h;simp[h]at h1,aq,decide_eq_true h1];by_cases h2:l.length<=200;.rw[show decide ((l.length:Int)>200)=false by simp;omega,aq,decide_eq_true h2,Bool.true_and,Jk h1 hl];show(bif !(Ui (qV l))then _ else _)=_;cases Ui (qV l)with|false=>simp|true=>have key:=I0 (l:=l) (a:=(.inr ():Int⊕Unit)) (b:=.inl 8) (p:=Jj (l.length:Int)) (Lf:=λk i=>f101.cI N k ((l.length:Int),l,(l.length:Int),i)) (λk=>by simp only[f101.cI.eq_2,aM,aq]) (λk i x hx hi=>by simp only[f101.cI.eq_2,aJ (az hi),au,aE hi,Option.bind_some,tw,Nc,aj (show i<9223372036854775807by have:=az hi;omega)];cases h1:dD x<;>cases h2:C1 (l.length:Int) x<;>simp[Jj,h1,h2]) N (by omega);grind
  grind
 grind
structure VC(l:List Instr):Prop where
 pos:1<=l.length
 le:l.length<=200aF:∀(i:Nat)x,l[i]?=some x->dD x=true
 jmp:∀(i:Nat)x,l[i]?=some x->x.1=22->0<=x.2.1/\x.2.1<l.length
 br:∀(i:Nat)x,l[i]?=some x->x.1=23->0<=x.2.2.1/\x.2.2.1<l.length
 last:∀x,l[l.length-1]?=some x->x.1=34
theorem ahv{x:Instr}(h:dD x=true)(hx:x.1=22):0<=x.2.1:=by have e:vX 22=some (105,45,45):=rfl;simp[dD,hx,e,fits,Bool.and_eq_true,decide_eq_true_eq]at h;exact h.1.1
theorem ahw{x:Instr}(h:dD x=true)(hx:x.1=23):0<=x.2.2.1:=by have e:vX 23=some (114,105,45):=rfl;simp[dD,hx,e,fits,Bool.and_eq_true,decide_eq_true_eq]at h;exact h.2.1.1
theorem tB{l:List Instr}(h:gZ l=true):VC l:=by
 simp only[gZ,Bool.and_eq_true,decide_eq_true_eq,Bool.not_eq_true',List.any_eq_false]at h;obtain⟨h1,h2,h3,h4⟩:=h;have hb:∀(i:Nat)x,l[i]?=some x->dD x=true/\C1 (l.length:Int) x=false:=λi x hi=>by have:=h3 x (List.mem_of_getElem? hi);simp only[Jj,Bool.or_eq_true,Bool.not_eq_true',not_or,Bool.not_eq_false,Bool.not_eq_true]at this;exact this
 refine⟨h1,h2,λi x hi=>(hb i x hi).1,λi x hi hx=>⟨ahv (hb i x hi).1 hx,?_⟩,λi x hi hx=>⟨ahw (hb i x hi).1 hx,?_⟩,λx hi=>?_⟩;.have:=(hb i x hi).2;simp only[C1,hx,Bool.or_eq_false_iff]at this<;>grind
 .have:=(hb i x hi).2;simp only[C1,hx,Bool.or_eq_false_iff]at this<;>grind
 .have e:qV l=x:=by simp only[qV,List.getD_eq_getElem?_getD,hi];rfl
  rw[e]at h4;simp only[Ui,Bool.and_eq_true,beq_iff_eq]at h4<;>grind
noncomputable def cN(l:List Nat):List Int:=List.map (λn:Nat=>(n:Int)) l
noncomputable def nx(l:List Instr)(i:Nat):List Nat:=match l[i]?with|none=>[]|some x=>if x.1=34\/x.1=28\/x.1=30then[]else if x.1=22then[x.2.1.toNat]else if x.1=23then if x.2.2.1.toNat=i+1then[i+1]else[min (i+1) x.2.2.1.toNat,max (i+1) x.2.2.1.toNat]else[i+1]
theorem zi{l:List Instr}(h:VC l){i k:Nat}(hk:k∈nx l i):k<l.length:=by
 unfold nx at hk;split at hk;.cases hk
 .rename_i x hi;have hlt:=az hi;have hs:x.1≠34->i+1<l.length:=λhx=>by
   by_cases h1:i=l.length-1;.subst h1;exact absurd (h.last x hi) hx
   .omega
  split at hk;.cases hk
  .subst_vars;split at hk;.rename_i h22;have:=h.jmp i x hi h22<;>grind
   .split at hk;.rename_i h23;have:=h.br i x hi h23<;>grind
    grind
theorem qA(l:List Instr)(i:Nat):(nx l i).length<=2:=by unfold nx<;>grind
theorem WU(x:Instr):((x.1==(34:Int))||((x.1==(28:Int))||(x.1==(30:Int))))=decide (x.1=34\/x.1=28\/x.1=30):=by grind
theorem Uj(a b:Nat):min (a:Int) (b:Int)=((min a b:Nat):Int):=by omega
theorem Uk(a b:Nat):max (a:Int) (b:Int)=((max a b:Nat):Int):=by omega
theorem Ul{l:List Instr}(h:VC l){i:Nat}(hi:i<l.length):(Option.bind (idx l (i:Int)) λx0=>(Option.bind ((bif(x0.1==(34:Int))then some true else(Option.bind ((bif(x0.1==(28:Int))then some true else some (x0.1==(30:Int)))) λb1=>some b1))) λb2=>(bif b2 then some []else(bif(x0.1==(22:Int))then some [x0.2.1]else(bif(x0.1==(23:Int))then(bif(x0.2.2.1==(av ((i:Int)+(1:Int))))then some [(av ((i:Int)+(1:Int)))]else some [(min (av ((i:Int)+(1:Int))) x0.2.2.1),(max (av ((i:Int)+(1:Int))) x0.2.2.1)])else some [(av ((i:Int)+(1:Int)))])))))=some (cN (nx l i)):=by
 have e1:=List.getElem?_eq_getElem hi;generalize l[i]=x at e1;have hle:=h.le;have e2:av ((i:Int)+1)=((i+1:Nat):Int):=aj (by omega);rw[aE e1];simp only[Option.bind_some,dK,e2,WU,nx,e1];by_cases h1:x.1=34\/x.1=28\/x.1=30;.simp[h1,cN]
 .rw[decide_eq_false h1,aq,if_neg h1];by_cases h2:x.1=22;.have:=h.jmp i x e1 h2;simp[h2,beq_self_eq_true,au,if_true,cN,List.map_cons,List.map_nil,Int.toNat_of_nonneg this.1]
  .rw[show(x.1==(22:Int))=false by simpa using h2,if_neg h2];by_cases h3:x.1=23
   .have:=h.br i x e1 h3;have hq:x.2.2.1=((x.2.2.1.toNat:Nat):Int):=by omega
    simp only[h3,beq_self_eq_true,au,if_true];by_cases h4:x.2.2.1.toNat=i+1;.rw[hq,h4];simp[cN]
    .rw[if_neg h4,show(x.2.2.1==((i+1:Nat):Int))=false by simp;omega,aq];generalize x.2.2.1.toNat=b at hq;rw[hq,Uj,Uk];rfl
   .rw[show(x.1==(23:Int))=false by simpa using h3,if_neg h3];rfl
theorem ahx(a b:Int):jo (jm [a,b])=if b=a then[a]else[min a b,max a b]:=by simp only[jm,z8]<;>grind[jm,jo]
theorem Lw{N:Nat}{l:List Instr}(h:VC l){i:Nat}(hi:i<l.length):KZ N (l,(i:Int))=some (cN (nx l i)):=by rw[<-Ul h hi,KZ.eq_1];congr 1;funext x;congr 1;funext b;cases b with|true=>rfl|false=>
 have hlen:∀q:Int,decide ((jm [av ((i:Int)+1),q]).length<4611686018427387904)=true:=λq=>by simp only[jm,z8];cases decide (av ((i:Int)+1)<=q)<;>rfl
 rw[hlen];simp[ahx];by_cases h4:x.2.2.1=av ((i:Int)+1);.simp_all[jm,av,aF]
 .rw[if_neg h4,show(x.2.2.1==av ((i:Int)+1))=false by simpa using h4];rfl
end Go.Proofs.YtgkllgjmfpjeoaaGreatDoor
namespace Go.Proofs.YtgkllgjmfpjeoaaGreatDoor
open Go Go.bJ Go.Sym
open Classical
theorem wq{σ β:Type}{Lf:Nat->σ->List Nat->Option β}{Inv:σ->List Nat->Prop}{μ:σ->Nat}{g:σ->β}(h0:∀k s,Inv s []->Lf (k+1) s []=some (g s))(hs:∀k s o i,Inv s (o++[i])->∃s' p,Inv s' (o++p)/\μ s'+p.length<=μ s/\Lf (k+1) s (o++[i])=Lf k s' (o++p)):∀k s o,Inv s o->μ s+o.length<k->∃s',Inv s' []/\Lf k s o=some (g s')
 |0,_,_,_,h=>by omega|k+1,s,o,hI,hk=>by
  rcases List.eq_nil_or_concat o with rfl|⟨o',i,ho⟩;.grind
  .simp at ho;subst ho;simp at hk;obtain⟨s',p,h1,h2,h3⟩:=hs k s o' i hI;obtain⟨s'',h4,h5⟩:=wq h0 hs k s' (o'++p) h1 (by simp only[List.length_append];omega)<;>grind
theorem rounds{σ β:Type}{Lf:Nat->Bool->σ->Option β}{Inv C2:σ->Prop}{μ:σ->Nat}{g:σ->β}(h0:∀k s,Inv s->C2 s->Lf (k+1) false s=some (g s))(hs:∀k s,Inv s->∃s' c,Inv s'/\(c=false->C2 s')/\(c=true->μ s'<μ s)/\Lf (k+1) true s=Lf k c s'):∀k s,Inv s->μ s+1<k->∃s',Inv s'/\C2 s'/\Lf k true s=some (g s')|0,_,_,h=>by omega|k+1,s,hI,hk=>by obtain⟨s',c,h1,h2,h3,h4⟩:=hs k s hI;cases c with|false=>obtain⟨k',rfl⟩:∃q,k=q+1:=⟨k-1,by omega⟩<;>grind|true=>obtain⟨s'',h5,h6,h7⟩:=rounds h0 hs k s' h1 (by have:=h3 rfl;omega)<;>grind
inductive Reach(l:List Instr):Nat->Prop where|zero:Reach l 0|step{i k:Nat}:Reach l i->k∈nx l i->Reach l k
theorem Reach.lt{l:List Instr}(h:VC l){i:Nat}(hi:Reach l i):i<l.length:=by cases hi with|zero=>exact h.pos|step _ hk=>exact zi h hk
abbrev T(b:List Bool)(k:Nat):Prop:=b[k]?=some true
theorem dY{b:List Bool}{i k:Nat}(hi:i<b.length):T (b.set i true) k↔k=i\/T b k:=by grind
noncomputable def cntF(b:List Bool):Nat:=b.countP λx=>!x
theorem sR{b:List Bool}{i:Nat}(h:b[i]?=some false):cntF (b.set i true)+1=cntF b:=by induction b generalizing i with|nil=>simp at h|cons x r ih=>cases i with|zero=>simp at h;subst h;simp[cntF]|succ i=>have:=ih h;simp[cntF,List.set_cons_succ,List.countP_cons]at this⊢;omega
theorem qB(b:List Bool):cntF b<=b.length:=List.countP_le_length
theorem xM{l:List Nat}{i:Nat}{x:Int}(h:(cN l)[i]?=some x):∃k,l[i]?=some k/\x=(k:Int):=by simp only[cN,List.getElem?_map,Option.map_eq_some_iff]at h<;>grind
theorem C3{b:List Bool}{i:Nat}(h:T b i):b.set i true=b:=BR h
theorem Jl{b:List Bool}{i:Nat}(h:i<b.length):b[i]?=some true\/b[i]?=some false:=by simp_all
structure Po(l:List Instr)(s:List Bool):Prop where
 len:s.length=l.length
 zero:T s 0reach:∀i,T s i->Reach l i
structure InP(l:List Instr)(s:List Bool)(o:List Nat):Prop where
 base:Po l s
 wq:∀k∈o,T s k
 shut:∀i,T s i->i∈o\/∀k∈nx l i,T s k
theorem T.lt{b:List Bool}{k:Nat}(h:T b k):k<b.length:=az h
theorem tC(a b:List Nat):cN (a++b)=cN a++cN b:=by simp[cN]
theorem bG(a:List Nat):(cN a).length=a.length:=by simp[cN]
theorem C4{N:Nat}{l:List Instr}(hv:VC l)(hN:500<N){s:List Bool}{o:List Nat}{i:Nat}(h:InP l s (o++[i]))(ho:o.length<=1000000):∃s' p,InP l s' (o++p)/\cntF s'+p.length<=cntF s/\f65.fW N N (l,(i:Int),cN (nx l i),((cN (nx l i)).length:Int),0,s,cN o)=some (l,s',cN (o++p)):=by
 have hi:T s i:=h.wq i (by simp);have Nd:=h.base.reach i hi;obtain⟨⟨s',p⟩,hI,he⟩:=eS (l:=cN (nx l i)) (g:=λq:List Bool×List Nat=>(l,q.1,cN (o++q.2))) (Inv:=λj q=>Po l q.1/\(∀k∈o++q.2,T q.1 k)/\(∀k,T q.1 k->k∈o++q.2\/k=i\/∀k'∈nx l k,T q.1 k')/\(∀k∈(nx l i).take j,T q.1 k)/\cntF q.1+q.2.length<=cntF s/\T q.1 i) (Lf:=λk j q=>f65.fW N k (l,(i:Int),cN (nx l i),((cN (nx l i)).length:Int),j,q.1,cN (o++q.2))) (λk q _=>by simp only[f65.fW.eq_2,aM,aq]) (λk j x q hx⟨h1,h2,h3,h4,h5,h6⟩=>by
   obtain⟨m,hm,rfl⟩:=xM hx;have hml:=zi hv (aU hm);have qY:m<q.1.length:=by rw[h1.len];exact hml
   have hj:j<9223372036854775807:=by have:=az hm;have:=qA l i;omega
   have e1:=List.getElem?_eq_getElem qY;simp only[f65.fW.eq_2,aJ (az hx),au,aE hx,Option.bind_some,bS qY,ai,Int.toNat_natCast,aj hj];rcases Jl qY with hb|hb
   .refine⟨q,⟨h1,h2,h3,λk' hk'=>?_,h5,h6⟩,?_⟩
    .rw[take_succ hm,List.mem_append,List.mem_singleton]at hk';rcases hk' with hk'|rfl;.exact h4 k' hk'
     .exact hb
    .simp only[hb,Option.bind_some,Bool.not_true,aq,C3 hb]
   .refine⟨(q.1.set m true,q.2++[m]),⟨⟨by simp[h1.len],(dY qY).2 (.inr h1.zero),λk' hk'=>?_⟩,λk' hk'=>?_,λk' hk'=>?_,λk' hk'=>?_,?_,(dY qY).2 (.inr h6)⟩,?_⟩
    .rcases(dY qY).1 hk' with rfl|hk';.exact .step Nd (aU hm)
     .exact h1.reach k' hk'
    .rw[<-List.append_assoc,List.mem_append,List.mem_singleton]at hk';rcases hk' with hk'|rfl;.exact(dY qY).2 (.inr (h2 k' hk'))
     .exact(dY qY).2 (.inl rfl)
    .rcases(dY qY).1 hk' with rfl|hk';.exact .inl (by simp)
     .rcases h3 k' hk' with h|h|h;.exact .inl (by rw[<-List.append_assoc];exact List.mem_append_left _ h)
      .exact .inr (.inl h)
      .exact .inr (.inr λk'' alP=>(dY qY).2 (.inr (h k'' alP)))
    .rw[take_succ hm,List.mem_append,List.mem_singleton]at hk';rcases hk' with hk'|rfl;.exact(dY qY).2 (.inr (h4 k' hk'))
     .exact(dY qY).2 (.inl rfl)
    .have:=sR hb;simp only[List.length_append,List.length_cons,List.length_nil];omega
    .have hlen:q.2.length<=s.length:=by have:=qB s;omega
     rw[h.base.len]at hlen;have:=hv.le;have hr:room ((cN (o++q.2)).length+1) 8=true:=af (by rw[bG,List.length_append];omega) (by omega);simp only[hb,Option.bind_some,Bool.not_false,au,hr,ai];rw[<-List.append_assoc,tC (o++q.2) [m]];rfl) (k:=N) (s:=(s,[])) ⟨h.base,λk hk=>h.wq k (by simp at hk;simp[hk]),λk hk=>by
      rcases h.shut k hk with h'|h'
      .simp at h';rcases h' with h'|h';.exact .inl (by simpa using h')
       .exact .inr (.inl h')
      .exact .inr (.inr h'),λk hk=>by simp at hk,by simp,hi⟩ (by rw[bG];have:=qA l i;omega);obtain⟨h1,h2,h3,h4,h5,h6⟩:=hI;refine⟨s',p,⟨h1,h2,λk hk=>?_⟩,h5,by simpa using he⟩;rcases h3 k hk with h|rfl|h;.grind
 .right;intro k' hk';have:(nx l k).take (cN (nx l k)).length=nx l k:=by rw[bG]<;>grind
  grind
 grind
noncomputable def dP(l:List Instr):List Bool:=(List.range l.length).map λk=>decide (Reach l k)
theorem jM{l:List Instr}{k:Nat}(h:k<l.length):(dP l)[k]?=some (decide (Reach l k)):=by simp[dP,h]
theorem qC(l:List Instr):(dP l).length=l.length:=by simp[dP]
theorem Um{l:List Instr}(hv:VC l){k:Nat}:T (dP l) k↔Reach l k:=by
 unfold T;by_cases h:k<l.length;.rw[jM h];simp
 .rw[List.getElem?_eq_none (by rw[qC];omega)];constructor;.grind
  .intro h';exact absurd (h'.lt hv) h
theorem Pp{l:List Instr}{s:List Bool}(hl:s.length=l.length)(h:∀k,T s k↔Reach l k):s=dP l:=by
 apply List.ext_getElem?;intro k;by_cases hk:k<l.length;.rw[jM hk];rcases Jl (b:=s) (i:=k) (by omega)with h1|h1<;>grind
 .rw[List.getElem?_eq_none (by omega),List.getElem?_eq_none (by rw[qC];omega)]
theorem Po.all{l:List Instr}{s:List Bool}(h:Po l s)(hs:∀i,T s i->∀k∈nx l i,T s k):s=dP l:=Pp h.len λk=>⟨h.reach k,λhr=>by induction hr with|zero=>exact h.zero|step _ hk ih=>grind⟩
theorem xN(n:Nat):((List.replicate n false).set 0 true).length=n:=by simp
theorem jE{n:Nat}(h:1<=n)(k:Nat):T ((List.replicate n false).set 0 true) k↔k=0:=by grind
theorem xO{l:List Instr}(hv:VC l):Po l ((List.replicate l.length false).set 0 true):=⟨by simp,(jE hv.pos 0).2 rfl,λi hi=>by rw[(jE hv.pos i).1 hi];exact .zero⟩
theorem tD{n:Nat}(h1:1<=n)(h2:n<=10000000):av ((n:Int)-1)=((n-1:Nat):Int):=by rw[bn (by omega)];omega
theorem qD{α:Type}{n:Nat}(h:1<=n)(x:α):(List.replicate n x)[0]?=some x:=by grind
theorem Gt{N:Nat}{l:List Instr}(hv:VC l)(hN:500<N):f65.iS N N (l,(List.replicate l.length false).set 0 true,[(0:Int)])=some (dP l):=by
 have hle:=hv.le;obtain⟨s,hI,he⟩:=wq (Inv:=λs o=>InP l s o/\cntF s+o.length<=300) (μ:=cntF) (g:=λs=>s) (Lf:=λk s o=>f65.iS N k (l,s,cN o)) (λk s _=>by rw[show cN []=[]from rfl,f65.iS.eq_2];rfl) (λk s o i⟨h,hm⟩=>by
   rw[List.length_append,List.length_singleton]at hm;have hi:T s i:=h.wq i (by simp);have wM:i<l.length:=by rw[<-h.base.len];exact hi.lt
   obtain⟨s',p,h1,h2,h3⟩:=C4 hv hN h (by omega);refine⟨s',p,⟨h1,by rw[List.length_append];omega⟩,h2,?_⟩;have hlen:(cN (o++[i])).length=o.length+1:=by simp[cN]
   have e1:av (((o.length+1:Nat):Int)-1)=(o.length:Int):=by rw[bn (by omega)];omega
   have e2:(cN (o++[i]))[o.length]?=some (i:Int):=by simp[cN]
   have e3:(cN (o++[i])).take o.length=cN o:=by simp[cN]
   simp only[f65.iS.eq_2,hlen,e1,decide_eq_true (show((o.length+1:Nat):Int)>0 by omega),au,bS (show o.length<o.length+1by omega),ai,Int.toNat_natCast,e2,Option.bind_some,show decide ((0:Int)<=(o.length:Int))=true by simp,show decide (o.length<=o.length+1)=true by simp,Lw hv wM,e3,h3]) N ((List.replicate l.length false).set 0 true) [0] ⟨⟨xO hv,λk hk=>by simp at hk;subst hk;exact(jE hv.pos 0).2 rfl,λi hi=>.inl (by rw[(jE hv.pos i).1 hi];simp)⟩,by have:=qB ((List.replicate l.length false).set 0 true);rw[xN]at this;simp only[List.length_singleton];omega⟩ (by have:=qB ((List.replicate l.length false).set 0 true);rw[xN]at this;simp only[List.length_singleton];omega);rw[show[(0:Int)]=cN [0]from rfl,he];congr 1;exact hI.1.base.all λi hi k hk=>by
  rcases hI.1.shut i hi with h|h;.simp at h
  .exact h k hk
theorem ach{N:Nat}{l:List Instr}(hN:500<N)(hl:l.length<=9223372036854775807):F65 N l=some (if gZ l then((dP l).set (l.length-1) true,0)else([],8)):=by rw[F65.eq_1,Lu (by omega) hl];cases h:gZ l with|false=>rfl|true=>have hv:=tB h;have h1:=hv.pos;have h2:=hv.le;simp only[au,show((0:Int)!=0)=false from rfl,aq,if_true,Int.toNat_natCast,show decide ((0:Int)<=(l.length:Int))=true by simp,ai,Nat.le_refl,decide_true,Bool.true_and,af (show l.length<=10000000by omega) (show 1<=1000by omega),List.length_replicate,show fP 0 l.length=true from bS (i:=0) h1,show Int.toNat 0=0from rfl,qD h1,Option.bind_some,Gt hv hN,qC,tD h1 (by omega),bS (show l.length-1<l.length by omega),jM (show l.length-1<l.length by omega)]
end Go.Proofs.YtgkllgjmfpjeoaaGreatDoor
