/- A part of the proof: Law12chl, Law12chm, Law12chl7b, Law12chl7c, Law12chl7d. -/
import Derived.Test.YtdogilonhnbapaaGreatDoorLaw12chk
set_option linter.unusedVariables false
set_option linter.unusedSimpArgs false
namespace Go.Proofs.YtdogilonhnbapaaGreatDoor
open Go Go.bI Go.Sym
open Classical
noncomputable def rz(ts:List aB)(xs:List (List UInt8))(fs:List Func):Prop:=MD ts xs fs/\∀f,f∈fs->i64 f.2.2.1
theorem fD.XW{ts:List aB}{xs:List (List UInt8)}{fs:List Func}(h:fD ts xs fs):XW xs:=⟨h.2.1,h.2.2.2.2.1⟩
theorem fD.func{ts:List aB}{xs:List (List UInt8)}{fs:List Func}(h:fD ts xs fs){i:Nat}(hi:i<fs.length):eB ts.length (fQ fs i):=by have:=h.2.2.2.2.2 i hi;unfold CD at this<;>grind
theorem fD.FnW{ts:List aB}{xs:List (List UInt8)}{fs:List Func}(h:fD ts xs fs)(hm:rz ts xs fs):FnW fs:=⟨h.2.2.1.2,λf hf=>by refine⟨hm.1.2.2.2.2 f hf,hm.2 f hf,ts.length,h.1.1,?_⟩;obtain⟨i,hi,rfl⟩:=p7 fn0 hf;exact h.func hi⟩
noncomputable def nW(ts:List aB)(xs:List (List UInt8))(fs:List Func):Int:=if fD ts xs fs then(if(u5 ts xs fs).length<=20000then 0 else 4)else 8
section
variable{N:Nat}{ts:List aB}{xs:List (List UInt8)}{fs:List Func}
theorem Ff(h:fD ts xs fs)(hm:rz ts xs fs):(ts.flatMap oL).length<=25600/\(xs.flatMap said).length<=3200/\(fs.flatMap oM).length<=960000:=by
 have hT:=h.1.TW;have hX:=h.XW;have hF:=h.FnW hm;have h1:=fY (l:=ts) (enc:=oL) (m:=800) λx hx=>by obtain⟨n,i,hi,_,ht⟩:=hT.2 x hx;exact x5 ht hi
 have h2:=fY (l:=xs) (enc:=said) (m:=100) λx hx=>by have:=mq x;have:=hX.2 x hx;omega
 have h3:=fY (l:=fs) (enc:=oM) (m:=30000) λx hx=>by obtain⟨hf,_,n,hn,ho⟩:=hF.2 x hx;exact x8 ho hn hf
 have a1:=hT.1;have a2:=hX.1;have a3:=hF.1<;>grind
theorem QD(hN:1300<N)(hm:rz ts xs fs):F60 N (ts,xs,fs)=some (if nW ts xs fs=0then u5 ts xs fs else[],nW ts xs fs):=by
 rw[F60.eq_1,Oi hN hm.1,Option.bind_some];unfold nW;by_cases h:fD ts xs fs
 .rw[bJ h,Bool.not_true,ak,if_pos h];obtain⟨b1,b2,b3⟩:=Ff h hm;have c1:=cy ts.length;have c2:=cy xs.length;have c3:=cy fs.length;have d1:=hm.1.1.1;have d2:=hm.1.2.1;have d3:=hm.1.2.2.2.1;rw[jB (by omega) (by omega),Option.bind_some,ah (by omega) (by omega),af,US hN h.1.TW (by omega),Option.bind_some];simp only;rw[jB (by omega) (by omega),Option.bind_some,ah (by simp only[List.length_append];omega) (by omega),af,UU hN h.XW (by simp only[List.length_append];omega),Option.bind_some];simp only;rw[jB (by omega) (by omega),Option.bind_some,ah (by simp only[List.length_append];omega) (by omega),af,UX hN (h.FnW hm) (by simp only[List.length_append];omega),Option.bind_some];have e:(((((V ts.length++ts.flatMap oL)++V xs.length)++xs.flatMap said)++V fs.length)++fs.flatMap oM)=u5 ts xs fs:=by simp[u5,List.append_assoc]
  grind
 grind
theorem UY(hN:1300<N)(hm:rz ts xs fs)(h:fD ts xs fs):F70 N (ts,xs,fs)=some (u5 ts xs fs):=by obtain⟨b1,b2,b3⟩:=Ff h hm;have c1:=cy ts.length;have c2:=cy xs.length;have c3:=cy fs.length;have d1:=hm.1.1.1;have d2:=hm.1.2.1;have d3:=hm.1.2.2.2.1;rw[F70.eq_1,nu (by omega) (by omega),Option.bind_some,QA hN h.1.TW (by omega),Option.bind_some];simp only;rw[nu (by omega) (by omega),Option.bind_some,ah (by simp only[List.length_append];omega) (by omega),af,QB hN h.XW (by simp only[List.length_append];omega),Option.bind_some];simp only;rw[nu (by omega) (by omega),Option.bind_some,ah (by simp only[List.length_append];omega) (by omega),af,QC hN (h.FnW hm) (by simp only[List.length_append];omega),Option.bind_some];simp[u5,List.append_assoc]
theorem CG(hN:1300<N)(hm:rz ts xs fs):F43 N (ts,xs,fs)=some (nW ts xs fs):=by
 rw[F43.eq_1,Qx hN hm.1,Option.bind_some];unfold nW;by_cases h:fD ts xs fs;.rw[bJ h,Bool.not_true,ak,if_pos h,UY hN hm h,Option.bind_some]<;>grind
 grind
theorem UZ(hN:1300<N)(hm:rz ts xs fs):F36 N (ts,xs,fs)=some (nW ts xs fs):=by rw[F36.eq_1,QD hN hm,Option.bind_some]
noncomputable def afo(fs:List Func)(f i:Int):Prop:=0<=f/\f<fs.length/\0<=i/\i<(fQ fs f.toNat).2.2.2.2.1.length
noncomputable def apw(ts:List aB)(xs:List (List UInt8))(fs:List Func)(f i:Int):Int×Int:=if nW ts xs fs=0then(if afo fs f i then(256*(f+1)+i,0)else(0,2))else(0,nW ts xs fs)
noncomputable def anQ(fs:List Func)(a:Nat):Prop:=1<=a/256/\a/256<=fs.length/\a%256<(fQ fs (a/256-1)).2.2.2.2.1.length
noncomputable def apx(ts:List aB)(xs:List (List UInt8))(fs:List Func)(a:Nat):Int×Int×Int:=if nW ts xs fs=0then(if anQ fs a then(((a/256-1:Nat):Int),((a%256:Nat):Int),0)else(0,0,6))else(0,0,nW ts xs fs)
end
end Go.Proofs.YtdogilonhnbapaaGreatDoor
namespace Go.Proofs.YtdogilonhnbapaaGreatDoor
open Go Go.bI Go.Sym
open Classical
noncomputable def apy(ts:List aB)(fs:List Func):Prop:=(∀t,t∈ts->i64 t.2.2.1)/\∀f,f∈fs->i64 f.2.2.1/\(∀x,x∈f.2.2.2.2.1->Oa x)/\zF f.2.2.2.2.2.1/\zF f.2.2.2.2.2.2
section
variable{N:Nat}{ts:List aB}{xs:List (List UInt8)}{fs:List Func}
theorem QE{α:Type}(l:List α):l.flatMap (λx=>[x])=l:=(tv id l).trans (List.map_id l)
theorem tw{α β:Type}{l:List α}{m:List β}:((l.length:Int)!=(m.length:Int))=!decide (l.length=m.length):=by grind
theorem Y7(a b:Int):(a !=b)=!decide (a=b):=by grind
theorem U0(x y:Field):(x.1==y.1&&(x.2==y.2&&true))=decide (x=y):=by grind
theorem run_eq(x y:fA):(x.1==y.1&&(x.2==y.2&&true))=decide (x=y):=by grind
theorem instr_eq(x y:Instr):(x.1==y.1&&(x.2.1==y.2.1&&(x.2.2.1==y.2.2.1&&(x.2.2.2==y.2.2.2&&true))))=decide (x=y):=by grind
theorem J3{l m:List Field}(hl:l.length<=1000)(hN:1300<N):F25 N (l,m)=some (decide (l=m)):=by
 rw[F25.eq_1,tw];by_cases h:l.length=m.length;.rw[bJ h,Bool.not_true,ak,oH (l:=l) (m:=m) (a:=(.inr ():Bool⊕Unit)) (b:=.inl false) (Lf:=λk i=>f25.aU N k (l,m,i)) h (λk=>by simp only[f25.aU.eq_2,aL,ak]) (λk i x y hx hy h1 h2=>by simp only[f25.aU.eq_2,aI (aA h1),au,aD h1,aD h2,Option.bind_some,U0,aj (show i<9223372036854775807by have:=aA h1;omega)];by_cases he:x=y<;>simp[he]) N (by omega),Option.bind_some];grind
 .rw[bE h,Bool.not_false,au,bE λe=>h (by rw[e])]
theorem J4{l m:List fA}(hl:l.length<=1000)(hN:1300<N):F27 N (l,m)=some (decide (l=m)):=by
 rw[F27.eq_1,tw];by_cases h:l.length=m.length;.rw[bJ h,Bool.not_true,ak,oH (l:=l) (m:=m) (a:=(.inr ():Bool⊕Unit)) (b:=.inl false) (Lf:=λk i=>f27.aU N k (l,m,i)) h (λk=>by simp only[f27.aU.eq_2,aL,ak]) (λk i x y hx hy h1 h2=>by simp only[f27.aU.eq_2,aI (aA h1),au,aD h1,aD h2,Option.bind_some,run_eq,aj (show i<9223372036854775807by have:=aA h1;omega)];by_cases he:x=y<;>simp[he]) N (by omega),Option.bind_some];grind
 .rw[bE h,Bool.not_false,au,bE λe=>h (by rw[e])]
theorem U1{l m:List Instr}(hl:l.length<=1000)(hN:1300<N):F26 N (l,m)=some (decide (l=m)):=by
 rw[F26.eq_1,tw];by_cases h:l.length=m.length;.rw[bJ h,Bool.not_true,ak,oH (l:=l) (m:=m) (a:=(.inr ():Bool⊕Unit)) (b:=.inl false) (Lf:=λk i=>f26.aU N k (l,m,i)) h (λk=>by simp only[f26.aU.eq_2,aL,ak]) (λk i x y hx hy h1 h2=>by simp only[f26.aU.eq_2,aI (aA h1),au,aD h1,aD h2,Option.bind_some,instr_eq,aj (show i<9223372036854775807by have:=aA h1;omega)];by_cases he:x=y<;>simp[he]) N (by omega),Option.bind_some];grind
 .rw[bE h,Bool.not_false,au,bE λe=>h (by rw[e])]
theorem U2{l m:List aB}(hl:l.length<=1000)(hf:∀t,t∈l->t.2.2.2.length<=1000)(hN:1300<N):F12 N (l,m)=some (decide (l=m)):=by
 rw[F12.eq_1,tw];by_cases h:l.length=m.length;.rw[bJ h,Bool.not_true,ak,oH (l:=l) (m:=m) (a:=(.inr ():Bool⊕Unit)) (b:=.inl false) (Lf:=λk i=>f12.aU N k (l,m,i)) h (λk=>by simp only[f12.aU.eq_2,aL,ak]) (λk i x y hx hy h1 h2=>by simp only[f12.aU.eq_2,aI (aA h1),au,aD h1,aD h2,Option.bind_some,J3 (hf x hx) hN,dK,Y7,aj (show i<9223372036854775807by have:=aA h1;omega)];obtain⟨a,b,c,d⟩:=x;obtain⟨a',b',c',d'⟩:=y;by_cases e1:a=a'<;>by_cases e2:b=b'<;>by_cases e3:c=c'<;>by_cases e4:d=d'<;>simp[e1,e2,e3,e4]) N (by omega),Option.bind_some];grind
 .rw[bE h,Bool.not_false,au,bE λe=>h (by rw[e])]
theorem Fg{f g:Func}(hf:um f)(hN:1300<N):F13 N (f.1,f.2.1,f.2.2.1,f.2.2.2.1,f.2.2.2.2.1,f.2.2.2.2.2.1,f.2.2.2.2.2.2,g.1,g.2.1,g.2.2.1,g.2.2.2.1,g.2.2.2.2.1,g.2.2.2.2.2.1,g.2.2.2.2.2.2)=some (decide (f=g)):=by
 obtain⟨g1,g2,g3,g4,_⟩:=hf;rw[F13.eq_1];simp only[J3 (N:=N) (show f.2.2.2.1.length<=1000by omega) hN,U1 (N:=N) (show f.2.2.2.2.1.length<=1000by omega) hN,J4 (N:=N) (show f.2.2.2.2.2.1.length<=1000by omega) hN,J4 (N:=N) (show f.2.2.2.2.2.2.length<=1000by omega) hN,Option.bind_some,mL];obtain⟨a,b,c,d,e,i,j⟩:=f;obtain⟨a',b',c',d',e',i',j'⟩:=g;simp only;congr 1;by_cases e1:a=a'
 .by_cases e2:b=b'
  .by_cases e3:c=c'
   .by_cases e4:d=d'
    .by_cases e5:e=e';.by_cases e6:i=i'<;>by_cases e7:j=j'<;>simp[e1,e2,e3,e4,e5,e6,e7]
     .simp[e5]
    .simp[e4]
   .simp[e3]
  .simp[e2]
 .simp[e1]
theorem Oj{ts':List aB}{xs':List (List UInt8)}{fs':List Func}(hN:1300<N)(hm:rz ts xs fs):F6 N (ts,xs,fs,ts',xs',fs')=some (decide (ts=ts'/\xs=xs'/\fs=fs')):=by
 obtain⟨⟨m1,m2,m3,m4,m5⟩,_⟩:=hm;have htl:=m1.1;have htf:∀t,t∈ts->t.2.2.2.length<=1000:=λt h=>by obtain⟨j,hj,rfl⟩:=p7 ty0 h;exact(m1.2 j hj).1
 rw[F6.eq_1,U2 (by omega) htf hN,tw,tw];simp only[Option.bind_some,dK];by_cases ht:ts=ts'
 .by_cases hx:xs.length=xs'.length
  .by_cases hf:fs.length=fs'.length
   .rw[bJ ht,bJ hx,bJ hf,show(!true||(!true||!true))=false from rfl,ak,oH (l:=xs) (m:=xs') (a:=(.inr (ts,xs,fs,ts',xs',fs'):Bool⊕(List aB×List (List UInt8)×List Func×List aB×List (List UInt8)×List Func))) (b:=.inl false) (Lf:=λk i=>f6.aU N k (i,ts,xs,fs,ts',xs',fs')) hx (λk=>by simp only[f6.aU.eq_2,aL,ak]) (λk i x y hx hy h1 h2=>by
     simp only[f6.aU.eq_2,aI (aA h1),au,aD h1,aD h2,Option.bind_some,aj (show i<9223372036854775807by have:=aA h1;omega)];by_cases he:x=y;.simp[he]
     .rw[show(x==y)=false by simpa using he,if_neg he];rfl) N (by omega),Option.bind_some];by_cases HJ:xs=xs'
    .rw[if_pos HJ];simp only;rw[oH (l:=fs) (m:=fs') (a:=(.inr ():Bool⊕Unit)) (b:=.inl false) (Lf:=λk i=>f6.mS N k (i,ts,xs,fs,ts',xs',fs')) hf (λk=>by simp only[f6.mS.eq_2,aL,ak]) (λk i x y hx hy h1 h2=>by simp only[f6.mS.eq_2,aI (aA h1),au,aD h1,aD h2,Option.bind_some,Fg (m5 x hx) hN,aj (show i<9223372036854775807by have:=aA h1;omega)];by_cases he:x=y<;>simp[he]) N (by omega),Option.bind_some];by_cases hfe:fs=fs';.rw[if_pos hfe,bJ ⟨ht,HJ,hfe⟩]
     .rw[if_neg hfe,bE λh=>hfe h.2.2]
    .rw[if_neg HJ,bE λh=>HJ h.2.1]
   .rw[bE hf,Bool.not_false,Bool.or_true,Bool.or_true,au,bE λh=>hf (by rw[h.2.2])]
  .rw[bE hx,Bool.not_false,Bool.true_or,Bool.or_true,au,bE λh=>hx (by rw[h.2.1])]
 .rw[bE ht,Bool.not_false,Bool.true_or,au,bE λh=>ht h.1]
end
end Go.Proofs.YtdogilonhnbapaaGreatDoor
namespace Go.Proofs.YtdogilonhnbapaaGreatDoor
open Go Go.bI Go.Sym
noncomputable def jF(c:UInt8)(v:Int):Bool:=(U c).2.2.1&&decide (v>=0)
noncomputable def ny(c:UInt8)(v:Int):Bool:=(U c).2.2.2&&decide (v>=0)
noncomputable def one(b:Bool)(v:Int):List Int:=bif b then[v]else[]
noncomputable def aP(f:UInt8->Int->Bool)(x:Instr):List Int:=match wH x.1with|some (a,b,c)=>(one (f a x.2.1) x.2.1++one (f b x.2.2.1) x.2.2.1)++one (f c x.2.2.2) x.2.2.2|none=>[]
theorem MF(N:Nat)(x:Instr):F66 N (x.1,x.2.1,x.2.2.1,x.2.2.2)=some (bif dL x then(aP jF x,aP ny x,0)else([],[],8)):=by have h:=uZ N x.1;rw[F66.eq_1,tP,h];unfold aP;cases hc:dL x with|false=>rfl|true=>simp[au,Option.bind_some,GR.eq_1];cases hs:wH x.1with|none=>grind|some s=>obtain⟨a,b,c⟩:=s;simp[mL,Option.bind_some,jF,ny];cases((U a).2.2.1&&decide (x.2.1>=0))<;>cases((U a).2.2.2&&decide (x.2.1>=0))<;>cases((U b).2.2.1&&decide (x.2.2.1>=0))<;>cases((U b).2.2.2&&decide (x.2.2.1>=0))<;>cases((U c).2.2.1&&decide (x.2.2.2>=0))<;>cases((U c).2.2.2&&decide (x.2.2.2>=0))<;>rfl
theorem U3{c:UInt8}{v:Int}(hc:kJ c=true):(bif((c.toNat:Int)==114)then some (decide (v>=0))else bif((c.toNat:Int)==101)then some (decide (v>=0))else some false:Option Bool)=some (jF c v):=by
 have h:c=119\/c=114\/c=110\/c=116\/c=99\/c=98\/c=102\/c=105\/c=103\/c=101\/c=45:=by simpa[kJ]using hc
 rcases h with rfl|rfl|rfl|rfl|rfl|rfl|rfl|rfl|rfl|rfl|rfl<;>rfl
theorem U4{c:UInt8}{v:Int}(hc:kJ c=true):(bif((c.toNat:Int)==119)then some (decide (v>=0))else bif((c.toNat:Int)==103)then some (decide (v>=0))else some false:Option Bool)=some (ny c v):=by
 have h:c=119\/c=114\/c=110\/c=116\/c=99\/c=98\/c=102\/c=105\/c=103\/c=101\/c=45:=by simpa[kJ]using hc
 rcases h with rfl|rfl|rfl|rfl|rfl|rfl|rfl|rfl|rfl|rfl|rfl<;>rfl
end Go.Proofs.YtdogilonhnbapaaGreatDoor
namespace Go.Proofs.YtdogilonhnbapaaGreatDoor
open Go Go.bI Go.Sym
noncomputable def Ho(n:Int)(x:Instr):Bool:=(x.1==22&&decide (x.2.1>=n))||(x.1==23&&decide (x.2.2.1>=n))
noncomputable def J5(n:Int)(x:Instr):Bool:=!dL x||Ho n x
noncomputable def U5(x:Instr):Bool:=x.1==(34:Int)&&(x.2.1==(-1:Int)&&(x.2.2.1==(0:Int)&&(x.2.2.2==(0:Int)&&true)))
noncomputable def rA(l:List Instr):Instr:=l.getD (l.length-1) (0,0,0,0)
noncomputable def gZ(l:List Instr):Bool:=decide (1<=l.length)&&(decide (l.length<=200)&&(!(l.any (J5 (l.length:Int)))&&U5 (rA l)))
theorem J6{l:List Instr}(h:1<=l.length)(h2:l.length<=9223372036854775807):idx l (av ((l.length:Int)-1))=some (rA l):=by
 have e:av ((l.length:Int)-1)=((l.length-1:Nat):Int):=by rw[bp (by omega)];omega
 rw[e];refine aD ?_;simp only[rA,List.getD_eq_getElem?_getD]<;>grind
theorem Ol(x:Instr)(n:Int):(bif(x.1==(22:Int))then(bif(decide (x.2.1>=n))then some true else(bif(x.1==(23:Int))then some (decide (x.2.2.1>=n))else some false))else(bif(x.1==(23:Int))then some (decide (x.2.2.1>=n))else some false))=some (Ho n x):=by unfold Ho<;>grind
theorem MG{N:Nat}{l:List Instr}(hN:210<N)(hl:l.length<=9223372036854775807):F98 N l=some (bif gZ l then 0 else 8):=by
 rw[F98.eq_1];unfold gZ;by_cases h1:1<=l.length
 .rw[show((l.length:Int)==0)=false by simp;intro h;simp[h]at h1,ak,decide_eq_true h1];by_cases h2:l.length<=200;.rw[show decide ((l.length:Int)>200)=false by simp;omega,ak,decide_eq_true h2,Bool.true_and,J6 h1 hl];show(bif !(U5 (rA l))then _ else _)=_;cases U5 (rA l)with|false=>simp|true=>have key:=JN (l:=l) (a:=(.inr ():Int⊕Unit)) (b:=.inl 8) (p:=J5 (l.length:Int)) (Lf:=λk i=>f98.ct N k ((l.length:Int),l,(l.length:Int),i)) (λk=>by simp only[f98.ct.eq_2,aL,ak]) (λk i x hx hi=>by simp only[f98.ct.eq_2,aI (aA hi),au,aD hi,Option.bind_some,tP,Ol,aj (show i<9223372036854775807by have:=aA hi;omega)];cases h1:dL x<;>cases h2:Ho (l.length:Int) x<;>simp[J5,h1,h2]) N (by omega);grind
  grind
 grind
structure VC(l:List Instr):Prop where
 pos:1<=l.length
 le:l.length<=200aE:∀(i:Nat)x,l[i]?=some x->dL x=true
 jmp:∀(i:Nat)x,l[i]?=some x->x.1=22->0<=x.2.1/\x.2.1<l.length
 br:∀(i:Nat)x,l[i]?=some x->x.1=23->0<=x.2.2.1/\x.2.2.1<l.length
 last:∀x,l[l.length-1]?=some x->x.1=34
theorem ajw{x:Instr}(h:dL x=true)(hx:x.1=22):0<=x.2.1:=by have e:wH 22=some (105,45,45):=rfl;simp[dL,hx,e,fits,Bool.and_eq_true,decide_eq_true_eq]at h;exact h.1.1
theorem ajx{x:Instr}(h:dL x=true)(hx:x.1=23):0<=x.2.2.1:=by have e:wH 23=some (114,105,45):=rfl;simp[dL,hx,e,fits,Bool.and_eq_true,decide_eq_true_eq]at h;exact h.2.1.1
theorem wP{l:List Instr}(h:gZ l=true):VC l:=by
 simp only[gZ,Bool.and_eq_true,decide_eq_true_eq,Bool.not_eq_true',List.any_eq_false]at h;obtain⟨h1,h2,h3,h4⟩:=h;have hb:∀(i:Nat)x,l[i]?=some x->dL x=true/\Ho (l.length:Int) x=false:=λi x hi=>by have:=h3 x (List.mem_of_getElem? hi);simp only[J5,Bool.or_eq_true,Bool.not_eq_true',not_or,Bool.not_eq_false,Bool.not_eq_true]at this;exact this
 refine⟨h1,h2,λi x hi=>(hb i x hi).1,λi x hi hx=>⟨ajw (hb i x hi).1 hx,?_⟩,λi x hi hx=>⟨ajx (hb i x hi).1 hx,?_⟩,λx hi=>?_⟩;.have:=(hb i x hi).2;simp only[Ho,hx,Bool.or_eq_false_iff]at this<;>grind
 .have:=(hb i x hi).2;simp only[Ho,hx,Bool.or_eq_false_iff]at this<;>grind
 .have e:rA l=x:=by simp only[rA,List.getD_eq_getElem?_getD,hi];rfl
  rw[e]at h4;simp only[U5,Bool.and_eq_true,beq_iff_eq]at h4<;>grind
noncomputable def cN(l:List Nat):List Int:=List.map (λn:Nat=>(n:Int)) l
noncomputable def nx(l:List Instr)(i:Nat):List Nat:=match l[i]?with|none=>[]|some x=>if x.1=34\/x.1=28\/x.1=30then[]else if x.1=22then[x.2.1.toNat]else if x.1=23then if x.2.2.1.toNat=i+1then[i+1]else[min (i+1) x.2.2.1.toNat,max (i+1) x.2.2.1.toNat]else[i+1]
theorem zK{l:List Instr}(h:VC l){i k:Nat}(hk:k∈nx l i):k<l.length:=by
 unfold nx at hk;split at hk;.cases hk
 .rename_i x hi;have hlt:=aA hi;have hs:x.1≠34->i+1<l.length:=λhx=>by
   by_cases h1:i=l.length-1;.subst h1;exact absurd (h.last x hi) hx
   .omega
  split at hk;.cases hk
  .subst_vars;split at hk;.rename_i h22;have:=h.jmp i x hi h22<;>grind
   .split at hk;.rename_i h23;have:=h.br i x hi h23<;>grind
    grind
theorem qL(l:List Instr)(i:Nat):(nx l i).length<=2:=by unfold nx<;>grind
theorem Y8(x:Instr):((x.1==(34:Int))||((x.1==(28:Int))||(x.1==(30:Int))))=decide (x.1=34\/x.1=28\/x.1=30):=by grind
theorem U6(a b:Nat):min (a:Int) (b:Int)=((min a b:Nat):Int):=by omega
theorem U7(a b:Nat):max (a:Int) (b:Int)=((max a b:Nat):Int):=by omega
theorem U8{l:List Instr}(h:VC l){i:Nat}(hi:i<l.length):(Option.bind (idx l (i:Int)) λx0=>(Option.bind ((bif(x0.1==(34:Int))then some true else(Option.bind ((bif(x0.1==(28:Int))then some true else some (x0.1==(30:Int)))) λb1=>some b1))) λb2=>(bif b2 then some []else(bif(x0.1==(22:Int))then some [x0.2.1]else(bif(x0.1==(23:Int))then(bif(x0.2.2.1==(av ((i:Int)+(1:Int))))then some [(av ((i:Int)+(1:Int)))]else some [(min (av ((i:Int)+(1:Int))) x0.2.2.1),(max (av ((i:Int)+(1:Int))) x0.2.2.1)])else some [(av ((i:Int)+(1:Int)))])))))=some (cN (nx l i)):=by
 have e1:=List.getElem?_eq_getElem hi;generalize l[i]=x at e1;have hle:=h.le;have e2:av ((i:Int)+1)=((i+1:Nat):Int):=aj (by omega);rw[aD e1];simp only[Option.bind_some,dK,e2,Y8,nx,e1];by_cases h1:x.1=34\/x.1=28\/x.1=30;.simp[h1,cN]
 .rw[decide_eq_false h1,ak,if_neg h1];by_cases h2:x.1=22;.have:=h.jmp i x e1 h2;simp[h2,beq_self_eq_true,au,if_true,cN,List.map_cons,List.map_nil,Int.toNat_of_nonneg this.1]
  .rw[show(x.1==(22:Int))=false by simpa using h2,if_neg h2];by_cases h3:x.1=23
   .have:=h.br i x e1 h3;have hq:x.2.2.1=((x.2.2.1.toNat:Nat):Int):=by omega
    simp only[h3,beq_self_eq_true,au,if_true];by_cases h4:x.2.2.1.toNat=i+1;.rw[hq,h4];simp[cN]
    .rw[if_neg h4,show(x.2.2.1==((i+1:Nat):Int))=false by simp;omega,ak];generalize x.2.2.1.toNat=b at hq;rw[hq,U6,U7];rfl
   .rw[show(x.1==(23:Int))=false by simpa using h3,if_neg h3];rfl
theorem ajy(a b:Int):jq (jo [a,b])=if b=a then[a]else[min a b,max a b]:=by simp only[jo,AJ]<;>grind[jo,jq]
theorem MH{N:Nat}{l:List Instr}(h:VC l){i:Nat}(hi:i<l.length):JD N (l,(i:Int))=some (cN (nx l i)):=by rw[<-U8 h hi,JD.eq_1];congr 1;funext x;congr 1;funext b;cases b with|true=>rfl|false=>
 have hlen:∀q:Int,decide ((jo [av ((i:Int)+1),q]).length<4611686018427387904)=true:=λq=>by simp only[jo,AJ];cases decide (av ((i:Int)+1)<=q)<;>rfl
 rw[hlen];simp[ajy];by_cases h4:x.2.2.1=av ((i:Int)+1);.simp_all[jo,av,aE]
 .rw[if_neg h4,show(x.2.2.1==av ((i:Int)+1))=false by simpa using h4];rfl
end Go.Proofs.YtdogilonhnbapaaGreatDoor
namespace Go.Proofs.YtdogilonhnbapaaGreatDoor
open Go Go.bI Go.Sym
open Classical
theorem wQ{σ β:Type}{Lf:Nat->σ->List Nat->Option β}{Inv:σ->List Nat->Prop}{μ:σ->Nat}{g:σ->β}(h0:∀k s,Inv s []->Lf (k+1) s []=some (g s))(hs:∀k s o i,Inv s (o++[i])->∃s' p,Inv s' (o++p)/\μ s'+p.length<=μ s/\Lf (k+1) s (o++[i])=Lf k s' (o++p)):∀k s o,Inv s o->μ s+o.length<k->∃s',Inv s' []/\Lf k s o=some (g s')
 |0,_,_,_,h=>by omega|k+1,s,o,hI,hk=>by
  rcases List.eq_nil_or_concat o with rfl|⟨o',i,ho⟩;.grind
  .simp at ho;subst ho;simp at hk;obtain⟨s',p,h1,h2,h3⟩:=hs k s o' i hI;obtain⟨s'',h4,h5⟩:=wQ h0 hs k s' (o'++p) h1 (by simp only[List.length_append];omega)<;>grind
theorem rounds{σ β:Type}{Lf:Nat->Bool->σ->Option β}{Inv Dz:σ->Prop}{μ:σ->Nat}{g:σ->β}(h0:∀k s,Inv s->Dz s->Lf (k+1) false s=some (g s))(hs:∀k s,Inv s->∃s' c,Inv s'/\(c=false->Dz s')/\(c=true->μ s'<μ s)/\Lf (k+1) true s=Lf k c s'):∀k s,Inv s->μ s+1<k->∃s',Inv s'/\Dz s'/\Lf k true s=some (g s')|0,_,_,h=>by omega|k+1,s,hI,hk=>by obtain⟨s',c,h1,h2,h3,h4⟩:=hs k s hI;cases c with|false=>obtain⟨k',rfl⟩:∃q,k=q+1:=⟨k-1,by omega⟩<;>grind|true=>obtain⟨s'',h5,h6,h7⟩:=rounds h0 hs k s' h1 (by have:=h3 rfl;omega)<;>grind
inductive Reach(l:List Instr):Nat->Prop where|zero:Reach l 0|step{i k:Nat}:Reach l i->k∈nx l i->Reach l k
theorem Reach.lt{l:List Instr}(h:VC l){i:Nat}(hi:Reach l i):i<l.length:=by cases hi with|zero=>exact h.pos|step _ hk=>exact zK h hk
abbrev T(b:List Bool)(k:Nat):Prop:=b[k]?=some true
theorem ef{b:List Bool}{i k:Nat}(hi:i<b.length):T (b.set i true) k↔k=i\/T b k:=by grind
noncomputable def cntF(b:List Bool):Nat:=b.countP λx=>!x
theorem tA{b:List Bool}{i:Nat}(h:b[i]?=some false):cntF (b.set i true)+1=cntF b:=by induction b generalizing i with|nil=>simp at h|cons x r ih=>cases i with|zero=>simp at h;subst h;simp[cntF]|succ i=>have:=ih h;simp[cntF,List.set_cons_succ,List.countP_cons]at this⊢;omega
theorem qM(b:List Bool):cntF b<=b.length:=List.countP_le_length
theorem ya{l:List Nat}{i:Nat}{x:Int}(h:(cN l)[i]?=some x):∃k,l[i]?=some k/\x=(k:Int):=by simp only[cN,List.getElem?_map,Option.map_eq_some_iff]at h<;>grind
theorem DA{b:List Bool}{i:Nat}(h:T b i):b.set i true=b:=Co h
theorem J7{b:List Bool}{i:Nat}(h:i<b.length):b[i]?=some true\/b[i]?=some false:=by simp_all
structure QF(l:List Instr)(s:List Bool):Prop where
 len:s.length=l.length
 zero:T s 0reach:∀i,T s i->Reach l i
structure InP(l:List Instr)(s:List Bool)(o:List Nat):Prop where
 base:QF l s
 wQ:∀k∈o,T s k
 shut:∀i,T s i->i∈o\/∀k∈nx l i,T s k
theorem T.lt{b:List Bool}{k:Nat}(h:T b k):k<b.length:=aA h
theorem tR(a b:List Nat):cN (a++b)=cN a++cN b:=by simp[cN]
theorem bF(a:List Nat):(cN a).length=a.length:=by simp[cN]
theorem DB{N:Nat}{l:List Instr}(hv:VC l)(hN:500<N){s:List Bool}{o:List Nat}{i:Nat}(h:InP l s (o++[i]))(ho:o.length<=1000000):∃s' p,InP l s' (o++p)/\cntF s'+p.length<=cntF s/\f61.fW N N (l,(i:Int),cN (nx l i),((cN (nx l i)).length:Int),0,s,cN o)=some (l,s',cN (o++p)):=by
 have hi:T s i:=h.wQ i (by simp);have Om:=h.base.reach i hi;obtain⟨⟨s',p⟩,hI,he⟩:=dY (l:=cN (nx l i)) (g:=λq:List Bool×List Nat=>(l,q.1,cN (o++q.2))) (Inv:=λj q=>QF l q.1/\(∀k∈o++q.2,T q.1 k)/\(∀k,T q.1 k->k∈o++q.2\/k=i\/∀k'∈nx l k,T q.1 k')/\(∀k∈(nx l i).take j,T q.1 k)/\cntF q.1+q.2.length<=cntF s/\T q.1 i) (Lf:=λk j q=>f61.fW N k (l,(i:Int),cN (nx l i),((cN (nx l i)).length:Int),j,q.1,cN (o++q.2))) (λk q _=>by simp only[f61.fW.eq_2,aL,ak]) (λk j x q hx⟨h1,h2,h3,h4,h5,h6⟩=>by
   obtain⟨m,hm,rfl⟩:=ya hx;have hml:=zK hv (aS hm);have rF:m<q.1.length:=by rw[h1.len];exact hml
   have hj:j<9223372036854775807:=by have:=aA hm;have:=qL l i;omega
   have e1:=List.getElem?_eq_getElem rF;simp only[f61.fW.eq_2,aI (aA hx),au,aD hx,Option.bind_some,bW rF,af,Int.toNat_natCast,aj hj];rcases J7 rF with hb|hb
   .refine⟨q,⟨h1,h2,h3,λk' hk'=>?_,h5,h6⟩,?_⟩
    .rw[take_succ hm,List.mem_append,List.mem_singleton]at hk';rcases hk' with hk'|rfl;.exact h4 k' hk'
     .exact hb
    .simp only[hb,Option.bind_some,Bool.not_true,ak,DA hb]
   .refine⟨(q.1.set m true,q.2++[m]),⟨⟨by simp[h1.len],(ef rF).2 (.inr h1.zero),λk' hk'=>?_⟩,λk' hk'=>?_,λk' hk'=>?_,λk' hk'=>?_,?_,(ef rF).2 (.inr h6)⟩,?_⟩
    .rcases(ef rF).1 hk' with rfl|hk';.exact .step Om (aS hm)
     .exact h1.reach k' hk'
    .rw[<-List.append_assoc,List.mem_append,List.mem_singleton]at hk';rcases hk' with hk'|rfl;.exact(ef rF).2 (.inr (h2 k' hk'))
     .exact(ef rF).2 (.inl rfl)
    .rcases(ef rF).1 hk' with rfl|hk';.exact .inl (by simp)
     .rcases h3 k' hk' with h|h|h;.exact .inl (by rw[<-List.append_assoc];exact List.mem_append_left _ h)
      .exact .inr (.inl h)
      .exact .inr (.inr λk'' anS=>(ef rF).2 (.inr (h k'' anS)))
    .rw[take_succ hm,List.mem_append,List.mem_singleton]at hk';rcases hk' with hk'|rfl;.exact(ef rF).2 (.inr (h4 k' hk'))
     .exact(ef rF).2 (.inl rfl)
    .have:=tA hb;simp only[List.length_append,List.length_cons,List.length_nil];omega
    .have hlen:q.2.length<=s.length:=by have:=qM s;omega
     rw[h.base.len]at hlen;have:=hv.le;have hr:room ((cN (o++q.2)).length+1) 8=true:=ah (by rw[bF,List.length_append];omega) (by omega);simp only[hb,Option.bind_some,Bool.not_false,au,hr,af];rw[<-List.append_assoc,tR (o++q.2) [m]];rfl) (k:=N) (s:=(s,[])) ⟨h.base,λk hk=>h.wQ k (by simp at hk;simp[hk]),λk hk=>by
      rcases h.shut k hk with h'|h'
      .simp at h';rcases h' with h'|h';.exact .inl (by simpa using h')
       .exact .inr (.inl h')
      .exact .inr (.inr h'),λk hk=>by simp at hk,by simp,hi⟩ (by rw[bF];have:=qL l i;omega);obtain⟨h1,h2,h3,h4,h5,h6⟩:=hI;refine⟨s',p,⟨h1,h2,λk hk=>?_⟩,h5,by simpa using he⟩;rcases h3 k hk with h|rfl|h;.grind
 .right;intro k' hk';have:(nx l k).take (cN (nx l k)).length=nx l k:=by rw[bF]<;>grind
  grind
 grind
noncomputable def dD(l:List Instr):List Bool:=(List.range l.length).map λk=>decide (Reach l k)
theorem iZ{l:List Instr}{k:Nat}(h:k<l.length):(dD l)[k]?=some (decide (Reach l k)):=by simp[dD,h]
theorem lN(l:List Instr):(dD l).length=l.length:=by simp[dD]
theorem U9{l:List Instr}(hv:VC l){k:Nat}:T (dD l) k↔Reach l k:=by
 unfold T;by_cases h:k<l.length;.rw[iZ h];simp
 .rw[List.getElem?_eq_none (by rw[lN];omega)];constructor;.grind
  .intro h';exact absurd (h'.lt hv) h
theorem QG{l:List Instr}{s:List Bool}(hl:s.length=l.length)(h:∀k,T s k↔Reach l k):s=dD l:=by
 apply List.ext_getElem?;intro k;by_cases hk:k<l.length;.rw[iZ hk];rcases J7 (b:=s) (i:=k) (by omega)with h1|h1<;>grind
 .rw[List.getElem?_eq_none (by omega),List.getElem?_eq_none (by rw[lN];omega)]
theorem QF.all{l:List Instr}{s:List Bool}(h:QF l s)(hs:∀i,T s i->∀k∈nx l i,T s k):s=dD l:=QG h.len λk=>⟨h.reach k,λhr=>by induction hr with|zero=>exact h.zero|step _ hk ih=>grind⟩
theorem yb(n:Nat):((List.replicate n false).set 0 true).length=n:=by simp
theorem jG{n:Nat}(h:1<=n)(k:Nat):T ((List.replicate n false).set 0 true) k↔k=0:=by grind
theorem yc{l:List Instr}(hv:VC l):QF l ((List.replicate l.length false).set 0 true):=⟨by simp,(jG hv.pos 0).2 rfl,λi hi=>by rw[(jG hv.pos i).1 hi];exact .zero⟩
theorem tS{n:Nat}(h1:1<=n)(h2:n<=10000000):av ((n:Int)-1)=((n-1:Nat):Int):=by rw[bp (by omega)];omega
theorem qN{α:Type}{n:Nat}(h:1<=n)(x:α):(List.replicate n x)[0]?=some x:=by grind
theorem Hp{N:Nat}{l:List Instr}(hv:VC l)(hN:500<N):f61.iV N N (l,(List.replicate l.length false).set 0 true,[(0:Int)])=some (dD l):=by
 have hle:=hv.le;obtain⟨s,hI,he⟩:=wQ (Inv:=λs o=>InP l s o/\cntF s+o.length<=300) (μ:=cntF) (g:=λs=>s) (Lf:=λk s o=>f61.iV N k (l,s,cN o)) (λk s _=>by rw[show cN []=[]from rfl,f61.iV.eq_2];rfl) (λk s o i⟨h,hm⟩=>by
   rw[List.length_append,List.length_singleton]at hm;have hi:T s i:=h.wQ i (by simp);have yw:i<l.length:=by rw[<-h.base.len];exact hi.lt
   obtain⟨s',p,h1,h2,h3⟩:=DB hv hN h (by omega);refine⟨s',p,⟨h1,by rw[List.length_append];omega⟩,h2,?_⟩;have hlen:(cN (o++[i])).length=o.length+1:=by simp[cN]
   have e1:av (((o.length+1:Nat):Int)-1)=(o.length:Int):=by rw[bp (by omega)];omega
   have e2:(cN (o++[i]))[o.length]?=some (i:Int):=by simp[cN]
   have e3:(cN (o++[i])).take o.length=cN o:=by simp[cN]
   simp only[f61.iV.eq_2,hlen,e1,decide_eq_true (show((o.length+1:Nat):Int)>0 by omega),au,bW (show o.length<o.length+1by omega),af,Int.toNat_natCast,e2,Option.bind_some,show decide ((0:Int)<=(o.length:Int))=true by simp,show decide (o.length<=o.length+1)=true by simp,MH hv yw,e3,h3]) N ((List.replicate l.length false).set 0 true) [0] ⟨⟨yc hv,λk hk=>by simp at hk;subst hk;exact(jG hv.pos 0).2 rfl,λi hi=>.inl (by rw[(jG hv.pos i).1 hi];simp)⟩,by have:=qM ((List.replicate l.length false).set 0 true);rw[yb]at this;simp only[List.length_singleton];omega⟩ (by have:=qM ((List.replicate l.length false).set 0 true);rw[yb]at this;simp only[List.length_singleton];omega);rw[show[(0:Int)]=cN [0]from rfl,he];congr 1;exact hI.1.base.all λi hi k hk=>by
  rcases hI.1.shut i hi with h|h;.simp at h
  .exact h k hk
theorem afp{N:Nat}{l:List Instr}(hN:500<N)(hl:l.length<=9223372036854775807):F61 N l=some (if gZ l then((dD l).set (l.length-1) true,0)else([],8)):=by rw[F61.eq_1,MG (by omega) hl];cases h:gZ l with|false=>rfl|true=>have hv:=wP h;have h1:=hv.pos;have h2:=hv.le;simp only[au,show((0:Int)!=0)=false from rfl,ak,if_true,Int.toNat_natCast,show decide ((0:Int)<=(l.length:Int))=true by simp,af,Nat.le_refl,decide_true,Bool.true_and,ah (show l.length<=10000000by omega) (show 1<=1000by omega),List.length_replicate,show fP 0 l.length=true from bW (i:=0) h1,show Int.toNat 0=0from rfl,qN h1,Option.bind_some,Hp hv hN,lN,tS h1 (by omega),bW (show l.length-1<l.length by omega),iZ (show l.length-1<l.length by omega)]
end Go.Proofs.YtdogilonhnbapaaGreatDoor
