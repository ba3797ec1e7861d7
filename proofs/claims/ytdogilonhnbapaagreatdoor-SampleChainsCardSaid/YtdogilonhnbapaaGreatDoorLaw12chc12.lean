/- A part of the proof: Law12chc10, Law12chc11, Law12chc12. -/
import Derived.Test.YtdogilonhnbapaaGreatDoorLaw12chc9
set_option linter.unusedVariables false
set_option linter.unusedSimpArgs false
namespace Go.Proofs.YtdogilonhnbapaaGreatDoor
open Go Go.bI Go.Sym
open Classical
inductive VS:Instr->Prop where|rcv:VS Ks|int{x:Int}:kO x->VS (1,0,x,0)|defer{t:Nat}:t<20->VS (26,(t:Int),0,0)
noncomputable def Q8(y:Instr):Prop:=VS y\/y=DE\/y=tZ
theorem Ft:∀t:Nat,t<20->dL (26,(t:Int),0,0)=true/\Rk (26,(t:Int),0,0)<8:=by decide+kernel
theorem Zv{x:Int}(h:kO x):fits 110 x=true:=by unfold fits;rw[show(U 110).1=-9223372036854775808from rfl,show(U 110).2.1=9223372036854775807from rfl,decide_eq_true h.1,decide_eq_true h.2];rfl
theorem Zw{x:Int}(h:kO x):dL (1,0,x,0)=true:=by show(fits 119 0&&(fits 110 x&&fits 45 0))=true;rw[Zv h];rfl
theorem VS.aE{y:Instr}(h:VS y):dL y=true:=by cases h with|rcv=>decide+kernel|int h=>exact Zw h|defer h=>exact(Ft _ h).1
theorem VS.op{y:Instr}(h:VS y):(y.1≠34/\y.1≠28/\y.1≠30/\y.1≠22/\y.1≠23)/\y.1≠24:=by cases h<;>(simp only[Ks];decide)
theorem Q8.aE{y:Instr}(h:Q8 y):dL y=true:=by
 rcases h with h|rfl|rfl;.exact h.aE
 .decide+kernel
 .decide+kernel
theorem Q8.op{y:Instr}(h:Q8 y):y.1≠22/\y.1≠23/\y.1≠24:=by
 rcases h with h|rfl|rfl;.exact⟨h.op.1.2.2.2.1,h.op.1.2.2.2.2,h.op.2⟩
 .decide
 .decide
theorem Q8.us{y:Instr}(h:Q8 y):Rk y<8:=by
 rcases h with h|rfl|rfl;.cases h with|rcv=>decide+kernel|@int x hx=>exact(by decide:eC (eC 0 []) [0]<8)|defer h=>exact(Ft _ h).2
 .decide+kernel
 .decide+kernel
theorem Kw:∀t:Nat,t<20->aP jF (26,(t:Int),0,0)=[]/\aP ny (26,(t:Int),0,0)=[]:=by decide+kernel
theorem Q8.rd{y:Instr}(h:Q8 y):aP jF y=[]\/y=DE:=by
 rcases h with h|rfl|rfl;.left;cases h with|rcv=>decide+kernel|int hx=>rfl|defer h=>exact(Kw _ h).1
 .grind
 .decide+kernel
theorem Q8.ok{y:Instr}(h:Q8 y):Oa y:=by
 rcases h with h|rfl|rfl;.cases h with|rcv=>unfold Oa i64 Ks;decide|int hx=>unfold kO at hx;unfold Oa i64<;>grind|defer h=>unfold Oa i64<;>grind
 .unfold Oa i64 DE;decide
 .unfold Oa i64 tZ;decide
noncomputable def Q9(r:Bool)(d:Option Nat)(x:Int):List Instr:=(if r then[Ks]else[])++((match d with|some t=>[((26,(t:Int),0,0):Instr)]|none=>[])++[(1,0,x,0)])
theorem VD(r:Bool)(d:Option Nat)(x:Int):jW r d x=Q9 r d x++[DE,tZ]:=by unfold jW Q9<;>grind
structure xd(c pre:List Instr):Prop where
 eq:c=pre++[DE,tZ]pl:∀y,y∈pre->VS y
 len:1<=pre.length/\pre.length<=3last:∃x,pre[pre.length-1]?=some (1,0,x,0)
theorem Zx{r:Bool}{d:Option Nat}{x:Int}(hx:kO x)(hd:∀t,d=some t->t<20):xd (jW r d x) (Q9 r d x):=by
 refine⟨VD r d x,λy hy=>?_,?_,⟨x,?_⟩⟩
 .rcases List.mem_append.1 hy with hy|hy
  .split at hy;.rw[List.mem_singleton.1 hy];exact .rcv
   grind
  rcases List.mem_append.1 hy with hy|hy;.cases d with|some t=>rw[List.mem_singleton.1 hy];exact .defer (hd t rfl)|none=>cases hy
  .rw[List.mem_singleton.1 hy];exact .int hx
 .unfold Q9<;>grind
 .unfold Q9;cases r<;>cases d<;>rfl
section
variable{c pre:List Instr}
theorem xd.length(h:xd c pre):c.length=pre.length+2:=by rw[h.eq];simp
theorem xd.mem(h:xd c pre){y:Instr}(hy:y∈c):Q8 y:=by
 rw[h.eq]at hy;rcases List.mem_append.1 hy with hy|hy;.exact .inl (h.pl y hy)
 .simp at hy;exact .inr hy
theorem xd.low(h:xd c pre){k:Nat}(hk:k<pre.length):∃y,c[k]?=some y/\pre[k]?=some y/\VS y:=by refine⟨pre[k],?_,List.getElem?_eq_getElem hk,h.pl _ (List.getElem_mem hk)⟩;rw[h.eq,List.getElem?_append_left hk,List.getElem?_eq_getElem hk]
theorem xd.pan(h:xd c pre):c[pre.length]?=some DE:=by rw[h.eq];simp
theorem xd.ret(h:xd c pre):c[pre.length+1]?=some tZ:=by rw[h.eq];simp
theorem xd.VE(h:xd c pre){k:Nat}(hk:k<pre.length):nx c k=[k+1]:=by obtain⟨y,hy,_,hp⟩:=h.low hk;exact Vs hy hp.op.1
theorem xd.ajS(h:xd c pre){k:Nat}(hk:pre.length<=k):nx c k=[]:=by
 by_cases h1:k=pre.length;.rw[h1];exact Oz h.pan (.inr (.inl rfl))
 by_cases h2:k=pre.length+1;.rw[h2];exact Oz h.ret (.inl rfl)
 .unfold nx;rw[List.getElem?_eq_none (by rw[h.length];omega)]
theorem xd.reach(h:xd c pre):∀k,k<=pre.length->Reach c k|0,_=>.zero|k+1,hk=>.step (h.reach k (by omega)) (by rw[h.VE (by omega)];simp)
theorem xd.rA(h:xd c pre):Go.Proofs.YtdogilonhnbapaaGreatDoor.rA c=tZ:=by have:=h.ret;unfold Go.Proofs.YtdogilonhnbapaaGreatDoor.rA;rw[List.getD_eq_getElem?_getD,h.length,show pre.length+2-1=pre.length+1by omega,this];rfl
theorem xd.valid(h:xd c pre):gZ c=true:=by have hl:=h.length;have:=h.len;unfold gZ;rw[decide_eq_true (by omega),decide_eq_true (by omega),h.rA];simp only[Bool.true_and];refine Bool.and_eq_true_iff.2 ⟨?_,rfl⟩;rw[Bool.not_eq_true',List.any_eq_false];intro x hx;have ho:=h.mem hx;unfold J5;rw[ho.aE];simp[Ho,ho.op.1,ho.op.2.1]
theorem xd.dD(h:xd c pre):(Go.Proofs.YtdogilonhnbapaaGreatDoor.dD c).set (c.length-1) true=List.replicate c.length true:=by
 apply List.ext_getElem?;intro k;by_cases hk:k<c.length
 .rw[List.getElem?_set,List.getElem?_replicate,lN];split;.grind
  .rw[iZ hk,decide_eq_true (h.reach k (by have:=h.length;omega))]
 .rw[List.getElem?_eq_none (by simp[lN];omega),List.getElem?_eq_none (by simp;omega)]
theorem xd.sol(h:xd c pre):Vd c 0 λk=>if k=pre.length then 1 else 0:=by
 have hl:=h.len;refine⟨by simp only;rw[if_neg (by omega)];exact ja _,λi _ k hk=>?_⟩;by_cases hi:i<pre.length
 .rw[h.VE hi,List.mem_singleton]at hk;subst hk;by_cases he:i+1=pre.length;.obtain⟨x,hx⟩:=h.last;obtain⟨y,hy,hy2,_⟩:=h.low hi;rw[show pre.length-1=i by omega,hy2]at hx;rw[Option.some.inj hx]at hy;simp[if_pos he];rw[MM hy];rw[show QH (1,0,x,0)=1from(by decide:eC 0 [0]=1)];exact qO (if i=pre.length then 1 else 0) 1
  .simp[if_neg he];exactλj hj=>by simp at hj
 .rw[h.ajS (by omega)]at hk<;>grind
theorem xd.masks(h:xd c pre){N:Nat}(hN:14000000<N):∃ms:List Nat,TM N (c,0,3)=some (cN ms,0)/\ms.length=c.length/\∀k x,c[k]?=some x->O ms k<2^64/\∀s,s∈aP jF x->0<=s/\(O ms k).testBit s.toNat=true:=by
 have hl:=h.length;have hp:=h.len;have key:=MN (N:=N) hN (l:=c) (by omega) (λ_=>by omega) 0 3;have hf:CK c 0 3=0:=by
  have:kN c (3:Int).toNat=true:=by unfold kN;rw[Bool.not_eq_true',List.any_eq_false];intro x hx;have:=(h.mem hx).us<;>grind
  unfold CK<;>grind
 rw[if_pos h.valid,if_pos hf]at key;obtain⟨G,Zc,hG,he⟩:=key;refine⟨n5 c G,he,tT _ _,λk x hx=>?_⟩;have R7:=aA hx;rw[yd R7];have hb:=hG.J8 k;have hlt:G k<2^64:=by have:=Zc.lt hb;omega
 rcases(h.mem (aS hx)).rd with hr|rfl;.grind
 .have hk:k=pre.length:=by
   by_cases h1:k<pre.length;.obtain⟨y,hy,_,hpl⟩:=h.low h1;rw[hx]at hy;rw[<-Option.some.inj hy]at hpl;exact absurd rfl hpl.op.1.2.1
   .by_cases h2:k=pre.length+1;.rw[h2,h.ret]at hx;exact absurd (Option.some.inj hx) (by decide)
    .omega
  subst hk;rw[if_pos ⟨h.reach _ (Nat.le_refl _),by omega⟩];refine⟨hlt,λs hs=>?_⟩;rw[show aP jF DE=[0]by decide+kernel,List.mem_singleton]at hs;subst hs;have hm:=hG.most _ h.sol pre.length (h.reach _ (Nat.le_refl _));simp at hm;exact⟨by decide,hm 0 (by decide)⟩
end
end Go.Proofs.YtdogilonhnbapaaGreatDoor
namespace Go.Proofs.YtdogilonhnbapaaGreatDoor
open Go Go.bI Go.Sym
open Classical
structure CL(l:List Int)(rs:List Bool):Prop where
 pos:1<=l.length
 len:l.length<=20rs:rs.length+1=l.length
 i64:∀x,x∈l->kO x
section
variable{l:List Int}{rs:List Bool}
theorem tU(Q:RQ)(l:List Int)(rs:List Bool):(rH Q l rs).length=l.length:=by simp[rH]
theorem HG{Q:RQ}{i:Nat}(hi:i<l.length):(rH Q l rs)[i]?=some (Ku Q l rs i):=by unfold rH<;>grind
theorem HH{Q:RQ}{i:Nat}(hi:i<l.length):fQ (rH Q l rs) i=Ku Q l rs i:=by unfold fQ;rw[List.getD_eq_getElem?_getD,HG hi];rfl
theorem CL.ch(h:CL l rs){i:Nat}(hi:i<l.length):xd (Ad l rs i) (Q9 (M6 rs i) (fe l.length i) (l.getD i 0)):=by
 refine Zx ?_ λt ht=>?_;.rw[List.getD_eq_getElem?_getD,List.getElem?_eq_getElem hi];exact h.i64 _ (List.getElem_mem hi)
 .have:=h.len;unfold fe at ht<;>grind
theorem Kx{i t:Nat}(hy:((26,(t:Int),0,0):Instr)∈Ad l rs i):t<l.length:=by
 rcases List.mem_append.1 hy with hy|hy
 .split at hy;.simp at hy;exact absurd hy (by unfold Ks;intro e;cases e)
  grind
 rcases List.mem_append.1 hy with hy|hy;.unfold fe at hy<;>grind
 .simp at hy;rcases hy with hy|hy|hy<;>cases hy
noncomputable def QOH(Q:RQ)(l:List Int)(rs:List Bool):Prop:=∀i,i<l.length->((Q i).1.length<=200/\(Q i).2.length<=200)/\(zF (Q i).1/\zF (Q i).2)/\cQ (Q i).1 ((Ad l rs i).length:Int)/\cQ (Q i).2 ((Ad l rs i).length:Int)
theorem CL.q0(h:CL l rs):QOH Q0 l rs:=λi hi=>by have:=(h.ch hi).length;exact⟨by simp[Q0],⟨ajQ,ajQ⟩,Kp (by omega),Kp (by omega)⟩
theorem ajT{Q:RQ}(h:CL l rs)(hQ:QOH Q l rs):rz jN [] (rH Q l rs):=by
 have hl:=tU Q l rs;have hlen:=h.len;have hf:∀f,f∈rH Q l rs->um f/\i64 f.2.2.1:=λf hf=>by obtain⟨i,hi,rfl⟩:=List.mem_map.1 hf;have hi:=List.mem_range.1 hi;have hc:=h.ch hi;have:=hc.length;have:=hc.len;obtain⟨⟨q1,q2⟩,⟨q3,q4⟩,_⟩:=hQ i hi;exact⟨⟨by show M5.length<=300;decide,by show(Ad l rs i).length<=1000;omega,by show(Q i).1.length<=1000;omega,by show(Q i).2.length<=1000;omega,λx hx=>(hc.mem hx).ok,q3,q4⟩,by show i64 (-1);unfold Go.Proofs.YtdogilonhnbapaaGreatDoor.i64;decide⟩
 exact⟨⟨⟨by decide,by unfold Go.Proofs.YtdogilonhnbapaaGreatDoor.i64 dP;decide+kernel⟩,by decide,(λs hs=>by cases hs),by omega,λf hx=>(hf f hx).1⟩,λf hx=>(hf f hx).2⟩
theorem ajU:fD jN [] (rH Q0 [0] []):=by
 have h:=Oi (N:=1400) (by omega) (ajT (l:=[0]) (rs:=[]) (Q:=Q0) ⟨by simp,by simp,by simp,λx hx=>by rw[List.mem_singleton.1 hx];unfold kO;decide⟩ (CL.q0 ⟨by simp,by simp,by simp,λx hx=>by rw[List.mem_singleton.1 hx];unfold kO;decide⟩)).1;have k:F93 1400 (jN,[],rH Q0 [0] [])=some true:=by kernel_rfl
 grind
theorem OB:((List.range 20).all λi=>kK (qb i)&&(qb i).length<=5&&(List.range i).all λj=>qb j !=qb i)=true:=by decide+kernel
theorem abK{Q:RQ}(h:CL l rs)(hQ:QOH Q l rs):fD jN [] (rH Q l rs):=by obtain⟨h1,_,_,h4,_,h6⟩:=ajU;have hlen:=h.len;have hpos:=h.pos;refine⟨h1,by simp,by rw[tU];omega,h4,(λs hs=>by cases hs),λi hi=>?_⟩;rw[tU]at hi;have h7:=h6 0 (by decide);unfold CD at h7⊢;rw[Bool.and_eq_true,decide_eq_true_eq]at h7⊢;rw[HH hi];obtain⟨_,g2,g3,g4,g5,g6,_⟩:=h7.1;have hn:=List.all_eq_true.1 OB i (List.mem_range.2 (by omega));simp only[Bool.and_eq_true]at hn;obtain⟨_,_,q5,q6⟩:=hQ i hi;have hc:=h.ch hi;have:=hc.length;have:=hc.len;refine⟨⟨hn.1.1,g2,g3,g4,g5,g6,⟨by show 1<=(Ad l rs i).length;omega,by show(Ad l rs i).length<=200;omega⟩,λx hx=>(hc.mem hx).aE,q5,q6⟩,?_⟩;rw[Bool.not_eq_true',decide_eq_false_iff_not];rintro⟨j,hj,e⟩;rw[HH hi,HH (show j<l.length by omega)]at e;have:=List.all_eq_true.1 hn.2 j (List.mem_range.2 hj);simp at this;exact this e
theorem zR:(kM M5).length<=60/\(V jN.length++(jN.flatMap oL++(V 0++[]))).length<=60:=by decide+kernel
theorem an7{Q:RQ}(h:CL l rs)(hQ:QOH Q l rs):(u5 jN [] (rH Q l rs)).length<=20000:=by
 have hlen:=h.len;have h5:((rH Q l rs).flatMap oM).length<=(rH Q l rs).length*700:=fY λf hf=>by
  obtain⟨i,hi,rfl⟩:=List.mem_map.1 hf;have hi:=List.mem_range.1 hi;have hc:=h.ch hi;have hcl:=hc.length;have:=hc.len;obtain⟨_,_,q5,q6⟩:=hQ i hi;have r1:=mA q5;have r2:=mA q6;have r3:=jU (Q i).1;have r4:=jU (Q i).2;have h1:=Oy (Ad l rs i);have h2:=cy (Ad l rs i).length;have h3:=cy (qb i).length;have h4:=cy (0:Int).toNat;have h6:=cy (E0 (-1));have hn:=List.all_eq_true.1 OB i (List.mem_range.2 (by omega));simp only[Bool.and_eq_true,decide_eq_true_eq]at hn;have h7:=zR.1;have hb:(bM (qb i)).length=(qb i).length:=by simp[bM]
  show(said (qb i)++(V (0:Int).toNat++(V (E0 (-1))++(kM M5++(V (Ad l rs i).length++((Ad l rs i).flatMap encI++(oI (Q i).1++oI (Q i).2))))))).length<=700;unfold said;simp only[List.length_append];omega
 have h8:=zR.2;have h9:=cy (rH Q l rs).length;have hfl:=tU Q l rs;show(V jN.length++(jN.flatMap oL++(V 0++([]++(V (rH Q l rs).length++(rH Q l rs).flatMap oM))))).length<=20000;grind
end
theorem Zy{ts:List aB}{xs:List (List UInt8)}{fs:List Func}{f:Func}{g:Int}(hval:gZ f.2.2.2.2.1=true)(hmain:¬(g=0/\(0<f.2.1\/0<=f.2.2.1)))(OC:∀x,x∈f.2.2.2.2.1->jV xs.length (eo fs) f.2.2.2.1 x)(afO:∀i,i<f.2.2.2.2.1.length->ve f.2.2.2.2.1 i)(an8:∀x,x∈f.2.2.2.2.1->Hx ts (eo fs) f.2.2.2.1 f.2.2.1 x=true)(hsc:rG f.2.2.2.2.1 (dM ts fs f))(Ii:∀(i:Nat)x,f.2.2.2.2.1[i]?=some x->∀s,s∈aP jF x->(O (cu f) i).testBit s.toNat=true):(eS ts xs fs f g).2.2.2=0:=by unfold eS;rw[if_pos hval,if_neg hmain,yj (λj x hx=>by rw[Nat.zero_add];have hm:=aS hx;unfold p8;rw[if_pos (OC x hm),if_pos (afO j (aA hx)),if_pos (an8 x hm)]),Option.elim_none,if_pos hsc,yj (λj x hx=>by rw[Nat.zero_add];unfold o6;rw[if_pos (Ii j x hx)])];rfl
section
variable{l:List Int}{rs:List Bool}
theorem CL.QW(h:CL l rs):fF jN [] (rH Q0 l rs):=⟨ajT h h.q0,abK h h.q0⟩
theorem CL.aE(h:CL l rs):nW jN [] (rH Q0 l rs)=0:=by unfold nW;rw[if_pos (abK h h.q0),if_pos (an7 h h.q0)]
theorem Fu{Q:RQ}{i t:Nat}(hy:((26,(t:Int),0,0):Instr)∈Ad l rs i):t<l.length/\Ht (eo (rH Q l rs)) (t:Int)=(0,-1,M5,Ad l rs t):=by have ht:=Kx hy;refine⟨ht,?_⟩;rw[Ot (by omega) (by rw[Int.toNat_natCast];exact HG ht)];rfl
theorem Fv{y:Instr}(h:Q8 y):called y=-1\/∃t:Nat,y=(26,(t:Int),0,0):=by
 rcases h with h|rfl|rfl;.cases h with|rcv=>decide|int hx=>left;rfl|@defer t ht=>grind
 .decide
 .decide
theorem VF{y:Instr}(h:Q8 y):∀s,s∈aP jF y++aP ny y->s<3:=by
 have key:aP jF y++aP ny y=[]\/aP jF y++aP ny y=[0]\/aP jF y++aP ny y=[1,2]:=by
  rcases h with h|rfl|rfl;.cases h with|rcv=>decide+kernel|int hx=>right;left;rfl|@defer t ht=>left;rfl
  .right;decide+kernel
  .decide+kernel
 grind
theorem CL.near(h:CL l rs)(Q:RQ){i:Nat}(hi:i<l.length){y:Instr}(hy:y∈Ad l rs i):jV 0 (eo (rH Q l rs)) M5 y:=by
 have ho:=(h.ch hi).mem hy;refine⟨VF ho,?_,λh2=>?_⟩
 .rw[ng,tU];rcases Fv ho with e|⟨t,rfl⟩;.grind
  .have:=Kx hy;show(t:Int)<_;omega
 .rcases ho with ho|rfl|rfl;.cases ho<;>(simp only[Ks]at h2;exact absurd h2 (by decide))
  .exact absurd h2 (by decide)
  .exact absurd h2 (by decide)
theorem CL.typ(h:CL l rs)(Q:RQ){i:Nat}(hi:i<l.length){y:Instr}(hy:y∈Ad l rs i):Hx jN (eo (rH Q l rs)) M5 (-1) y=true:=by
 have ho:=(h.ch hi).mem hy;rcases ho with ho|rfl|rfl;.cases ho with|rcv=>rfl|int hx=>rfl|@defer t ht=>obtain⟨_,e⟩:=Fu (Q:=Q) hy;show decide (yf jN (Ht (eo (rH Q l rs)) (t:Int)))=true;rw[e];exact bJ ⟨(show(-1:Int)<0 by decide),.inl rfl⟩
 .rfl
 .rfl
theorem CL.Hu(h:CL l rs)(Q:RQ){i:Nat}(hi:i<l.length){y:Instr}(hy:y∈Ad l rs i):Hu jN (eo (rH Q l rs)) M5 y []=some []:=by
 have ho:=(h.ch hi).mem hy;have ht:takes (eo (rH Q l rs)) y=[]:=by
  rcases Fv ho with e|⟨t,rfl⟩;.exact qR (by omega)
  .obtain⟨_,e⟩:=Fu (Q:=Q) hy;unfold takes;rw[show called (26,(t:Int),0,0)=(t:Int)from rfl,e,if_pos (by omega)];rfl
 unfold Go.Proofs.YtdogilonhnbapaaGreatDoor.Hu rest;rw[if_neg ho.op.2.2,ht,if_pos ⟨by simp,by simp⟩];rfl
theorem CL.sc(h:CL l rs)(Q:RQ){i:Nat}(hi:i<l.length):rG (Ad l rs i) (dM jN (rH Q l rs) (Ku Q l rs i)):=by
 have key:∀{k s},PS (Ad l rs i) (dM jN (rH Q l rs) (Ku Q l rs i)) k s->s=[]:=λhp=>by induction hp with|zero=>rfl|step _ hx ha _ ih=>subst ih;have:=h.Hu Q hi (aS hx);rw[show dM jN (rH Q l rs) (Ku Q l rs i)=Go.Proofs.YtdogilonhnbapaaGreatDoor.Hu jN (eo (rH Q l rs)) M5 from rfl,this]at ha;exact(Option.some.inj ha).symm
 refine⟨λk s x hp hx=>?_,λk s s' h1 h2=>by rw[key h1,key h2],λs hp=>key hp⟩;rw[key hp];exact⟨[],h.Hu Q hi (aS hx)⟩
theorem CL.good(h:CL l rs){i:Nat}(hi:i<l.length):(eS jN [] (rH Q0 l rs) (fQ (rH Q0 l rs) i) (i:Int)).2.2.2=0:=by
 have hc:=h.ch hi;have hcl:=hc.length;have hv:=h.QW;have hf:(rH Q0 l rs)[i]?=some (Ku Q0 l rs i):=HG hi;have OC:∀x,x∈Ad l rs i->jV ([]:List (List UInt8)).length (eo (rH Q0 l rs)) M5 x:=λx hx=>h.near Q0 hi hx;rw[DD hf];refine Zy hc.valid (λh=>by have h2:(0:Int)<0\/(0:Int)<=-1:=h.2;omega) OC (λk hk=>?_) (λx hx=>h.typ Q0 hi hx) (h.sc Q0 hi) λk x hx s hs=>?_
 .have hk:k<(Ad l rs i).length:=hk;by_cases h1:k=(Ad l rs i).length-1;.exact .inr h1
  .exact .inl (hc.reach k (by omega))
 .have hfn:Fn jN [] (rH Q0 l rs) (Ku Q0 l rs i):=⟨hv,hv.get hf,hc.valid,OC⟩;obtain⟨ms,h1,_,h3⟩:=hc.masks (N:=14000001) (by omega);have h2:TM 14000001 (Ad l rs i,0,3)=some (cN (cu (Ku Q0 l rs i)),0):=(CY (N:=14000001) (by omega) hfn).1;rw[h1]at h2;have h4:cN ms=cN (cu (Ku Q0 l rs i)):=(Prod.mk.inj (Option.some.inj h2)).1;have h5:ms=cu (Ku Q0 l rs i):=(List.map_inj_right (λa b e=>by omega)).1 h4;rw[<-h5];exact((h3 k x hx).2 s hs).2
end
end Go.Proofs.YtdogilonhnbapaaGreatDoor
namespace Go.Proofs.YtdogilonhnbapaaGreatDoor
open Go Go.bI Go.Sym
open Classical
theorem Ky(n:Nat):∀i,i<=n->zP (List.replicate n 0) i=if i=0then[]else[(0,0)]
 |0,_=>rfl|i+1,h=>by
  have g:∀j,(List.replicate n (0:Int)).getD j 0=0:=λj=>by rw[List.getD_eq_getElem?_getD,List.getElem?_replicate];split<;>rfl
  rw[zP,g,g,Ky n i (by omega),if_neg (show¬i+1=0 by omega)]<;>grind
theorem VG{n:Nat}(h:1<=n):CV (List.replicate n 0)=[(0,0)]:=by unfold CV;rw[Ky n _ (by simp),List.length_replicate,if_neg (by omega)]
theorem VH(N:Nat)(nm:List UInt8)(c:List Instr):f23.bg (N+60) (N+60) ([110,111,107],[0,1,0],c,0,[],0,0,nm,0,-1,[],c)=some (c,[],0,0,nm,0,-1,M5,c):=by kernel_rfl
theorem afP{N:Nat}(nm:List UInt8){c:List Instr}(h1:1<=c.length)(h2:c.length<=200)(hN:500<N):Rj (N+60) (nm,[110,111,107],[0,1,0],0,-1,c)=some (nm,0,-1,M5,c,[(0,0)],[(0,0)]):=by have hm:=Vn (N:=N+60) (v:=List.replicate c.length 0) (by omega) (by simp;omega);rw[VG h1]at hm;rw[Rj.eq_1,VH];simp[Option.bind_some,Int.toNat_natCast,show decide ((0:Int)<=(c.length:Int))=true by simp,af,Nat.le_refl,decide_true,Bool.true_and,ah (show c.length<=10000000by omega) (show 8<=1000by omega),hm]
theorem Zz(N:Nat):((List.range 30).map λi:Nat=>F20 N (i:Int))=(List.range 30).map λi:Nat=>some (ES i):=by kernel_rfl
theorem HI{N i:Nat}(h:i<30):F20 N (i:Int)=some (ES i):=by have:=Zz N<;>simp_all
theorem Fw(N:Nat)(a b c d:Int):Du N (a,b,c,d)=some (a,b,c,d):=by kernel_rfl
theorem yo(N:Nat):VN N ()=some tZ:=by kernel_rfl
theorem Ra{N k i:Nat}{l:List Int}{rs:List Bool}{x:Int}{ts:List aB}{b:List Func}(hN:500<N)(hl:l.length<=20)(hr:rs.length+1=l.length)(hx:l[i]?=some x)(hb:b.length<=100):f11.bg (N+60) (k+1) (l,rs,(i:Int),ts,b)=f11.bg (N+60) k (l,rs,((i+1:Nat):Int),ts,b++[Ku Q0 l rs i]):=by
 have hi:=aA hx;have hw:av ((i:Int)+1)=((i+1:Nat):Int):=aj (by omega);have hroom:room (b.length+1) 128=true:=ah (by omega) (by omega);have nI:l.getD i 0=x:=by grind
 have hlen:∀r,1<=(jW r (fe l.length i) x).length/\(jW r (fe l.length i) x).length<=200:=λr=>by unfold jW;cases r<;>cases fe l.length i<;>simp
 have hf:∀(r:Bool)(nm:List UInt8),Rj (N+60) (nm,[110,111,107],[0,1,0],0,-1,jW r (fe l.length i) x)=some (nm,0,-1,M5,jW r (fe l.length i) x,[(0,0)],[(0,0)]):=λr nm=>afP nm (hlen r).1 (hlen r).2 hN;have n6:∀n:Nat,n<=10->room n 32=true:=λn hn=>ah (by omega) (by omega);unfold Ku Ad;rw[nI];by_cases h0:i=0
 .subst h0;have e0:M6 rs 0=false:=rfl;by_cases hn:0+1<l.length
  .have hne:fe l.length 0=some 1:=by unfold fe<;>grind
   have hf':=hf false Ko;rw[hne]at hf'⊢;simp only[f11.bg.eq_2,aI hi,au,bE (show¬((0:Nat):Int)>0 by omega),ak,hw,bJ (show((0+1:Nat):Int)<(l.length:Int)by omega),Fw,yo,Option.bind_some,aD hx,n6 1 (by omega),n6 (1+3) (by omega),af];rw[show([((26,((0+1:Nat):Int),0,0):Instr)]++[(1,0,x,0),(28,0,0,0),tZ])=jW false (some 1) x from rfl,show([109,97,105,110]:List UInt8)=Ko from rfl,hf',Option.bind_some,hroom];rfl
  .have hne:fe l.length 0=none:=by unfold fe<;>grind
   have hf':=hf false Ko;rw[hne]at hf'⊢;simp only[f11.bg.eq_2,aI hi,au,bE (show¬((0:Nat):Int)>0 by omega),ak,hw,bE (show¬((0+1:Nat):Int)<(l.length:Int)by omega),Fw,yo,Option.bind_some,aD hx,n6 3 (by omega),af];rw[show([(1,0,x,0),(28,0,0,0),tZ]:List Instr)=jW false none x from rfl,show([109,97,105,110]:List UInt8)=Ko from rfl,hf',Option.bind_some,hroom];rfl
 .obtain⟨r,hrr⟩:∃r,rs[i-1]?=some r:=⟨_,List.getElem?_eq_getElem (by omega)⟩;have hw1:av ((i:Int)-1)=((i-1:Nat):Int):=by rw[bp (by omega)];omega
  have afN:M6 rs i=r:=by unfold M6<;>grind
  have hnm:qb i=[102]++ES i:=by unfold qb<;>grind
  have hd:=(vh (N:=N) (k:=i) (by omega)).2.2;rw[afN,hnm];cases r with|true=>
   by_cases hn:i+1<l.length
   .have hne:fe l.length i=some (i+1):=by unfold fe<;>grind
    have hf':=hf true ([102]++ES i);rw[hne]at hf'⊢;simp only[f11.bg.eq_2,aI hi,au,bJ (show(i:Int)>0 by omega),HI (N:=N+60) (show i<30by omega),Option.bind_some,af,hw1,aD hrr,hw,bJ (show((i+1:Nat):Int)<(l.length:Int)by omega),Fw,yo,aD hx,n6 1 (by omega),n6 (1+1) (by omega),n6 (2+3) (by omega)];rw[show(([((29,1,2,0):Instr)]++[(26,((i+1:Nat):Int),0,0)])++[(1,0,x,0),(28,0,0,0),tZ])=jW true (some (i+1)) x from rfl,hf',Option.bind_some,hroom,af,kZ (n:=([102].length+(ES i).length)) (by simp only[List.length_cons,List.length_nil];omega)];rfl
   .have hne:fe l.length i=none:=by unfold fe<;>grind
    have hf':=hf true ([102]++ES i);rw[hne]at hf'⊢;simp only[f11.bg.eq_2,aI hi,au,ak,bJ (show(i:Int)>0 by omega),HI (N:=N+60) (show i<30by omega),Option.bind_some,af,hw1,aD hrr,hw,bE (show¬((i+1:Nat):Int)<(l.length:Int)by omega),Fw,yo,aD hx,n6 1 (by omega),n6 (1+3) (by omega)];rw[show([((29,1,2,0):Instr)]++[(1,0,x,0),(28,0,0,0),tZ])=jW true none x from rfl,hf',Option.bind_some,hroom,af,kZ (n:=([102].length+(ES i).length)) (by simp only[List.length_cons,List.length_nil];omega)];rfl|false=>
   by_cases hn:i+1<l.length
   .have hne:fe l.length i=some (i+1):=by unfold fe<;>grind
    have hf':=hf false ([102]++ES i);rw[hne]at hf'⊢;simp only[f11.bg.eq_2,aI hi,au,ak,bJ (show(i:Int)>0 by omega),HI (N:=N+60) (show i<30by omega),Option.bind_some,af,hw1,aD hrr,hw,bJ (show((i+1:Nat):Int)<(l.length:Int)by omega),Fw,yo,aD hx,n6 1 (by omega),n6 (1+3) (by omega)];rw[show([((26,((i+1:Nat):Int),0,0):Instr)]++[(1,0,x,0),(28,0,0,0),tZ])=jW false (some (i+1)) x from rfl,hf',Option.bind_some,hroom,af,kZ (n:=([102].length+(ES i).length)) (by simp only[List.length_cons,List.length_nil];omega)];rfl
   .have hne:fe l.length i=none:=by unfold fe<;>grind
    have hf':=hf false ([102]++ES i);rw[hne]at hf'⊢;simp only[f11.bg.eq_2,aI hi,au,ak,bJ (show(i:Int)>0 by omega),HI (N:=N+60) (show i<30by omega),Option.bind_some,af,hw1,aD hrr,hw,bE (show¬((i+1:Nat):Int)<(l.length:Int)by omega),Fw,yo,aD hx,n6 3 (by omega)];rw[show([(1,0,x,0),(28,0,0,0),tZ]:List Instr)=jW false none x from rfl,hf',Option.bind_some,hroom,af,kZ (n:=([102].length+(ES i).length)) (by simp only[List.length_cons,List.length_nil];omega)];rfl
theorem Rb{N:Nat}{l:List Int}{rs:List Bool}(hN:500<N)(hl:l.length<=20)(hr:rs.length+1=l.length):f11.bg (N+60) (N+60) (l,rs,0,jN,[])=some (jN,rH Q0 l rs):=by obtain⟨s,h1,h2⟩:=dY (l:=l) (g:=λs:List Func=>(jN,s)) (Inv:=λi s=>s=(List.range i).map (Ku Q0 l rs)) (Lf:=λk i s=>f11.bg (N+60) k (l,rs,i,jN,s)) (λk s _=>by simp only[f11.bg.eq_2,aL,ak]) (λk i x s hx h=>by have hi:=aA hx;refine⟨_,?_,Ra hN hl hr hx (by rw[h,List.length_map,List.length_range];omega)⟩;rw[h,List.range_succ,List.map_append];rfl) (k:=N+60) (s:=[]) rfl (by omega);rw[h2,h1];rfl
theorem Rc{N:Nat}(hN:14000000<N){l:List Int}{rs:List Bool}(h:CL l rs):∃ts xs D,F4 (N+60) (l,rs)=some (ts,xs,D,0)/\F5 (N+60) (l,rs)=some (ts,xs,D,0)/\F6 (N+60) (ts,xs,D,ts,xs,D)=some true:=by
 have hlen:=h.len;have hrs:=h.rs;obtain⟨D,b,h1,h2,h3⟩:=Zu (N:=N+60) (by omega) h.QW h.aE λi hi=>h.good (by rwa[tU]at hi);have hw:av ((l.length:Int)-1)=(rs.length:Int):=by rw[bp (by omega)];omega
 have l1:f4.ct (N+60) (N+60) (l,rs,l,(l.length:Int),0,[(2,0,0,[]),(1,0,0,[])],[])=some (jN,rH Q0 l rs):=M9 (N:=N) h.len h.rs h.i64;have l2:f11.bg (N+60) (N+60) (l,rs,0,[(2,0,0,[]),(1,0,0,[])],[])=some (jN,rH Q0 l rs):=Rb (N:=N) (by omega) h.len h.rs;refine⟨jN,[],D,?_,?_,h3⟩;.rw[F4.eq_1,bE (show¬(l.length:Int)<1by omega),ak,bE (show¬(l.length:Int)>20by omega),ak,hw,show((rs.length:Int)!=(rs.length:Int))=false by simp,Option.bind_some,l1,Option.bind_some,h1];rfl
 .rw[F5.eq_1,bE (show¬(l.length:Int)<1by omega),ak,bE (show¬(l.length:Int)>20by omega),ak,hw,show((rs.length:Int)!=(rs.length:Int))=false by simp,Option.bind_some,F11.eq_1,l2,Option.bind_some,h2];rfl
theorem Na{N:Nat}(hN:1300<N):F6 N ([],[],[],[],[],[])=some true:=by rw[Oj hN (ts:=[]) (xs:=[]) (fs:=[]) ⟨⟨⟨by decide,λi hi=>by simp at hi⟩,by decide,λs hs=>(by cases hs),by decide,λf hf=>by cases hf⟩,λf hf=>by cases hf⟩]<;>grind
theorem Nb{N:Nat}(hN:14001000<N){l:List Int}{rs:List Bool}(hl:∀x,x∈l->kO x):F3 N (l,rs)=some true:=by
 obtain⟨M,rfl⟩:∃M,N=M+60:=⟨N-60,by omega⟩;rw[F3.eq_1];by_cases h1:(l.length:Int)>30;.grind
 rw[bE h1,ak];by_cases h2:(rs.length:Int)>30;.grind
 rw[bE h2,Option.bind_some];by_cases hC:CL l rs;.obtain⟨ts,xs,D,g1,g2,g3⟩:=Rc (N:=M) (by omega) hC<;>grind
 .have ajV:(bif decide ((l.length:Int)<1)then some true else bif decide ((l.length:Int)>20)then some true else some ((rs.length:Int)!=av ((l.length:Int)-1)):Option Bool)=some true:=by
   by_cases a1:(l.length:Int)<1;.grind
   .rw[bE a1,ak];by_cases a2:(l.length:Int)>20;.grind
    .rw[bE a2,ak,bp (by omega)];congr 1;rw[bne_iff_ne];intro a3;exact hC ⟨by omega,by omega,by omega,hl⟩
  have e1:F4 (M+60) (l,rs)=some ([],[],[],2):=by rw[F4.eq_1,ajV];rfl
  have e2:F5 (M+60) (l,rs)=some ([],[],[],2):=by rw[F5.eq_1,ajV];rfl
  simp only[e1,e2,Option.bind_some,Na (show 1300<M+60by omega),au];rfl
theorem ZA{d:eW}{r:List eW}(h:Z4 (d::r)):d.t.ok d.v/\Z4 r:=S8.1 h
theorem afQ{b:List Int}(h:(Ty.sl (.int .i64)).ok b):∀x,x∈b->kO x:=λx hx=>⟨(h.2 x hx).1,(h.2 x hx).2⟩
end Go.Proofs.YtdogilonhnbapaaGreatDoor
