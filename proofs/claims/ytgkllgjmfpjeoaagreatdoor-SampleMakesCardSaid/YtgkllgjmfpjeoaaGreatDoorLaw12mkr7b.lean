/- A part of the proof: Law12mkl7h, Law12mkr7a, Law12mkr7b. -/
import Derived.Test.YtgkllgjmfpjeoaaGreatDoorLaw12mkl7g
set_option linter.unusedVariables false
set_option linter.unusedSimpArgs false
namespace Go.Proofs.YtgkllgjmfpjeoaaGreatDoor
open Go Go.bJ Go.Sym
open Classical
theorem ahE{n:Nat}{b:List Bool}{o:List Nat}(h:∀k,O o k<65536):mu n b o<=n*65536:=Ng λk=>by grind
theorem Ur(n k:Nat):O (List.replicate n 0) k=0:=by simp only[O,List.getD_eq_getElem?_getD,List.getElem?_replicate]<;>grind
theorem Us(n:Nat):List.replicate n (0:Int)=cN (List.replicate n 0):=by simp[cN]
noncomputable def nR(l:List Instr)(G:Nat->Nat):List Nat:=(List.range l.length).map λk=>if Reach l k/\k≠l.length-1then G k else 0
theorem tE(l:List Instr)(G:Nat->Nat):(nR l G).length=l.length:=by simp[nR]
theorem xP{l:List Instr}{G:Nat->Nat}{k:Nat}(h:k<l.length):O (nR l G) k=if Reach l k/\k≠l.length-1then G k else 0:=by simp[O,List.getD_eq_getElem?_getD,nR,h]
theorem Jo{l:List Instr}{G:Nat->Nat}{o:List Nat}(hl:o.length=l.length)(h:∀k,k<l.length->O o k=if Reach l k/\k≠l.length-1then G k else 0):o=nR l G:=ahz (by rw[hl,tE]) λk hk=>by rw[h k (by omega),xP (by omega)]
theorem LB{N:Nat}{l:List Instr}{P F p s:Nat}(hv:VM l P F p s)(hN:14000000<N){ws:List Nat}(xl:∀k,O ws k=wr l k)(hwl:ws.length=l.length):∃G o,Cg l P F G/\o.length=l.length/\(∀k,k<l.length->O o k=if Reach l k then G k else 0)/\f69.iT N N (l,(p:Int),(List.replicate l.length false).set 0 true,(cN (List.replicate l.length 0)).set 0 (P:Int),cN ws,[(0:Int)])=some (cN o):=by
 have hpos:=hv.v.pos;have hle:=hv.le;have hP:sub P F:=hv.PF;have hO0:∀k,O ((List.replicate l.length 0).set 0 P) k=if k=0then P else 0:=λk=>by rw[fD (by simp;omega),Ur]
 have start:Lv l P F ((List.replicate l.length false).set 0 true) ((List.replicate l.length 0).set 0 P):=⟨xO hv.v,by simp,λk=>by
   rw[hO0];split;.exact hP
   .exact zero_sub _,by rw[hO0,if_pos rfl];exact iW _,λk hk=>by rw[hO0,if_neg λe=>hk ((jE hpos k).2 e)],λS hS k hk=>by rw[(jE hpos k).1 hk,hO0,if_pos rfl];exact hS.1⟩;have hmu:∀b o,Lv l P F b o->mu l.length b o<=13200000:=λb o h=>by have:=ahE (n:=l.length) (b:=b) (o:=o) λk=>hv.lt (h.Jm k);omega
 obtain⟨⟨b,o⟩,hI,he⟩:=wq (Inv:=λt q=>LvP l P F t.1 t.2 q/\mu l.length t.1 t.2+q.length<=13200001) (μ:=λt=>mu l.length t.1 t.2) (g:=λt=>cN t.2) (Lf:=λk t q=>f69.iT N k (l,(p:Int),t.1,cN t.2,cN ws,cN q)) (λk t _=>by rw[show cN []=[]from rfl,f69.iT.eq_2];rfl) (λk t q i⟨h,hm⟩=>by
   rw[List.length_append,List.length_singleton]at hm;have hi:T t.1 i:=h.wq i (by simp);have wM:i<l.length:=by rw[<-h.lv.U3.len];exact hi.lt
   obtain⟨b',o',r,h1,h2,h3⟩:=Jn (N:=N) hv (by omega) xl hwl h (by omega);refine⟨(b',o'),r,⟨h1,by rw[List.length_append];simp only;omega⟩,h2,?_⟩;have hlen:(cN (q++[i])).length=q.length+1:=by simp[cN]
   have e1:av (((q.length+1:Nat):Int)-1)=(q.length:Int):=by rw[bn (by omega)];omega
   have e2:(cN (q++[i]))[q.length]?=some (i:Int):=by simp[cN]
   have e3:(cN (q++[i])).take q.length=cN q:=by simp[cN]
   simp only[f69.iT.eq_2,hlen,e1,decide_eq_true (show((q.length+1:Nat):Int)>0 by omega),au,bS (show q.length<q.length+1by omega),ai,Int.toNat_natCast,e2,Option.bind_some,show decide ((0:Int)<=(q.length:Int))=true by simp,show decide (q.length<=q.length+1)=true by simp,Lw hv.v wM,e3,h3]) N ((List.replicate l.length false).set 0 true,(List.replicate l.length 0).set 0 P) [0] ⟨⟨start,λk hk=>by simp at hk;subst hk;exact(jE hpos 0).2 rfl,λi hi=>.inl (by rw[(jE hpos i).1 hi];simp)⟩,by have:=hmu _ _ start;simp only[List.length_singleton];omega⟩ (by have:=hmu _ _ start;simp only[List.length_singleton];omega);obtain⟨⟨h1,h2,h3⟩,_⟩:=hI;have hsh:∀i,T b i->∀k∈nx l i,T b k/\sub (O o k) (O o i|||wr l i):=λi hi=>by
  rcases h3 i hi with g|g;.simp at g
  .exact g
 have hall:=h1.U3.all λi hi k hk=>(hsh i hi k hk).1;have hT:∀k,T b k↔Reach l k:=λk=>by simp only at hall;rw[hall];exact Um hv.v
 refine⟨O o,o,⟨⟨h1.p0,λi hi k hk=>(hsh i ((hT i).2 hi) k hk).2⟩,h1.Jm,λS hS k hk=>h1.great S hS k ((hT k).2 hk)⟩,h1.len,λk hk=>?_,by rw[show[(0:Int)]=cN [0]from rfl,qF];exact he⟩;split;.rfl
 .rename_i hn;exact h1.un k λh=>hn ((hT k).1 h)
theorem fdiv_pow{a s:Nat}(hs:s<=16):(Int.fdiv (a:Int) (2^min (Int.toNat (s:Int)) 64)!=0)=decide (¬a<2^s):=by
 rw[Int.toNat_natCast,Nat.min_eq_left (by omega)];have e:(2:Int)^s=((2^s:Nat):Int):=by simp
 have hp:=Nat.one_le_two_pow (n:=s);rw[e,Int.fdiv_eq_ediv_of_nonneg _ (Int.natCast_nonneg _),<-Int.natCast_ediv];by_cases h:a<2^s;.rw[Nat.div_eq_of_lt h,decide_eq_false (not_not.2 h)];rfl
 .rw[decide_eq_true h];have:a/2^s≠0:=λe=>by
   rw[Nat.div_eq_zero_iff]at e;rcases e with e|e;.omega
   .exact h e
  grind
theorem LC{l:List Instr}{i:Nat}{x:Instr}(h:l[i]?=some x):wr l i=Pq x:=by simp[wr,h]
theorem Gw{N:Nat}{l:List Instr}(hv:VC l)(hN:500<N){p s:Nat}(hs:s<=16):if kI l s then∃ws:List Nat,(∀k,O ws k=wr l k)/\ws.length=l.length/\f69.gx N N (l,(s:Int),l,(l.length:Int),0,(p:Int),cN (List.replicate l.length 0))=some (.inr (l,(p:Int),cN ws))else f69.gx N N (l,(s:Int),l,(l.length:Int),0,(p:Int),cN (List.replicate l.length 0))=some (.inl 16):=by
 have hle:=hv.le;have key:=fZ (l:=l) (Out:=λr=>r=.inl 16/\kI l s=false) (g:=λws:List Nat=>(.inr (l,(p:Int),cN ws):Int⊕(List Instr×Int×List Int))) (Inv:=λj ws=>ws.length=l.length/\(∀k,O ws k=if k<j then wr l k else 0)/\∀k x,k<j->l[k]?=some x->Nf x<2^s) (Lf:=λk i ws=>f69.gx N k (l,(s:Int),l,(l.length:Int),i,(p:Int),cN ws)) (λk ws _=>by simp only[f69.gx.eq_2,aM,aq]) (λk j x ws hx⟨h1,h2,h3⟩=>by
   have hj:=az hx;have hc:=hv.aF j x hx;have hw:j<ws.length:=by omega
   have zB:=nQ hc;have e1:(cN ws).set j ((gf 0 (aQ oE x):Nat):Int)=cN (ws.set j (Pq x)):=qF _ _ _;have xl:j<(ws.set j (Pq x)).length:=by simp;exact hw
   have ahF:∀{a:Nat},a<2^16->a<2^64:=λh=>Cb h (by omega);simp only[f69.gx.eq_2,aJ hj,au,aE hx,Option.bind_some,Lt,hc,show((0:Int)!=0)=false from rfl,aq,Up hN (jN oE x) zB.2,Up hN (jN jL x) zB.1,bG,bS hw,ai,Int.toNat_natCast,gq hw,e1,bS xl,gq xl,fD hw,if_true,zX (ahF (zj (m:=0) zB.1 (by omega))) (ahF (aci hc)),show(!decide ((s:Int)<0))=true by simp];have hu:gf 0 (aQ jL x)|||Pq x=Nf x:=by rw[Nf,zk (aQ oE x)];rfl
   rw[hu];have hf:=fdiv_pow (a:=Nf x) hs;rw[Int.toNat_natCast]at hf;simp only[hf];by_cases hsu:Nf x<2^s
   .right;rw[decide_eq_false (not_not.2 hsu),aq];refine⟨ws.set j (Pq x),⟨by simp[h1],λk=>?_,λk y hk hy=>?_⟩,by rw[aj (by omega)]⟩
    .rw[fD hw,h2];by_cases hk:k=j;.subst hk;rw[if_pos rfl,if_pos (by omega),LC hx]
     .rw[if_neg hk];by_cases hk2:k<j;.rw[if_pos hk2,if_pos (by omega)]
      .rw[if_neg hk2,if_neg (by omega)]
    .by_cases hk2:k=j;.subst hk2;rw[hx]at hy;injection hy with hy;subst hy;exact hsu
     .exact h3 k y (by omega) hy
   .left;rw[decide_eq_true hsu,au];refine⟨_,⟨rfl,?_⟩,rfl⟩;simp only[kI,Bool.not_eq_false',List.any_eq_true,decide_eq_true_eq];exact⟨x,aU hx,hsu⟩) (k:=N) (s:=List.replicate l.length 0) ⟨by simp,λk=>by rw[Ur,if_neg (by omega)],λk x hk=>by omega⟩ (by omega);rcases key with⟨r,⟨h1,h2⟩,h3⟩|⟨ws,⟨h1,h2,h3⟩,h4⟩;.grind
 .have hb:kI l s=true:=by simp only[kI,Bool.not_eq_true',List.any_eq_false,decide_eq_true_eq,not_not];intro x hx;obtain⟨i,hi,rfl⟩:=List.mem_iff_getElem.1 hx<;>simp_all
  rw[hb];refine⟨ws,λk=>?_,h1,h4⟩;rw[h2];split;.rfl
  .rw[wr,List.getElem?_eq_none (by omega)]
theorem LD{N:Nat}{l:List Instr}(hN:14000000<N)(hl:l.length<=9223372036854775807)(Gs:gZ l=true->l.length<=200)(params most:Int):if gZ l then if Ce l params most=0then∃G,VM l (2^params.toNat-1) (2^most.toNat-1) params.toNat most.toNat/\Cg l (2^params.toNat-1) (2^most.toNat-1) G/\U0 N (l,params,most)=some (cN (nR l G),0)else U0 N (l,params,most)=some ([],Ce l params most)else U0 N (l,params,most)=some ([],8):=by rw[U0.eq_1,Lu (by omega) hl];cases h:gZ l with|false=>rfl|true=>
  have hv:=tB h;have h1:=hv.pos;have h2:=Gs h;simp only[au,show((0:Int)!=0)=false from rfl,aq,if_true,or4,WW,Option.bind_some];unfold Ce;by_cases ha:most<0\/most>16\/params<0\/params>most;.rw[if_pos ha,decide_eq_true ha,au,if_neg (by decide)]
  .rw[if_neg ha,decide_eq_false ha,aq];simp only[not_or,Int.not_lt]at ha;obtain⟨s,rfl⟩:∃s:Nat,most=(s:Int):=⟨most.toNat,by omega⟩;obtain⟨p,rfl⟩:∃p:Nat,params=(p:Int):=⟨params.toNat,by omega⟩;have hs:s<=16:=by omega
   have hps:p<=s:=by omega
   simp only[Int.toNat_natCast,show decide ((0:Int)<=(l.length:Int))=true by simp,ai,Nat.le_refl,decide_true,Bool.true_and,af (show l.length<=10000000by omega) (show 8<=1000by omega),af (show l.length<=10000000by omega) (show 1<=1000by omega),Us];have key:=Gw (N:=N) hv (by omega) (p:=p) hs;by_cases hb:kI l s=true;case neg=>rw[if_neg hb]at key;rw[if_neg (show¬(if kI l s=true then(0:Int)else 16)=0 by rw[if_neg hb];decide),if_neg hb,key];rfl
   case pos=>
    rw[if_pos hb]at key;rw[if_pos (show(if kI l s=true then(0:Int)else 16)=0 by rw[if_pos hb])];obtain⟨ws,k1,k2,k3⟩:=key;have WY:VM l (2^p-1) (2^s-1) p s:=⟨hv,h2,hs,hps,rfl,rfl,λi x hx=>by simp only[kI,Bool.not_eq_true',List.any_eq_false,decide_eq_true_eq,not_not]at hb;exact hb x (aU hx)⟩;obtain⟨G,o,g1,g2,g3,g4⟩:=LB WY hN k1 k2;refine⟨G,WY,g1,?_⟩;have e0:cv ((cv ((1:Int)*(2^min p 64)))-1)=((2^p-1:Nat):Int):=EF (n:=(p:Int)) (by omega) (by omega);have Ut:av ((o.length:Int)-1)=((l.length-1:Nat):Int):=by rw[g2];exact tD h1 (by omega)
    simp only[k3,Option.bind_some,Int.toNat_natCast,show decide ((0:Int)<=(l.length:Int))=true by simp,ai,Nat.le_refl,decide_true,Bool.true_and,af (show l.length<=10000000by omega) (show 8<=1000by omega),af (show l.length<=10000000by omega) (show 1<=1000by omega),show(!decide ((p:Int)<0))=true by simp,List.length_replicate,bG,show fP 0 l.length=true from bS (i:=0) h1,show Int.toNat 0=0from rfl,qD h1,gq (show 0<(List.replicate l.length 0).length by simp;omega),e0,g4,Ut,bS (show l.length-1<o.length by omega),gq (show l.length-1<o.length by omega)];congr 2;rw[show(0:Int)=((0:Nat):Int)from rfl,qF];congr 1;refine Jo (by simp[g2]) λk hk=>?_;rw[fD (by omega)];by_cases NZ:k=l.length-1;.rw[if_pos NZ,if_neg (λh'=>h'.2 NZ)]
    .rw[if_neg NZ,g3 k hk];by_cases hr:Reach l k;.rw[if_pos hr,if_pos ⟨hr,NZ⟩]
     .rw[if_neg hr,if_neg (λh'=>hr h'.1)]
end Go.Proofs.YtgkllgjmfpjeoaaGreatDoor
namespace Go.Proofs.YtgkllgjmfpjeoaaGreatDoor
open Go Go.bJ Go.Sym
open Classical
theorem uM(N:Nat){x:Instr}(hc:dD x=true):F80 N (x.1,x.2.1,x.2.2.1,x.2.2.2)=some (aQ jL x,aQ oE x):=by rw[F80.eq_1,sK];unfold aQ;cases hs:vX x.1with|none=>simp[dD,hs]at hc|some s=>obtain⟨a,b,c⟩:=s;obtain⟨h1,h2,h3⟩:=Li hs;have e0:idx [a,b,c] 0=some a:=rfl;have e1:idx [a,b,c] 1=some b:=rfl;have e2:idx [a,b,c] 2=some c:=rfl;simp only[Option.bind_some,IV.eq_1,e0,e1,e2,Ug h1,Ug h2,Ug h3,Uh h1,Uh h2,Uh h3];cases jL a x.2.1<;>cases oE a x.2.1<;>cases jL b x.2.2.1<;>cases oE b x.2.2.1<;>cases jL c x.2.2.2<;>cases oE c x.2.2.2<;>rfl
theorem LF{N:Nat}{l:List Instr}(hN:210<N)(hl:l.length<=9223372036854775807)(hx:∀x∈l,O6 x):F75 N l=some (bif gZ l then 0 else 8):=by
 rw[F75.eq_1];unfold gZ;by_cases h1:1<=l.length
 .rw[show decide ((l.length:Int)<1)=false by simp;omega,aq,decide_eq_true h1,Option.bind_some];by_cases h2:l.length<=200;.rw[show decide ((l.length:Int)>200)=false by simp;omega,aq,decide_eq_true h2];have key:=I0 (l:=l) (a:=(.inr l:Int⊕List Instr)) (b:=.inl 8) (p:=Jj (l.length:Int)) (Lf:=λk i=>f75.aT N k (l,i)) (λk=>by simp only[f75.aT.eq_2,aM,aq]) (λk i x hm hi=>by simp only[f75.aT.eq_2,aJ (az hi),au,aE hi,Option.bind_some,BU N (hx x hm),Nc,aj (show i<9223372036854775807by have:=az hi;omega)];cases h1:dD x<;>cases h2:C1 (l.length:Int) x<;>simp[Jj,h1,h2]) N (by omega);rw[key];cases l.any (Jj (l.length:Int))with|true=>rfl|false=>simp only[Bool.false_eq_true,if_false,Jk h1 hl,Option.bind_some];show(bif !(Ui (qV l))then _ else _)=_;grind
  grind
 grind
theorem xQ{N:Nat}{l:List Instr}(h:VC l){i:Nat}(hi:i<l.length):O1 N (l,(i:Int))=some (cN (nx l i)):=by exact Ul h hi
theorem Pr{N:Nat}{l:List Instr}(hv:VC l)(hN:500<N){c:Bool}{s:List Bool}{i:Nat}(wM:i<l.length)(h:Po l s):∃s' c',Po l s'/\(c'=false->c=false/\s'=s/\(T s i->∀k∈nx l i,T s k))/\cntF s'<=cntF s/\(c'=true->c=true\/cntF s'<cntF s)/\f76.eR N N (l,c,(i:Int),cN (nx l i),0,s)=some (l,c',(i:Int),s'):=by
 have ao9:=qA l i;rcases Jl (b:=s) (i:=i) (by rw[h.len];exact wM)with hb|hb
 .have Nd:=h.reach i hb;obtain⟨⟨c',s'⟩,hI,he⟩:=eS (l:=cN (nx l i)) (g:=λq:Bool×List Bool=>(l,q.1,(i:Int),q.2)) (Inv:=λj q=>Po l q.2/\T q.2 i/\(q.1=false->c=false/\q.2=s/\∀k∈(nx l i).take j,T s k)/\cntF q.2<=cntF s/\(q.1=true->c=true\/cntF q.2<cntF s)) (Lf:=λk j q=>f76.eR N k (l,q.1,(i:Int),cN (nx l i),j,q.2)) (λk q _=>by simp only[f76.eR.eq_2,aM,aq,Option.bind_some]) (λk j x q hx⟨h1,h2,h3,h4,h5⟩=>by
    obtain⟨m,hm,rfl⟩:=xM hx;have hml:=zi hv (aU hm);have qY:m<q.2.length:=by rw[h1.len];exact hml
    have hj:j<9223372036854775807:=by have:=az hm;omega
    have alU:i<q.2.length:=by rw[h1.len];exact wM
    have h2':q.2[i]?=some true:=h2;simp only[f76.eR.eq_2,aJ (az hx),au,aE hx,Option.bind_some,bS qY,bS alU,ai,Int.toNat_natCast,aj hj,h2'];rcases Jl qY with hb|hb
    .refine⟨q,⟨h1,h2,λhc=>?_,h4,h5⟩,by simp only[hb,Option.bind_some,Bool.not_true,aq]⟩;obtain⟨g1,g2,g3⟩:=h3 hc;refine⟨g1,g2,λk' hk'=>?_⟩;rw[take_succ hm,List.mem_append,List.mem_singleton]at hk';rcases hk' with hk'|rfl;.exact g3 k' hk'
     .rw[<-g2];exact hb
    .refine⟨(true,q.2.set m true),⟨⟨by simp[h1.len],(dY qY).2 (.inr h1.zero),λk' hk'=>?_⟩,(dY qY).2 (.inr h2),(λhc=>by cases hc),?_,λ_=>.inr ?_⟩,by simp only[hb,Option.bind_some,Bool.not_false,au]⟩
     .rcases(dY qY).1 hk' with rfl|hk';.exact .step Nd (aU hm)
      .exact h1.reach k' hk'
     .have:=sR hb;simp only;omega
     .have:=sR hb;simp only;omega) (k:=N) (s:=(c,s)) ⟨h,hb,λhc=>⟨hc,rfl,λk hk=>by simp at hk⟩,Nat.le_refl _,.inl⟩ (by rw[bG];omega);obtain⟨h1,h2,h3,h4,h5⟩:=hI;refine⟨s',c',h1,λhc=>?_,h4,h5,he⟩;obtain⟨g1,g2,g3⟩:=h3 hc;exact⟨g1,g2,λ_ k hk=>g3 k (by rw[bG,List.take_length];exact hk)⟩
 .refine⟨s,c,h,λhc=>⟨hc,rfl,λh'=>by unfold T at h';rw[hb]at h';cases h'⟩,Nat.le_refl _,.inl,?_⟩;obtain⟨N',rfl⟩:∃q,N=q+1:=⟨N-1,by omega⟩;rw[f76.eR.eq_2];cases hd:decide ((0:Int)<((cN (nx l i)).length:Int))with|false=>rfl|true=>simp[au,bS (show i<s.length by rw[h.len];exact wM),ai,Int.toNat_natCast,hb,Option.bind_some,aq]
theorem Pt{N:Nat}{l:List Instr}(hv:VC l)(hN:500<N){s:List Bool}(h:Po l s):∃s' c,Po l s'/\(c=false->∀i,T s' i->∀k∈nx l i,T s' k)/\(c=true->cntF s'<cntF s)/\f76.mN N N (l,false,0,s)=some (l,c,s'):=by
 have hle:=hv.le;obtain⟨⟨c',s'⟩,hI,he⟩:=eS (l:=l) (g:=λq:Bool×List Bool=>(l,q.1,q.2)) (Inv:=λj q=>Po l q.2/\(q.1=false->q.2=s/\∀i,i<j->T s i->∀k∈nx l i,T s k)/\cntF q.2<=cntF s/\(q.1=true->cntF q.2<cntF s)) (Lf:=λk j q=>f76.mN N k (l,q.1,j,q.2)) (λk q _=>by simp only[f76.mN.eq_2,aM,aq]) (λk j x q hx⟨h1,h2,h3,h4⟩=>by
   have hj:=az hx;obtain⟨s',c',g1,g2,g3,g4,g5⟩:=Pr hv hN (c:=q.1) hj h1;refine⟨(c',s'),⟨g1,λhc=>?_,by simp only;omega,λhc=>?_⟩,by simp only[f76.mN.eq_2,aJ hj,au,xQ hv hj,Option.bind_some,g5,aj (show j<9223372036854775807by omega)]⟩
   .obtain⟨q1,q2,q3⟩:=g2 hc;obtain⟨q4,q5⟩:=h2 q1;simp only;refine⟨by rw[q2,q4],λi hi=>?_⟩;rw[q4]at q3;by_cases hij:i=j;.subst hij;exact q3
    .exact q5 i (by omega)
   .rcases g4 hc with hc|hc;.have:=h4 hc;simp only at*;omega
    .simp only at*;omega) (k:=N) (s:=(false,s)) ⟨h,λ_=>⟨rfl,λi hi=>by omega⟩,Nat.le_refl _,λhc=>by cases hc⟩ (by omega);obtain⟨h1,h2,h3,h4⟩:=hI;refine⟨s',c',h1,λhc i hi=>?_,h4,he⟩;obtain⟨g1,g2⟩:=h2 hc;cases g1;exact g2 i (by rw[<-h.len];exact hi.lt) hi
theorem Uu{N:Nat}{l:List Instr}(hv:VC l)(hN:500<N):F76 N l=some (dP l):=by have h1:=hv.pos;have h2:=hv.le;obtain⟨s,g1,g2,g3⟩:=rounds (Inv:=Po l) (C2:=λs=>∀i,T s i->∀k∈nx l i,T s k) (μ:=cntF) (g:=λs=>s) (Lf:=λk c s=>f76.dB N k (l,c,s)) (λk s _ _=>by rw[f76.dB.eq_2];rfl) (λk s h=>by obtain⟨s',c,g1,g2,g3,g4⟩:=Pt hv hN h;exact⟨s',c,g1,g2,g3,by simp only[f76.dB.eq_2,au,g4,Option.bind_some]⟩) N _ (xO hv) (by have:=qB ((List.replicate l.length false).set 0 true);rw[xN]at this;omega);rw[F76.eq_1];simp only[Int.toNat_natCast,show decide ((0:Int)<=(l.length:Int))=true by simp,ai,Nat.le_refl,decide_true,Bool.true_and,af (show l.length<=10000000by omega) (show 1<=1000by omega),List.length_replicate,show fP 0 l.length=true from bS (i:=0) h1,show Int.toNat 0=0from rfl,qD h1,Option.bind_some,g3];rw[g1.all g2]
end Go.Proofs.YtgkllgjmfpjeoaaGreatDoor
namespace Go.Proofs.YtgkllgjmfpjeoaaGreatDoor
open Go Go.bJ Go.Sym
open Classical
theorem Jp{N:Nat}{n:Int}(h0:0<=n)(h:n<=16):O5 N n=some ((2^n.toNat-1:Nat):Int):=by rw[O5.eq_1,show(!decide (n<0))=true by simp;omega,ai,EF h0 h]
theorem LG{N:Nat}{x:Instr}(hN:500<N)(hc:dD x=true):Tw N (x.1,x.2.1,x.2.2.1,x.2.2.2)=some ((Pq x:Nat):Int):=by rw[Tw.eq_1,uM N hc,Option.bind_some];have h:=(nQ hc).2;have hl:=jN oE x;unfold Pq;generalize aQ oE x=l at h hl;have:=EG (l:=l) (f:=sU) (g:=λm:Nat=>(m:Int)) (Inv:=λm=>m<2^16) (Lf:=λk i(m:Nat)=>f142.dB N k (l,(m:Int),i)) (λk s=>by simp only[f142.dB.eq_2,aM,aq]) (λk i x s hx hs=>by have hx2:=h x (aU hx);exact⟨EH hs hx2.2,by simp only[f142.dB.eq_2,aJ (az hx),au,aE hx,Option.bind_some,show(!decide (x<0))=true by simp;omega,ai,Un hs hx2.1 hx2.2,aj (show i<9223372036854775807by have:=az hx;omega)]⟩) (k:=N) (s:=0) (by omega) (by omega);simp at this;rw[this];rfl
structure Rv(l:List Instr)(P F:Nat)(o:List Nat):Prop where
 len:o.length=l.length
 Jm:∀k,sub (O o k) F
 p0:sub (O o 0) P
 great:∀S,Uq l P S->(∀k,sub (S k) F)->∀k,Reach l k->sub (S k) (O o k)
noncomputable def mv(n:Nat)(o:List Nat):Nat:=zD n (O o)
theorem WZ{n m v:Nat}{o:List Nat}(hm:m<n)(ho:o.length=n)(hv:v<O o m):mv n (o.set m v)+1<=mv n o:=by have:=Cf (n:=n) (m:=m) (f:=O (o.set m v)) (g:=O o) hm (λk hk=>by rw[fD (show m<o.length by omega),if_neg hk]);rw[fD (show m<o.length by omega),if_pos rfl]at this;unfold mv;omega
theorem LH{N:Nat}{l:List Instr}{P F p s:Nat}(hv:VM l P F p s)(hN:500<N){c:Bool}{o:List Nat}{i:Nat}(wM:i<l.length)(h:Rv l P F o):∃o' c',Rv l P F o'/\(c'=false->c=false/\o'=o/\(Reach l i->∀k∈nx l i,sub (O o k) (O o i|||wr l i)))/\mv l.length o'<=mv l.length o/\(c'=true->c=true\/mv l.length o'<mv l.length o)/\f79.tS N N (l,dP l,c,(i:Int),cN (nx l i),0,cN o)=some (l,dP l,c',(i:Int),cN o'):=by
 have hnl:=qA l i;have Gv:∀{a:Nat},sub a F->a<2^64:=λha=>Nat.lt_of_lt_of_le (hv.lt ha) (by omega);have e1:=List.getElem?_eq_getElem wM;generalize l[i]=x at e1
 have Pu:idx (dP l) (i:Int)=some (decide (Reach l i)):=aE (jM wM);by_cases Nd:Reach l i;.rw[decide_eq_true Nd]at Pu;obtain⟨⟨c',o'⟩,hI,he⟩:=eS (l:=cN (nx l i)) (g:=λq:Bool×List Nat=>(l,dP l,q.1,(i:Int),cN q.2)) (Inv:=λj q=>Rv l P F q.2/\(q.1=false->c=false/\q.2=o/\∀k∈(nx l i).take j,sub (O o k) (O o i|||wr l i))/\mv l.length q.2<=mv l.length o/\(q.1=true->c=true\/mv l.length q.2<mv l.length o)) (Lf:=λk j q=>f79.tS N k (l,dP l,q.1,(i:Int),cN (nx l i),j,cN q.2)) (λk q _=>by simp only[f79.tS.eq_2,aM,aq,Option.bind_some]) (λk j y q hy⟨h1,h2,h3,h4⟩=>by
    obtain⟨c1,o1⟩:=q;simp only at h1 h2 h3 h4;obtain⟨m,hm,rfl⟩:=xM hy;have hml:=zi hv.v (aU hm);have hmo:m<o1.length:=by rw[h1.len];exact hml
    have hio:i<o1.length:=by rw[h1.len];exact wM
    have hj:j<9223372036854775807:=by have:=az hm;omega
    have hlF:sub (O o1 i|||wr l i) F:=Lx (h1.Jm i) (hv.wF i);have hwx:Pq x=wr l i:=(LC e1).symm;simp only[f79.tS.eq_2,aJ (az hm),au,Pu,aE hy,aE e1,Option.bind_some,bG,bS hio,bS hmo,ai,Int.toNat_natCast,gq hio,gq hmo,LG hN (hv.v.aF i x e1),hwx,zX (Gv (h1.Jm i)) (Gv (hv.wF i)),Cd (Gv (h1.Jm m)) (Gv hlF),aj hj,qF];by_cases hnew:O o1 m&&&(O o1 i|||wr l i)=O o1 m
    .refine⟨(c1,o1),⟨h1,λhc=>?_,h3,h4⟩,by rw[hnew];simp⟩;obtain⟨g1,g2,g3⟩:=h2 hc;refine⟨g1,g2,λk hk=>?_⟩;rw[take_succ hm,List.mem_append,List.mem_singleton]at hk;rcases hk with hk|rfl;.exact g3 k hk
     .have:=oR (O o1 k) (O o1 i|||wr l i);rw[hnew,g2]at this;exact this
    .have hlt:=wz hnew;have Md:=WZ (n:=l.length) hml h1.len hlt;have NW:∀k,sub (O (o1.set m (O o1 m&&&(O o1 i|||wr l i))) k) (O o1 k):=λk=>by
      rw[fD hmo];split;.rename_i e;subst e;exact qE _ _
      .exact iW _
     refine⟨(true,o1.set m (O o1 m&&&(O o1 i|||wr l i))),⟨⟨by simp[h1.len],λk=>fQ (NW k) (h1.Jm k),fQ (NW 0) h1.p0,λS hS hb k hk=>?_⟩,λhc=>(by cases hc),by simp only;omega,λ_=>.inr (by simp only;omega)⟩,?_⟩
     .rw[fD hmo];split;.rename_i e;subst e;exact Gu (h1.great S hS hb k hk) (fQ (hS.2 i Nd k (aU hm)) (or_mono (h1.great S hS hb i Nd) (iW _)))
      .exact h1.great S hS hb k hk
     .rw[show(((O o1 m&&&(O o1 i|||wr l i):Nat):Int)!=((O o1 m:Nat):Int))=true by rw[bne_iff_ne];omega,au]) (k:=N) (s:=(c,o)) ⟨h,λhc=>⟨hc,rfl,λk hk=>by simp at hk⟩,Nat.le_refl _,.inl⟩ (by rw[bG];omega);obtain⟨h1,h2,h3,h4⟩:=hI;refine⟨o',c',h1,λhc=>?_,h3,h4,he⟩;obtain⟨g1,g2,g3⟩:=h2 hc;exact⟨g1,g2,λ_ k hk=>g3 k (by rw[bG,List.take_length];exact hk)⟩
 .rw[decide_eq_false Nd]at Pu;refine⟨o,c,h,λhc=>⟨hc,rfl,λh'=>absurd h' Nd⟩,Nat.le_refl _,.inl,?_⟩;obtain⟨N',rfl⟩:∃q,N=q+1:=⟨N-1,by omega⟩;rw[f79.tS.eq_2,Pu]<;>grind
theorem LI{N:Nat}{l:List Instr}{P F p s:Nat}(hv:VM l P F p s)(hN:500<N){o:List Nat}(h:Rv l P F o):∃o' c,Rv l P F o'/\(c=false->∀i,Reach l i->∀k∈nx l i,sub (O o' k) (O o' i|||wr l i))/\(c=true->mv l.length o'<mv l.length o)/\f79.y9 N N (l,dP l,false,0,cN o)=some (l,dP l,c,cN o'):=by
 have hle:=hv.le;obtain⟨⟨c',o'⟩,hI,he⟩:=eS (l:=l) (g:=λq:Bool×List Nat=>(l,dP l,q.1,cN q.2)) (Inv:=λj q=>Rv l P F q.2/\(q.1=false->q.2=o/\∀i,i<j->Reach l i->∀k∈nx l i,sub (O o k) (O o i|||wr l i))/\mv l.length q.2<=mv l.length o/\(q.1=true->mv l.length q.2<mv l.length o)) (Lf:=λk j q=>f79.y9 N k (l,dP l,q.1,j,cN q.2)) (λk q _=>by simp only[f79.y9.eq_2,aM,aq]) (λk j x q hx⟨h1,h2,h3,h4⟩=>by
   have hj:=az hx;obtain⟨o',c',g1,g2,g3,g4,g5⟩:=LH hv hN (c:=q.1) hj h1;refine⟨(c',o'),⟨g1,λhc=>?_,by simp only;omega,λhc=>?_⟩,by simp only[f79.y9.eq_2,aJ hj,au,xQ hv.v hj,Option.bind_some,g5,aj (show j<9223372036854775807by omega)]⟩
   .obtain⟨q1,q2,q3⟩:=g2 hc;obtain⟨q4,q5⟩:=h2 q1;simp only;refine⟨by rw[q2,q4],λi hi=>?_⟩;rw[q4]at q3;by_cases hij:i=j;.subst hij;exact q3
    .exact q5 i (by omega)
   .rcases g4 hc with hc|hc;.have:=h4 hc;simp only at*;omega
    .simp only at*;omega) (k:=N) (s:=(false,o)) ⟨h,λ_=>⟨rfl,λi hi=>by omega⟩,Nat.le_refl _,λhc=>by cases hc⟩ (by omega);obtain⟨h1,h2,h3,h4⟩:=hI;refine⟨o',c',h1,λhc i hi=>?_,h4,he⟩;obtain⟨g1,g2⟩:=h2 hc;cases g1;exact g2 i (hi.lt hv.v) hi
theorem W0{N:Nat}{l:List Instr}{P F p s:Nat}(hv:VM l P F p s)(hN:14000000<N):∃H,Uq l P H/\(∀S,Uq l P S->(∀k,sub (S k) F)->∀k,Reach l k->sub (S k) (H k))/\Zf N (l,(p:Int),(s:Int))=some (cN (nR l H)):=by
 have hpos:=hv.v.pos;have hle:=hv.le;have hs:=hv.sle;have hps:=hv.ps;obtain⟨o1,⟨a1,a2⟩,a3⟩:=eS (l:=l) (g:=λo:List Nat=>(l,(p:Int),dP l,cN o)) (Inv:=λj o=>o.length=l.length/\∀k,O o k=if k<j then F else 0) (Lf:=λk j o=>f79.dB N k (l,(p:Int),(s:Int),dP l,j,cN o)) (λk q _=>by simp only[f79.dB.eq_2,aM,aq]) (λk j x o hx⟨h1,h2⟩=>by
   have hj:=az hx;have hjo:j<o.length:=by omega
   have hf:=Jp (N:=N) (n:=(s:Int)) (by omega) (by omega);rw[Int.toNat_natCast,<-hv.eF]at hf;refine⟨o.set j F,⟨by simp[h1],λk=>?_⟩,by simp only[f79.dB.eq_2,aJ hj,au,hf,Option.bind_some,bG,bS hjo,ai,Int.toNat_natCast,gq hjo,qF,aj (show j<9223372036854775807by omega)]⟩;rw[fD hjo,h2];by_cases hk:k=j;.subst hk;rw[if_pos rfl,if_pos (by omega)]
   .rw[if_neg hk];by_cases hk2:k<j;.rw[if_pos hk2,if_pos (by omega)]
    .rw[if_neg hk2,if_neg (by omega)]) (k:=N) (s:=List.replicate l.length 0) ⟨by simp,λk=>by rw[Ur,if_neg (by omega)]⟩ (by omega);have h0:0<o1.length:=by omega
 have hO:∀k,O (o1.set 0 P) k=if k=0then P else if k<l.length then F else 0:=λk=>by rw[fD h0,a2]
 have start:Rv l P F (o1.set 0 P):=⟨by simp[a1],λk=>by
   rw[hO];split;.exact hv.PF
   .split;.exact iW _
    .exact zero_sub _,by rw[hO,if_pos rfl];exact iW _,λS hS hb k hk=>by
   rw[hO];split;.rename_i e;subst e;exact hS.1
   .rw[if_pos (hk.lt hv.v)];exact hb k⟩;obtain⟨o2,b1,b2,b3⟩:=rounds (Inv:=Rv l P F) (C2:=λo=>∀i,Reach l i->∀k∈nx l i,sub (O o k) (O o i|||wr l i)) (μ:=mv l.length) (g:=λo=>(l,dP l,cN o)) (Lf:=λk c o=>f79.nL N k (l,dP l,c,cN o)) (λk o _ _=>by rw[f79.nL.eq_2];rfl) (λk o h=>by obtain⟨o',c,g1,g2,g3,g4⟩:=LI (N:=N) hv (by omega) h;exact⟨o',c,g1,g2,g3,by simp only[f79.nL.eq_2,au,g4,Option.bind_some]⟩) N _ start (by have:mv l.length (o1.set 0 P)<=l.length*65536:=Ng λk=>Nat.le_of_lt (hv.lt (start.Jm k));omega);refine⟨O o2,⟨b1.p0,b2⟩,b1.great,?_⟩;obtain⟨o3,⟨c1,c2⟩,c3⟩:=eS (l:=l) (g:=λo:List Nat=>cN o) (Inv:=λj o=>o.length=l.length/\∀k,k<l.length->O o k=if k<j then(if Reach l k/\k≠l.length-1then O o2 k else 0)else O o2 k) (Lf:=λk j o=>f79.za N k (l,dP l,j,cN o)) (λk q _=>by simp only[f79.za.eq_2,aM,aq]) (λk j x o hx⟨h1,h2⟩=>by
   have hj:=az hx;have hjo:j<o.length:=by omega
   have Pu:idx (dP l) (j:Int)=some (decide (Reach l j)):=aE (jM hj);have Ut:=tD hpos (show l.length<=10000000by omega);simp only[f79.za.eq_2,aJ hj,au,Pu,Option.bind_some,Ut,dK,bG,bS hjo,ai,Int.toNat_natCast,gq hjo,aj (show j<9223372036854775807by omega)];by_cases hr:Reach l j/\j≠l.length-1
   .refine⟨o,⟨h1,λk hk=>?_⟩,?_⟩
    .rw[h2 k hk];by_cases hkj:k=j;.subst hkj;rw[if_neg (show¬k<k by omega),if_pos (show k<k+1by omega),if_pos hr]
     .by_cases hk2:k<j;.rw[if_pos hk2,if_pos (show k<j+1by omega)]
      .rw[if_neg hk2,if_neg (show¬k<j+1by omega)]
    .rw[decide_eq_true hr.1,show(((j:Nat):Int)==((l.length-1:Nat):Int))=false by rw[beq_eq_false_iff_ne];omega];rfl
   .refine⟨o.set j 0,⟨by simp[h1],λk hk=>?_⟩,?_⟩
    .rw[fD hjo];by_cases hkj:k=j;.subst hkj;rw[if_pos rfl,if_pos (show k<k+1by omega),if_neg hr]
     .rw[if_neg hkj,h2 k hk];by_cases hk2:k<j;.rw[if_pos hk2,if_pos (show k<j+1by omega)]
      .rw[if_neg hk2,if_neg (show¬k<j+1by omega)]
    .have:(!decide (Reach l j)||(((j:Nat):Int)==((l.length-1:Nat):Int)))=true:=by
      rw[Bool.or_eq_true];by_cases h1:Reach l j
      .right;rw[beq_iff_eq];by_cases h2:j=l.length-1;.rw[h2]
       .exact absurd ⟨h1,h2⟩ hr
      .left;rw[decide_eq_false h1];rfl
     rw[this,au,show(0:Int)=((0:Nat):Int)from rfl,qF]) (k:=N) (s:=o2) ⟨b1.len,λk hk=>by rw[if_neg (by omega)]⟩ (by omega);have hf:=Jp (N:=N) (n:=(p:Int)) (by omega) (by omega);rw[Int.toNat_natCast,<-hv.eP]at hf;have acm:o3=nR l (O o2):=Jo c1 λk hk=>by rw[c2 k hk,if_pos hk]
 rw[Zf.eq_1];simp only[Uu hv.v (show 500<N by omega),Option.bind_some,Int.toNat_natCast,show decide ((0:Int)<=(l.length:Int))=true by simp,ai,Nat.le_refl,decide_true,Bool.true_and,af (show l.length<=10000000by omega) (show 8<=1000by omega),Us,a3,hf,bG,show fP 0 o1.length=true from bS (i:=0) h0,show Int.toNat 0=0from rfl,gq h0,qF,b3,c3];rw[acm]
theorem Jq{l:List Instr}{G H:Nat->Nat}(h:∀k,Reach l k->G k=H k):nR l G=nR l H:=by unfold nR<;>grind
end Go.Proofs.YtgkllgjmfpjeoaaGreatDoor
