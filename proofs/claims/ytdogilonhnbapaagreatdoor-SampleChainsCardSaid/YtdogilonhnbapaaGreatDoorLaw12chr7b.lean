/- A part of the proof: Law12chl7h, Law12chr7a, Law12chr7b. -/
import Derived.Test.YtdogilonhnbapaaGreatDoorLaw12chl7g
set_option linter.unusedVariables false
set_option linter.unusedSimpArgs false
namespace Go.Proofs.YtdogilonhnbapaaGreatDoor
open Go Go.bI Go.Sym
open Classical
theorem ajF{n:Nat}{b:List Bool}{o:List Nat}(h:∀k,O o k<65536):mu n b o<=n*65536:=On λk=>by grind
theorem Ve(n k:Nat):O (List.replicate n 0) k=0:=by simp only[O,List.getD_eq_getElem?_getD,List.getElem?_replicate]<;>grind
theorem Vf(n:Nat):List.replicate n (0:Int)=cN (List.replicate n 0):=by simp[cN]
noncomputable def n5(l:List Instr)(G:Nat->Nat):List Nat:=(List.range l.length).map λk=>if Reach l k/\k≠l.length-1then G k else 0
theorem tT(l:List Instr)(G:Nat->Nat):(n5 l G).length=l.length:=by simp[n5]
theorem yd{l:List Instr}{G:Nat->Nat}{k:Nat}(h:k<l.length):O (n5 l G) k=if Reach l k/\k≠l.length-1then G k else 0:=by simp[O,List.getD_eq_getElem?_getD,n5,h]
theorem Ka{l:List Instr}{G:Nat->Nat}{o:List Nat}(hl:o.length=l.length)(h:∀k,k<l.length->O o k=if Reach l k/\k≠l.length-1then G k else 0):o=n5 l G:=ajA (by rw[hl,tT]) λk hk=>by rw[h k (by omega),yd (by omega)]
theorem ML{N:Nat}{l:List Instr}{P F p s:Nat}(hv:VM l P F p s)(hN:14000000<N){ws:List Nat}(rJ:∀k,O ws k=wr l k)(hwl:ws.length=l.length):∃G o,CN l P F G/\o.length=l.length/\(∀k,k<l.length->O o k=if Reach l k then G k else 0)/\f65.iW N N (l,(p:Int),(List.replicate l.length false).set 0 true,(cN (List.replicate l.length 0)).set 0 (P:Int),cN ws,[(0:Int)])=some (cN o):=by
 have hpos:=hv.v.pos;have hle:=hv.le;have hP:sub P F:=hv.PF;have hO0:∀k,O ((List.replicate l.length 0).set 0 P) k=if k=0then P else 0:=λk=>by rw[fE (by simp;omega),Ve]
 have start:Lv l P F ((List.replicate l.length false).set 0 true) ((List.replicate l.length 0).set 0 P):=⟨yc hv.v,by simp,λk=>by
   rw[hO0];split;.exact hP
   .exact zero_sub _,by rw[hO0,if_pos rfl];exact ja _,λk hk=>by rw[hO0,if_neg λe=>hk ((jG hpos k).2 e)],λS hS k hk=>by rw[(jG hpos k).1 hk,hO0,if_pos rfl];exact hS.1⟩;have hmu:∀b o,Lv l P F b o->mu l.length b o<=13200000:=λb o h=>by have:=ajF (n:=l.length) (b:=b) (o:=o) λk=>hv.lt (h.J8 k);omega
 obtain⟨⟨b,o⟩,hI,he⟩:=wQ (Inv:=λt q=>LvP l P F t.1 t.2 q/\mu l.length t.1 t.2+q.length<=13200001) (μ:=λt=>mu l.length t.1 t.2) (g:=λt=>cN t.2) (Lf:=λk t q=>f65.iW N k (l,(p:Int),t.1,cN t.2,cN ws,cN q)) (λk t _=>by rw[show cN []=[]from rfl,f65.iW.eq_2];rfl) (λk t q i⟨h,hm⟩=>by
   rw[List.length_append,List.length_singleton]at hm;have hi:T t.1 i:=h.wQ i (by simp);have yw:i<l.length:=by rw[<-h.lv.VQ.len];exact hi.lt
   obtain⟨b',o',r,h1,h2,h3⟩:=J9 (N:=N) hv (by omega) rJ hwl h (by omega);refine⟨(b',o'),r,⟨h1,by rw[List.length_append];simp only;omega⟩,h2,?_⟩;have hlen:(cN (q++[i])).length=q.length+1:=by simp[cN]
   have e1:av (((q.length+1:Nat):Int)-1)=(q.length:Int):=by rw[bp (by omega)];omega
   have e2:(cN (q++[i]))[q.length]?=some (i:Int):=by simp[cN]
   have e3:(cN (q++[i])).take q.length=cN q:=by simp[cN]
   simp only[f65.iW.eq_2,hlen,e1,decide_eq_true (show((q.length+1:Nat):Int)>0 by omega),au,bW (show q.length<q.length+1by omega),af,Int.toNat_natCast,e2,Option.bind_some,show decide ((0:Int)<=(q.length:Int))=true by simp,show decide (q.length<=q.length+1)=true by simp,MH hv.v yw,e3,h3]) N ((List.replicate l.length false).set 0 true,(List.replicate l.length 0).set 0 P) [0] ⟨⟨start,λk hk=>by simp at hk;subst hk;exact(jG hpos 0).2 rfl,λi hi=>.inl (by rw[(jG hpos i).1 hi];simp)⟩,by have:=hmu _ _ start;simp only[List.length_singleton];omega⟩ (by have:=hmu _ _ start;simp only[List.length_singleton];omega);obtain⟨⟨h1,h2,h3⟩,_⟩:=hI;have hsh:∀i,T b i->∀k∈nx l i,T b k/\sub (O o k) (O o i|||wr l i):=λi hi=>by
  rcases h3 i hi with g|g;.simp at g
  .exact g
 have hall:=h1.VQ.all λi hi k hk=>(hsh i hi k hk).1;have hT:∀k,T b k↔Reach l k:=λk=>by simp only at hall;rw[hall];exact U9 hv.v
 refine⟨O o,o,⟨⟨h1.p0,λi hi k hk=>(hsh i ((hT i).2 hi) k hk).2⟩,h1.J8,λS hS k hk=>h1.great S hS k ((hT k).2 hk)⟩,h1.len,λk hk=>?_,by rw[show[(0:Int)]=cN [0]from rfl,qQ];exact he⟩;split;.rfl
 .rename_i hn;exact h1.un k λh=>hn ((hT k).1 h)
theorem fdiv_pow{a s:Nat}(hs:s<=16):(Int.fdiv (a:Int) (2^min (Int.toNat (s:Int)) 64)!=0)=decide (¬a<2^s):=by
 rw[Int.toNat_natCast,Nat.min_eq_left (by omega)];have e:(2:Int)^s=((2^s:Nat):Int):=by simp
 have hp:=Nat.one_le_two_pow (n:=s);rw[e,Int.fdiv_eq_ediv_of_nonneg _ (Int.natCast_nonneg _),<-Int.natCast_ediv];by_cases h:a<2^s;.rw[Nat.div_eq_of_lt h,decide_eq_false (not_not.2 h)];rfl
 .rw[decide_eq_true h];have:a/2^s≠0:=λe=>by
   rw[Nat.div_eq_zero_iff]at e;rcases e with e|e;.omega
   .exact h e
  grind
theorem MM{l:List Instr}{i:Nat}{x:Instr}(h:l[i]?=some x):wr l i=QH x:=by simp[wr,h]
theorem Hs{N:Nat}{l:List Instr}(hv:VC l)(hN:500<N){p s:Nat}(hs:s<=16):if kN l s then∃ws:List Nat,(∀k,O ws k=wr l k)/\ws.length=l.length/\f65.gy N N (l,(s:Int),l,(l.length:Int),0,(p:Int),cN (List.replicate l.length 0))=some (.inr (l,(p:Int),cN ws))else f65.gy N N (l,(s:Int),l,(l.length:Int),0,(p:Int),cN (List.replicate l.length 0))=some (.inl 16):=by
 have hle:=hv.le;have key:=fZ (l:=l) (Out:=λr=>r=.inl 16/\kN l s=false) (g:=λws:List Nat=>(.inr (l,(p:Int),cN ws):Int⊕(List Instr×Int×List Int))) (Inv:=λj ws=>ws.length=l.length/\(∀k,O ws k=if k<j then wr l k else 0)/\∀k x,k<j->l[k]?=some x->Rk x<2^s) (Lf:=λk i ws=>f65.gy N k (l,(s:Int),l,(l.length:Int),i,(p:Int),cN ws)) (λk ws _=>by simp only[f65.gy.eq_2,aL,ak]) (λk j x ws hx⟨h1,h2,h3⟩=>by
   have hj:=aA hx;have hc:=hv.aE j x hx;have hw:j<ws.length:=by omega
   have z7:=n4 hc;have e1:(cN ws).set j ((eC 0 (aP ny x):Nat):Int)=cN (ws.set j (QH x)):=qQ _ _ _;have rJ:j<(ws.set j (QH x)).length:=by simp;exact hw
   have ajG:∀{a:Nat},a<2^16->a<2^64:=λh=>CH h (by omega);simp only[f65.gy.eq_2,aI hj,au,aD hx,Option.bind_some,MF,hc,show((0:Int)!=0)=false from rfl,ak,Vc hN (jM ny x) z7.2,Vc hN (jM jF x) z7.1,bF,bW hw,af,Int.toNat_natCast,gr hw,e1,bW rJ,gr rJ,fE hw,if_true,AD (ajG (zM (m:=0) z7.1 (by omega))) (ajG (afq hc)),show(!decide ((s:Int)<0))=true by simp];have hu:eC 0 (aP jF x)|||QH x=Rk x:=by rw[Rk,zN (aP ny x)];rfl
   rw[hu];have hf:=fdiv_pow (a:=Rk x) hs;rw[Int.toNat_natCast]at hf;simp only[hf];by_cases hsu:Rk x<2^s
   .right;rw[decide_eq_false (not_not.2 hsu),ak];refine⟨ws.set j (QH x),⟨by simp[h1],λk=>?_,λk y hk hy=>?_⟩,by rw[aj (by omega)]⟩
    .rw[fE hw,h2];by_cases hk:k=j;.subst hk;rw[if_pos rfl,if_pos (by omega),MM hx]
     .rw[if_neg hk];by_cases hk2:k<j;.rw[if_pos hk2,if_pos (by omega)]
      .rw[if_neg hk2,if_neg (by omega)]
    .by_cases hk2:k=j;.subst hk2;rw[hx]at hy;injection hy with hy;subst hy;exact hsu
     .exact h3 k y (by omega) hy
   .left;rw[decide_eq_true hsu,au];refine⟨_,⟨rfl,?_⟩,rfl⟩;simp only[kN,Bool.not_eq_false',List.any_eq_true,decide_eq_true_eq];exact⟨x,aS hx,hsu⟩) (k:=N) (s:=List.replicate l.length 0) ⟨by simp,λk=>by rw[Ve,if_neg (by omega)],λk x hk=>by omega⟩ (by omega);rcases key with⟨r,⟨h1,h2⟩,h3⟩|⟨ws,⟨h1,h2,h3⟩,h4⟩;.grind
 .have hb:kN l s=true:=by simp only[kN,Bool.not_eq_true',List.any_eq_false,decide_eq_true_eq,not_not];intro x hx;obtain⟨i,hi,rfl⟩:=List.mem_iff_getElem.1 hx<;>simp_all
  rw[hb];refine⟨ws,λk=>?_,h1,h4⟩;rw[h2];split;.rfl
  .rw[wr,List.getElem?_eq_none (by omega)]
theorem MN{N:Nat}{l:List Instr}(hN:14000000<N)(hl:l.length<=9223372036854775807)(Hl:gZ l=true->l.length<=200)(params most:Int):if gZ l then if CK l params most=0then∃G,VM l (2^params.toNat-1) (2^most.toNat-1) params.toNat most.toNat/\CN l (2^params.toNat-1) (2^most.toNat-1) G/\TM N (l,params,most)=some (cN (n5 l G),0)else TM N (l,params,most)=some ([],CK l params most)else TM N (l,params,most)=some ([],8):=by rw[TM.eq_1,MG (by omega) hl];cases h:gZ l with|false=>rfl|true=>
  have hv:=wP h;have h1:=hv.pos;have h2:=Hl h;simp only[au,show((0:Int)!=0)=false from rfl,ak,if_true,or4,Za,Option.bind_some];unfold CK;by_cases ha:most<0\/most>16\/params<0\/params>most;.rw[if_pos ha,decide_eq_true ha,au,if_neg (by decide)]
  .rw[if_neg ha,decide_eq_false ha,ak];simp only[not_or,Int.not_lt]at ha;obtain⟨s,rfl⟩:∃s:Nat,most=(s:Int):=⟨most.toNat,by omega⟩;obtain⟨p,rfl⟩:∃p:Nat,params=(p:Int):=⟨params.toNat,by omega⟩;have hs:s<=16:=by omega
   have hps:p<=s:=by omega
   simp only[Int.toNat_natCast,show decide ((0:Int)<=(l.length:Int))=true by simp,af,Nat.le_refl,decide_true,Bool.true_and,ah (show l.length<=10000000by omega) (show 8<=1000by omega),ah (show l.length<=10000000by omega) (show 1<=1000by omega),Vf];have key:=Hs (N:=N) hv (by omega) (p:=p) hs;by_cases hb:kN l s=true;case neg=>rw[if_neg hb]at key;rw[if_neg (show¬(if kN l s=true then(0:Int)else 16)=0 by rw[if_neg hb];decide),if_neg hb,key];rfl
   case pos=>
    rw[if_pos hb]at key;rw[if_pos (show(if kN l s=true then(0:Int)else 16)=0 by rw[if_pos hb])];obtain⟨ws,k1,k2,k3⟩:=key;have Zc:VM l (2^p-1) (2^s-1) p s:=⟨hv,h2,hs,hps,rfl,rfl,λi x hx=>by simp only[kN,Bool.not_eq_true',List.any_eq_false,decide_eq_true_eq,not_not]at hb;exact hb x (aS hx)⟩;obtain⟨G,o,g1,g2,g3,g4⟩:=ML Zc hN k1 k2;refine⟨G,Zc,g1,?_⟩;have e0:cx ((cx ((1:Int)*(2^min p 64)))-1)=((2^p-1:Nat):Int):=Fh (n:=(p:Int)) (by omega) (by omega);have Vg:av ((o.length:Int)-1)=((l.length-1:Nat):Int):=by rw[g2];exact tS h1 (by omega)
    simp only[k3,Option.bind_some,Int.toNat_natCast,show decide ((0:Int)<=(l.length:Int))=true by simp,af,Nat.le_refl,decide_true,Bool.true_and,ah (show l.length<=10000000by omega) (show 8<=1000by omega),ah (show l.length<=10000000by omega) (show 1<=1000by omega),show(!decide ((p:Int)<0))=true by simp,List.length_replicate,bF,show fP 0 l.length=true from bW (i:=0) h1,show Int.toNat 0=0from rfl,qN h1,gr (show 0<(List.replicate l.length 0).length by simp;omega),e0,g4,Vg,bW (show l.length-1<o.length by omega),gr (show l.length-1<o.length by omega)];congr 2;rw[show(0:Int)=((0:Nat):Int)from rfl,qQ];congr 1;refine Ka (by simp[g2]) λk hk=>?_;rw[fE (by omega)];by_cases R7:k=l.length-1;.rw[if_pos R7,if_neg (λh'=>h'.2 R7)]
    .rw[if_neg R7,g3 k hk];by_cases hr:Reach l k;.rw[if_pos hr,if_pos ⟨hr,R7⟩]
     .rw[if_neg hr,if_neg (λh'=>hr h'.1)]
end Go.Proofs.YtdogilonhnbapaaGreatDoor
namespace Go.Proofs.YtdogilonhnbapaaGreatDoor
open Go Go.bI Go.Sym
open Classical
theorem u6(N:Nat){x:Instr}(hc:dL x=true):F76 N (x.1,x.2.1,x.2.2.1,x.2.2.2)=some (aP jF x,aP ny x):=by rw[F76.eq_1,tg];unfold aP;cases hs:wH x.1with|none=>simp[dL,hs]at hc|some s=>obtain⟨a,b,c⟩:=s;obtain⟨h1,h2,h3⟩:=Mu hs;have e0:idx [a,b,c] 0=some a:=rfl;have e1:idx [a,b,c] 1=some b:=rfl;have e2:idx [a,b,c] 2=some c:=rfl;simp only[Option.bind_some,GX.eq_1,e0,e1,e2,U3 h1,U3 h2,U3 h3,U4 h1,U4 h2,U4 h3];cases jF a x.2.1<;>cases ny a x.2.1<;>cases jF b x.2.2.1<;>cases ny b x.2.2.1<;>cases jF c x.2.2.2<;>cases ny c x.2.2.2<;>rfl
theorem MO{N:Nat}{l:List Instr}(hN:210<N)(hl:l.length<=9223372036854775807)(hx:∀x∈l,Oa x):F71 N l=some (bif gZ l then 0 else 8):=by
 rw[F71.eq_1];unfold gZ;by_cases h1:1<=l.length
 .rw[show decide ((l.length:Int)<1)=false by simp;omega,ak,decide_eq_true h1,Option.bind_some];by_cases h2:l.length<=200;.rw[show decide ((l.length:Int)>200)=false by simp;omega,ak,decide_eq_true h2];have key:=JN (l:=l) (a:=(.inr l:Int⊕List Instr)) (b:=.inl 8) (p:=J5 (l.length:Int)) (Lf:=λk i=>f71.aU N k (l,i)) (λk=>by simp only[f71.aU.eq_2,aL,ak]) (λk i x hm hi=>by simp only[f71.aU.eq_2,aI (aA hi),au,aD hi,Option.bind_some,Cq N (hx x hm),Ol,aj (show i<9223372036854775807by have:=aA hi;omega)];cases h1:dL x<;>cases h2:Ho (l.length:Int) x<;>simp[J5,h1,h2]) N (by omega);rw[key];cases l.any (J5 (l.length:Int))with|true=>rfl|false=>simp only[Bool.false_eq_true,if_false,J6 h1 hl,Option.bind_some];show(bif !(U5 (rA l))then _ else _)=_;grind
  grind
 grind
theorem ye{N:Nat}{l:List Instr}(h:VC l){i:Nat}(hi:i<l.length):Mm N (l,(i:Int))=some (cN (nx l i)):=by exact U8 h hi
theorem QI{N:Nat}{l:List Instr}(hv:VC l)(hN:500<N){c:Bool}{s:List Bool}{i:Nat}(yw:i<l.length)(h:QF l s):∃s' c',QF l s'/\(c'=false->c=false/\s'=s/\(T s i->∀k∈nx l i,T s k))/\cntF s'<=cntF s/\(c'=true->c=true\/cntF s'<cntF s)/\f72.eR N N (l,c,(i:Int),cN (nx l i),0,s)=some (l,c',(i:Int),s'):=by
 have apC:=qL l i;rcases J7 (b:=s) (i:=i) (by rw[h.len];exact yw)with hb|hb
 .have Om:=h.reach i hb;obtain⟨⟨c',s'⟩,hI,he⟩:=dY (l:=cN (nx l i)) (g:=λq:Bool×List Bool=>(l,q.1,(i:Int),q.2)) (Inv:=λj q=>QF l q.2/\T q.2 i/\(q.1=false->c=false/\q.2=s/\∀k∈(nx l i).take j,T s k)/\cntF q.2<=cntF s/\(q.1=true->c=true\/cntF q.2<cntF s)) (Lf:=λk j q=>f72.eR N k (l,q.1,(i:Int),cN (nx l i),j,q.2)) (λk q _=>by simp only[f72.eR.eq_2,aL,ak,Option.bind_some]) (λk j x q hx⟨h1,h2,h3,h4,h5⟩=>by
    obtain⟨m,hm,rfl⟩:=ya hx;have hml:=zK hv (aS hm);have rF:m<q.2.length:=by rw[h1.len];exact hml
    have hj:j<9223372036854775807:=by have:=aA hm;omega
    have anX:i<q.2.length:=by rw[h1.len];exact yw
    have h2':q.2[i]?=some true:=h2;simp only[f72.eR.eq_2,aI (aA hx),au,aD hx,Option.bind_some,bW rF,bW anX,af,Int.toNat_natCast,aj hj,h2'];rcases J7 rF with hb|hb
    .refine⟨q,⟨h1,h2,λhc=>?_,h4,h5⟩,by simp only[hb,Option.bind_some,Bool.not_true,ak]⟩;obtain⟨g1,g2,g3⟩:=h3 hc;refine⟨g1,g2,λk' hk'=>?_⟩;rw[take_succ hm,List.mem_append,List.mem_singleton]at hk';rcases hk' with hk'|rfl;.exact g3 k' hk'
     .rw[<-g2];exact hb
    .refine⟨(true,q.2.set m true),⟨⟨by simp[h1.len],(ef rF).2 (.inr h1.zero),λk' hk'=>?_⟩,(ef rF).2 (.inr h2),(λhc=>by cases hc),?_,λ_=>.inr ?_⟩,by simp only[hb,Option.bind_some,Bool.not_false,au]⟩
     .rcases(ef rF).1 hk' with rfl|hk';.exact .step Om (aS hm)
      .exact h1.reach k' hk'
     .have:=tA hb;simp only;omega
     .have:=tA hb;simp only;omega) (k:=N) (s:=(c,s)) ⟨h,hb,λhc=>⟨hc,rfl,λk hk=>by simp at hk⟩,Nat.le_refl _,.inl⟩ (by rw[bF];omega);obtain⟨h1,h2,h3,h4,h5⟩:=hI;refine⟨s',c',h1,λhc=>?_,h4,h5,he⟩;obtain⟨g1,g2,g3⟩:=h3 hc;exact⟨g1,g2,λ_ k hk=>g3 k (by rw[bF,List.take_length];exact hk)⟩
 .refine⟨s,c,h,λhc=>⟨hc,rfl,λh'=>by unfold T at h';rw[hb]at h';cases h'⟩,Nat.le_refl _,.inl,?_⟩;obtain⟨N',rfl⟩:∃q,N=q+1:=⟨N-1,by omega⟩;rw[f72.eR.eq_2];cases hd:decide ((0:Int)<((cN (nx l i)).length:Int))with|false=>rfl|true=>simp[au,bW (show i<s.length by rw[h.len];exact yw),af,Int.toNat_natCast,hb,Option.bind_some,ak]
theorem QJ{N:Nat}{l:List Instr}(hv:VC l)(hN:500<N){s:List Bool}(h:QF l s):∃s' c,QF l s'/\(c=false->∀i,T s' i->∀k∈nx l i,T s' k)/\(c=true->cntF s'<cntF s)/\f72.mR N N (l,false,0,s)=some (l,c,s'):=by
 have hle:=hv.le;obtain⟨⟨c',s'⟩,hI,he⟩:=dY (l:=l) (g:=λq:Bool×List Bool=>(l,q.1,q.2)) (Inv:=λj q=>QF l q.2/\(q.1=false->q.2=s/\∀i,i<j->T s i->∀k∈nx l i,T s k)/\cntF q.2<=cntF s/\(q.1=true->cntF q.2<cntF s)) (Lf:=λk j q=>f72.mR N k (l,q.1,j,q.2)) (λk q _=>by simp only[f72.mR.eq_2,aL,ak]) (λk j x q hx⟨h1,h2,h3,h4⟩=>by
   have hj:=aA hx;obtain⟨s',c',g1,g2,g3,g4,g5⟩:=QI hv hN (c:=q.1) hj h1;refine⟨(c',s'),⟨g1,λhc=>?_,by simp only;omega,λhc=>?_⟩,by simp only[f72.mR.eq_2,aI hj,au,ye hv hj,Option.bind_some,g5,aj (show j<9223372036854775807by omega)]⟩
   .obtain⟨q1,q2,q3⟩:=g2 hc;obtain⟨q4,q5⟩:=h2 q1;simp only;refine⟨by rw[q2,q4],λi hi=>?_⟩;rw[q4]at q3;by_cases hij:i=j;.subst hij;exact q3
    .exact q5 i (by omega)
   .rcases g4 hc with hc|hc;.have:=h4 hc;simp only at*;omega
    .simp only at*;omega) (k:=N) (s:=(false,s)) ⟨h,λ_=>⟨rfl,λi hi=>by omega⟩,Nat.le_refl _,λhc=>by cases hc⟩ (by omega);obtain⟨h1,h2,h3,h4⟩:=hI;refine⟨s',c',h1,λhc i hi=>?_,h4,he⟩;obtain⟨g1,g2⟩:=h2 hc;cases g1;exact g2 i (by rw[<-h.len];exact hi.lt) hi
theorem Vh{N:Nat}{l:List Instr}(hv:VC l)(hN:500<N):F72 N l=some (dD l):=by have h1:=hv.pos;have h2:=hv.le;obtain⟨s,g1,g2,g3⟩:=rounds (Inv:=QF l) (Dz:=λs=>∀i,T s i->∀k∈nx l i,T s k) (μ:=cntF) (g:=λs=>s) (Lf:=λk c s=>f72.dB N k (l,c,s)) (λk s _ _=>by rw[f72.dB.eq_2];rfl) (λk s h=>by obtain⟨s',c,g1,g2,g3,g4⟩:=QJ hv hN h;exact⟨s',c,g1,g2,g3,by simp only[f72.dB.eq_2,au,g4,Option.bind_some]⟩) N _ (yc hv) (by have:=qM ((List.replicate l.length false).set 0 true);rw[yb]at this;omega);rw[F72.eq_1];simp only[Int.toNat_natCast,show decide ((0:Int)<=(l.length:Int))=true by simp,af,Nat.le_refl,decide_true,Bool.true_and,ah (show l.length<=10000000by omega) (show 1<=1000by omega),List.length_replicate,show fP 0 l.length=true from bW (i:=0) h1,show Int.toNat 0=0from rfl,qN h1,Option.bind_some,g3];rw[g1.all g2]
end Go.Proofs.YtdogilonhnbapaaGreatDoor
namespace Go.Proofs.YtdogilonhnbapaaGreatDoor
open Go Go.bI Go.Sym
open Classical
theorem Kb{N:Nat}{n:Int}(h0:0<=n)(h:n<=16):Mr N n=some ((2^n.toNat-1:Nat):Int):=by rw[Mr.eq_1,show(!decide (n<0))=true by simp;omega,af,Fh h0 h]
theorem MP{N:Nat}{x:Instr}(hN:500<N)(hc:dL x=true):Qn N (x.1,x.2.1,x.2.2.1,x.2.2.2)=some ((QH x:Nat):Int):=by rw[Qn.eq_1,u6 N hc,Option.bind_some];have h:=(n4 hc).2;have hl:=jM ny x;unfold QH;generalize aP ny x=l at h hl;have:=Fi (l:=l) (f:=tB) (g:=λm:Nat=>(m:Int)) (Inv:=λm=>m<2^16) (Lf:=λk i(m:Nat)=>f140.dB N k (l,(m:Int),i)) (λk s=>by simp only[f140.dB.eq_2,aL,ak]) (λk i x s hx hs=>by have hx2:=h x (aS hx);exact⟨Fj hs hx2.2,by simp only[f140.dB.eq_2,aI (aA hx),au,aD hx,Option.bind_some,show(!decide (x<0))=true by simp;omega,af,Va hs hx2.1 hx2.2,aj (show i<9223372036854775807by have:=aA hx;omega)]⟩) (k:=N) (s:=0) (by omega) (by omega);simp at this;rw[this];rfl
structure Rv(l:List Instr)(P F:Nat)(o:List Nat):Prop where
 len:o.length=l.length
 J8:∀k,sub (O o k) F
 p0:sub (O o 0) P
 great:∀S,Vd l P S->(∀k,sub (S k) F)->∀k,Reach l k->sub (S k) (O o k)
noncomputable def mv(n:Nat)(o:List Nat):Nat:=Ab n (O o)
theorem Zd{n m v:Nat}{o:List Nat}(hm:m<n)(ho:o.length=n)(hv:v<O o m):mv n (o.set m v)+1<=mv n o:=by have:=CM (n:=n) (m:=m) (f:=O (o.set m v)) (g:=O o) hm (λk hk=>by rw[fE (show m<o.length by omega),if_neg hk]);rw[fE (show m<o.length by omega),if_pos rfl]at this;unfold mv;omega
theorem MQ{N:Nat}{l:List Instr}{P F p s:Nat}(hv:VM l P F p s)(hN:500<N){c:Bool}{o:List Nat}{i:Nat}(yw:i<l.length)(h:Rv l P F o):∃o' c',Rv l P F o'/\(c'=false->c=false/\o'=o/\(Reach l i->∀k∈nx l i,sub (O o k) (O o i|||wr l i)))/\mv l.length o'<=mv l.length o/\(c'=true->c=true\/mv l.length o'<mv l.length o)/\f75.uj N N (l,dD l,c,(i:Int),cN (nx l i),0,cN o)=some (l,dD l,c',(i:Int),cN o'):=by
 have hnl:=qL l i;have Hr:∀{a:Nat},sub a F->a<2^64:=λha=>Nat.lt_of_lt_of_le (hv.lt ha) (by omega);have e1:=List.getElem?_eq_getElem yw;generalize l[i]=x at e1
 have QK:idx (dD l) (i:Int)=some (decide (Reach l i)):=aD (iZ yw);by_cases Om:Reach l i;.rw[decide_eq_true Om]at QK;obtain⟨⟨c',o'⟩,hI,he⟩:=dY (l:=cN (nx l i)) (g:=λq:Bool×List Nat=>(l,dD l,q.1,(i:Int),cN q.2)) (Inv:=λj q=>Rv l P F q.2/\(q.1=false->c=false/\q.2=o/\∀k∈(nx l i).take j,sub (O o k) (O o i|||wr l i))/\mv l.length q.2<=mv l.length o/\(q.1=true->c=true\/mv l.length q.2<mv l.length o)) (Lf:=λk j q=>f75.uj N k (l,dD l,q.1,(i:Int),cN (nx l i),j,cN q.2)) (λk q _=>by simp only[f75.uj.eq_2,aL,ak,Option.bind_some]) (λk j y q hy⟨h1,h2,h3,h4⟩=>by
    obtain⟨c1,o1⟩:=q;simp only at h1 h2 h3 h4;obtain⟨m,hm,rfl⟩:=ya hy;have hml:=zK hv.v (aS hm);have hmo:m<o1.length:=by rw[h1.len];exact hml
    have hio:i<o1.length:=by rw[h1.len];exact yw
    have hj:j<9223372036854775807:=by have:=aA hm;omega
    have hlF:sub (O o1 i|||wr l i) F:=MI (h1.J8 i) (hv.wF i);have hwx:QH x=wr l i:=(MM e1).symm;simp only[f75.uj.eq_2,aI (aA hm),au,QK,aD hy,aD e1,Option.bind_some,bF,bW hio,bW hmo,af,Int.toNat_natCast,gr hio,gr hmo,MP hN (hv.v.aE i x e1),hwx,AD (Hr (h1.J8 i)) (Hr (hv.wF i)),CJ (Hr (h1.J8 m)) (Hr hlF),aj hj,qQ];by_cases hnew:O o1 m&&&(O o1 i|||wr l i)=O o1 m
    .refine⟨(c1,o1),⟨h1,λhc=>?_,h3,h4⟩,by rw[hnew];simp⟩;obtain⟨g1,g2,g3⟩:=h2 hc;refine⟨g1,g2,λk hk=>?_⟩;rw[take_succ hm,List.mem_append,List.mem_singleton]at hk;rcases hk with hk|rfl;.exact g3 k hk
     .have:=oY (O o1 k) (O o1 i|||wr l i);rw[hnew,g2]at this;exact this
    .have hlt:=wT hnew;have Nk:=Zd (n:=l.length) hml h1.len hlt;have O6:∀k,sub (O (o1.set m (O o1 m&&&(O o1 i|||wr l i))) k) (O o1 k):=λk=>by
      rw[fE hmo];split;.rename_i e;subst e;exact qP _ _
      .exact ja _
     refine⟨(true,o1.set m (O o1 m&&&(O o1 i|||wr l i))),⟨⟨by simp[h1.len],λk=>fR (O6 k) (h1.J8 k),fR (O6 0) h1.p0,λS hS hb k hk=>?_⟩,λhc=>(by cases hc),by simp only;omega,λ_=>.inr (by simp only;omega)⟩,?_⟩
     .rw[fE hmo];split;.rename_i e;subst e;exact Hq (h1.great S hS hb k hk) (fR (hS.2 i Om k (aS hm)) (or_mono (h1.great S hS hb i Om) (ja _)))
      .exact h1.great S hS hb k hk
     .rw[show(((O o1 m&&&(O o1 i|||wr l i):Nat):Int)!=((O o1 m:Nat):Int))=true by rw[bne_iff_ne];omega,au]) (k:=N) (s:=(c,o)) ⟨h,λhc=>⟨hc,rfl,λk hk=>by simp at hk⟩,Nat.le_refl _,.inl⟩ (by rw[bF];omega);obtain⟨h1,h2,h3,h4⟩:=hI;refine⟨o',c',h1,λhc=>?_,h3,h4,he⟩;obtain⟨g1,g2,g3⟩:=h2 hc;exact⟨g1,g2,λ_ k hk=>g3 k (by rw[bF,List.take_length];exact hk)⟩
 .rw[decide_eq_false Om]at QK;refine⟨o,c,h,λhc=>⟨hc,rfl,λh'=>absurd h' Om⟩,Nat.le_refl _,.inl,?_⟩;obtain⟨N',rfl⟩:∃q,N=q+1:=⟨N-1,by omega⟩;rw[f75.uj.eq_2,QK]<;>grind
theorem MS{N:Nat}{l:List Instr}{P F p s:Nat}(hv:VM l P F p s)(hN:500<N){o:List Nat}(h:Rv l P F o):∃o' c,Rv l P F o'/\(c=false->∀i,Reach l i->∀k∈nx l i,sub (O o' k) (O o' i|||wr l i))/\(c=true->mv l.length o'<mv l.length o)/\f75.zB N N (l,dD l,false,0,cN o)=some (l,dD l,c,cN o'):=by
 have hle:=hv.le;obtain⟨⟨c',o'⟩,hI,he⟩:=dY (l:=l) (g:=λq:Bool×List Nat=>(l,dD l,q.1,cN q.2)) (Inv:=λj q=>Rv l P F q.2/\(q.1=false->q.2=o/\∀i,i<j->Reach l i->∀k∈nx l i,sub (O o k) (O o i|||wr l i))/\mv l.length q.2<=mv l.length o/\(q.1=true->mv l.length q.2<mv l.length o)) (Lf:=λk j q=>f75.zB N k (l,dD l,q.1,j,cN q.2)) (λk q _=>by simp only[f75.zB.eq_2,aL,ak]) (λk j x q hx⟨h1,h2,h3,h4⟩=>by
   have hj:=aA hx;obtain⟨o',c',g1,g2,g3,g4,g5⟩:=MQ hv hN (c:=q.1) hj h1;refine⟨(c',o'),⟨g1,λhc=>?_,by simp only;omega,λhc=>?_⟩,by simp only[f75.zB.eq_2,aI hj,au,ye hv.v hj,Option.bind_some,g5,aj (show j<9223372036854775807by omega)]⟩
   .obtain⟨q1,q2,q3⟩:=g2 hc;obtain⟨q4,q5⟩:=h2 q1;simp only;refine⟨by rw[q2,q4],λi hi=>?_⟩;rw[q4]at q3;by_cases hij:i=j;.subst hij;exact q3
    .exact q5 i (by omega)
   .rcases g4 hc with hc|hc;.have:=h4 hc;simp only at*;omega
    .simp only at*;omega) (k:=N) (s:=(false,o)) ⟨h,λ_=>⟨rfl,λi hi=>by omega⟩,Nat.le_refl _,λhc=>by cases hc⟩ (by omega);obtain⟨h1,h2,h3,h4⟩:=hI;refine⟨o',c',h1,λhc i hi=>?_,h4,he⟩;obtain⟨g1,g2⟩:=h2 hc;cases g1;exact g2 i (hi.lt hv.v) hi
theorem Ze{N:Nat}{l:List Instr}{P F p s:Nat}(hv:VM l P F p s)(hN:14000000<N):∃H,Vd l P H/\(∀S,Vd l P S->(∀k,sub (S k) F)->∀k,Reach l k->sub (S k) (H k))/\YR N (l,(p:Int),(s:Int))=some (cN (n5 l H)):=by
 have hpos:=hv.v.pos;have hle:=hv.le;have hs:=hv.sle;have hps:=hv.ps;obtain⟨o1,⟨a1,a2⟩,a3⟩:=dY (l:=l) (g:=λo:List Nat=>(l,(p:Int),dD l,cN o)) (Inv:=λj o=>o.length=l.length/\∀k,O o k=if k<j then F else 0) (Lf:=λk j o=>f75.dB N k (l,(p:Int),(s:Int),dD l,j,cN o)) (λk q _=>by simp only[f75.dB.eq_2,aL,ak]) (λk j x o hx⟨h1,h2⟩=>by
   have hj:=aA hx;have hjo:j<o.length:=by omega
   have hf:=Kb (N:=N) (n:=(s:Int)) (by omega) (by omega);rw[Int.toNat_natCast,<-hv.eF]at hf;refine⟨o.set j F,⟨by simp[h1],λk=>?_⟩,by simp only[f75.dB.eq_2,aI hj,au,hf,Option.bind_some,bF,bW hjo,af,Int.toNat_natCast,gr hjo,qQ,aj (show j<9223372036854775807by omega)]⟩;rw[fE hjo,h2];by_cases hk:k=j;.subst hk;rw[if_pos rfl,if_pos (by omega)]
   .rw[if_neg hk];by_cases hk2:k<j;.rw[if_pos hk2,if_pos (by omega)]
    .rw[if_neg hk2,if_neg (by omega)]) (k:=N) (s:=List.replicate l.length 0) ⟨by simp,λk=>by rw[Ve,if_neg (by omega)]⟩ (by omega);have h0:0<o1.length:=by omega
 have hO:∀k,O (o1.set 0 P) k=if k=0then P else if k<l.length then F else 0:=λk=>by rw[fE h0,a2]
 have start:Rv l P F (o1.set 0 P):=⟨by simp[a1],λk=>by
   rw[hO];split;.exact hv.PF
   .split;.exact ja _
    .exact zero_sub _,by rw[hO,if_pos rfl];exact ja _,λS hS hb k hk=>by
   rw[hO];split;.rename_i e;subst e;exact hS.1
   .rw[if_pos (hk.lt hv.v)];exact hb k⟩;obtain⟨o2,b1,b2,b3⟩:=rounds (Inv:=Rv l P F) (Dz:=λo=>∀i,Reach l i->∀k∈nx l i,sub (O o k) (O o i|||wr l i)) (μ:=mv l.length) (g:=λo=>(l,dD l,cN o)) (Lf:=λk c o=>f75.nU N k (l,dD l,c,cN o)) (λk o _ _=>by rw[f75.nU.eq_2];rfl) (λk o h=>by obtain⟨o',c,g1,g2,g3,g4⟩:=MS (N:=N) hv (by omega) h;exact⟨o',c,g1,g2,g3,by simp only[f75.nU.eq_2,au,g4,Option.bind_some]⟩) N _ start (by have:mv l.length (o1.set 0 P)<=l.length*65536:=On λk=>Nat.le_of_lt (hv.lt (start.J8 k));omega);refine⟨O o2,⟨b1.p0,b2⟩,b1.great,?_⟩;obtain⟨o3,⟨c1,c2⟩,c3⟩:=dY (l:=l) (g:=λo:List Nat=>cN o) (Inv:=λj o=>o.length=l.length/\∀k,k<l.length->O o k=if k<j then(if Reach l k/\k≠l.length-1then O o2 k else 0)else O o2 k) (Lf:=λk j o=>f75.zC N k (l,dD l,j,cN o)) (λk q _=>by simp only[f75.zC.eq_2,aL,ak]) (λk j x o hx⟨h1,h2⟩=>by
   have hj:=aA hx;have hjo:j<o.length:=by omega
   have QK:idx (dD l) (j:Int)=some (decide (Reach l j)):=aD (iZ hj);have Vg:=tS hpos (show l.length<=10000000by omega);simp only[f75.zC.eq_2,aI hj,au,QK,Option.bind_some,Vg,dK,bF,bW hjo,af,Int.toNat_natCast,gr hjo,aj (show j<9223372036854775807by omega)];by_cases hr:Reach l j/\j≠l.length-1
   .refine⟨o,⟨h1,λk hk=>?_⟩,?_⟩
    .rw[h2 k hk];by_cases hkj:k=j;.subst hkj;rw[if_neg (show¬k<k by omega),if_pos (show k<k+1by omega),if_pos hr]
     .by_cases hk2:k<j;.rw[if_pos hk2,if_pos (show k<j+1by omega)]
      .rw[if_neg hk2,if_neg (show¬k<j+1by omega)]
    .rw[decide_eq_true hr.1,show(((j:Nat):Int)==((l.length-1:Nat):Int))=false by rw[beq_eq_false_iff_ne];omega];rfl
   .refine⟨o.set j 0,⟨by simp[h1],λk hk=>?_⟩,?_⟩
    .rw[fE hjo];by_cases hkj:k=j;.subst hkj;rw[if_pos rfl,if_pos (show k<k+1by omega),if_neg hr]
     .rw[if_neg hkj,h2 k hk];by_cases hk2:k<j;.rw[if_pos hk2,if_pos (show k<j+1by omega)]
      .rw[if_neg hk2,if_neg (show¬k<j+1by omega)]
    .have:(!decide (Reach l j)||(((j:Nat):Int)==((l.length-1:Nat):Int)))=true:=by
      rw[Bool.or_eq_true];by_cases h1:Reach l j
      .right;rw[beq_iff_eq];by_cases h2:j=l.length-1;.rw[h2]
       .exact absurd ⟨h1,h2⟩ hr
      .left;rw[decide_eq_false h1];rfl
     rw[this,au,show(0:Int)=((0:Nat):Int)from rfl,qQ]) (k:=N) (s:=o2) ⟨b1.len,λk hk=>by rw[if_neg (by omega)]⟩ (by omega);have hf:=Kb (N:=N) (n:=(p:Int)) (by omega) (by omega);rw[Int.toNat_natCast,<-hv.eP]at hf;have afu:o3=n5 l (O o2):=Ka c1 λk hk=>by rw[c2 k hk,if_pos hk]
 rw[YR.eq_1];simp only[Vh hv.v (show 500<N by omega),Option.bind_some,Int.toNat_natCast,show decide ((0:Int)<=(l.length:Int))=true by simp,af,Nat.le_refl,decide_true,Bool.true_and,ah (show l.length<=10000000by omega) (show 8<=1000by omega),Vf,a3,hf,bF,show fP 0 o1.length=true from bW (i:=0) h0,show Int.toNat 0=0from rfl,gr h0,qQ,b3,c3];rw[afu]
theorem Kc{l:List Instr}{G H:Nat->Nat}(h:∀k,Reach l k->G k=H k):n5 l G=n5 l H:=by unfold n5<;>grind
end Go.Proofs.YtdogilonhnbapaaGreatDoor
