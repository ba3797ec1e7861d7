/- A part of the proof: Law21tl7h, Law21tr7a, Law21tr7b. -/
import Derived.Test.YtkdilffhbejjaaaGreatLaw21tl7g
set_option linter.unusedVariables false
set_option linter.unusedSimpArgs false
namespace Go.Proofs.YtkdilffhbejjaaaGreat
open Go Go.bM Go.Sym
open Classical
theorem alg{n:Nat}{b:List Bool}{o:List Nat}(h:∀k,O o k<65536):mu n b o<=n*65536:=N7 λk=>by grind
theorem Wr(n k:Nat):O (List.replicate n 0) k=0:=by simp only[O,ci,m8]<;>grind
theorem Ws(n:Nat):List.replicate n (0:Int)=cN (List.replicate n 0):=by simp[cN]
noncomputable def pH(l:List Instr)(G:Nat->Nat):List Nat:=(List.range l.length).map λk=>if Reach l k/\k≠l.length-1then G k else 0
theorem yI(l:List Instr)(G:Nat->Nat):(pH l G).length=l.length:=by simp[pH]
theorem FL{l:List Instr}{G:Nat->Nat}{k:Nat}(h:k<l.length):O (pH l G) k=if Reach l k/\k≠l.length-1then G k else 0:=by simp[O,ci,pH,h]
theorem Kh{l:List Instr}{G:Nat->Nat}{o:List Nat}(hl:o.length=l.length)(h:∀k,k<l.length->O o k=if Reach l k/\k≠l.length-1then G k else 0):o=pH l G:=alb (by rw[hl,yI]) λk hk=>by rw[h k (by omega),FL (by omega)]
theorem MD{N:Nat}{l:List Instr}{P F p s:Nat}(hv:VM l P F p s)(hN:14000000<N){ws:List Nat}(B6:∀k,O ws k=wr l k)(hwl:ws.length=l.length):∃G o,Dp l P F G/\o.length=l.length/\(∀k,k<l.length->O o k=if Reach l k then G k else 0)/\f110.jz N N (l,(p:Int),(List.replicate l.length false).set 0 true,(cN (List.replicate l.length 0)).set 0 (P:Int),cN ws,[(0:Int)])=some (cN o):=by
 have hpos:=hv.v.pos;have hle:=hv.le;have hP:sub P F:=hv.PF;have hO0:∀k,O ((List.replicate l.length 0).set 0 P) k=if k=0then P else 0:=λk=>by rw[fR (by simp;omega),Wr]
 have start:Lv l P F ((List.replicate l.length false).set 0 true) ((List.replicate l.length 0).set 0 P):=⟨yH hv.v,by simp,λk=>by
   rw[hO0];split;.exact hP
   .exact zero_sub _,by rw[hO0,bb rfl];exact j6 _,λk hk=>by rw[hO0,be λe=>hk ((kf hpos k).2 e)],λS hS k hk=>by rw[(kf hpos k).1 hk,hO0,bb rfl];exact hS.1⟩;have hmu:∀b o,Lv l P F b o->mu l.length b o<=13200000:=λb o h=>by have:=alg (n:=l.length) (b:=b) (o:=o) λk=>hv.lt (h.KG k);omega
 obtain⟨⟨b,o⟩,hI,he⟩:=xl (Inv:=λt q=>LvP l P F t.1 t.2 q/\mu l.length t.1 t.2+q.length<=13200001) (μ:=λt=>mu l.length t.1 t.2) (g:=λt=>cN t.2) (Lf:=λk t q=>f110.jz N k (l,(p:Int),t.1,cN t.2,cN ws,cN q)) (λk t _=>by rw[show cN []=[]from rfl,f110.jz.eq_2];rfl) (λk t q i⟨h,hm⟩=>by
   rw[ba,dj]at hm;have hi:T t.1 i:=h.xl i (by simp);have yY:i<l.length:=by rw[<-h.lv.W5.len];exact hi.lt
   obtain⟨b',o',r,h1,h2,h3⟩:=Kg (N:=N) hv (by omega) B6 hwl h (by omega);refine⟨(b',o'),r,⟨h1,by rw[ba];simp only;omega⟩,h2,?_⟩;have hlen:(cN (q++[i])).length=q.length+1:=by simp[cN]
   have e1:av (((q.length+1:Nat):Int)-1)=(q.length:Int):=by rw[aI (by omega)];omega
   have e2:(cN (q++[i]))[q.length]?=some (i:Int):=by simp[cN]
   have e3:(cN (q++[i])).take q.length=cN q:=by simp[cN]
   simp only[f110.jz.eq_2,hlen,e1,bm (show((q.length+1:Nat):Int)>0 by omega),aq,cl (show q.length<q.length+1by omega),aj,bd,e2,ae,show decide ((0:Int)<=(q.length:Int))=true by simp,show decide (q.length<=q.length+1)=true by simp,Mu hv.v yY,e3,h3]) N ((List.replicate l.length false).set 0 true,(List.replicate l.length 0).set 0 P) [0] ⟨⟨start,λk hk=>by simp at hk;subst hk;exact(kf hpos 0).2 rfl,λi hi=>.inl (by rw[(kf hpos i).1 hi];simp)⟩,by have:=hmu _ _ start;simp only[dj];omega⟩ (by have:=hmu _ _ start;simp only[dj];omega);obtain⟨⟨h1,h2,h3⟩,_⟩:=hI;have hsh:∀i,T b i->∀k∈nx l i,T b k/\sub (O o k) (O o i|||wr l i):=λi hi=>by
  rcases h3 i hi with g|g;.simp at g
  .exact g
 have hall:=h1.W5.all λi hi k hk=>(hsh i hi k hk).1;have hT:∀k,T b k↔Reach l k:=λk=>by simp only at hall;rw[hall];exact Wn hv.v
 refine⟨O o,o,⟨⟨h1.p0,λi hi k hk=>(hsh i ((hT i).2 hi) k hk).2⟩,h1.KG,λS hS k hk=>h1.tS S hS k ((hT k).2 hk)⟩,h1.len,λk hk=>?_,by rw[show[(0:Int)]=cN [0]from rfl,rK];exact he⟩;split;.rfl
 .rename_i hn;exact h1.un k λh=>hn ((hT k).1 h)
theorem fdiv_pow{a s:Nat}(hs:s<=16):(Int.fdiv (a:Int) (2^min (Int.toNat (s:Int)) 64)!=0)=decide (¬a<2^s):=by
 rw[bd,pw (by omega)];have e:(2:Int)^s=((2^s:Nat):Int):=by simp
 have hp:=Nat.one_le_two_pow (n:=s);rw[e,pC _ (Int.natCast_nonneg _),<-Int.natCast_ediv];by_cases h:a<2^s;.rw[Nat.div_eq_of_lt h,bv (not_not.2 h)];rfl
 .rw[bm h];have:a/2^s≠0:=λe=>by
   rw[Nat.div_eq_zero_iff]at e;rcases e with e|e;.omega
   .exact h e
  grind
theorem Wt{l:List Instr}{i:Nat}{x:Instr}(h:l[i]?=some x):wr l i=QZ x:=by simp[wr,h]
theorem Hz{N:Nat}{l:List Instr}(hv:VC l)(hN:500<N){p s:Nat}(hs:s<=16):if nK l s then∃ws:List Nat,(∀k,O ws k=wr l k)/\ws.length=l.length/\f110.eE N N (l,(s:Int),l,(l.length:Int),0,(p:Int),cN (List.replicate l.length 0))=some (.inr (l,(p:Int),cN ws))else f110.eE N N (l,(s:Int),l,(l.length:Int),0,(p:Int),cN (List.replicate l.length 0))=some (.inl 16):=by
 have hle:=hv.le;have key:=de (l:=l) (Out:=λr=>r=.inl 16/\nK l s=false) (g:=λws:List Nat=>(.inr (l,(p:Int),cN ws):Int⊕(List Instr×Int×List Int))) (Inv:=λj ws=>ws.length=l.length/\(∀k,O ws k=if k<j then wr l k else 0)/\∀k x,k<j->l[k]?=some x->W3 x<2^s) (Lf:=λk i ws=>f110.eE N k (l,(s:Int),l,(l.length:Int),i,(p:Int),cN ws)) (λk ws _=>by simp only[f110.eE.eq_2,aJ,af]) (λk j x ws hx⟨h1,h2,h3⟩=>by
   have hj:=aC hx;have hc:=hv.aF j x hx;have hw:j<ws.length:=by omega
   have xZ:=oM hc;have e1:(cN ws).set j ((gy 0 (bg pT x):Nat):Int)=cN (ws.set j (QZ x)):=rK _ _ _;have B6:j<(ws.set j (QZ x)).length:=by simp;exact hw
   have aeH:∀{a:Nat},a<2^16->a<2^64:=λh=>Dk h (by omega);simp only[f110.eE.eq_2,aG hj,aq,aD hx,ae,Mr,hc,show((0:Int)!=0)=false from rfl,af,Wq hN (kr pT x) xZ.2,Wq hN (kr mD x) xZ.1,bL,cl hw,aj,bd,gH hw,e1,cl B6,gH B6,fR hw,ii,A2 (aeH (Ak (m:=0) xZ.1 (by omega))) (aeH (aeF hc)),show(!decide ((s:Int)<0))=true by simp];have hu:gy 0 (bg mD x)|||QZ x=W3 x:=by rw[W3,Al (bg pT x)];rfl
   rw[hu];have hf:=fdiv_pow (a:=W3 x) hs;rw[bd]at hf;simp only[hf];by_cases hsu:W3 x<2^s
   .right;rw[bv (not_not.2 hsu),af];refine⟨ws.set j (QZ x),⟨by simp[h1],λk=>?_,λk y hk hy=>?_⟩,by rw[ai (by omega)]⟩
    .rw[fR hw,h2];by_cases hk:k=j;.subst hk;rw[bb rfl,bb (by omega),Wt hx]
     .rw[be hk];by_cases hk2:k<j;.rw[bb hk2,bb (by omega)]
      .rw[be hk2,be (by omega)]
    .by_cases hk2:k=j;.subst hk2;rw[hx]at hy;injection hy with hy;subst hy;exact hsu
     .exact h3 k y (by omega) hy
   .left;rw[bm hsu,aq];refine⟨_,⟨rfl,?_⟩,rfl⟩;simp only[nK,ph,ls,db];exact⟨x,aU hx,hsu⟩) (k:=N) (s:=List.replicate l.length 0) ⟨by simp,λk=>by rw[Wr,be (by omega)],λk x hk=>by omega⟩ (by omega);rcases key with⟨r,⟨h1,h2⟩,h3⟩|⟨ws,⟨h1,h2,h3⟩,h4⟩;.grind
 .have hb:nK l s=true:=by simp only[nK,eK,qr,db,not_not];intro x hx;obtain⟨i,hi,rfl⟩:=f8.1 hx<;>simp_all
  rw[hb];refine⟨ws,λk=>?_,h1,h4⟩;rw[h2];split;.rfl
  .rw[wr,dT (by omega)]
theorem Wu{N:Nat}{l:List Instr}(hN:14000000<N)(hl:l.length<=9223372036854775807)(Hu:jX l=true->l.length<=200)(params most:Int):if jX l then if Kf l params most=0then∃G,VM l (2^params.toNat-1) (2^most.toNat-1) params.toNat most.toNat/\Dp l (2^params.toNat-1) (2^most.toNat-1) G/\JH N (l,params,most)=some (cN (pH l G),0)else JH N (l,params,most)=some ([],Kf l params most)else JH N (l,params,most)=some ([],8):=by rw[JH.eq_1,Mt (by omega) hl];cases h:jX l with|false=>rfl|true=>
  have hv:=xh h;have h1:=hv.pos;have h2:=Hu h;simp only[aq,show((0:Int)!=0)=false from rfl,af,ii,or4,YZ,ae];unfold Kf;by_cases ha:most<0\/most>16\/params<0\/params>most;.rw[bb ha,bm ha,aq,be (by decide)]
  .rw[be ha,bv ha,af];simp only[rh,Int.not_lt]at ha;obtain⟨s,rfl⟩:∃s:Nat,most=(s:Int):=⟨most.toNat,by omega⟩;obtain⟨p,rfl⟩:∃p:Nat,params=(p:Int):=⟨params.toNat,by omega⟩;have hs:s<=16:=by omega
   have hps:p<=s:=by omega
   simp only[bd,show decide ((0:Int)<=(l.length:Int))=true by simp,aj,bc,nl,fr,ak (show l.length<=10000000by omega) (show 8<=1000by omega),ak (show l.length<=10000000by omega) (show 1<=1000by omega),Ws];have key:=Hz (N:=N) hv (by omega) (p:=p) hs;by_cases hb:nK l s=true;case neg=>rw[be hb]at key;rw[be (show¬(if nK l s=true then(0:Int)else 16)=0 by rw[be hb];decide),be hb,key];rfl
   case pos=>
    rw[bb hb]at key;rw[bb (show(if nK l s=true then(0:Int)else 16)=0 by rw[bb hb])];obtain⟨ws,k1,k2,k3⟩:=key;have hVM:VM l (2^p-1) (2^s-1) p s:=⟨hv,h2,hs,hps,rfl,rfl,λi x hx=>by simp only[nK,eK,qr,db,not_not]at hb;exact hb x (aU hx)⟩;obtain⟨G,o,g1,g2,g3,g4⟩:=MD hVM hN k1 k2;refine⟨G,hVM,g1,?_⟩;have e0:aL ((aL ((1:Int)*(2^min p 64)))-1)=((2^p-1:Nat):Int):=FI (n:=(p:Int)) (by omega) (by omega);have Wv:av ((o.length:Int)-1)=((l.length-1:Nat):Int):=by rw[g2];exact uv h1 (by omega)
    simp only[k3,ae,bd,show decide ((0:Int)<=(l.length:Int))=true by simp,aj,bc,nl,fr,ak (show l.length<=10000000by omega) (show 8<=1000by omega),ak (show l.length<=10000000by omega) (show 1<=1000by omega),show(!decide ((p:Int)<0))=true by simp,jn,bL,show ga 0 l.length=true from cl (i:=0) h1,show Int.toNat 0=0from rfl,rI h1,gH (show 0<(List.replicate l.length 0).length by simp;omega),e0,g4,Wv,cl (show l.length-1<o.length by omega),gH (show l.length-1<o.length by omega)];congr 2;rw[show(0:Int)=((0:Nat):Int)from rfl,rK];congr 1;refine Kh (by simp[g2]) λk hk=>?_;rw[fR (by omega)];by_cases Xz:k=l.length-1;.rw[bb Xz,be (λh'=>h'.2 Xz)]
    .rw[be Xz,g3 k hk];by_cases hr:Reach l k;.rw[bb hr,bb ⟨hr,Xz⟩]
     .rw[be hr,be (λh'=>hr h'.1)]
end Go.Proofs.YtkdilffhbejjaaaGreat
namespace Go.Proofs.YtkdilffhbejjaaaGreat
open Go Go.bM Go.Sym
open Classical
theorem vA(N:Nat){x:Instr}(hc:eA x=true):Ma N (x.1,x.2.1,x.2.2.1,x.2.2.2)=some (bg mD x,bg pT x):=by rw[Ma.eq_1,tI];unfold bg;cases hs:wZ x.1with|none=>simp[eA,hs]at hc|some s=>obtain⟨a,b,c⟩:=s;obtain⟨h1,h2,h3⟩:=Mf hs;have e0:idx [a,b,c] 0=some a:=rfl;have e1:idx [a,b,c] 1=some b:=rfl;have e2:idx [a,b,c] 2=some c:=rfl;simp only[ae,JJ.eq_1,e0,e1,e2,V9 h1,V9 h2,V9 h3,Wa h1,Wa h2,Wa h3];cases mD a x.2.1<;>cases pT a x.2.1<;>cases mD b x.2.2.1<;>cases pT b x.2.2.1<;>cases mD c x.2.2.2<;>cases pT c x.2.2.2<;>rfl
theorem ME{N:Nat}{l:List Instr}(hN:210<N)(hl:l.length<=9223372036854775807)(hx:∀x∈l,okI x):UD N l=some (bif jX l then 0 else 8):=by
 rw[UD.eq_1];unfold jX;by_cases h1:1<=l.length
 .rw[show decide ((l.length:Int)<1)=false by simp;omega,af,bm h1,ae];by_cases h2:l.length<=200;.rw[show decide ((l.length:Int)>200)=false by simp;omega,af,bm h2];have key:=JO (l:=l) (a:=(.inr l:Int⊕List Instr)) (b:=.inl 8) (p:=Ms (l.length:Int)) (Lf:=λk i=>f173.aP N k (l,i)) (λk=>by simp only[f173.aP.eq_2,aJ,af]) (λk i x hm hi=>by simp only[f173.aP.eq_2,aG (aC hi),aq,aD hi,ae,CZ N (hx x hm),N1,ai (show i<9223372036854775807by have:=aC hi;omega)];cases h1:eA x<;>cases h2:J8 (l.length:Int) x<;>simp[Ms,h1,h2]) N (by omega);rw[key];cases l.any (Ms (l.length:Int))with|true=>rfl|false=>simp only[io,m6,J9 h1 hl,ae];show(bif !(Wb (Ag l))then _ else _)=_;grind
  grind
 grind
theorem yJ{N:Nat}{l:List Instr}(h:VC l){i:Nat}(hi:i<l.length):PN N (l,(i:Int))=some (cN (nx l i)):=by exact We h hi
theorem Qs{N:Nat}{l:List Instr}(hv:VC l)(hN:500<N){c:Bool}{s:List Bool}{i:Nat}(yY:i<l.length)(h:Qq l s):∃s' c',Qq l s'/\(c'=false->c=false/\s'=s/\(T s i->∀k∈nx l i,T s k))/\fI s'<=fI s/\(c'=true->c=true\/fI s'<fI s)/\f174.fe N N (l,c,(i:Int),cN (nx l i),0,s)=some (l,c',(i:Int),s'):=by
 have auq:=rF l i;rcases Ke (b:=s) (i:=i) (by rw[h.len];exact yY)with hb|hb
 .have N6:=h.reach i hb;obtain⟨⟨c',s'⟩,hI,he⟩:=fO (l:=cN (nx l i)) (g:=λq:Bool×List Bool=>(l,q.1,(i:Int),q.2)) (Inv:=λj q=>Qq l q.2/\T q.2 i/\(q.1=false->c=false/\q.2=s/\∀k∈(nx l i).take j,T s k)/\fI q.2<=fI s/\(q.1=true->c=true\/fI q.2<fI s)) (Lf:=λk j q=>f174.fe N k (l,q.1,(i:Int),cN (nx l i),j,q.2)) (λk q _=>by simp only[f174.fe.eq_2,aJ,af,ae]) (λk j x q hx⟨h1,h2,h3,h4,h5⟩=>by
    obtain⟨m,hm,rfl⟩:=yF hx;have hml:=Ah hv (aU hm);have r7:m<q.2.length:=by rw[h1.len];exact hml
    have hj:j<9223372036854775807:=by have:=aC hm;omega
    have aqe:i<q.2.length:=by rw[h1.len];exact yY
    have h2':q.2[i]?=some true:=h2;simp only[f174.fe.eq_2,aG (aC hx),aq,aD hx,ae,cl r7,cl aqe,aj,bd,ai hj,h2'];rcases Ke r7 with hb|hb
    .refine⟨q,⟨h1,h2,λhc=>?_,h4,h5⟩,by simp only[hb,ae,da,af]⟩;obtain⟨g1,g2,g3⟩:=h3 hc;refine⟨g1,g2,λk' hk'=>?_⟩;rw[take_succ hm,bj,bo]at hk';rcases hk' with hk'|rfl;.exact g3 k' hk'
     .rw[<-g2];exact hb
    .refine⟨(true,q.2.set m true),⟨⟨by simp[h1.len],(eG r7).2 (.inr h1.zero),λk' hk'=>?_⟩,(eG r7).2 (.inr h2),(λhc=>by cases hc),?_,λ_=>.inr ?_⟩,by simp only[hb,ae,ge,aq]⟩
     .rcases(eG r7).1 hk' with rfl|hk';.exact .step N6 (aU hm)
      .exact h1.reach k' hk'
     .have:=tQ hb;simp only;omega
     .have:=tQ hb;simp only;omega) (k:=N) (s:=(c,s)) ⟨h,hb,λhc=>⟨hc,rfl,λk hk=>by simp at hk⟩,bc _,.inl⟩ (by rw[bL];omega);obtain⟨h1,h2,h3,h4,h5⟩:=hI;refine⟨s',c',h1,λhc=>?_,h4,h5,he⟩;obtain⟨g1,g2,g3⟩:=h3 hc;exact⟨g1,g2,λ_ k hk=>g3 k (by rw[bL,fi];exact hk)⟩
 .refine⟨s,c,h,λhc=>⟨hc,rfl,λh'=>by unfold T at h';rw[hb]at h';cases h'⟩,bc _,.inl,?_⟩;obtain⟨N',rfl⟩:∃q,N=q+1:=⟨N-1,by omega⟩;rw[f174.fe.eq_2];cases hd:decide ((0:Int)<((cN (nx l i)).length:Int))with|false=>rfl|true=>simp[aq,cl (show i<s.length by rw[h.len];exact yY),aj,bd,hb,ae,af]
theorem Qt{N:Nat}{l:List Instr}(hv:VC l)(hN:500<N){s:List Bool}(h:Qq l s):∃s' c,Qq l s'/\(c=false->∀i,T s' i->∀k∈nx l i,T s' k)/\(c=true->fI s'<fI s)/\f174.jd N N (l,false,0,s)=some (l,c,s'):=by
 have hle:=hv.le;obtain⟨⟨c',s'⟩,hI,he⟩:=fO (l:=l) (g:=λq:Bool×List Bool=>(l,q.1,q.2)) (Inv:=λj q=>Qq l q.2/\(q.1=false->q.2=s/\∀i,i<j->T s i->∀k∈nx l i,T s k)/\fI q.2<=fI s/\(q.1=true->fI q.2<fI s)) (Lf:=λk j q=>f174.jd N k (l,q.1,j,q.2)) (λk q _=>by simp only[f174.jd.eq_2,aJ,af]) (λk j x q hx⟨h1,h2,h3,h4⟩=>by
   have hj:=aC hx;obtain⟨s',c',g1,g2,g3,g4,g5⟩:=Qs hv hN (c:=q.1) hj h1;refine⟨(c',s'),⟨g1,λhc=>?_,by simp only;omega,λhc=>?_⟩,by simp only[f174.jd.eq_2,aG hj,aq,yJ hv hj,ae,g5,ai (show j<9223372036854775807by omega)]⟩
   .obtain⟨q1,q2,q3⟩:=g2 hc;obtain⟨q4,q5⟩:=h2 q1;simp only;refine⟨by rw[q2,q4],λi hi=>?_⟩;rw[q4]at q3;by_cases hij:i=j;.subst hij;exact q3
    .exact q5 i (by omega)
   .rcases g4 hc with hc|hc;.have:=h4 hc;simp only at*;omega
    .simp only at*;omega) (k:=N) (s:=(false,s)) ⟨h,λ_=>⟨rfl,λi hi=>by omega⟩,bc _,λhc=>by cases hc⟩ (by omega);obtain⟨h1,h2,h3,h4⟩:=hI;refine⟨s',c',h1,λhc i hi=>?_,h4,he⟩;obtain⟨g1,g2⟩:=h2 hc;cases g1;exact g2 i (by rw[<-h.len];exact hi.lt) hi
theorem Ww{N:Nat}{l:List Instr}(hv:VC l)(hN:500<N):PO N l=some (ep l):=by have h1:=hv.pos;have h2:=hv.le;obtain⟨s,g1,g2,g3⟩:=rounds (Inv:=Qq l) (D6:=λs=>∀i,T s i->∀k∈nx l i,T s k) (μ:=fI) (g:=λs=>s) (Lf:=λk c s=>f174.cW N k (l,c,s)) (λk s _ _=>by rw[f174.cW.eq_2];rfl) (λk s h=>by obtain⟨s',c,g1,g2,g3,g4⟩:=Qt hv hN h;exact⟨s',c,g1,g2,g3,by simp only[f174.cW.eq_2,aq,g4,ae]⟩) N _ (yH hv) (by have:=rG ((List.replicate l.length false).set 0 true);rw[yG]at this;omega);rw[PO.eq_1];simp only[bd,show decide ((0:Int)<=(l.length:Int))=true by simp,aj,bc,nl,fr,ak (show l.length<=10000000by omega) (show 1<=1000by omega),jn,show ga 0 l.length=true from cl (i:=0) h1,show Int.toNat 0=0from rfl,rI h1,ae,g3];rw[g1.all g2]
end Go.Proofs.YtkdilffhbejjaaaGreat
namespace Go.Proofs.YtkdilffhbejjaaaGreat
open Go Go.bM Go.Sym
open Classical
theorem Ki{N:Nat}{n:Int}(h0:0<=n)(h:n<=16):PY N n=some ((2^n.toNat-1:Nat):Int):=by rw[PY.eq_1,show(!decide (n<0))=true by simp;omega,aj,FI h0 h]
theorem MF{N:Nat}{x:Instr}(hN:500<N)(hc:eA x=true):UZ N (x.1,x.2.1,x.2.2.1,x.2.2.2)=some ((QZ x:Nat):Int):=by rw[UZ.eq_1,vA N hc,ae];have h:=(oM hc).2;have hl:=kr pT x;unfold QZ;generalize bg pT x=l at h hl;have:=FJ (l:=l) (f:=tR) (g:=λm:Nat=>(m:Int)) (Inv:=λm=>m<2^16) (Lf:=λk i(m:Nat)=>f215.cW N k (l,(m:Int),i)) (λk s=>by simp only[f215.cW.eq_2,aJ,af]) (λk i x s hx hs=>by have hx2:=h x (aU hx);exact⟨FK hs hx2.2,by simp only[f215.cW.eq_2,aG (aC hx),aq,aD hx,ae,show(!decide (x<0))=true by simp;omega,aj,Wo hs hx2.1 hx2.2,ai (show i<9223372036854775807by have:=aC hx;omega)]⟩) (k:=N) (s:=0) (by omega) (by omega);simp at this;rw[this];rfl
structure Rv(l:List Instr)(P F:Nat)(o:List Nat):Prop where
 len:o.length=l.length
 KG:∀k,sub (O o k) F
 p0:sub (O o 0) P
 tS:∀S,W4 l P S->(∀k,sub (S k) F)->∀k,Reach l k->sub (S k) (O o k)
noncomputable def mv(n:Nat)(o:List Nat):Nat:=Az n (O o)
theorem Y1{n m v:Nat}{o:List Nat}(hm:m<n)(ho:o.length=n)(hv:v<O o m):mv n (o.set m v)+1<=mv n o:=by have:=Dn (n:=n) (m:=m) (f:=O (o.set m v)) (g:=O o) hm (λk hk=>by rw[fR (show m<o.length by omega),be hk]);rw[fR (show m<o.length by omega),bb rfl]at this;unfold mv;omega
theorem MG{N:Nat}{l:List Instr}{P F p s:Nat}(hv:VM l P F p s)(hN:500<N){c:Bool}{o:List Nat}{i:Nat}(yY:i<l.length)(h:Rv l P F o):∃o' c',Rv l P F o'/\(c'=false->c=false/\o'=o/\(Reach l i->∀k∈nx l i,sub (O o k) (O o i|||wr l i)))/\mv l.length o'<=mv l.length o/\(c'=true->c=true\/mv l.length o'<mv l.length o)/\f177.kG N N (l,ep l,c,(i:Int),cN (nx l i),0,cN o)=some (l,ep l,c',(i:Int),cN o'):=by
 have hnl:=rF l i;have Hy:∀{a:Nat},sub a F->a<2^64:=λha=>i7 (hv.lt ha) (by omega);have e1:=al yY;generalize l[i]=x at e1
 have Qu:idx (ep l) (i:Int)=some (decide (Reach l i)):=aD (kq yY);by_cases N6:Reach l i;.rw[bm N6]at Qu;obtain⟨⟨c',o'⟩,hI,he⟩:=fO (l:=cN (nx l i)) (g:=λq:Bool×List Nat=>(l,ep l,q.1,(i:Int),cN q.2)) (Inv:=λj q=>Rv l P F q.2/\(q.1=false->c=false/\q.2=o/\∀k∈(nx l i).take j,sub (O o k) (O o i|||wr l i))/\mv l.length q.2<=mv l.length o/\(q.1=true->c=true\/mv l.length q.2<mv l.length o)) (Lf:=λk j q=>f177.kG N k (l,ep l,q.1,(i:Int),cN (nx l i),j,cN q.2)) (λk q _=>by simp only[f177.kG.eq_2,aJ,af,ae]) (λk j y q hy⟨h1,h2,h3,h4⟩=>by
    obtain⟨c1,o1⟩:=q;simp only at h1 h2 h3 h4;obtain⟨m,hm,rfl⟩:=yF hy;have hml:=Ah hv.v (aU hm);have hmo:m<o1.length:=by rw[h1.len];exact hml
    have hio:i<o1.length:=by rw[h1.len];exact yY
    have hj:j<9223372036854775807:=by have:=aC hm;omega
    have hlF:sub (O o1 i|||wr l i) F:=MA (h1.KG i) (hv.wF i);have hwx:QZ x=wr l i:=(Wt e1).symm;simp only[f177.kG.eq_2,aG (aC hm),aq,Qu,aD hy,aD e1,ae,bL,cl hio,cl hmo,aj,bd,gH hio,gH hmo,MF hN (hv.v.aF i x e1),hwx,A2 (Hy (h1.KG i)) (Hy (hv.wF i)),Dm (Hy (h1.KG m)) (Hy hlF),ai hj,rK];by_cases hnew:O o1 m&&&(O o1 i|||wr l i)=O o1 m
    .refine⟨(c1,o1),⟨h1,λhc=>?_,h3,h4⟩,by rw[hnew];simp⟩;obtain⟨g1,g2,g3⟩:=h2 hc;refine⟨g1,g2,λk hk=>?_⟩;rw[take_succ hm,bj,bo]at hk;rcases hk with hk|rfl;.exact g3 k hk
     .have:=pU (O o1 k) (O o1 i|||wr l i);rw[hnew,g2]at this;exact this
    .have hlt:=xp hnew;have Bg:=Y1 (n:=l.length) hml h1.len hlt;have OO:∀k,sub (O (o1.set m (O o1 m&&&(O o1 i|||wr l i))) k) (O o1 k):=λk=>by
      rw[fR hmo];split;.rename_i e;subst e;exact rJ _ _
      .exact j6 _
     refine⟨(true,o1.set m (O o1 m&&&(O o1 i|||wr l i))),⟨⟨by simp[h1.len],λk=>gm (OO k) (h1.KG k),gm (OO 0) h1.p0,λS hS hb k hk=>?_⟩,λhc=>(by cases hc),by simp only;omega,λ_=>.inr (by simp only;omega)⟩,?_⟩
     .rw[fR hmo];split;.rename_i e;subst e;exact Hx (h1.tS S hS hb k hk) (gm (hS.2 i N6 k (aU hm)) (or_mono (h1.tS S hS hb i N6) (j6 _)))
      .exact h1.tS S hS hb k hk
     .rw[show(((O o1 m&&&(O o1 i|||wr l i):Nat):Int)!=((O o1 m:Nat):Int))=true by rw[bne_iff_ne];omega,aq]) (k:=N) (s:=(c,o)) ⟨h,λhc=>⟨hc,rfl,λk hk=>by simp at hk⟩,bc _,.inl⟩ (by rw[bL];omega);obtain⟨h1,h2,h3,h4⟩:=hI;refine⟨o',c',h1,λhc=>?_,h3,h4,he⟩;obtain⟨g1,g2,g3⟩:=h2 hc;exact⟨g1,g2,λ_ k hk=>g3 k (by rw[bL,fi];exact hk)⟩
 .rw[bv N6]at Qu;refine⟨o,c,h,λhc=>⟨hc,rfl,λh'=>absurd h' N6⟩,bc _,.inl,?_⟩;obtain⟨N',rfl⟩:∃q,N=q+1:=⟨N-1,by omega⟩;rw[f177.kG.eq_2,Qu]<;>grind
theorem MH{N:Nat}{l:List Instr}{P F p s:Nat}(hv:VM l P F p s)(hN:500<N){o:List Nat}(h:Rv l P F o):∃o' c,Rv l P F o'/\(c=false->∀i,Reach l i->∀k∈nx l i,sub (O o' k) (O o' i|||wr l i))/\(c=true->mv l.length o'<mv l.length o)/\f177.lJ N N (l,ep l,false,0,cN o)=some (l,ep l,c,cN o'):=by
 have hle:=hv.le;obtain⟨⟨c',o'⟩,hI,he⟩:=fO (l:=l) (g:=λq:Bool×List Nat=>(l,ep l,q.1,cN q.2)) (Inv:=λj q=>Rv l P F q.2/\(q.1=false->q.2=o/\∀i,i<j->Reach l i->∀k∈nx l i,sub (O o k) (O o i|||wr l i))/\mv l.length q.2<=mv l.length o/\(q.1=true->mv l.length q.2<mv l.length o)) (Lf:=λk j q=>f177.lJ N k (l,ep l,q.1,j,cN q.2)) (λk q _=>by simp only[f177.lJ.eq_2,aJ,af]) (λk j x q hx⟨h1,h2,h3,h4⟩=>by
   have hj:=aC hx;obtain⟨o',c',g1,g2,g3,g4,g5⟩:=MG hv hN (c:=q.1) hj h1;refine⟨(c',o'),⟨g1,λhc=>?_,by simp only;omega,λhc=>?_⟩,by simp only[f177.lJ.eq_2,aG hj,aq,yJ hv.v hj,ae,g5,ai (show j<9223372036854775807by omega)]⟩
   .obtain⟨q1,q2,q3⟩:=g2 hc;obtain⟨q4,q5⟩:=h2 q1;simp only;refine⟨by rw[q2,q4],λi hi=>?_⟩;rw[q4]at q3;by_cases hij:i=j;.subst hij;exact q3
    .exact q5 i (by omega)
   .rcases g4 hc with hc|hc;.have:=h4 hc;simp only at*;omega
    .simp only at*;omega) (k:=N) (s:=(false,o)) ⟨h,λ_=>⟨rfl,λi hi=>by omega⟩,bc _,λhc=>by cases hc⟩ (by omega);obtain⟨h1,h2,h3,h4⟩:=hI;refine⟨o',c',h1,λhc i hi=>?_,h4,he⟩;obtain⟨g1,g2⟩:=h2 hc;cases g1;exact g2 i (hi.lt hv.v) hi
theorem Y2{N:Nat}{l:List Instr}{P F p s:Nat}(hv:VM l P F p s)(hN:14000000<N):∃H,W4 l P H/\(∀S,W4 l P S->(∀k,sub (S k) F)->∀k,Reach l k->sub (S k) (H k))/\Mc N (l,(p:Int),(s:Int))=some (cN (pH l H)):=by
 have hpos:=hv.v.pos;have hle:=hv.le;have hs:=hv.sle;have hps:=hv.ps;obtain⟨o1,⟨a1,a2⟩,a3⟩:=fO (l:=l) (g:=λo:List Nat=>(l,(p:Int),ep l,cN o)) (Inv:=λj o=>o.length=l.length/\∀k,O o k=if k<j then F else 0) (Lf:=λk j o=>f177.cW N k (l,(p:Int),(s:Int),ep l,j,cN o)) (λk q _=>by simp only[f177.cW.eq_2,aJ,af]) (λk j x o hx⟨h1,h2⟩=>by
   have hj:=aC hx;have hjo:j<o.length:=by omega
   have hf:=Ki (N:=N) (n:=(s:Int)) (by omega) (by omega);rw[bd,<-hv.eF]at hf;refine⟨o.set j F,⟨by simp[h1],λk=>?_⟩,by simp only[f177.cW.eq_2,aG hj,aq,hf,ae,bL,cl hjo,aj,bd,gH hjo,rK,ai (show j<9223372036854775807by omega)]⟩;rw[fR hjo,h2];by_cases hk:k=j;.subst hk;rw[bb rfl,bb (by omega)]
   .rw[be hk];by_cases hk2:k<j;.rw[bb hk2,bb (by omega)]
    .rw[be hk2,be (by omega)]) (k:=N) (s:=List.replicate l.length 0) ⟨by simp,λk=>by rw[Wr,be (by omega)]⟩ (by omega);have h0:0<o1.length:=by omega
 have hO:∀k,O (o1.set 0 P) k=if k=0then P else if k<l.length then F else 0:=λk=>by rw[fR h0,a2]
 have start:Rv l P F (o1.set 0 P):=⟨by simp[a1],λk=>by
   rw[hO];split;.exact hv.PF
   .split;.exact j6 _
    .exact zero_sub _,by rw[hO,bb rfl];exact j6 _,λS hS hb k hk=>by
   rw[hO];split;.rename_i e;subst e;exact hS.1
   .rw[bb (hk.lt hv.v)];exact hb k⟩;obtain⟨o2,b1,b2,b3⟩:=rounds (Inv:=Rv l P F) (D6:=λo=>∀i,Reach l i->∀k∈nx l i,sub (O o k) (O o i|||wr l i)) (μ:=mv l.length) (g:=λo=>(l,ep l,cN o)) (Lf:=λk c o=>f177.oF N k (l,ep l,c,cN o)) (λk o _ _=>by rw[f177.oF.eq_2];rfl) (λk o h=>by obtain⟨o',c,g1,g2,g3,g4⟩:=MH (N:=N) hv (by omega) h;exact⟨o',c,g1,g2,g3,by simp only[f177.oF.eq_2,aq,g4,ae]⟩) N _ start (by have:mv l.length (o1.set 0 P)<=l.length*65536:=N7 λk=>Nat.le_of_lt (hv.lt (start.KG k));omega);refine⟨O o2,⟨b1.p0,b2⟩,b1.tS,?_⟩;obtain⟨o3,⟨c1,c2⟩,c3⟩:=fO (l:=l) (g:=λo:List Nat=>cN o) (Inv:=λj o=>o.length=l.length/\∀k,k<l.length->O o k=if k<j then(if Reach l k/\k≠l.length-1then O o2 k else 0)else O o2 k) (Lf:=λk j o=>f177.z8 N k (l,ep l,j,cN o)) (λk q _=>by simp only[f177.z8.eq_2,aJ,af]) (λk j x o hx⟨h1,h2⟩=>by
   have hj:=aC hx;have hjo:j<o.length:=by omega
   have Qu:idx (ep l) (j:Int)=some (decide (Reach l j)):=aD (kq hj);have Wv:=uv hpos (show l.length<=10000000by omega);simp only[f177.z8.eq_2,aG hj,aq,Qu,ae,Wv,dg,bL,cl hjo,aj,bd,gH hjo,ai (show j<9223372036854775807by omega)];by_cases hr:Reach l j/\j≠l.length-1
   .refine⟨o,⟨h1,λk hk=>?_⟩,?_⟩
    .rw[h2 k hk];by_cases hkj:k=j;.subst hkj;rw[be (show¬k<k by omega),bb (show k<k+1by omega),bb hr]
     .by_cases hk2:k<j;.rw[bb hk2,bb (show k<j+1by omega)]
      .rw[be hk2,be (show¬k<j+1by omega)]
    .rw[bm hr.1,show(((j:Nat):Int)==((l.length-1:Nat):Int))=false by rw[lj];omega];rfl
   .refine⟨o.set j 0,⟨by simp[h1],λk hk=>?_⟩,?_⟩
    .rw[fR hjo];by_cases hkj:k=j;.subst hkj;rw[bb rfl,bb (show k<k+1by omega),be hr]
     .rw[be hkj,h2 k hk];by_cases hk2:k<j;.rw[bb hk2,bb (show k<j+1by omega)]
      .rw[be hk2,be (show¬k<j+1by omega)]
    .have:(!decide (Reach l j)||(((j:Nat):Int)==((l.length-1:Nat):Int)))=true:=by
      rw[f5];by_cases h1:Reach l j
      .right;rw[kv];by_cases h2:j=l.length-1;.rw[h2]
       .exact absurd ⟨h1,h2⟩ hr
      .left;rw[bv h1];rfl
     rw[this,aq,show(0:Int)=((0:Nat):Int)from rfl,rK]) (k:=N) (s:=o2) ⟨b1.len,λk hk=>by rw[be (by omega)]⟩ (by omega);have hf:=Ki (N:=N) (n:=(p:Int)) (by omega) (by omega);rw[bd,<-hv.eP]at hf;have aqf:o3=pH l (O o2):=Kh c1 λk hk=>by rw[c2 k hk,bb hk]
 rw[Mc.eq_1];simp only[Ww hv.v (show 500<N by omega),ae,bd,show decide ((0:Int)<=(l.length:Int))=true by simp,aj,bc,nl,fr,ak (show l.length<=10000000by omega) (show 8<=1000by omega),Ws,a3,hf,bL,show ga 0 o1.length=true from cl (i:=0) h0,show Int.toNat 0=0from rfl,gH h0,rK,b3,c3];rw[aqf]
theorem Kj{l:List Instr}{G H:Nat->Nat}(h:∀k,Reach l k->G k=H k):pH l G=pH l H:=by unfold pH<;>grind
end Go.Proofs.YtkdilffhbejjaaaGreat
