/- A part of the proof: Law12mkmk6, Law12mkmk7. -/
import Derived.Test.YtgkllgjmfpjeoaaGreatDoorLaw12mkmk5
set_option linter.unusedVariables false
set_option linter.unusedSimpArgs false
namespace Go.Proofs.YtgkllgjmfpjeoaaGreatDoor
open Go Go.bJ Go.Sym
open Classical
theorem Xn{ts:List aB}{xs:List (List UInt8)}{fs:List Func}{f:Func}{g:Int}(hval:gZ f.2.2.2.2.1=true)(hmain:¬(g=0/\(0<f.2.1\/0<=f.2.2.1)))(ahW:∀x,x∈f.2.2.2.2.1->kJ xs.length (eL fs) f.2.2.2.1 x)(acF:∀i,i<f.2.2.2.2.1.length->uQ f.2.2.2.2.1 i)(al4:∀x,x∈f.2.2.2.2.1->Cn ts (eL fs) f.2.2.2.1 f.2.2.1 x=true)(hsc:qZ f.2.2.2.2.1 (dL ts fs f))(Hj:∀(i:Nat)x,f.2.2.2.2.1[i]?=some x->∀s,s∈aQ jL x->(O (cr f) i).testBit s.toNat=true):(eU ts xs fs f g).2.2.2=0:=by unfold eU;rw[if_pos hval,if_neg hmain,xT (λj x hx=>by rw[Nat.zero_add];have hm:=aU hx;unfold pU;rw[if_pos (ahW x hm),if_pos (acF j (az hx)),if_pos (al4 x hm)]),Option.elim_none,if_pos hsc,xT (λj x hx=>by rw[Nat.zero_add];unfold oT;rw[if_pos (Hj j x hx)])];rfl
section
variable{l:List Instr}
theorem Good.PC(h:Good l):fE jO nX (uS Q0 l):=by have hp:=h.pos;exact⟨UK h (JF (l:=l) (by omega)).fit,LX h (JF (l:=l) (by omega))⟩
theorem Good.me(h:Good l)(hl:l.length<=130):Go.Proofs.YtgkllgjmfpjeoaaGreatDoor.me jO nX (uS Q0 l)=0:=by have hp:=h.pos;unfold Go.Proofs.YtgkllgjmfpjeoaaGreatDoor.me;rw[if_pos (LX h (JF (l:=l) (by omega))),if_pos (UO (N:=14000001) (by omega) h hl (JF (l:=l) (by omega))).2]
theorem Good.look(h:Good l):∀i,i<(uS Q0 l).length->(eU jO nX (uS Q0 l) (dZ (uS Q0 l) i) (i:Int)).2.2.2=0:=by
 intro i hi;have hv:=h.PC;have hf:(uS Q0 l)[i]?=some (dZ (uS Q0 l) i):=by rw[C6 (List.getElem?_eq_getElem hi)]<;>grind
 cases i with|zero=>have hfn:Fn jO nX (uS Q0 l) (pW Q0 l):=⟨hv,hv.get hf,h.valid,λx hx=>h.near hx⟩;refine Xn (f:=pW Q0 l) h.valid (λh=>by have h2:(0:Int)<0\/(0:Int)<=-1:=h.2;omega) (λx hx=>h.near hx) (λk hk=>.inl (h.reach hk)) (λx hx=>h.typ hx) h.sc λk x hx s hs=>?_;obtain⟨ms,h1,_,h3⟩:=LW (N:=14000001) (by omega) h;have h2:U0 14000001 (l,0,9)=some (cN (cr (pW Q0 l)),0):=(Cs (N:=14000001) (by omega) hfn).1;rw[h1]at h2;have h4:cN ms=cN (cr (pW Q0 l)):=(Prod.mk.inj (Option.some.inj h2)).1;have h5:ms=cr (pW Q0 l):=(List.map_inj_right (λa b e=>by omega)).1 h4;rw[<-h5];exact((h3 k x hx).2 s hs).2|succ i=>
  have hi8:i+1<8:=hi;have hm:i+1∈others:=by simp[others,List.mem_cons,List.not_mem_nil,or_false];omega
  have h1:=uR (PM 14000001 Q0 l) _ hm;have h2:=List.all_eq_true.1 PN _ hm;have h3:=Zx (N:=14000001+400) (by omega) hv (aE hf)<;>grind
end
theorem JG(n:Nat):∀i,i<=n->zm (List.replicate n 0) i=if i=0then[]else[(0,0)]
 |0,_=>rfl|i+1,h=>by
  have g:∀j,(List.replicate n (0:Int)).getD j 0=0:=λj=>by rw[List.getD_eq_getElem?_getD,List.getElem?_replicate];split<;>rfl
  rw[zm,g,g,JG n i (by omega),if_neg (show¬i+1=0 by omega)]<;>grind
theorem UP{n:Nat}(h:1<=n):Cq (List.replicate n 0)=[(0,0)]:=by unfold Cq;rw[JG n _ (by simp),List.length_replicate,if_neg (by omega)]
theorem acG:∀k,k<1024->rep k%32=k%32/\(k%32=0->rep k=k)/\(k%32=25->rep k/32%32%3=k/32%32%3)/\(k%32=26->rep k/32%32%2=k/32%32%2)/\(k%32=28->rep k/32%32%4=k/32%32%4)/\rep k<100000:=by decide+kernel
noncomputable def cw(N:Nat)(rr vv at0:Int):Option (List Instr):=((dR N (23,1,(av (at0+2)),0)).bind λb=>(cond (rr==24) ((dR N (24,0,0,0)).bind λd=>((dR N (25,0,1,0)).bind λe=>some [d,e])) (cond (rr==25) ((dR N (24,0,0,0)).bind λf=>((idx [2,4,7] (Int.tmod vv 3)).bind λg=>((dR N (26,g,0,0)).bind λh=>some [f,h]))) (cond (rr==26) ((dR N (26,(av (5+(Int.tmod vv 2))),0,0)).bind λi=>some [i]) (cond (rr==27) ((dR N (24,7,0,0)).bind λj=>((dR N (27,3,0,0)).bind λl=>some [j,l])) (cond (rr==28) ((dR N (33,1,7,0)).bind λm=>((dR N (5,7,0,0)).bind λn=>((dR N (2,2,1,0)).bind λo=>((dR N (29,1,0,0)).bind λp=>((idx [m,n,o,p] (Int.tmod vv 4)).bind λq=>some [q]))))) (cond (rr==29) ((dR N (28,0,0,0)).bind λr=>some [b,r]) (cond (rr==30) ((dR N (30,0,0,0)).bind λs=>some [b,s]) (cond (rr==31) ((dR N (32,7,0,0)).bind λt=>some [b,t]) ((dR N (1,0,vv,0)).bind λu=>((dR N (6,0,0,7)).bind λv=>((dR N (7,7,7,0)).bind λw=>((dR N (8,0,0,7)).bind λx=>((dR N (9,0,0,7)).bind λy=>((dR N (10,1,0,7)).bind λz=>((dR N (12,1,1,0)).bind λA=>((dR N (11,1,0,7)).bind λB=>((dR N (17,3,0,0)).bind λC=>((dR N (16,0,3,0)).bind λD=>((dR N (15,3,0,0)).bind λE=>((dR N (4,3,0,0)).bind λG=>((dR N (14,4,0,0)).bind λH=>((dR N (13,7,4,0)).bind λI=>((dR N (14,4,2,3)).bind λJ=>((dR N (15,8,0,0)).bind λK=>((dR N (17,8,4,0)).bind λL=>((dR N (16,4,8,0)).bind λM=>((dR N (18,6,7,0)).bind λO=>((dR N (20,6,7,0)).bind λP=>((dR N (19,0,6,7)).bind λQ=>((dR N (20,5,7,0)).bind λR=>((dR N (19,0,5,7)).bind λS=>((dR N (21,7,6,0)).bind λT=>((idx [u,v,w,x,y,z,A,B,C,D,E,G,H,I,J,K,L,M,O,P,Q,R,S,T] rr).bind λU=>some [U]))))))))))))))))))))))))))))))))))
theorem EO(N:Nat)(f:Int){m:Nat}(hm:m<100000):Ej N ((m:Int),f)=cw N ((m%32:Nat):Int) ((m/32%32:Nat):Int) f:=by
 have h1:Int.tmod (max (m:Int) 0) 32=((m%32:Nat):Int):=by grind
 have h2:Int.tmod (av (Int.tdiv (max (m:Int) 0) 32)) 32=((m/32%32:Nat):Int):=by rw[show max (m:Int) 0=(m:Int)by omega,show(32:Int)=((32:Nat):Int)from rfl,sJ,vW (by omega),mh]
 rw[<-h1,<-h2];rfl
theorem ER(N:Nat)(v f:Int):[cw N 1 v f,cw N 2 v f,cw N 3 v f,cw N 4 v f,cw N 5 v f,cw N 6 v f,cw N 7 v f,cw N 8 v f,cw N 9 v f,cw N 10 v f,cw N 11 v f,cw N 12 v f,cw N 13 v f,cw N 14 v f,cw N 15 v f,cw N 16 v f,cw N 17 v f,cw N 18 v f,cw N 19 v f,cw N 20 v f,cw N 21 v f,cw N 22 v f,cw N 23 v f,cw N 24 v f,cw N 27 v f,cw N 29 v f,cw N 30 v f,cw N 31 v f]=[some [(6,0,0,7)],some [(7,7,7,0)],some [(8,0,0,7)],some [(9,0,0,7)],some [(10,1,0,7)],some [(12,1,1,0)],some [(11,1,0,7)],some [(17,3,0,0)],some [(16,0,3,0)],some [(15,3,0,0)],some [(4,3,0,0)],some [(14,4,0,0)],some [(13,7,4,0)],some [(14,4,2,3)],some [(15,8,0,0)],some [(17,8,4,0)],some [(16,4,8,0)],some [(18,6,7,0)],some [(20,6,7,0)],some [(19,0,6,7)],some [(20,5,7,0)],some [(19,0,5,7)],some [(21,7,6,0)],some [(24,0,0,0),(25,0,1,0)],some [(24,7,0,0),(27,3,0,0)],some [(23,1,av (f+2),0),(28,0,0,0)],some [(23,1,av (f+2),0),(30,0,0,0)],some [(23,1,av (f+2),0),(32,7,0,0)]]:=by kernel_rfl
theorem UQ(N:Nat)(v v' f:Int){r:Nat}(hr:r<32)(h0:r≠0)(h1:r≠25)(h2:r≠26)(h3:r≠28):cw N (r:Int) v f=cw N (r:Int) v' f:=by have e:([1,2,3,4,5,6,7,8,9,10,11,12,13,14,15,16,17,18,19,20,21,22,23,24,27,29,30,31]:List Nat).map (λk:Nat=>cw N (k:Int) v f)=([1,2,3,4,5,6,7,8,9,10,11,12,13,14,15,16,17,18,19,20,21,22,23,24,27,29,30,31]:List Nat).map λk:Nat=>cw N (k:Int) v' f:=(ER N v f).trans (ER N v' f).symm;exact uR e r (by simp only[List.mem_cons,List.not_mem_nil,or_false];omega)
theorem PU(N:Nat)(v v':Nat)(f:Int)(h:v%3=v'%3):cw N 25 (v:Int) f=cw N 25 (v':Int) f:=by
 have e:∀u:Nat,cw N 25 (u:Int) f=(idx [2,4,7] (Int.tmod (u:Int) 3)).bind λg=>some [(24,0,0,0),(26,g,0,0)]:=λu=>by kernel_rfl
 grind
theorem PV(N:Nat)(v v':Nat)(f:Int)(h:v%2=v'%2):cw N 26 (v:Int) f=cw N 26 (v':Int) f:=by
 have e:∀u:Nat,cw N 26 (u:Int) f=some [(26,av (5+Int.tmod (u:Int) 2),0,0)]:=λu=>by kernel_rfl
 grind
theorem PW(N:Nat)(v v':Nat)(f:Int)(h:v%4=v'%4):cw N 28 (v:Int) f=cw N 28 (v':Int) f:=by
 have e:∀u:Nat,cw N 28 (u:Int) f=(idx [(33,1,7,0),(5,7,0,0),(2,2,1,0),(29,1,0,0)] (Int.tmod (u:Int) 4)).bind λg=>some [g]:=λu=>by kernel_rfl
 grind
theorem LY(N:Nat)(f:Int){k:Nat}(hk:k<1024):Ej N ((k:Int),f)=Ej N (((rep k:Nat):Int),f):=by
 obtain⟨g0,g1,g2,g3,g4,g5⟩:=acG k hk;by_cases h0:k%32=0;.grind
 rw[EO N f (show k<100000by omega),EO N f g5,g0];by_cases CG:k%32=25;.rw[CG];exact PU N _ _ f (g2 CG).symm
 by_cases h26:k%32=26;.rw[h26];exact PV N _ _ f (g3 h26).symm
 by_cases h28:k%32=28;.rw[h28];exact PW N _ _ f (g4 h28).symm
 exact UQ N _ _ f (Nat.mod_lt _ (by omega)) h0 CG h26 h28
theorem JH(N:Nat)(f:Int):(Xj.map λk:Nat=>Ej (N+60) ((k:Int),f))=Xj.map λk:Nat=>(tH N (k:Int)).bind λs=>CV (N+60) (s,f):=by kernel_rfl
theorem PX(N:Nat)(f:Int):([29,30,31].map λk:Nat=>Ej N ((k:Int),f))=ends.map λy=>some [(23,1,av (f+2),0),y]:=by kernel_rfl
theorem PY(N:Nat)(x:Int):tH N x=tH N (max x 0):=by rw[tH.eq_1,tH.eq_1,show max (max x 0) 0=max x 0 by omega]
theorem PZ{N n:Nat}(hn:n<=9223372036854775807):tH N (n:Int)=tH N ((n%1024:Nat):Int):=by
 have h1:∀m:Nat,m<=9223372036854775807->Int.tmod (max (m:Int) 0) 32=((m%32:Nat):Int):=λm _=>by rw[show max (m:Int) 0=(m:Int)by omega,show(32:Int)=((32:Nat):Int)from rfl,mh]
 have h2:∀m:Nat,m<=9223372036854775807->Int.tmod (av (Int.tdiv (max (m:Int) 0) 32)) 32=((m/32%32:Nat):Int):=λm hm=>by rw[show max (m:Int) 0=(m:Int)by omega,show(32:Int)=((32:Nat):Int)from rfl,sJ,vW (by omega),mh]
 rw[tH.eq_1,tH.eq_1];simp only[h1 n hn,h2 n hn,h1 (n%1024) (by omega),h2 (n%1024) (by omega),show n%1024%32=n%32by omega,show n%1024/32%32=n/32%32by omega]
theorem LZ(N:Nat)(x f:Int):Ej N (x,f)=Ej N (max x 0,f):=by rw[Ej.eq_1,Ej.eq_1,show max (max x 0) 0=max x 0 by omega]
theorem L0{N n:Nat}{f:Int}(hn:n<=9223372036854775807):Ej N ((n:Int),f)=Ej N (((n%1024:Nat):Int),f):=by
 have h1:∀m:Nat,m<=9223372036854775807->Int.tmod (max (m:Int) 0) 32=((m%32:Nat):Int):=λm _=>by rw[show max (m:Int) 0=(m:Int)by omega,show(32:Int)=((32:Nat):Int)from rfl,mh]
 have h2:∀m:Nat,m<=9223372036854775807->Int.tmod (av (Int.tdiv (max (m:Int) 0) 32)) 32=((m/32%32:Nat):Int):=λm hm=>by rw[show max (m:Int) 0=(m:Int)by omega,show(32:Int)=((32:Nat):Int)from rfl,sJ,vW (by omega),mh]
 rw[Ej.eq_1,Ej.eq_1];simp only[h1 n hn,h2 n hn,h1 (n%1024) (by omega),h2 (n%1024) (by omega),show n%1024%32=n%32by omega,show n%1024/32%32=n/32%32by omega]
noncomputable def GG(n:Int):Prop:=-9223372036854775808<=n/\n<=9223372036854775807
theorem JI{N:Nat}{x:Int}(h:GG x){a:Nat}(ha:a<=1000):∃s c,tH (N+60) x=some s/\CV (N+60) (s,(a:Int))=some c/\Qd (a:Int) c/\Ej (N+60) (x,(a:Int))=some c:=by
  unfold GG at h;have e1:∀M,tH M x=tH M (((max x 0).toNat%1024:Nat):Int):=λM=>by rw[PY,<-PZ (by omega),Int.toNat_of_nonneg (by omega)]
  have e2:Ej (N+60) (x,(a:Int))=Ej (N+60) ((((max x 0).toNat%1024:Nat):Int),(a:Int)):=by rw[LZ,<-L0 (by omega),Int.toNat_of_nonneg (by omega)]
  have hk:(max x 0).toNat%1024<1024:=Nat.mod_lt _ (by omega);obtain⟨s,c,h1,h2,h3⟩:=EL (N:=N) (n:=(max x 0).toNat%1024) (by omega) (a:Int);have h4:tH (N+60) x=some s:=by rw[e1,<-h1,tH.eq_1];rfl
  refine⟨s,c,h4,h2,h3,?_⟩;rw[e2,LY (N+60) (a:Int) hk];have h5:((tH N (((rep ((max x 0).toNat%1024):Nat):Int))).bind λs=>CV (N+60) (s,(a:Int)))=some c:=by rw[<-EK hk,h1];exact h2
  rcases Nn _ hk with hm|hm;.rw[uR (JH N (a:Int)) _ hm];exact h5
  . have b1:=Np N (a:Int);have b2:=PX (N+60) (a:Int);have ew:av (av ((a:Int)+0)+2)=av ((a:Int)+2):=by rw[bn (n:=(a:Int)+0) (by omega),Int.add_zero]
    grind
inductive B2(N:Nat):List Instr->List Int->List Instr->Prop where|nil{b:List Instr}:B2 N b [] b|cons{b:List Instr}{x:Int}{xs:List Int}{c b':List Instr}:Ej N (x,(b.length:Int))=some c->c.length<=2->B2 N (b++c) xs b'->B2 N b (x::xs) b'
theorem Nu{N:Nat}:∀{xs:List Int}{b:List Instr},(∀x,x∈xs->GG x)->b.length+2*xs.length<=1000->∃b',Bs (N+60) b xs b'/\B2 (N+60) b xs b'|[],b,_,_=>⟨b,.nil,.nil⟩|x::xs,b,h,hl=>by simp at hl;obtain⟨s,c,h1,h2,h3,h4⟩:=JI (N:=N) (h x List.mem_cons_self) (a:=b.length) (by omega);have hc:=h3.len;obtain⟨b',g1,g2⟩:=Nu (N:=N) (b:=b++c) (λx hx=>h x (List.mem_cons_of_mem _ hx)) (by rw[List.length_append];omega);exact⟨b',.cons h1 h2 h3 g1,.cons h4 hc.2 g2⟩
theorem ES{N:Nat}{p:List Int}(hp:p.length<=60):∀(k i:Nat)(b b':List Instr),i<=p.length->p.length-i<k->b.length<=9+2*i->B2 N b (p.drop i) b'->f14.bx N k (p,b,(i:Int))=some b'
 |0,_,_,_,_,h,_,_=>by omega|k+1,i,b,b',hi,hk,hb,h=>by
    rw[f14.bx.eq_2];by_cases he:i=p.length;.subst he;simp at h;cases h<;>grind
    . have hlt:i<p.length:=by omega
      rw[List.drop_eq_getElem_cons hlt]at h;cases h with|cons h1 h2 h3=>rw[aJ hlt,au,aE (List.getElem?_eq_getElem hlt),Option.bind_some,h1,Option.bind_some,af (by omega) (by omega),aj (by omega)];exact ES hp k (i+1) _ _ (by omega) (by omega) (by rw[List.length_append];omega) h3
theorem L3(N:Nat)(c:List Instr):f29.bx (N+60) (N+60) ([110,111,115,112,114,97,108,107,113],[0,1,2,3,4,5,6,0,7],c,0,[],0,0,Cv,0,-1,[],c)=some (c,[],0,0,Cv,0,-1,PL,c):=by kernel_rfl
theorem UR{N:Nat}{c:List Instr}(h1:1<=c.length)(h2:c.length<=200)(hN:500<N):Qa (N+60) (Cv,[110,111,115,112,114,97,108,107,113],[0,1,2,3,4,5,6,0,7],0,-1,c)=some (pW Q0 c):=by have hm:=UA (N:=N+60) (v:=List.replicate c.length 0) (by omega) (by simp;omega);rw[UP h1]at hm;rw[Qa.eq_1,L3];simp[Option.bind_some,Int.toNat_natCast,show decide ((0:Int)<=(c.length:Int))=true by simp,ai,Nat.le_refl,decide_true,Bool.true_and,af (show c.length<=10000000by omega) (show 8<=1000by omega),hm];rfl
theorem L4(N:Nat):F30 (N+200) ()=some (fJ Q0):=by kernel_rfl
theorem ahX(N:Nat)(a b c d:Int):dR N (a,b,c,d)=some (a,b,c,d):=by kernel_rfl
theorem acH(N:Nat):P9 N ()=some nW:=by kernel_rfl
theorem Xo{N:Nat}{p:List Int}{b:List Instr}(hp:p.length<=60)(h:Bs N xW p b):Good (b++[nW])/\b.length<=129:=by
 obtain⟨r,rfl,hl,hc⟩:=h.pre;have h9:(xW++r).length=9+r.length:=by rw[List.length_append];rfl
 refine⟨⟨?_,by rw[List.length_append,h9,List.length_singleton];omega,r++[nW],by rw[List.append_assoc],by simp⟩,by omega⟩;exact PR (hc [nW] (by omega) .fin)
theorem ET{N:Nat}(hN:14000000<N){p:List Int}(hp:p.length<=60)(hx:∀x,x∈p->GG x):∃ts xs D,F4 (N+400) p=some (ts,xs,D,0)/\CX (N+400) p=some (ts,xs,D)/\F8 (N+400) (ts,xs,D,ts,xs,D)=some true:=by
 obtain⟨b,h1,h2⟩:=Nu (N:=N+340) (b:=xW) hx (by show 9+_<=1000;omega);obtain⟨hg,hb⟩:=Xo hp h1;have ahY:(b++[nW]).length<=130:=by grind
 obtain⟨D,q,g1,g2,g3⟩:=Xi (N:=N+400) (by omega) hg.PC (hg.me ahY) hg.look;have l1:=EN hp (N+400) 0 xW b (by omega) (by omega) (by show 9<=9;omega) h1;have l2:=ES hp (N+400) 0 xW b (by omega) (by omega) (by show 9<=9;omega) h2;rw[show((0:Nat):Int)=0from rfl]at l1 l2;have hroom:room (b.length+1) 32=true:=af (by omega) (by omega);refine⟨jO,nX,D,?_,?_,g3⟩;.have e:=Xk (N+340) p;rw[show N+340+60=N+400from rfl]at e;rw[e,bE (show¬(p.length:Int)>60by omega),aq,l1,Option.bind_some,af (by simp only[List.length_singleton];omega) (by omega),ai,g1];rfl
 .have hm:=UR (N:=N+340) (c:=b++[nW]) (by simp) (by omega) (by omega);have ho:=L4 (N+200);rw[CX.eq_1];simp only[ahX,acH,Option.bind_some];rw[show([(1,0,5,0),(3,1,1,0),(2,2,0,0),(15,3,0,0),(4,4,0,0),(4,5,0,0),(1,7,2,0),(18,6,7,0),(15,8,0,0)]:List Instr)=xW from rfl,l2];simp only[Option.bind_some,hroom,ai];rw[show([109,97,105,110]:List UInt8)=Cv from rfl,hm];simp only[Option.bind_some,ho,show room (1+(fJ Q0).length) 128=true from af (by show 1+7<=10000000;omega) (by omega),ai];rw[show([pW Q0 (b++[nW])]++fJ Q0)=uS Q0 (b++[nW])from rfl,show([(2,0,0,[]),(1,0,0,[]),(3,0,0,[]),(4,0,0,[]),(5,0,0,[([110],0),([111,110],1),([97,116],3)]),(6,0,3,[]),(7,0,0,[]),(4,4,0,[])]:List aB)=jO from rfl,show([[108,97,116,101],[116,97,115,107],[98,111,111,109]]:List (List UInt8))=nX from rfl,g2];rfl
end Go.Proofs.YtgkllgjmfpjeoaaGreatDoor
namespace Go.Proofs.YtgkllgjmfpjeoaaGreatDoor
open Go Go.bJ Go.Sym
open Classical
theorem Cy{N:Nat}(hN:1300<N):F8 N ([],[],[],[],[],[])=some true:=by rw[Nb hN (ts:=[]) (xs:=[]) (fs:=[]) ⟨⟨⟨by decide,λi hi=>by simp at hi⟩,by decide,λs hs=>(by cases hs),by decide,λf hf=>by cases hf⟩,λf hf=>by cases hf⟩]<;>grind
theorem US{N:Nat}(hN:500<N)(n:Nat)(h:n<=300):WC N (List.replicate n 0,List.replicate n 0)=some true:=by rw[wB (by simp;omega) (by simp;omega)]<;>grind
theorem al7(N:Nat):F6 N 1=(F4 N []).bind λc=>bif c.2.2.2!=0then some ([],[],[],[],0,0,0,0,c.2.2.2)else some (c.1,c.2.1,c.2.2.1,List.replicate 20 0,1000,2048,4096,4,0):=by kernel_rfl
theorem al8(N:Nat):F7 N 1=((CX N []).bind λc=>some (c.1,c.2.1,c.2.2,List.replicate 20 0,1000,2048,4096,4)).bind λa=>some (a.1,a.2.1,a.2.2.1,a.2.2.2.1,a.2.2.2.2.1,a.2.2.2.2.2.1,a.2.2.2.2.2.2.1,a.2.2.2.2.2.2.2,0):=by kernel_rfl
theorem al9(N:Nat):F6 N 2=(F4 N [6,29]).bind λc=>bif c.2.2.2!=0then some ([],[],[],[],0,0,0,0,c.2.2.2)else some (c.1,c.2.1,c.2.2.1,List.replicate 20 0,1000,2048,4096,4,0):=by kernel_rfl
theorem ama(N:Nat):F7 N 2=((CX N [6,29]).bind λc=>some (c.1,c.2.1,c.2.2,List.replicate 20 0,1000,2048,4096,4)).bind λa=>some (a.1,a.2.1,a.2.2.1,a.2.2.2.1,a.2.2.2.2.1,a.2.2.2.2.2.1,a.2.2.2.2.2.2.1,a.2.2.2.2.2.2.2,0):=by kernel_rfl
theorem amb(N:Nat):F6 N 3=(F4 N [6,31]).bind λc=>bif c.2.2.2!=0then some ([],[],[],[],0,0,0,0,c.2.2.2)else some (c.1,c.2.1,c.2.2.1,List.replicate 20 0,1000,2048,4096,4,0):=by kernel_rfl
theorem amc(N:Nat):F7 N 3=((CX N [6,31]).bind λc=>some (c.1,c.2.1,c.2.2,List.replicate 20 0,1000,2048,4096,4)).bind λa=>some (a.1,a.2.1,a.2.2.1,a.2.2.2.1,a.2.2.2.2.1,a.2.2.2.2.2.1,a.2.2.2.2.2.2.1,a.2.2.2.2.2.2.2,0):=by kernel_rfl
theorem amd(N:Nat):F6 N 4=(F4 N [992,24]).bind λc=>bif c.2.2.2!=0then some ([],[],[],[],0,0,0,0,c.2.2.2)else some (c.1,c.2.1,c.2.2.1,List.replicate 200 0,1000,600,4096,4,0):=by kernel_rfl
theorem ame(N:Nat):F7 N 4=((CX N [992,24]).bind λc=>some (c.1,c.2.1,c.2.2,List.replicate 200 0,1000,600,4096,4)).bind λa=>some (a.1,a.2.1,a.2.2.1,a.2.2.2.1,a.2.2.2.2.1,a.2.2.2.2.2.1,a.2.2.2.2.2.2.1,a.2.2.2.2.2.2.2,0):=by kernel_rfl
theorem amf(N:Nat):F6 N 5=(F4 N []).bind λc=>bif c.2.2.2!=0then some ([],[],[],[],0,0,0,0,c.2.2.2)else some (c.1,c.2.1,c.2.2.1,List.replicate 20 0,1000,2048,40,4,0):=by kernel_rfl
theorem amg(N:Nat):F7 N 5=((CX N []).bind λc=>some (c.1,c.2.1,c.2.2,List.replicate 20 0,1000,2048,40,4)).bind λa=>some (a.1,a.2.1,a.2.2.1,a.2.2.2.1,a.2.2.2.2.1,a.2.2.2.2.2.1,a.2.2.2.2.2.2.1,a.2.2.2.2.2.2.2,0):=by kernel_rfl
theorem amh(N:Nat):F6 N 6=(F4 N [27,27,27]).bind λc=>bif c.2.2.2!=0then some ([],[],[],[],0,0,0,0,c.2.2.2)else some (c.1,c.2.1,c.2.2.1,List.replicate 20 0,1000,2048,4096,2,0):=by kernel_rfl
theorem ami(N:Nat):F7 N 6=((CX N [27,27,27]).bind λc=>some (c.1,c.2.1,c.2.2,List.replicate 20 0,1000,2048,4096,2)).bind λa=>some (a.1,a.2.1,a.2.2.1,a.2.2.2.1,a.2.2.2.2.1,a.2.2.2.2.2.1,a.2.2.2.2.2.2.1,a.2.2.2.2.2.2.2,0):=by kernel_rfl
theorem amj(N:Nat):F6 N 7=(F4 N []).bind λc=>bif c.2.2.2!=0then some ([],[],[],[],0,0,0,0,c.2.2.2)else some (c.1,c.2.1,c.2.2.1,List.replicate 20 0,5,2048,4096,4,0):=by kernel_rfl
theorem amk(N:Nat):F7 N 7=((CX N []).bind λc=>some (c.1,c.2.1,c.2.2,List.replicate 20 0,5,2048,4096,4)).bind λa=>some (a.1,a.2.1,a.2.2.1,a.2.2.2.1,a.2.2.2.2.1,a.2.2.2.2.2.1,a.2.2.2.2.2.2.1,a.2.2.2.2.2.2.2,0):=by kernel_rfl
theorem aml(N:Nat):F6 N 8=(F4 N []).bind λc=>bif c.2.2.2!=0then some ([],[],[],[],0,0,0,0,c.2.2.2)else some (c.1,c.2.1,c.2.2.1,List.replicate 3 0,1000,2048,4096,4,0):=by kernel_rfl
theorem amm(N:Nat):F7 N 8=((CX N []).bind λc=>some (c.1,c.2.1,c.2.2,List.replicate 3 0,1000,2048,4096,4)).bind λa=>some (a.1,a.2.1,a.2.2.1,a.2.2.2.1,a.2.2.2.2.1,a.2.2.2.2.2.1,a.2.2.2.2.2.2.1,a.2.2.2.2.2.2.2,0):=by kernel_rfl
theorem iX{N:Nat}(hN:14000000<N){o a b c d:Int}{n:Nat}{p:List Int}(hp:p.length<=60)(hx:∀x,x∈p->GG x)(hn:n<=300)(h1:F6 (N+400) o=(F4 (N+400) p).bind λx=>bif x.2.2.2!=0then some ([],[],[],[],0,0,0,0,x.2.2.2)else some (x.1,x.2.1,x.2.2.1,List.replicate n 0,a,b,c,d,0))(h2:F7 (N+400) o=((CX (N+400) p).bind λx=>some (x.1,x.2.1,x.2.2,List.replicate n 0,a,b,c,d)).bind λa=>some (a.1,a.2.1,a.2.2.1,a.2.2.2.1,a.2.2.2.2.1,a.2.2.2.2.2.1,a.2.2.2.2.2.2.1,a.2.2.2.2.2.2.2,0)):∃ts xs D l a b c d,F6 (N+400) o=some (ts,xs,D,l,a,b,c,d,0)/\F7 (N+400) o=some (ts,xs,D,l,a,b,c,d,0)/\F8 (N+400) (ts,xs,D,ts,xs,D)=some true/\F9 (N+400) (l,a,b,c,d,l,a,b,c,d)=some true:=by
 obtain⟨ts,xs,D,g1,g2,g3⟩:=ET hN hp hx;refine⟨ts,xs,D,List.replicate n 0,a,b,c,d,?_,?_,g3,?_⟩;.grind
 .grind
 .rw[F9.eq_1,US (by omega) n hn];simp
theorem UT{N:Nat}(hN:14000000<N){o:Int}(ho:1<=o/\o<=8):∃ts xs D l a b c d,F6 (N+400) o=some (ts,xs,D,l,a,b,c,d,0)/\F7 (N+400) o=some (ts,xs,D,l,a,b,c,d,0)/\F8 (N+400) (ts,xs,D,ts,xs,D)=some true/\F9 (N+400) (l,a,b,c,d,l,a,b,c,d)=some true:=by
 have q:∀{p:List Int},(p.all λx=>decide (0<=x/\x<=1000))=true->∀x,x∈p->GG x:=λh x hx=>by have:=of_decide_eq_true (List.all_eq_true.1 h x hx);unfold GG;omega
 have:o=1\/o=2\/o=3\/o=4\/o=5\/o=6\/o=7\/o=8:=by omega
 rcases this with rfl|rfl|rfl|rfl|rfl|rfl|rfl|rfl;.exact iX hN (p:=[]) (n:=20) (by decide) (q (by decide)) (by decide) (al7 _) (al8 _)
 .exact iX hN (p:=[6,29]) (n:=20) (by decide) (q (by decide)) (by decide) (al9 _) (ama _)
 .exact iX hN (p:=[6,31]) (n:=20) (by decide) (q (by decide)) (by decide) (amb _) (amc _)
 .exact iX hN (p:=[992,24]) (n:=200) (by decide) (q (by decide)) (by decide) (amd _) (ame _)
 .exact iX hN (p:=[]) (n:=20) (by decide) (q (by decide)) (by decide) (amf _) (amg _)
 .exact iX hN (p:=[27,27,27]) (n:=20) (by decide) (q (by decide)) (by decide) (amh _) (ami _)
 .exact iX hN (p:=[]) (n:=20) (by decide) (q (by decide)) (by decide) (amj _) (amk _)
 .exact iX hN (p:=[]) (n:=3) (by decide) (q (by decide)) (by decide) (aml _) (amm _)
theorem JJ(N:Nat){o:Int}(ho:¬(1<=o/\o<=8)):F6 N o=some ([],[],[],[],0,0,0,0,2)/\F7 N o=some ([],[],[],[],0,0,0,0,2):=by
 constructor;.rw[F6.eq_1]<;>grind
 .rw[F7.eq_1]<;>grind
theorem P0{N:Nat}(hN:14001000<N){l:List Int}{o:Int}(hl:∀x,x∈l->GG x):F3 N (l,o)=some true:=by
 obtain⟨M,rfl⟩:∃M,N=M+400:=⟨N-400,by omega⟩;rw[F3.eq_1];by_cases h1:(l.length:Int)>70;.grind
 rw[bE h1,aq];have hm:∃ts xs D e,F4 (M+400) l=some (ts,xs,D,e)/\F5 (M+400) l=some (ts,xs,D,e)/\F8 (M+400) (ts,xs,D,ts,xs,D)=some true:=by
    by_cases h2:(l.length:Int)>60
    . refine⟨[],[],[],4,?_,?_,Cy (by omega)⟩;.rw[F4.eq_1,bI h2,au]
      .rw[F5.eq_1,bI h2,au]
    .obtain⟨ts,xs,D,g1,g2,g3⟩:=ET (N:=M) (by omega) (by omega) hl;refine⟨ts,xs,D,0,g1,?_,g3⟩;rw[F5.eq_1,bE h2,g2];rfl
 have hE:∃ts xs D l a b c d e,F6 (M+400) o=some (ts,xs,D,l,a,b,c,d,e)/\F7 (M+400) o=some (ts,xs,D,l,a,b,c,d,e)/\F8 (M+400) (ts,xs,D,ts,xs,D)=some true/\F9 (M+400) (l,a,b,c,d,l,a,b,c,d)=some true:=by
    by_cases ho:1<=o/\o<=8;.obtain⟨ts,xs,D,l,a,b,c,d,g⟩:=UT (N:=M) (by omega) ho<;>grind
    .obtain⟨g1,g2⟩:=JJ (M+400) ho;refine⟨[],[],[],[],0,0,0,0,2,g1,g2,Cy (by omega),?_⟩;have h0:WC (M+400) ([],[])=some true:=US (N:=M+400) (by omega) 0 (by omega);rfl
 grind
theorem Xp{d:fG}{r:List fG}(h:XU (d::r)):d.t.ok d.v/\XU r:=RT.1 h
theorem acI{b:List Int}(h:(Ty.sl (.int .i64)).ok b):∀x,x∈b->GG x:=λx hx=>⟨(h.2 x hx).1,(h.2 x hx).2⟩
end Go.Proofs.YtgkllgjmfpjeoaaGreatDoor
