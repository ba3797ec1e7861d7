/- A part of the proof: Law21tut2, Law21tut3. -/
import Derived.Test.YtkdilffhbejjaaaGreatLaw21tut1
set_option linter.unusedVariables false
set_option linter.unusedSimpArgs false
namespace Go.Proofs.YtkdilffhbejjaaaGreat
open Go Go.bM Go.Sym
open Classical
section
variable{N:Nat}
noncomputable def dy(b:Int)(l:List Int):Prop:=b=65536/\l.length%8=0/\l.length<=16384
theorem Oc(l:List Int):Int.tmod (l.length:Int) 8=(l.length:Int)%8:=nW (by omega)
theorem yP(b:Int)(l:List Int)(lim:Int):F54 N (b,l,lim)=some (if dy b l then(if 0<=lim/\lim<=16384then 0 else 2)else 8):=by
 rw[F54.eq_1,Oc];by_cases h:dy b l;.obtain⟨h1,h2,h3⟩:=id h<;>grind
 .rw[be h];by_cases c1:b=65536
  .rw[r8 c1];by_cases c2:(l.length:Int)%8=0;.rw[r8 c2,aS (show(l.length:Int)>16384by unfold dy at h;omega)];rfl
   grind
  grind
theorem DB(b:Int)(l:List Int):∃r,Yz N (b,l,0)=some (r,if dy b l then 0 else 8):=by rw[Yz.eq_1,yP];by_cases h:dy b l<;>simp_all
theorem A5(b:Int)(l:List Int):F28 N (b,l)=some (decide (dy b l)):=by rw[F28.eq_1,Oc];simp[fP,ae];rw[lO];unfold dy<;>grind
theorem auz(x:Int):Int.tdiv x 8=if 0<=x then x/8 else-((-x)/8):=by grind
noncomputable def sz(n:Nat):Nat:=max 8 ((n+7)/8*8)
theorem xz{n:Nat}(h:n<=64):8<=sz n/\n<=sz n/\sz n<=64/\sz n%8=0:=by unfold sz;omega
theorem WI{n:Nat}(h:n<=64):PD N (n:Int)=some ((sz n:Nat):Int):=by rw[PD.eq_1];congr 1;rw[aI (n:=(n:Int)+7) (by omega),AU (by omega),aI (n:=((n:Int)+7)/8) (by omega),aI (by omega)];unfold sz;omega
theorem yQ(hN:1300<N){n:Nat}(h:n<=64):P4 N (n:Int)=some ((sz n:Nat):Int):=by
 have key:∀(m w k:Nat),8*w+8*m=sz n->1<=w->m<k->f185.gM N k ((n:Int),(w:Int))=some ((sz n/8:Nat):Int):=by intro m;induction m with|zero=>intro w k h1 h2 h3;obtain⟨k,rfl⟩:∃q,k=q+1:=⟨k-1,by omega⟩;have:=xz h;rw[f185.gM.eq_2,aI (by omega),aM (show¬(8*(w:Int)<(n:Int))by omega),af]<;>grind|succ m ih=>intro w k h1 h2 h3;obtain⟨k,rfl⟩:∃q,k=q+1:=⟨k-1,by omega⟩;have:=xz h;rw[f185.gM.eq_2,aI (by omega),aS (show 8*(w:Int)<(n:Int)by unfold sz at h1;omega),ai (by omega)];exact ih (w+1) k (by omega) (by omega) (by omega)
 have hb:=xz h;have:=key (sz n/8-1) 1 N (by omega) (by omega) (by omega);simp at this;rw[P4.eq_1,this,ae,aI (by omega)]<;>grind
theorem QE{b:Int}{l:List Int}(h:dy b l){n:Nat}(hn:n<=64):TX N (b,l,((l.length+n:Nat):Int))=some (b,l++List.replicate n 0,0):=by obtain⟨h1,h2,h3⟩:=h;rw[TX.eq_1,ur (show uK b l from⟨by omega,by omega,by omega,by omega⟩),ae,gR,af,aM (show¬((l.length+n:Nat):Int)<0 by omega),af,ae,aM (show¬((l.length+n:Nat):Int)>20000by omega),af,aS (show(0:Int)<=((l.length+n:Nat):Int)by omega),aj,aj,bd,aS (bc _),ak (by omega) (by omega),Bool.and_self,aj];grind[BQ]
theorem Bi{b:Int}{l:List Int}(h:dy b l){n lim:Nat}(hn:n<=64)(hl:lim<=16384):F85 N (b,l,(n:Int),(lim:Int))=some (if l.length+sz n<=lim then(b,l++List.replicate (sz n) 0,((65536+l.length:Nat):Int),0)else(0,[],0,18)):=by
 obtain⟨h1,h2,h3⟩:=h;have h:dy b l:=⟨h1,h2,h3⟩;have hs:=xz hn;rw[F85.eq_1,Yz.eq_1,yP,bb h,bb (show(0:Int)<=(lim:Int)/\(lim:Int)<=16384by omega)];simp only[ae,gR,af,WI hn];rw[aM (show¬(n:Int)<0 by omega),af,aM (show¬(n:Int)>4096by omega),ae,aI (n:=(lim:Int)-(l.length:Int)) (by omega)];have e1:av (av (Int.tdiv ((lim:Int)-(l.length:Int)) 8)*8)=Int.tdiv ((lim:Int)-(l.length:Int)) 8*8:=by
  have:-3000<=Int.tdiv ((lim:Int)-(l.length:Int)) 8/\Int.tdiv ((lim:Int)-(l.length:Int)) 8<=3000:=by grind
  rw[aI (n:=Int.tdiv _ _) (by omega),aI (by omega)]
 rw[e1];by_cases hc:l.length+sz n<=lim;.rw[bb hc,AU (by omega),aM (show¬((sz n:Nat):Int)>max 0 (((lim:Int)-(l.length:Int))/8*8)by omega),aI (by omega),show(l.length:Int)+((sz n:Nat):Int)=((l.length+sz n:Nat):Int)by omega,QE h hs.2.2.1];rw[aR (n:=(l.length:Int)) (by omega),aR (by omega),h1];rfl
 grind
noncomputable def D9(l s:List Int):List Int:=l++s++List.replicate (sz s.length-s.length) 0
theorem WJ{l s:List Int}(h:s.length<=64):(D9 l s).length=l.length+sz s.length:=by have:=xz h;unfold D9<;>grind
theorem WK{l s:List Int}(h:dy 65536 l)(hs:s.length<=64):F86 N (65536,l++List.replicate (sz s.length) 0,((65536+l.length:Nat):Int),s)=some (65536,D9 l s,0):=by
 obtain⟨h1,h2,h3⟩:=h;have hz:=xz hs;have hlen:(l++List.replicate (sz s.length) (0:Int)).length=l.length+sz s.length:=by grind
 have hr:uK 65536 (l++List.replicate (sz s.length) (0:Int)):=⟨by omega,by omega,by omega,by omega⟩;have hu:u64 ((65536+l.length:Nat):Int):=⟨by omega,by omega⟩;obtain⟨i,e,hi⟩:=Dj (N:=N) hr hu (n:=s.length) (by omega);rw[F86.eq_1,Mz hr hu (by omega),e,aS (show(65536:Int)<=((65536+l.length:Nat):Int)/\((65536+l.length:Nat):Int)-65536+((s.length:Nat):Int)<=((l++List.replicate (sz s.length) (0:Int)).length:Int)by omega)];simp only[ae,gR,af,da];have ei:i=(l.length:Int):=by omega
 subst ei;rw[ak (by omega) (by omega),aj,aS (show(0:Int)<=(l.length:Int)by omega),aj,bd,aS (show l.length<=(l++List.replicate (sz s.length) (0:Int)).length by omega),aj,aS (show l.length+((l++List.replicate (sz s.length) (0:Int)).length-l.length)<=(l++List.replicate (sz s.length) (0:Int)).length by omega),aj,pw (by omega),fi,List.take_left',ut,rp (by omega),List.drop_replicate];.unfold D9<;>grind
 .rfl
theorem aeX{l s:List Int}(h:dy 65536 l){lim:Nat}(hs:s.length<=64)(hl:lim<=16384):F64 N (65536,l,s,(lim:Int))=some (if l.length+sz s.length<=lim then(65536,D9 l s,((65536+l.length:Nat):Int),0)else(0,[],0,18)):=by
 rw[F64.eq_1,Bi h hs hl];by_cases hc:l.length+sz s.length<=lim;.rw[bb hc,bb hc];simp only[ae,gR,af,WK h hs]
 grind
theorem Zk{b:Int}{l:List Int}(hl:l.length<=100000):Vs N (b,l)=some (b,l):=by rw[Vs.eq_1,ak (by omega) (by omega),aj,gc]
theorem WL(hN:1300<N){l:List Int}(h:dy 65536 l){n:Nat}(hn:n<=64):Vu N (65536,l,(n:Int))=some (65536,l++List.replicate (sz n) 0,((65536+l.length:Nat):Int)):=by
 obtain⟨h1,h2,h3⟩:=h;have hz:=xz hn;have key:∀(m i k:Nat)(a:List Int),i+m=sz n->m<k->a.length+m<=100000->f134.bz N k ((n:Int),(i:Int),65536,l,0,65536,a)=some (65536,l,0,65536,a++List.replicate m 0):=by intro m;induction m with|zero=>intro i k a h1 h2 _;obtain⟨k,rfl⟩:∃q,k=q+1:=⟨k-1,by omega⟩;rw[f134.bz.eq_2,yQ hN hn,ae,aM (show¬(i:Int)<((sz n:Nat):Int)by omega),af,px,dt]|succ m ih=>intro i k a h1 h2 ha;obtain⟨k,rfl⟩:∃q,k=q+1:=⟨k-1,by omega⟩;rw[f134.bz.eq_2,yQ hN hn,ae,aS (show(i:Int)<((sz n:Nat):Int)by omega),aq,ak (by omega) (by omega),ai (by omega),ih (i+1) k _ (by omega) (by omega) (by simp;omega),bi];rfl
 have:=key (sz n) 0 N l (by omega) (by omega) (by omega);simp at this;rw[Vu.eq_1,Zk (by omega),ae];rw[this,ae,aR (n:=(l.length:Int)) (by omega),aR (by omega)];rfl
theorem QF{l s:List Int}(hs:s.length<=64)(hl:l.length<=20000)(e h f g:Int){z:Nat}(hz:s.length<=z):∀(r pre:List Int)(k:Nat),s=pre++r->r.length<k->f74.cI N k (s,e,(pre.length:Int),h,l,f,g,l++pre++List.replicate (z-pre.length) 0)=some (e,f,g,l++s++List.replicate (z-s.length) 0):=by intro r;induction r with|nil=>intro pre k hp hk;obtain⟨k,rfl⟩:∃q,k=q+1:=⟨k-1,by omega⟩;simp at hp;subst hp;rw[f74.cI.eq_2,aJ,af]|cons x r ih=>
 intro pre k hp hk;obtain⟨k,rfl⟩:∃q,k=q+1:=⟨k-1,by omega⟩;have cj:s.length=pre.length+(r.length+1):=by rw[hp,ba];rfl
 have hw:av ((l.length:Int)+(pre.length:Int))=((l.length+pre.length:Nat):Int):=Vw (by omega);have hlen:(l++pre++List.replicate (z-pre.length) (0:Int)).length=l.length+z:=by simp;omega
 have qP:(l++pre++List.replicate (z-pre.length) (0:Int))[l.length+pre.length]?=some 0:=by rw[kx (by rw[ba];omega),m8,bb (by rw[ba];omega)]
 have Mi:(l++pre++List.replicate (z-pre.length) (0:Int)).set (l.length+pre.length) x=l++(pre++[x])++List.replicate (z-(pre++[x]).length) 0:=by rw[pr _ _ (by rw[ba];omega),ba,pm,show z-pre.length=(z-(pre++[x]).length)+1by simp;omega,pb,List.set_cons_zero];simp
 simp only[eQ]at hk;rw[f74.cI.eq_2,aG (by omega),aq,ni hp rfl,ae,hw,cl (by omega),aj,bd,qP,ae,ai (by omega),Mi];have:=ih (pre++[x]) k (by rw[hp,bi];rfl) (by omega);rw[show(((pre++[x]).length:Nat):Int)=((pre.length+1:Nat):Int)by simp]at this;exact this
theorem WM(hN:1300<N){l s:List Int}(h:dy 65536 l){lim:Nat}(hs:s.length<=64)(hl:lim<=16384):F74 N (65536,l,s,(lim:Int))=some (if l.length+sz s.length<=lim then(65536,D9 l s,((65536+l.length:Nat):Int),0)else(0,[],0,18)):=by
 obtain⟨h1,h2,h3⟩:=h;have h:dy 65536 l:=⟨h1,h2,h3⟩;have hz:=xz hs;rw[F74.eq_1,YB.eq_1,Vq.eq_1,A5,aS h,YA.eq_1,yQ hN hs,WL hN h hs];simp only[ae,da,af];rw[aM (show¬(lim:Int)<0 by omega),af,aM (show¬(lim:Int)>16384by omega)];simp only[ae,gR,af];rw[aM (show¬(s.length:Int)<0 by omega),af,aM (show¬(s.length:Int)>4096by omega)];simp only[ae,af];rw[aI (by omega)];by_cases hc:l.length+sz s.length<=lim;.have:=QF (N:=N) (l:=l) hs (by omega) ((65536+l.length:Nat):Int) 65536 0 65536 (z:=sz s.length) (by omega) s [] N rfl (by omega);rw[dt,show((([]:List Int).length:Nat):Int)=0from rfl,lL,wy]at this;rw[bb hc,aS (show(l.length:Int)+((sz s.length:Nat):Int)<=(lim:Int)by omega),da,af];simp only[ae];rw[gR,af,this];rfl
 .rw[be hc,aM (show¬(l.length:Int)+((sz s.length:Nat):Int)<=(lim:Int)by omega)];rfl
noncomputable def WN(lim:Nat):List (List UInt8)->List Int->Option (List Int)|[],l=>some l|s::r,l=>if l.length+sz s.length<=lim then WN lim r (D9 l (bK s))else none
theorem DC{l:List Int}{s:List UInt8}{lim:Nat}(h:dy 65536 l)(hl:lim<=16384)(hs:s.length<=64)(hc:l.length+sz s.length<=lim):dy 65536 (D9 l (bK s)):=by have hz:=xz hs;have:=WJ (l:=l) (s:=bK s) (by rw[cT];omega);rw[cT]at this;obtain⟨h1,h2,h3⟩:=h;exact⟨rfl,by omega,by omega⟩
theorem Kx{lim:Nat}(hl:lim<=16384):∀(r:List (List UInt8))(l h:List Int),(∀s,s∈r->s.length<=64)->dy 65536 l->WN lim r l=some h->dy 65536 h
 |[],l,h,_,hh,e=>by cases e;exact hh|s::r,l,h,hs,hh,e=>by
  rw[WN]at e;split at e;.rename_i hc;exact Kx hl r _ h (λx hx=>hs x (dl _ hx)) (DC hh hl (hs s (cb ..)) hc) e
  grind
theorem MQ{xs:List (List UInt8)}(hx:xs.length<=32){lim:Nat}(hl:lim<=16384):∀(r pre:List (List UInt8))(l HR:List Int)(k:Nat),xs=pre++r->(∀s,s∈r->s.length<=64)->dy 65536 l->HR.length=pre.length->r.length<k->match WN lim r l with|some h=>∃q,f33.wW N k ((lim:Int),xs,(xs.length:Int),(pre.length:Int),65536,l,HR,0)=some (.inr (65536,h,q,0))|none=>∃q,f33.wW N k ((lim:Int),xs,(xs.length:Int),(pre.length:Int),65536,l,HR,0)=some (.inl (0,[],q,18)):=by intro r;induction r with|nil=>intro pre l HR k hp _ _ _ hk;obtain⟨k,rfl⟩:∃q,k=q+1:=⟨k-1,by omega⟩;simp at hp;subst hp;exact⟨HR,by rw[f33.wW.eq_2,aJ,af]⟩|cons s r ih=>
 intro pre l HR k hp hs hh ha hk;obtain⟨k,rfl⟩:∃q,k=q+1:=⟨k-1,by omega⟩;have cj:xs.length=pre.length+(r.length+1):=by rw[hp,ba];rfl
 have aeY:=hs s (cb ..);simp only[eQ]at hk;have hput:=aeX (N:=N) hh (s:=bK s) (lim:=lim) (by rw[cT];omega) hl;rw[cT]at hput;rw[WN];by_cases hc:l.length+sz s.length<=lim;.rw[bb hc]at hput⊢;have:=ih (pre++[s]) (D9 l (bK s)) (HR++[((65536+l.length:Nat):Int)]) k (by rw[hp,bi];rfl) (λx hx=>hs x (dl _ hx)) (DC hh hl aeY hc) (by simp[ha]) (by omega);rw[show(((pre++[s]).length:Nat):Int)=((pre.length+1:Nat):Int)by simp]at this;rw[f33.wW.eq_2,aG (by omega),aq,ni hp rfl,ae,hput,ae];simp only;rw[gR,af,ak (by omega) (by omega),aj,ai (by omega)];exact this
 .rw[be hc]at hput⊢;refine⟨HR,?_⟩;rw[f33.wW.eq_2,aG (by omega),aq,ni hp rfl,ae,hput,ae];rfl
theorem HI(hN:1300<N){xs:List (List UInt8)}(hx:xs.length<=32){lim:Nat}(hl:lim<=16384):∀(r pre:List (List UInt8))(l HR:List Int)(k:Nat),xs=pre++r->(∀s,s∈r->s.length<=64)->dy 65536 l->HR.length=pre.length->r.length<k->match WN lim r l with|some h=>∃q,f46.lJ N k (xs,(lim:Int),HR,(pre.length:Int),0,65536,l)=some (.inr (q,0,65536,h))|none=>f46.lJ N k (xs,(lim:Int),HR,(pre.length:Int),0,65536,l)=some (.inl (18,0)):=by intro r;induction r with|nil=>intro pre l HR k hp _ _ _ hk;obtain⟨k,rfl⟩:∃q,k=q+1:=⟨k-1,by omega⟩;simp at hp;subst hp;exact⟨HR,by rw[f46.lJ.eq_2,aJ,af]⟩|cons s r ih=>
 intro pre l HR k hp hs hh ha hk;obtain⟨k,rfl⟩:∃q,k=q+1:=⟨k-1,by omega⟩;have cj:xs.length=pre.length+(r.length+1):=by rw[hp,ba];rfl
 have aeY:=hs s (cb ..);simp only[eQ]at hk;have hput:=WM (N:=N) hN hh (s:=bK s) (lim:=lim) (by rw[cT];omega) hl;rw[cT]at hput;rw[WN];by_cases hc:l.length+sz s.length<=lim;.rw[bb hc]at hput⊢;have:=ih (pre++[s]) (D9 l (bK s)) (HR++[((65536+l.length:Nat):Int)]) k (by rw[hp,bi];rfl) (λx hx=>hs x (dl _ hx)) (DC hh hl aeY hc) (by simp[ha]) (by omega);rw[show(((pre++[s]).length:Nat):Int)=((pre.length+1:Nat):Int)by simp]at this;rw[f46.lJ.eq_2,aG (by omega),aq,ni hp rfl,ae,hput,ae];simp only;rw[gR,af,ak (by omega) (by omega),aj,ai (by omega)];exact this
 .rw[be hc]at hput⊢;simp only;rw[f46.lJ.eq_2,aG (by omega),aq,ni hp rfl,ae,hput,ae];rfl
theorem QG{xs:List (List UInt8)}(hx:xs.length<=32)(hs:∀s,s∈xs->s.length<=64)(lim b h:Int)(l:List Int):∀(r pre:List (List UInt8))(k:Nat),xs=pre++r->r.length<k->f33.gw N k (xs,lim,xs,(xs.length:Int),(pre.length:Int),b,l,h)=some (.inr (xs,lim,b,l,h)):=by intro r;induction r with|nil=>intro pre k hp hk;obtain⟨k,rfl⟩:∃q,k=q+1:=⟨k-1,by omega⟩;simp at hp;subst hp;rw[f33.gw.eq_2,aJ,af]|cons s r ih=>
 intro pre k hp hk;obtain⟨k,rfl⟩:∃q,k=q+1:=⟨k-1,by omega⟩;have cj:xs.length=pre.length+(r.length+1):=by grind
 have YG:=hs s (by rw[hp];simp);simp at hk;have:=ih (pre++[s]) k (by rw[hp,bi];rfl) (by omega);simp at this;rw[f33.gw.eq_2,aG (by omega),aq,ni hp rfl,ae,aM (show¬(s.length:Int)>64by omega),af,ai (by omega)]<;>grind
theorem Ky{xs:List (List UInt8)}(hx:xs.length<=32)(hs:∀s,s∈xs->s.length<=64)(lim d:Int):∀(r pre:List (List UInt8))(k:Nat),xs=pre++r->r.length<k->f46.nV N k (xs,lim,(pre.length:Int),d)=some (.inr (xs,lim,d)):=by intro r;induction r with|nil=>intro pre k hp hk;obtain⟨k,rfl⟩:∃q,k=q+1:=⟨k-1,by omega⟩;simp at hp;subst hp;rw[f46.nV.eq_2,aJ,af]|cons s r ih=>
 intro pre k hp hk;obtain⟨k,rfl⟩:∃q,k=q+1:=⟨k-1,by omega⟩;have cj:xs.length=pre.length+(r.length+1):=by grind
 have YG:=hs s (by rw[hp];simp);simp at hk;have:=ih (pre++[s]) k (by rw[hp,bi];rfl) (by omega);simp at this;rw[f46.nV.eq_2,aG (by omega),aq,ni hp rfl,ae,aM (show¬(s.length:Int)>64by omega),af,ai (by omega)]<;>grind
theorem MS(hN:1300<N){xs:List (List UInt8)}(hx:xs.length<=32)(hs:∀s,s∈xs->s.length<=64){lim:Nat}(hl:lim<=16384):match WN lim xs []with|some h=>dy 65536 h/\(∃q,F33 N (xs,(lim:Int))=some (65536,h,q,0))/\∃q,F46 N (xs,(lim:Int))=some (65536,h,q,0)|none=>(∃q,F33 N (xs,(lim:Int))=some (0,[],q,18))/\∃q b,F46 N (xs,(lim:Int))=some (b,[],q,18):=by have h0:dy 65536 []:=⟨rfl,rfl,by simp⟩;have l1:=QG (N:=N) hx hs (lim:Int) 65536 0 [] xs [] N rfl (by omega);have l2:=Ky (N:=N) hx hs (lim:Int) 0 xs [] N rfl (by omega);have k1:=MQ (N:=N) hx hl xs [] [] [] N rfl hs h0 rfl (by omega);have k2:=HI (N:=N) hN hx hl xs [] [] [] N rfl hs h0 rfl (by omega);have hh:∀h,WN lim xs []=some h->dy 65536 h:=λh e=>Kx hl xs [] h hs h0 e;rw[show((([]:List (List UInt8)).length:Nat):Int)=0from rfl]at l1 l2;rw[F33.eq_1,F46.eq_1,F63.eq_1,F73.eq_1];simp only[ae];rw[yP,bb h0,bb (show(0:Int)<=(lim:Int)/\(lim:Int)<=16384by omega)];simp only[ae];rw[gR,af,aM (show¬(xs.length:Int)>32by omega),af,aM (show¬(lim:Int)<0 by omega),af,aM (show¬(lim:Int)>16384by omega),ae,af,af,l1,l2];simp only[ae];generalize WN lim xs []=t at k1 k2 hh⊢;cases t with|some h=>obtain⟨q1,k1⟩:=k1;obtain⟨q2,k2⟩:=k2;rw[show((([]:List (List UInt8)).length:Nat):Int)=0from rfl]at k1 k2;exact⟨hh h rfl,⟨q1,by rw[k1];rfl⟩,⟨q2,by rw[k2];rfl⟩⟩|none=>obtain⟨q1,k1⟩:=k1;rw[show((([]:List (List UInt8)).length:Nat):Int)=0from rfl]at k1 k2;exact⟨⟨[],by rw[k1];rfl⟩,⟨[],0,by erw[k2];rfl⟩⟩
noncomputable def vD(l h:List Int):Bool:=decide (h.length<=l.length)&&((l.take h.length).map λ(n:Int)=>UInt8.ofNat n.toNat)==(h.map λ(n:Int)=>UInt8.ofNat n.toNat)
theorem QH(l h:List Int):F34 N (l,h)=some (vD l h):=by
 rw[F34.eq_1];unfold vD;by_cases hc:h.length<=l.length;.rw[aS (show(l.length:Int)>=(h.length:Int)by omega),aq,aS (show(0:Int)<=(h.length:Int)by omega),aj,bd,aS hc,aj,F65.eq_1];rfl
 grind
end
end Go.Proofs.YtkdilffhbejjaaaGreat
namespace Go.Proofs.YtkdilffhbejjaaaGreat
open Go Go.bM Go.Sym
open Classical
section
variable{N:Nat}{ts:List aA}{xs:List (List UInt8)}{fs:List Func}
theorem WO{l m:List eN}(hN:l.length<N)(hl:l.length<=100000):F80 N (l,m)=some (decide (l=m)):=by
 rw[F80.eq_1];by_cases h:l.length=m.length;.rw[r8 (show(l.length:Int)=(m.length:Int)by omega)];have key:=uk (l:=l) (m:=m) (a:=(.inr ():Bool⊕Unit)) (b:=.inl false) (Lf:=λk i=>f80.aP N k (l,m,(l.length:Int),i)) h (λk=>by simp only[f80.aP.eq_2,aJ,af]) (λk i x y hx hy h1 h2=>by
  have hi:=aC h1;simp only[f80.aP.eq_2,aG hi,aq,aD h1,aD h2,ae,ai (show i<9223372036854775807by omega)];by_cases e:x=y;.subst e;simp
  .rw[be e,show(x.1==y.1&&(x.2==y.2&&true))=false by cases hh:(x.1==y.1&&(x.2==y.2&&true))with|false=>rfl|true=>simp only[kp,am,kv]at hh;exact absurd (Prod.ext hh.1 hh.2) e];rfl) N hN;grind
 .rw[pW (show(l.length:Int)≠(m.length:Int)by omega),aM (λe=>h (by rw[e]))];rfl
theorem aeZ(hN:14000000<N)(hm:iQ ts xs fs):F30 N (ts,xs,fs)=some (MP ts xs fs):=by
 have h32:=hm.1.2.2.2.1;rw[F30.eq_1,F57.eq_1,Df (show 1300<N by omega) hm];simp only[ae];unfold MP;by_cases hc:jD ts xs fs=0
 .have hv:gS ts xs fs:=⟨hm,FN hc⟩;rw[bb hc,show(jD ts xs fs !=0)=false by simp[hc],af];rcases de (l:=fs) (g:=λ_:Unit=>(.inr ():(Int×Int×Int)⊕Unit)) (Out:=λr=>∃i a e,r=.inl (i,a,e)/\(eZ (lE ts xs fs) 0 fs).elim 0 (λr=>r.2)=e) (Inv:=λi _=>eZ (lE ts xs fs) 0 fs=eZ (lE ts xs fs) i (fs.drop i)) (Lf:=λk i _=>f57.cI N k (fs,(fs.length:Int),i,ts,xs,fs)) (λk _ _=>by simp only[f57.cI.eq_2,aJ,af]) (λk i x _ hx hI=>by
    have hi:=aC hx;have hd:fs.drop i=x::fs.drop (i+1):=by rw[ib hi];rw[al hi]at hx;rw[fb hx]
    simp only[f57.cI.eq_2,aG hi,aq,aD hx,alq hN hv (aD hx),ae,ai (show i<9223372036854775807by omega)];have hq:(bif(fE ts xs fs x (i:Int)).2.2.2==0then Option.bind (F80 N ((fE ts xs fs x (i:Int)).1,x.2.2.2.2.2.1)) (λy=>bif !y then some true else Option.bind (F80 N ((fE ts xs fs x (i:Int)).2.1,x.2.2.2.2.2.2)) λz=>some (!z))else some false)=some (decide ((fE ts xs fs x (i:Int)).2.2.2=0/\¬((fE ts xs fs x (i:Int)).1=x.2.2.2.2.2.1/\(fE ts xs fs x (i:Int)).2.1=x.2.2.2.2.2.2))):=by
     by_cases he:(fE ts xs fs x (i:Int)).2.2.2=0
     .obtain⟨h1,h2⟩:=DA hv (hv.get hx) he;obtain⟨⟨g1,g2⟩,_⟩:=qA h1;have r1:=oJ g1;have r2:=oJ g2;have hle:=h1.fn.len.2;rw[he,qB rfl,aq,h2];simp only;rw[WO (by omega) (by omega),WO (by omega) (by omega)];simp only[ae];by_cases e1:xw (tT ts fs x)=x.2.2.2.2.2.1
      .rw[aS e1,da,af];by_cases e2:xw (cN (cA x))=x.2.2.2.2.2.2;.rw[aS e2,aM (show¬(True/\¬(xw (tT ts fs x)=x.2.2.2.2.2.1/\xw (cN (cA x))=x.2.2.2.2.2.2))fromλh=>h.2 ⟨e1,e2⟩)];rfl
       .rw[aM e2,aS (show True/\¬(xw (tT ts fs x)=x.2.2.2.2.2.1/\xw (cN (cA x))=x.2.2.2.2.2.2)from⟨trivial,λh=>e2 h.2⟩)];rfl
      .rw[aM e1,aS (show True/\¬(xw (tT ts fs x)=x.2.2.2.2.2.1/\xw (cN (cA x))=x.2.2.2.2.2.2)from⟨trivial,λh=>e1 h.1⟩)];rfl
     .rw[tU he,af,aM (λh=>he h.1)]
    rw[hq,ae];rw[hd,eZ]at hI;unfold lE at hI⊢;by_cases he:(fE ts xs fs x (i:Int)).2.2.2=0
    .rw[bb he]at hI;by_cases hs:(fE ts xs fs x (i:Int)).1=x.2.2.2.2.2.1/\(fE ts xs fs x (i:Int)).2.1=x.2.2.2.2.2.2;.rw[bb hs,be (λh=>h rfl)]at hI;exact .inr ⟨(),hI,by rw[aM (λh=>h.2 hs),af,r8 he,af]⟩
     .rw[be hs,bb (by decide)]at hI;exact .inl ⟨_,⟨(i:Int),-1,32,rfl,by rw[hI];rfl⟩,by rw[aS ⟨he,hs⟩,aq]⟩
    .rw[be he,bb he]at hI;exact .inl ⟨_,⟨(i:Int),(fE ts xs fs x (i:Int)).2.2.1,(fE ts xs fs x (i:Int)).2.2.2,rfl,by rw[hI];rfl⟩,by rw[aM (λh=>he h.1),af,pW he,aq]⟩) (k:=N) (s:=()) rfl (by omega)with⟨r,⟨i,a,e,rfl,h2⟩,h3⟩|⟨_,h1,h3⟩;.rw[h3,h2];rfl
  .rw[h3,h1,rf];rfl
 .rw[be hc,show(jD ts xs fs !=0)=true by simp[bne,hc],aq];rfl
theorem QI(h:MP ts xs fs=0):jD ts xs fs=0:=by unfold MP at h<;>grind
noncomputable def DD(s k h r:Int):Prop:=(1<=s/\s<=5000)/\(0<=k/\k<=4096)/\(0<=h/\h<=16384)/\1<=r/\r<=16
theorem WQ(a b c:Int):Yy N (a,b,c)=some (decide (b<=a/\a<=c)):=by rw[Yy.eq_1,fP,ae,rx]
theorem Zl(hN:1300<N)(s k h r:Int):F31 N ([],s,k,h,r)=some (if DD s k h r then 0 else 8):=by
 rw[F31.eq_1];simp only[WQ,ae];obtain⟨n,rfl⟩:∃q,N=q+1:=⟨N-1,by omega⟩;have hl:f31.gN (n+1) (n+1) ([],(([]:List Int).length:Int),0)=some (.inr ()):=by rfl
 unfold DD<;>grind
theorem limited(hN:1300<N)(s k h r:Int):F44 N (s,k,h,r)=some (decide (DD s k h r)):=by
 rw[F44.eq_1,F71.eq_1,F99.eq_1];obtain⟨n,rfl⟩:∃q,N=q+1:=⟨N-1,by omega⟩;have hl:f71.aP (n+1) (n+1) (0,[],s,k,h,r)=some (.inr ()):=by rw[f71.aP.eq_2];rfl
 rw[hl];simp only[fP,ae];rw[show(decide (s>=1)&&(decide (s<=5000)&&(decide (k>=0)&&(decide (k<=4096)&&(decide (h>=0)&&(decide (h<=16384)&&(decide (r>=1)&&decide (r<=16))))))))=decide (DD s k h r)by rw[lO];unfold DD;simp only[am,db,ge_iff_le,and_assoc]];rw[aM (show¬(([]:List Int).length:Int)>2000by decide),af];cases decide (DD s k h r)<;>rfl
noncomputable def RV(g:Nat)(x:dY):Prop:=(x.1=3/\x.2.1=0/\x.2.2.1=16777216*(g+1)/\x.2.2.2.1=0/\x.2.2.2.2.1=0/\x.2.2.2.2.2=0)\/((x.1=1/\x.2.2.2.2.2=0\/x.1=2)/\(256<=x.2.1/\x.2.1<8448)/\(16777216*(g+1)+24<=x.2.2.1/\x.2.2.1<=16777216*(g+1)+4096/\x.2.2.1%8=0)/\(x.2.2.2.1=0\/65536<=x.2.2.2.1/\x.2.2.2.1%8=0)/\(x.2.2.2.2.1=0\/65536<=x.2.2.2.2.1/\x.2.2.2.2.1%8=0))
noncomputable def Zm(x:dY):Prop:=u64 x.2.1/\u64 x.2.2.1/\u64 x.2.2.2.1/\u64 x.2.2.2.2.1
theorem alw{g:Nat}(h:g<=100):F82 N (g:Int)=some (16777216*((g:Int)+1)):=by rw[F82.eq_1,aI (by omega),aR (n:=(g:Int)+1) (by omega),aR (by omega)]
theorem Od{g:Nat}(h:g<=100):F47 N (g:Int)=some (16777216*((g:Int)+1)):=by rw[F47.eq_1,aI (n:=(g:Int)+1) (by omega),aI (by omega),aR (by omega)]
theorem ae0(a:Int):F83 N a=some (decide (256<=a/\a<8448)):=by rw[F83.eq_1,fP,ae,rx]
theorem abb{a:Int}(h:u64 a):Vp N a=some (decide (256<=a/\a<8448)):=by have h1:=h.1;have h2:=h.2;rw[Vp.eq_1,AU h1,aR (by omega),fP,ae];congr 1;grind
theorem Oe{a:Int}(h:u64 a):F84 N a=some (decide (a=0\/65536<=a/\a%8=0)):=by rw[F84.eq_1,nW h.1,fP,dg,ae];congr 1;grind
theorem A6{a:Int}(h:u64 a):P3 N a=some (decide (a=0\/65536<=a/\a%8=0)):=by rw[P3.eq_1,nW h.1,fP,dg,ae];congr 1;grind
theorem ae1{g:Nat}(hg:g<=100){x:dY}(hx:Zm x):F61 N ((g:Int),x.1,x.2.1,x.2.2.1,x.2.2.2.1,x.2.2.2.2.1,x.2.2.2.2.2)=some (decide (RV g x)):=by
 obtain⟨st,cd,sp,df,pn,ky⟩:=x;obtain⟨u1,u2,u3,u4⟩:=hx;simp at u1 u2 u3 u4;rw[F61.eq_1];simp only[alw hg,ae0,Oe u3,Oe u4,ae];have p2:=u2.2;by_cases c3:st=3;.subst c3;rw[qB rfl,aq];congr 1;rw[lO];unfold RV<;>grind
 .rw[tU c3];by_cases c4:sp<16777216*((g:Int)+1);.rw[aS c4,aM (show¬RV g (st,cd,sp,df,pn,ky)fromλh=>by unfold RV at h;simp at h;omega)];rfl
  .rw[aM c4,aR (n:=sp-_) (by omega),nW (by omega)];by_cases c5:16777216*((g:Int)+1)+24<=sp/\sp<=16777216*((g:Int)+1)+4096/\sp%8=0
   .rw[aM (show¬sp-16777216*((g:Int)+1)<24by omega),aM (show¬sp-16777216*((g:Int)+1)>4096by omega),r8 (show(sp-16777216*((g:Int)+1))%8=0 by omega)];have e:decide (RV g (st,cd,sp,df,pn,ky))=((decide (st=1/\ky=0\/st=2))&&(decide (256<=cd/\cd<8448)&&(decide (df=0\/65536<=df/\df%8=0)&&decide (pn=0\/65536<=pn/\pn%8=0)))):=by rw[lO];unfold RV<;>grind
    grind
   .have e1:(bif decide (sp-16777216*((g:Int)+1)<24)then some true else bif decide (sp-16777216*((g:Int)+1)>4096)then some true else some ((sp-16777216*((g:Int)+1))%8!=0))=some true:=by rw[dg,dg];congr 1;grind
    rw[e1,aM (show¬RV g (st,cd,sp,df,pn,ky)fromλh=>by unfold RV at h;simp only at h;omega)];rfl
theorem ae2{g:Nat}(hg:g<=100){x:dY}(hx:Zm x):F72 N ((g:Int),x.1,x.2.1,x.2.2.1,x.2.2.2.1,x.2.2.2.2.1,x.2.2.2.2.2)=some (decide (RV g x)):=by
 obtain⟨st,cd,sp,df,pn,ky⟩:=x;obtain⟨u1,u2,u3,u4⟩:=hx;simp only at u1 u2 u3 u4;rw[F72.eq_1];have p1:=u2.1;have p2:=u2.2;have e:(decide (256<=cd/\cd<8448)&&(decide (sp>=16777216*((g:Int)+1)+24)&&(decide (sp<=16777216*((g:Int)+1)+4096)&&(sp%8==0&&(decide (df=0\/65536<=df/\df%8=0)&&decide (pn=0\/65536<=pn/\pn%8=0))))))=decide ((256<=cd/\cd<8448)/\(16777216*((g:Int)+1)+24<=sp/\sp<=16777216*((g:Int)+1)+4096/\sp%8=0)/\(df=0\/65536<=df/\df%8=0)/\(pn=0\/65536<=pn/\pn%8=0)):=by rw[lO];simp only[am,kv,db];omega
 have b1:aL (16777216*((g:Int)+1)+24)=16777216*((g:Int)+1)+24:=aR (by omega);have b2:aL (16777216*((g:Int)+1)+4096)=16777216*((g:Int)+1)+4096:=aR (by omega);have Bx:∀{α:Type}(K:Bool->α),∀q:Bool,q=decide ((256<=cd/\cd<8448)/\(16777216*((g:Int)+1)+24<=sp/\sp<=16777216*((g:Int)+1)+4096/\sp%8=0)/\(df=0\/65536<=df/\df%8=0)/\(pn=0\/65536<=pn/\pn%8=0))->K q=K q:=λ_ _ _=>rfl;simp only[Od hg,ae];by_cases c1:st=1
 .rw[qB c1,aq];by_cases c2:ky=0;.rw[r8 c2,af];simp only[ae,Od hg,abb u1,A6 u3,A6 u4,b1,b2,nW p1,fP,e];congr 1;rw[ka];unfold RV;simp only;omega
  .rw[pW c2,aq,aM (show¬RV g (st,cd,sp,df,pn,ky)fromλh=>by unfold RV at h;simp only at h;omega)];rfl
 .rw[tU c1,af];by_cases c2:st=2;.rw[qB c2,aq];simp only[ae,Od hg,abb u1,A6 u3,A6 u4,b1,b2,nW p1,fP,e];congr 1;rw[ka];unfold RV;simp only;omega
  .rw[tU c2,af];by_cases c3:st=3;.rw[qB c3,aq];simp only[fP,ae];congr 1;rw[lO];unfold RV;simp only[am,kv,db];omega
   .rw[tU c3,af,aM (show¬RV g (st,cd,sp,df,pn,ky)fromλh=>by unfold RV at h;simp only at h;omega)];rfl
noncomputable def RVs(l:List dY):Prop:=(1<=l.length/\l.length<=16)/\∀(i:Nat)x,l[i]?=some x->RV i x
theorem Zn(hN:1300<N){l:List dY}(hr:∀x,x∈l->Zm x):F32 N l=some (if RVs l then 0 else 8):=by
 rw[F32.eq_1];by_cases h1:(l.length:Int)<1;.rw[aS h1,be (λh=>by have:=h.1.1;omega)];rfl
 rw[aM h1,af,ae];by_cases h2:(l.length:Int)>16;.rw[aS h2,be (λh=>by have:=h.1.2;omega)];rfl
 rw[aM h2];rcases de (l:=l) (g:=λ_:Unit=>(.inr ():Int⊕Unit)) (Out:=λr=>r=.inl 8/\¬RVs l) (Inv:=λi _=>∀(j:Nat)x,j<i->l[j]?=some x->RV j x) (Lf:=λk i _=>f32.aP N k (l,(l.length:Int),i)) (λk _ _=>by simp only[f32.aP.eq_2,aJ,af]) (λk i x _ hx hI=>by
  have hi:=aC hx;simp only[f32.aP.eq_2,aG hi,aq,aD hx,ae,ae1 (show i<=100by omega) (hr x (aU hx)),ai (show i<9223372036854775807by omega)];by_cases hv:RV i x;.exact .inr ⟨(),λj y hj hy=>by
   by_cases e:j=i;.subst e;rw[hx]at hy;rw[<-fb hy];exact hv
   .exact hI j y (by omega) hy,by rw[aS hv];rfl⟩
  .exact .inl ⟨_,⟨rfl,λh=>hv (h.2 i x hx)⟩,by rw[aM hv];rfl⟩) (k:=N) (s:=()) (λj x hj=>by omega) (by omega)with⟨r,⟨rfl,h3⟩,h4⟩|⟨_,h3,h4⟩;.grind
 .rw[h4,bb ⟨by omega,λi x hx=>h3 i x (aC hx) hx⟩];rfl
theorem Zo(hN:1300<N){l:List dY}(hr:∀x,x∈l->Zm x):F45 N l=some (if RVs l then 0 else 8):=by
 rw[F45.eq_1];by_cases h1:(l.length:Int)=0;.rw[qB h1,be (λh=>by have:=h.1.1;omega)];rfl
 rw[tU h1,af,ae];by_cases h2:(l.length:Int)>16;.rw[aS h2,be (λh=>by have:=h.1.2;omega)];rfl
 rw[aM h2];rcases de (l:=l) (g:=λ_:Unit=>(.inr ():Int⊕Unit)) (Out:=λr=>r=.inl 8/\¬RVs l) (Inv:=λi _=>∀(j:Nat)x,j<i->l[j]?=some x->RV j x) (Lf:=λk i _=>f45.aP N k (l,i)) (λk _ _=>by simp only[f45.aP.eq_2,aJ,af]) (λk i x _ hx hI=>by
  have hi:=aC hx;simp only[f45.aP.eq_2,aG hi,aq,aD hx,ae,ae2 (show i<=100by omega) (hr x (aU hx)),ai (show i<9223372036854775807by omega)];by_cases hv:RV i x;.exact .inr ⟨(),λj y hj hy=>by
   by_cases e:j=i;.subst e;rw[hx]at hy;rw[<-fb hy];exact hv
   .exact hI j y (by omega) hy,by rw[aS hv];rfl⟩
  .exact .inl ⟨_,⟨rfl,λh=>hv (h.2 i x hx)⟩,by rw[aM hv];rfl⟩) (k:=N) (s:=()) (λj x hj=>by omega) (by omega)with⟨r,⟨rfl,h3⟩,h4⟩|⟨_,h3,h4⟩;.grind
 .rw[h4,bb ⟨by omega,λi x hx=>h3 i x (aC hx) hx⟩];rfl
end
end Go.Proofs.YtkdilffhbejjaaaGreat
