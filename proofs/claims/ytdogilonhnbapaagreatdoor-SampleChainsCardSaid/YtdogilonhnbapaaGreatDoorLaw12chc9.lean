/- A part of the proof: Law12chc6, Law12chc7, Law12chc8, Law12chc9. -/
import Derived.Test.YtdogilonhnbapaaGreatDoorLaw12chg9
import Derived.KernelRfl
set_option linter.unusedVariables false
set_option linter.unusedSimpArgs false
namespace Go.Proofs.YtdogilonhnbapaaGreatDoor
open Go Go.bI Go.Sym
open Classical
noncomputable def tZ:Instr:=(34,-1,0,0)
noncomputable def Ko:List UInt8:=[109,97,105,110]
abbrev RQ:=Nat->List fA×List fA
noncomputable def Q0:RQ:=λ_=>([(0,0)],[(0,0)])
theorem Kp{n:Nat}(h:1<=n):cQ [(0,0)] (n:Int):=by
 refine⟨by simp,rfl,λi hi=>by simp at hi,λi hi=>?_⟩;simp at hi;have:i=0:=by omega
 subst this;show(0:Int)<n;omega
theorem ajQ:zF [(0,0)]:=by unfold zF;decide
theorem Oy:∀l:List Instr,(l.flatMap encI).length<=31*l.length|[]=>by simp|x::r=>by have:=mz x;have:=Oy r<;>grind
theorem Vs{l:List Instr}{i:Nat}{x:Instr}(h:l[i]?=some x)(h1:x.1≠34/\x.1≠28/\x.1≠30/\x.1≠22/\x.1≠23):nx l i=[i+1]:=by simp[nx,h,h1]
theorem Oz{l:List Instr}{i:Nat}{x:Instr}(h:l[i]?=some x)(h1:x.1=34\/x.1=28\/x.1=30):nx l i=[]:=by simp[nx,h,h1]
end Go.Proofs.YtdogilonhnbapaaGreatDoor
namespace Go.Proofs.YtdogilonhnbapaaGreatDoor
open Go Go.bI Go.Sym
open Classical
theorem wZ{k:Nat}(h:k<10):Lib.digitVal (UInt8.ofNat (48+k))=some k:=by
 have:∀k,k<10->Lib.digitVal (UInt8.ofNat (48+k))=some k:=by decide
 grind
theorem w8(b:UInt8):∀(l:List UInt8)(acc:Nat),Lib.decFrom acc (l++[b])=(Lib.decFrom acc l).bind λn=>(Lib.digitVal b).map λd=>n*10+d|[],acc=>by simp only[List.nil_append,Lib.decFrom,Option.bind_some]<;>grind|c::r,acc=>by simp[List.cons_append,Lib.decFrom];cases Lib.digitVal c with|none=>rfl|some d=>exact w8 b r _
theorem zQ(u:Nat):Lib.decFrom 0 (Lib.decDigits u)=some u:=by induction u using Nat.strongRecOn with|_ u ih=>
 rw[Lib.decDigits];split;.rename_i h;simp only[Lib.decFrom,wZ h,Nat.zero_mul,Nat.zero_add]
 .rw[w8,ih (u/10) (by omega),Option.bind_some,wZ (Nat.mod_lt _ (by decide)),Option.map_some]<;>grind
noncomputable def M1(b:UInt8):Prop:=48<=b.toNat/\b.toNat<=57
theorem Kq{k:Nat}(h:k<10):M1 (UInt8.ofNat (48+k)):=by
 have:∀k,k<10->48<=(UInt8.ofNat (48+k)).toNat/\(UInt8.ofNat (48+k)).toNat<=57:=by decide
 exact this k h
theorem HC(u:Nat):∀b,b∈Lib.decDigits u->M1 b:=by induction u using Nat.strongRecOn with|_ u ih=>
  rw[Lib.decDigits];split;.rename_i h;intro b hb;rw[List.mem_singleton.1 hb];exact Kq h
  .intro b hb;rcases List.mem_append.1 hb with hb|hb;.grind
   .rw[List.mem_singleton.1 hb];exact Kq (Nat.mod_lt _ (by decide))
theorem C0(u:Nat):Lib.decDigits u≠[]:=by rw[Lib.decDigits];split<;>simp
theorem OA{u:Nat}(h:u<=9223372036854775808):(Lib.decDigits u).length<=20:=by
 have key:∀k u:Nat,u<10^(k+1)->(Lib.decDigits u).length<=k+1:=by intro k;induction k with|zero=>intro u hu;rw[Lib.decDigits,dif_pos (by simpa using hu)];simp|succ k ih=>intro u hu;rw[Lib.decDigits]<;>grind
 exact key 19 u (by omega)
theorem C1:∀(l:List UInt8)(acc v:Nat),Lib.decFrom acc l=some v->acc<=v
 |[],acc,v,h=>by cases h;omega|c::r,acc,v,h=>by
  simp[Lib.decFrom]at h;split at h;.have:=C1 r _ _ h;omega
  grind
theorem Fm:∀(l:List UInt8)(acc v:Nat),Lib.decFrom acc l=some v->v<18446744073709551616->Lib.parseUint10 acc l=.ok v
 |[],acc,v,h,_=>by cases h;rfl|c::r,acc,v,h,hv=>by
  simp[Lib.decFrom]at h;split at h
  .rename_i d hd;have hl:=C1 r _ _ h;unfold Lib.digitVal at hd;split at hd;.rename_i hc;cases hd;simp[Lib.parseUint10];rw[if_pos hc,if_neg (by omega),if_neg (by omega)];exact Fm r _ v h hv
   grind
  grind
noncomputable def kO(n:Int):Prop:=-9223372036854775808<=n/\n<=9223372036854775807
theorem qa{n:Int}(h:kO n):(Lib.itoa n).length<=21:=by
 unfold Lib.itoa kO at*;split;.have:=OA (u:=n.natAbs) (by omega)<;>grind
 .have:=OA (u:=n.toNat) (by omega);omega
theorem Q2{n:Int}:Lib.atoi (Lib.itoa n)=some n:=by
 unfold Lib.itoa;have key:∀u,Lib.decNat (Lib.decDigits u)=some u:=λu=>by unfold Lib.decNat;rw[if_neg (by simpa using C0 u),zQ]
 split;.show((Lib.decNat (Lib.decDigits n.natAbs)).map λ(m:Nat)=>-(m:Int))=some n;grind
 .have hk:=key n.toNat;have hd:=HC n.toNat;cases hl:Lib.decDigits n.toNat with|nil=>exact absurd hl (C0 _)|cons b r=>
  rw[hl]at hk hd;have:=hd b List.mem_cons_self;unfold M1 at this;have h1:(b==45)=false:=by rw[beq_eq_false_iff_ne];rintro rfl;grind
  have h2:(b==43)=false:=by rw[beq_eq_false_iff_ne];rintro rfl;grind
  simp only[Lib.atoi,h1,h2,hk,Option.map_some]<;>grind
theorem HD{n:Int}(h:kO n):Lib.atoiAll (Lib.itoa n)=.ok n:=by
 unfold kO at h;have key:∀u,u<18446744073709551616->Lib.parseMag (Lib.decDigits u)=.ok u:=λu hu=>by unfold Lib.parseMag;rw[if_neg (C0 u),Fm _ _ _ (zQ u) hu]
 unfold Lib.itoa;split;.have e:Lib.atoiAll (45::Lib.decDigits n.natAbs)=(match Lib.parseMag (Lib.decDigits n.natAbs)with|.syntax=>.syntax|.range=>.range|.ok u=>if¬(45:UInt8).toNat=45/\9223372036854775808<=u then .range else if(45:UInt8).toNat=45/\9223372036854775808<u then .range else .ok (if(45:UInt8).toNat=45then-(u:Int)else u)):=rfl;grind
 .have hk:=key n.toNat (by omega);have hd:=HC n.toNat;cases hl:Lib.decDigits n.toNat with|nil=>exact absurd hl (C0 _)|cons b r=>rw[hl]at hk hd;have:=hd b List.mem_cons_self;unfold M1 at this;unfold Lib.atoiAll<;>grind
theorem Fo{n:Int}(h:kO n):uh n=some (Lib.itoa n):=by
 unfold kO at h;unfold uh;split
 .rename_i k;split
  .rename_i hk;have hk:k<100:=by simp_all
   congr 1;exact(GK hk).symm
  .rw[show Nat.ble k 9223372036854775807=true by simp[Int.ofNat_eq_natCast]at h;simp;omega]
 .rename_i k;split
  .rename_i hk;have hk:k<99:=by simp_all
   unfold Lib.itoa;rw[if_pos (by omega),show(Int.negSucc k).natAbs=k+1from rfl,GK (by omega)]
  .rw[show Nat.ble k 9223372036854775807=true by simp;omega]
theorem Fp{n:Int}(h:kO n):BY (Lib.itoa n)=some (n,false):=by
 unfold BY;have:=qa h;split;.rw[Q2]
 .rw[show Nat.ble (Lib.itoa n).length 1000000=true by simp;omega,HD h]
noncomputable def jc:List (List UInt8)->List UInt8|[]=>[]|[w]=>w|w::v::r=>w++([59,32]++jc (v::r))
theorem afH(n:Nat):((n:Int)==-1)=false:=by grind
theorem Vt(w r:List UInt8):(w++([59,32]++r)).drop (w.length+([59,32]:List UInt8).length)=r:=by grind
theorem vf:∀(w r:List UInt8),(∀b,b∈w->b≠59)->Lib.index (w++([59,32]++r)) [59,32]=(w.length:Int)|[],r,_=>by show(if([59,32]:List UInt8).isPrefixOf (59::32::r)then(0:Int)else _)=_;rfl|b::w,r,h=>by have ih:=vf w r λc hc=>h c (List.mem_cons_of_mem _ hc);have hb:=h b List.mem_cons_self;show(if([59,32]:List UInt8).isPrefixOf (b::(w++([59,32]++r)))then(0:Int)else if Lib.index (w++([59,32]++r)) [59,32]==-1then-1 else Lib.index (w++([59,32]++r)) [59,32]+1)=_;grind
theorem index_none:∀(w:List UInt8),(∀b,b∈w->b≠59)->Lib.index w [59,32]=-1|[],_=>rfl|b::w,h=>by have ih:=index_none w λc hc=>h c (List.mem_cons_of_mem _ hc);have hb:=h b List.mem_cons_self;show(if([59,32]:List UInt8).isPrefixOf (b::w)then(0:Int)else if Lib.index w [59,32]==-1then-1 else Lib.index w [59,32]+1)=_;grind
theorem C2:∀(ws:List (List UInt8))(f:Nat),(∀w,w∈ws->∀b,b∈w->b≠59)->1<=ws.length->ws.length<=f->Lib.countFrom [59,32] f (jc ws)=ws.length-1|[],_,_,h,_=>by simp at h|[w],f,h,_,hf=>by obtain⟨f,rfl⟩:∃g,f=g+1:=⟨f-1,by simp at hf;omega⟩;simp only[Lib.countFrom,jc,index_none w (h w List.mem_cons_self)];simp|w::v::r,f,h,_,hf=>by obtain⟨f,rfl⟩:∃g,f=g+1:=⟨f-1,by simp at hf;omega⟩;have ih:=C2 (v::r) f (λx hx=>h x (List.mem_cons_of_mem _ hx)) (by simp) (by simp only[List.length_cons]at hf⊢;omega);simp only[Lib.countFrom,jc,vf w (jc (v::r)) (h w List.mem_cons_self)];rw[afH,if_neg Bool.false_ne_true,Int.toNat_natCast,Vt,ih]<;>grind
theorem C3:∀(ws:List (List UInt8)),(∀w,w∈ws->∀b,b∈w->b≠59)->1<=ws.length->Lib.splitK [59,32] 0 (ws.length-1) (jc ws)=ws
 |[],_,h=>by simp at h|[w],_,_=>rfl|w::v::r,h,_=>by
  have ih:=C3 (v::r) (λx hx=>h x (List.mem_cons_of_mem _ hx)) (by simp);have e:(w::v::r).length-1=((v::r).length-1)+1:=by simp
  rw[e];simp only[Lib.splitK,jc,vf w (jc (v::r)) (h w List.mem_cons_self)]<;>simp_all
theorem Fq:∀(ws:List (List UInt8)),ws.length<=(jc ws).length+1|[]=>by simp|[w]=>by simp|w::v::r=>by have:=Fq (v::r);simp[jc,List.length_append,List.length_cons,List.length_nil]at this⊢;omega
theorem Q3{N:Nat}{ws:List (List UInt8)}(h:∀w,w∈ws->∀b,b∈w->b≠59)(h1:1<=ws.length)(hl:(jc ws).length<1000000):F17 N (jc ws,[59,32])=some ws:=by show(match Nat.blt (jc ws).length 1000000&&Nat.blt 0 ([59,32]:List UInt8).length with|true=>some (Lib.splitK [59,32] 0 (Lib.count (jc ws) [59,32]) (jc ws))|false=>none)=some ws;rw[show(Nat.blt (jc ws).length 1000000&&Nat.blt 0 ([59,32]:List UInt8).length)=true by simp;omega];unfold Lib.count;rw[C2 ws _ h h1 (Fq ws)];simp[C3 ws h h1]
theorem o8:∀(d cur:List UInt8),(∀b,b∈d->Lib.isSp b=false)->cur++d≠[]->Lib.fieldsGo cur d=[cur++d]|[],cur,_,h=>by simp[List.append_nil]at h⊢;simp only[Lib.fieldsGo]<;>grind|b::d,cur,h,_=>by have:=o8 d (cur++[b]) (λc hc=>h c (List.mem_cons_of_mem _ hc)) (by simp);simp only[Lib.fieldsGo,h b List.mem_cons_self]<;>grind
theorem vg{n:Int}:Lib.itoa n≠[]/\∀b,b∈Lib.itoa n->(b=45\/M1 b):=by
 unfold Lib.itoa;split
 .refine⟨by simp,λb hb=>?_⟩;rcases List.mem_cons.1 hb with rfl|hb;.grind
  .exact .inr (HC _ b hb)
 .exact⟨C0 _,λb hb=>.inr (HC _ b hb)⟩
theorem tC{b:UInt8}(h:b=45\/M1 b):Lib.isSp b=false/\b≠59/\b.toNat<128:=by
 have key:∀k:Nat,k<58->(k=45\/48<=k)->Lib.isSp (UInt8.ofNat k)=false/\UInt8.ofNat k≠59/\(UInt8.ofNat k).toNat<128:=by decide
 have e:b=UInt8.ofNat b.toNat:=by simp
 rw[e];unfold M1 at h;refine key b.toNat ?_ ?_
 .rcases h with rfl|h;.decide
  .omega
 .rcases h with rfl|h;.exact .inl rfl
  .exact .inr h.1
theorem C4{N:Nat}{s:List UInt8}{l:List (List UInt8)}(h:∀b,b∈s->b.toNat<128)(hl:s.length<1000000)(hf:Lib.fields s=l):F15 N s=some l:=by show(match small s&&Nat.blt s.length 1000000with|true=>some (Lib.fields s)|false=>none)=some l;rw[show(small s&&Nat.blt s.length 1000000)=true by unfold small;rw[Bool.and_eq_true,List.all_eq_true];exact⟨λb hb=>by simpa using h b hb,by simpa using hl⟩,hf]
noncomputable def qU:List UInt8:=[100,101,102,101,114,32]
noncomputable def HE:List UInt8:=[105,110,116,32,48,32]
theorem HF{N:Nat}{n:Int}(h:kO n):F15 N (qU++Lib.itoa n)=some [[100,101,102,101,114],Lib.itoa n]:=by
 obtain⟨h1,h2⟩:=vg (n:=n);have:=qa h;refine C4 (λb hb=>?_) (by rw[List.length_append];show 6+_<_;omega) ?_
 .rcases List.mem_append.1 hb with hb|hb
  .have:∀b,b∈qU->b.toNat<128:=by decide
   grind
  .exact(tC (h2 b hb)).2.2
 .show[100,101,102,101,114]::Lib.fieldsGo [] (Lib.itoa n)=_;rw[o8 _ _ (λb hb=>(tC (h2 b hb)).1) (by simpa using h1)];rfl
theorem M3{N:Nat}{n:Int}(h:kO n):F15 N (HE++Lib.itoa n)=some [[105,110,116],[48],Lib.itoa n]:=by
 obtain⟨h1,h2⟩:=vg (n:=n);have:=qa h;refine C4 (λb hb=>?_) (by rw[List.length_append];show 6+_<_;omega) ?_
 .rcases List.mem_append.1 hb with hb|hb
  .have:∀b,b∈HE->b.toNat<128:=by decide
   grind
  .exact(tC (h2 b hb)).2.2
 .show[105,110,116]::[48]::Lib.fieldsGo [] (Lib.itoa n)=_;rw[o8 _ _ (λb hb=>(tC (h2 b hb)).1) (by simpa using h1)];rfl
end Go.Proofs.YtdogilonhnbapaaGreatDoor
namespace Go.Proofs.YtdogilonhnbapaaGreatDoor
open Go Go.bI Go.Sym
open Classical
inductive Wd(N:Nat):List UInt8->Instr->Prop where|one{w p q:List UInt8}{o v:Int}:F15 N w=some [p,q]->F18 N p=some (o,0)->Xr N q=some (v,false)->Wd N w (o,v,0,0)|two{w p q r:List UInt8}{o v u:Int}:F15 N w=some [p,q,r]->F18 N p=some (o,0)->Xr N q=some (v,false)->Xr N r=some (u,false)->Wd N w (o,v,u,0)
theorem Q4{N k:Nat}{e:List (List UInt8)}{i:Nat}{a:List Instr}{w:List UInt8}{x:Instr}(hi:e[i]?=some w)(arQ:i<=100)(ha:a.length<=100)(h:Wd N w x):f9.ct N (k+1) (0,a,e,(e.length:Int),(i:Int))=f9.ct N k (0,a++[x],e,(e.length:Int),((i+1:Nat):Int)):=by have hl:=aA hi;have hr:room (a.length+1) 32=true:=ah (by omega) (by omega);cases h with|one h1 h2 h3=>rename_i p q o v;simp only[show idx [p,q] 0=some p from rfl,show idx [p,q] 1=some q from rfl,f9.ct.eq_2,aI hl,au,aD hi,Option.bind_some,h1,h2,h3,List.length_cons,List.length_nil,show decide ((0:Int)<((0+1+1:Nat):Int))=true from rfl,show decide ((1:Int)<((0+1+1:Nat):Int))=true from rfl,show decide ((2:Int)<((0+1+1:Nat):Int))=false from rfl,show((0:Int)!=0)=false from rfl,ak,hr,af,aj (show i<9223372036854775807by omega)]|two h1 h2 h3 h4=>rename_i p q r o v u;simp only[show idx [p,q,r] 0=some p from rfl,show idx [p,q,r] 1=some q from rfl,show idx [p,q,r] 2=some r from rfl,f9.ct.eq_2,aI hl,au,aD hi,Option.bind_some,h1,h2,h3,h4,List.length_cons,List.length_nil,show decide ((0:Int)<((0+1+1+1:Nat):Int))=true from rfl,show decide ((1:Int)<((0+1+1+1:Nat):Int))=true from rfl,show decide ((2:Int)<((0+1+1+1:Nat):Int))=true from rfl,show decide ((3:Int)<((0+1+1+1:Nat):Int))=false from rfl,show((0:Int)!=0)=false from rfl,ak,hr,af,aj (show i<9223372036854775807by omega)]
theorem Kr{N:Nat}{e:List (List UInt8)}(he:e.length<=100):∀(suf:List (List UInt8))(xs:List Instr)(pre:List (List UInt8))(a:List Instr)(k:Nat),aC (Wd N) suf xs->e=pre++suf->a.length<=pre.length->suf.length<k->f9.ct N k (0,a,e,(e.length:Int),(pre.length:Int))=some (a++xs)
 |[],[],pre,a,k+1,_,h,_,_=>by simp at h;subst h;rw[f9.ct.eq_2,aL,List.append_nil];rfl|w::suf,x::xs,pre,a,k+1,h,heq,ha,hk=>by
  have hlen:pre.length<=100:=by grind
  have hi:e[pre.length]?=some w:=by grind
  rw[Q4 hi hlen (by omega) h.1];have:=Kr he suf xs (pre++[w]) (a++[x]) k h.2 (by rw[heq];simp) (by simp;omega) (by simp only[List.length_cons]at hk;omega)<;>grind|_::_,[],_,_,_,h,_,_,_=>h.elim|[],_::_,_,_,_,h,_,_,_=>h.elim|_,_,_,_,0,_,_,_,h=>by omega
noncomputable def Vu:List UInt8:=[114,101,99,111,118,101,114,32,49,32,50]
noncomputable def Q5:List UInt8:=[112,97,110,105,99,32,48]
noncomputable def Q6:List UInt8:=[114,101,116,117,114,110,32,45,49]
noncomputable def kP(r:Bool)(d:Option Nat)(x:Int):List (List UInt8):=(if r then[Vu]else[])++((match d with|some t=>[qU++Lib.itoa t]|none=>[])++[HE++Lib.itoa x,Q5,Q6])
noncomputable def Ks:Instr:=(29,1,2,0)
noncomputable def DE:Instr:=(28,0,0,0)
noncomputable def jW(r:Bool)(d:Option Nat)(x:Int):List Instr:=(if r then[Ks]else[])++((match d with|some t=>[((26,(t:Int),0,0):Instr)]|none=>[])++[(1,0,x,0),DE,tZ])
theorem Vv(N:Nat):F18 (N+60) [100,101,102,101,114]=some (26,0):=by kernel_rfl
theorem afI(N:Nat):F18 (N+60) [105,110,116]=some (1,0):=by kernel_rfl
theorem Vw(N:Nat):Wd (N+60) Vu Ks:=.two (p:=[114,101,99,111,118,101,114]) (q:=[49]) (r:=[50]) (by kernel_rfl) (by kernel_rfl) (by kernel_rfl) (by kernel_rfl)
theorem afJ(N:Nat):Wd (N+60) Q5 DE:=.one (p:=[112,97,110,105,99]) (q:=[48]) (by kernel_rfl) (by kernel_rfl) (by kernel_rfl)
theorem afK(N:Nat):Wd (N+60) Q6 tZ:=.one (p:=[114,101,116,117,114,110]) (q:=[45,49]) (by kernel_rfl) (by kernel_rfl) (by kernel_rfl)
theorem Vx{N:Nat}{t:Nat}(h:kO t):Wd (N+60) (qU++Lib.itoa t) (26,(t:Int),0,0):=.one (HF h) (Vv N) (Fp h)
theorem afL{N:Nat}{x:Int}(h:kO x):Wd (N+60) (HE++Lib.itoa x) (1,0,x,0):=.two (M3 h) (afI N) (show Xr (N+60) [48]=some (0,false)by kernel_rfl) (Fp h)
theorem Vy{N:Nat}{r:Bool}{d:Option Nat}{x:Int}(hx:kO x)(hd:∀t,d=some t->t<=1000):aC (Wd (N+60)) (kP r d x) (jW r d x):=by have hD:∀t,d=some t->Wd (N+60) (qU++Lib.itoa (t:Int)) (26,(t:Int),0,0):=λt ht=>Vx (by have:=hd t ht;unfold kO;omega);have base:aC (Wd (N+60)) [HE++Lib.itoa x,Q5,Q6] [(1,0,x,0),DE,tZ]:=⟨afL hx,afJ N,afK N,trivial⟩;cases d with
 |none=>cases r with|false=>exact base|true=>exact⟨Vw N,base⟩
 |some t=>cases r with|false=>exact⟨hD t rfl,base⟩|true=>exact⟨Vw N,hD t rfl,base⟩
theorem M4{r:Bool}{d:Option Nat}{x:Int}:∀w,w∈kP r d x->∀b,b∈w->b≠59:=by
 have hn:∀(n:Int)(p:List UInt8),(∀b,b∈p->b≠59)->∀b,b∈p++Lib.itoa n->b≠59:=λn p hp b hb=>by
  rcases List.mem_append.1 hb with hb|hb;.exact hp b hb
  .exact(tC (vg.2 b hb)).2.1
 intro w hw;rcases List.mem_append.1 hw with hw|hw
 .split at hw;.rw[List.mem_singleton.1 hw];decide
  grind
 rcases List.mem_append.1 hw with hw|hw
 .split at hw;.rw[List.mem_singleton.1 hw];exact hn _ _ (by decide)
  grind
 .simp at hw;rcases hw with rfl|rfl|rfl;.exact hn _ _ (by decide)
  .decide
  .decide
theorem Q7{r:Bool}{d:Option Nat}{x:Int}:3<=(kP r d x).length/\(kP r d x).length<=5:=by unfold kP<;>grind
theorem Kt{r:Bool}{d:Option Nat}{x:Int}(hx:kO x)(hd:∀t,d=some t->t<=1000):(jc (kP r d x)).length<=200:=by have h1:=qa hx;cases d with|none=>cases r<;>(simp only[kP,jc,Vu,Q5,Q6,HE,qU,List.length_append,List.length_cons,List.length_nil,List.nil_append,List.cons_append,if_true,Bool.false_eq_true,if_false];omega)|some t=>have h2:=qa (n:=(t:Int)) (by have:=hd t rfl;unfold kO;omega);cases r<;>(simp only[kP,jc,Vu,Q5,Q6,HE,qU,List.length_append,List.length_cons,List.length_nil,List.nil_append,List.cons_append,if_true,Bool.false_eq_true,if_false];omega)
theorem Vz{N:Nat}{r:Bool}{d:Option Nat}{x:Int}(hx:kO x)(hd:∀t,d=some t->t<=1000):F9 (N+60) (jc (kP r d x),0)=some (jW r d x):=by have hs:=Kt (r:=r) hx hd;have hl:=Q7 (r:=r) (d:=d) (x:=x);rw[F9.eq_1,Q3 M4 (by omega) (by omega),Option.bind_some];have:=Kr (N:=N+60) (e:=kP r d x) (by omega) (kP r d x) (jW r d x) [] [] (N+60) (Vy hx hd) rfl (by simp) (by omega)<;>grind
end Go.Proofs.YtdogilonhnbapaaGreatDoor
namespace Go.Proofs.YtdogilonhnbapaaGreatDoor
open Go Go.bI Go.Sym
open Classical
noncomputable def M5:List Field:=[([110],0),([111,110],1),([107],0)]
noncomputable def jN:List aB:=[(2,0,0,[]),(1,0,0,[])]
noncomputable def qb(i:Nat):List UInt8:=if i=0then Ko else 102::ES i
noncomputable def fe(n i:Nat):Option Nat:=if i+1<n then some (i+1)else none
noncomputable def M6(rs:List Bool)(i:Nat):Bool:=if i=0then false else rs.getD (i-1) false
noncomputable def Ad(l:List Int)(rs:List Bool)(i:Nat):List Instr:=jW (M6 rs i) (fe l.length i) (l.getD i 0)
noncomputable def Ku(Q:RQ)(l:List Int)(rs:List Bool)(i:Nat):Func:=(qb i,0,-1,M5,Ad l rs i,(Q i).1,(Q i).2)
noncomputable def rH(Q:RQ)(l:List Int)(rs:List Bool):List Func:=(List.range l.length).map (Ku Q l rs)
theorem kZ{n:Nat}(h:n<=1000):(!decide (((n:Nat):Int)>IntKind.i64.max))=true:=by rw[show IntKind.i64.max=9223372036854775807from rfl,Bool.not_eq_true',decide_eq_false_iff_not];omega
theorem vh{N k:Nat}(h:k<100):F7 N (k:Int)=some (Lib.itoa (k:Int))/\Lib.itoa (k:Int)=ES k/\(ES k).length<=2:=by
 have e:=Fo (n:=(k:Int)) (by unfold kO;omega);refine⟨e,?_,?_⟩;.have e2:uh (k:Int)=(match Nat.blt k 100with|true=>some (ES k)|false=>match Nat.ble k 9223372036854775807with|true=>some (Lib.itoa (k:Int))|false=>none):=rfl;rw[show Nat.blt k 100=true by simpa using h,e]at e2;exact Option.some.inj e2
 grind[uh,ES]
noncomputable def Kv:List UInt8:=[114,101,99,111,118,101,114,32,49,32,50,59,32]
noncomputable def VA:List UInt8:=[59,32,112,97,110,105,99,32,48,59,32,114,101,116,117,114,110,32,45,49]
noncomputable def M7(r:Bool)(d:Option Nat):List UInt8:=match d with|some t=>(if r then Kv else[])++((qU++Lib.itoa (t:Int))++[59,32])|none=>(if r then Kv else[])
theorem VB(r:Bool)(d:Option Nat)(x:Int):M7 r d++((HE++Lib.itoa x)++VA)=jc (kP r d x):=by have e1:Kv=Vu++[59,32]:=rfl;have e2:VA=[59,32]++(Q5++([59,32]++Q6)):=rfl;cases r<;>cases d<;>simp[M7,kP,jc,e1,e2,List.append_assoc]
theorem afM(N:Nat)(nm:List UInt8)(c:List Instr):F8 (N+60) (nm,[110,32,48,32,111,110,32,49,32,107,32,48],0,-1,c)=some (nm,0,-1,M5,c,[(0,0)],[(0,0)]):=by kernel_rfl
theorem M8{N k i:Nat}{l:List Int}{rs:List Bool}{x:Int}{ts:List aB}{b:List Func}(hl:l.length<=20)(hr:rs.length+1=l.length)(hx:l[i]?=some x)(Qp:kO x)(hb:b.length<=100):f4.ct (N+60) (k+1) (l,rs,l,(l.length:Int),(i:Int),ts,b)=f4.ct (N+60) k (l,rs,l,(l.length:Int),((i+1:Nat):Int),ts,b++[Ku Q0 l rs i]):=by
 have hi:=aA hx;have hxl:=qa Qp;have HJ:F7 (N+60) x=some (Lib.itoa x):=Fo Qp;obtain⟨i1,i2,i3⟩:=vh (N:=N+60) (k:=i) (by omega);obtain⟨j1,j2,j3⟩:=vh (N:=N+60) (k:=i+1) (by omega);have hw:av ((i:Int)+1)=((i+1:Nat):Int):=aj (by omega);have hroom:room (b.length+1) 128=true:=ah (by omega) (by omega);have hcd:∀r,F9 (N+60) (jc (kP r (fe l.length i) x),0)=some (jW r (fe l.length i) x):=λr=>Vz Qp λt ht=>by
  unfold fe at ht;split at ht;.injection ht;omega
  .cases ht
 have nI:l.getD i 0=x:=by grind
 have hpre:∀(r:Bool)(m:List UInt8),m=(if r then Kv else[])->(bif(decide (((i+1:Nat):Int)<(l.length:Int)))then(Option.bind (F7 (N+60) ((i+1:Nat):Int)) λd=>(aE (!decide ((([100,101,102,101,114,32].length+d.length:Nat):Int)>IntKind.i64.max)) (aE (!decide (((([100,101,102,101,114,32]++d).length+[59,32].length:Nat):Int)>IntKind.i64.max)) (aE (!decide (((m.length+(([100,101,102,101,114,32]++d)++[59,32]).length:Nat):Int)>IntKind.i64.max)) (some (m++(([100,101,102,101,114,32]++d)++[59,32])))))))else some m)=some (M7 r (fe l.length i))/\(M7 r (fe l.length i)).length<=100:=λr m hm=>by
  subst hm;have hrl:(if r then Kv else[]).length<=13:=by cases r<;>simp[Kv]
  by_cases hn:i+1<l.length;.rw[decide_eq_true (by omega),au,j1,Option.bind_some,kZ (by rw[j2];simp only[List.length_cons,List.length_nil];omega),af,kZ (by rw[j2];simp only[List.length_append,List.length_cons,List.length_nil];omega),af,kZ (by rw[j2];simp only[List.length_append,List.length_cons,List.length_nil]at hrl⊢;omega),af];unfold fe;rw[if_pos hn];refine⟨rfl,?_⟩;unfold M7 qU;simp only[List.length_append,List.length_cons,List.length_nil]at hrl⊢;rw[j2];omega
  .rw[decide_eq_false (by omega),ak];unfold fe;rw[if_neg hn];exact⟨rfl,by show(if r then Kv else[]).length<=100;omega⟩
 have fin:∀(r:Bool)(nm:List UInt8)(K:List Func->Option (List aB×List Func)),(Option.bind (F7 (N+60) x) λe=>(aE (!decide ((([105,110,116,32,48,32].length+e.length:Nat):Int)>IntKind.i64.max)) (aE (!decide (((([105,110,116,32,48,32]++e).length+[59,32,112,97,110,105,99,32,48,59,32,114,101,116,117,114,110,32,45,49].length:Nat):Int)>IntKind.i64.max)) (aE (!decide ((((M7 r (fe l.length i)).length+(([105,110,116,32,48,32]++e)++[59,32,112,97,110,105,99,32,48,59,32,114,101,116,117,114,110,32,45,49]).length:Nat):Int)>IntKind.i64.max)) (Option.bind (F9 (N+60) ((M7 r (fe l.length i)++(([105,110,116,32,48,32]++e)++[59,32,112,97,110,105,99,32,48,59,32,114,101,116,117,114,110,32,45,49])),0)) λs=>(Option.bind (F8 (N+60) (nm,[110,32,48,32,111,110,32,49,32,107,32,48],0,(-1),s)) λt=>(aE (room (b.length+1) 128) (K (b++[t])))))))))=K (b++[(nm,0,-1,M5,jW r (fe l.length i) x,[(0,0)],[(0,0)])]):=λr nm K=>by have hp:=(hpre r _ rfl).2;have ej:=VB r (fe l.length i) x;unfold HE VA at ej;rw[HJ,Option.bind_some,kZ (by simp only[List.length_cons,List.length_nil];omega),af,kZ (by simp only[List.length_append,List.length_cons,List.length_nil];omega),af,kZ (by simp only[List.length_append,List.length_cons,List.length_nil];omega),af,ej,hcd r,Option.bind_some,afM,Option.bind_some,hroom,af]
 rw[f4.ct.eq_2,aI hi,aD hx,Option.bind_some];unfold Ku Ad;rw[nI];by_cases h0:i=0;.have hp:=(hpre false [] rfl).1;rw[decide_eq_false (show¬(i:Int)>0 by omega),ak,hw,hp,Option.bind_some,fin false [109,97,105,110] λb=>f4.ct (N+60) k (l,rs,l,(l.length:Int),((i+1:Nat):Int),ts,b)];subst h0;rfl
 .obtain⟨r,hrr⟩:∃r,rs[i-1]?=some r:=⟨_,List.getElem?_eq_getElem (by omega)⟩;have hp:=(hpre r _ rfl).1;have hw1:av ((i:Int)-1)=((i-1:Nat):Int):=by rw[bp (by omega)];omega
  have hcr:(bif r then some ([114,101,99,111,118,101,114,32,49,32,50,59,32]:List UInt8)else some ([]:List UInt8))=some (if r then Kv else[]):=by cases r<;>rfl
  have afN:M6 rs i=r:=by unfold M6<;>grind
  have hnm:qb i=[102]++Lib.itoa (i:Int):=by unfold qb;rw[if_neg h0,i2];rfl
  rw[decide_eq_true (show(i:Int)>0 by omega),au,i1,Option.bind_some,kZ (by rw[i2];simp only[List.length_cons,List.length_nil];omega),hw1,aD hrr,Option.bind_some,hcr,Option.bind_some,hw,hp,Option.bind_some,fin r ([102]++Lib.itoa (i:Int)) λb=>f4.ct (N+60) k (l,rs,l,(l.length:Int),((i+1:Nat):Int),ts,b),afN,hnm];rfl
theorem M9{N:Nat}{l:List Int}{rs:List Bool}(hl:l.length<=20)(hr:rs.length+1=l.length)(Qp:∀x,x∈l->kO x):f4.ct (N+60) (N+60) (l,rs,l,(l.length:Int),0,jN,[])=some (jN,rH Q0 l rs):=by obtain⟨s,h1,h2⟩:=dY (l:=l) (g:=λs:List Func=>(jN,s)) (Inv:=λi s=>s=(List.range i).map (Ku Q0 l rs)) (Lf:=λk i s=>f4.ct (N+60) k (l,rs,l,(l.length:Int),i,jN,s)) (λk s _=>by simp only[f4.ct.eq_2,aL,ak]) (λk i x s hx h=>by have hi:=aA hx;refine⟨_,?_,M8 hl hr hx (Qp x (aS hx)) (by rw[h,List.length_map,List.length_range];omega)⟩;rw[h,List.range_succ,List.map_append];rfl) (k:=N+60) (s:=[]) rfl (by omega);rw[h2,h1];rfl
end Go.Proofs.YtdogilonhnbapaaGreatDoor
