/- A part of the proof: Law12mkmk1, Law12mkmk2, Law12mkmk3, Law12mkmk4, Law12mkmk5. -/
import Derived.Test.YtgkllgjmfpjeoaaGreatDoorLaw12mkg9
import Derived.KernelRfl
set_option linter.unusedVariables false
set_option linter.unusedSimpArgs false
namespace Go.Proofs.YtgkllgjmfpjeoaaGreatDoor
open Go Go.bJ Go.Sym
noncomputable def nW:Instr:=(34,-1,0,0)
noncomputable def xW:List Instr:=[(1,0,5,0),(3,1,1,0),(2,2,0,0),(15,3,0,0),(4,4,0,0),(4,5,0,0),(1,7,2,0),(18,6,7,0),(15,8,0,0)]
noncomputable def hD:List Instr:=(List.range 32).map (λv:Nat=>((1,0,(v:Int),0):Instr))++xW++[(6,0,0,7),(7,7,7,0),(8,0,0,7),(9,0,0,7),(10,1,0,7),(12,1,1,0),(11,1,0,7),(17,3,0,0),(16,0,3,0),(4,3,0,0),(14,4,0,0),(13,7,4,0),(14,4,2,3),(17,8,4,0),(16,4,8,0),(20,6,7,0),(19,0,6,7),(20,5,7,0),(19,0,5,7),(21,7,6,0),(26,5,0,0),(26,6,0,0),(33,1,7,0),(5,7,0,0),(2,2,1,0),(29,1,0,0)]
noncomputable def pairs:List (Instr×Instr):=[((24,0,0,0),(25,0,1,0)),((24,7,0,0),(27,3,0,0)),((24,0,0,0),(26,2,0,0)),((24,0,0,0),(26,4,0,0)),((24,0,0,0),(26,7,0,0))]
noncomputable def ends:List Instr:=[(28,0,0,0),(30,0,0,0),(32,7,0,0)]
inductive Qd(f:Int):List Instr->Prop where|one{x:Instr}:x∈hD->Qd f [x]|two{x y:Instr}:(x,y)∈pairs->Qd f [x,y]|br{y:Instr}:y∈ends->Qd f [(23,1,av (av (f+0)+2),0),y]
noncomputable def acB:List Instr->Bool|[x]=>hD.contains x|[x,y]=>pairs.contains (x,y)|_=>false
theorem UF{c:List Instr}{f:Int}(h:acB c=true):Qd f c:=by
 unfold acB at h;split at h;.exact .one (List.contains_iff_mem.1 h)
 .exact .two (List.contains_iff_mem.1 h)
 grind
noncomputable def rep(k:Nat):Nat:=match k%32with|0=>k|25=>25+32*((k/32)%3)|26=>26+32*((k/32)%2)|28=>28+32*((k/32)%4)|r=>r
noncomputable def Xj:List Nat:=(List.range 32).map (32*·)++(List.range' 1 27)++[57,89,58,28,60,92,124]
theorem Nn:∀k,k<1024->rep k∈Xj\/29<=rep k/\rep k<=31:=by decide+kernel
theorem PJ{N n:Nat}(hn:n<=100000):tH N (n:Int)=tH N ((n%1024:Nat):Int):=by
 have h1:∀m:Nat,m<=100000->Int.tmod (max (m:Int) 0) 32=((m%32:Nat):Int):=λm _=>by rw[show max (m:Int) 0=(m:Int)by omega,show(32:Int)=((32:Nat):Int)from rfl,mh]
 have h2:∀m:Nat,m<=100000->Int.tmod (av (Int.tdiv (max (m:Int) 0) 32)) 32=((m/32%32:Nat):Int):=λm hm=>by rw[show max (m:Int) 0=(m:Int)by omega,show(32:Int)=((32:Nat):Int)from rfl,sJ,vW (by omega),mh]
 rw[tH.eq_1,tH.eq_1];simp only[h1 n hn,h2 n hn,h1 (n%1024) (by omega),h2 (n%1024) (by omega),show n%1024%32=n%32by omega,show n%1024/32%32=n/32%32by omega]
noncomputable def Zz(N k:Nat):Bool:=match tH N (k:Int),tH N ((rep k:Nat):Int)with|some a,some b=>a==b|_,_=>false
theorem LS(N:Nat):((List.range 1024).all (Zz N))=true:=by kernel_rfl
theorem EK{N k:Nat}(h:k<1024):tH N (k:Int)=tH N ((rep k:Nat):Int):=by have h:=List.all_eq_true.1 (LS N) _ (List.mem_range.2 h);unfold Zz at h<;>grind
noncomputable def L8(N:Nat)(f:Int)(k:Nat):Bool:=match tH N (k:Int)with
 |some s=>match CV (N+60) (s,f)with|some c=>acB c|none=>false
 |none=>false
theorem PK(N:Nat)(f:Int):(Xj.all (L8 N f))=true:=by kernel_rfl
theorem Np(N:Nat)(f:Int):[29,30,31].map (λk:Nat=>(tH N (k:Int)).bind λs=>CV (N+60) (s,f))=ends.map λy=>some [(23,1,av (av (f+0)+2),0),y]:=by kernel_rfl
theorem EL{N n:Nat}(hn:n<=100000)(f:Int):∃s c,tH N (n:Int)=some s/\CV (N+60) (s,f)=some c/\Qd f c:=by
 have hk:n%1024<1024:=Nat.mod_lt _ (by omega);have h1:=EK (N:=N) hk;rw[PJ hn,h1];rcases Nn _ hk with h|h
 .have h2:=List.all_eq_true.1 (PK N f) _ h;unfold L8 at h2;split at h2
  .rename_i s hs;split at h2;.rename_i c hc;exact⟨s,c,hs,hc,UF h2⟩
   grind
  grind
 .have h2:=Np N f;simp only[List.map_cons,List.map_nil,List.cons.injEq,and_true,ends]at h2;have fin:∀{k:Nat}{y:Instr},y∈ends->((tH N (k:Int)).bind λs=>CV (N+60) (s,f))=some [(23,1,av (av (f+0)+2),0),y]->∃s c,tH N (k:Int)=some s/\CV (N+60) (s,f)=some c/\Qd f c:=by intro k y hy h;cases hs:tH N (k:Int)with|none=>rw[hs]at h;cases h|some s=>rw[hs]at h;exact⟨s,_,rfl,h,.br hy⟩
  obtain⟨q1,q2,q3⟩:=h2;have:rep (n%1024)=29\/rep (n%1024)=30\/rep (n%1024)=31:=by omega
  rcases this with e|e|e<;>rw[e];.exact fin (by simp[ends]) q1
  .exact fin (by simp[ends]) q2
  .exact fin (by simp[ends]) q3
end Go.Proofs.YtgkllgjmfpjeoaaGreatDoor
namespace Go.Proofs.YtgkllgjmfpjeoaaGreatDoor
open Go Go.bJ Go.Sym
inductive Code:Nat->List Instr->Prop where|fin{i:Nat}:Code i [nW]|one{i:Nat}{x:Instr}{r:List Instr}:x∈hD->Code (i+1) r->Code i (x::r)|two{i:Nat}{x y:Instr}{r:List Instr}:(x,y)∈pairs->Code (i+2) r->Code i (x::y::r)|br{i:Nat}{y:Instr}{r:List Instr}:y∈ends->Code (i+2) r->Code i ((23,1,((i+2:Nat):Int),0)::y::r)
theorem Qd.len{f:Int}{c:List Instr}(h:Qd f c):1<=c.length/\c.length<=2:=by cases h<;>simp
theorem Qd.code{i:Nat}(hi:i<=1000){c r:List Instr}(h:Qd (i:Int) c)(hr:Code (i+c.length) r):Code i (c++r):=by cases h with|one h=>exact .one h hr|two h=>exact .two h hr|br h=>
 have e:av (av ((i:Int)+0)+2)=((i+2:Nat):Int):=by rw[bn (n:=(i:Int)+0) (by omega),bn (by omega)];omega
 rw[e];exact .br h hr
inductive Bs(N:Nat):List Instr->List Int->List Instr->Prop where|nil{b:List Instr}:Bs N b [] b|cons{b:List Instr}{x:Int}{xs:List Int}{s:List UInt8}{c b':List Instr}:tH N x=some s->CV N (s,(b.length:Int))=some c->Qd (b.length:Int) c->Bs N (b++c) xs b'->Bs N b (x::xs) b'
theorem Bs.app{N:Nat}{b b' b'':List Instr}{xs ys:List Int}(h:Bs N b xs b')(k:Bs N b' ys b''):Bs N b (xs++ys) b'':=by induction h with|nil=>exact k|cons h1 h2 h3 _ ih=>exact .cons h1 h2 h3 (ih k)
theorem Bs.pre{N:Nat}{b b':List Instr}{xs:List Int}(h:Bs N b xs b'):∃r,b'=b++r/\r.length<=2*xs.length/\∀t,b'.length<=1000->Code b'.length t->Code b.length (r++t):=by induction h with|nil=>simp_all|@cons b x xs s c b' h1 h2 h3 _ ih=>obtain⟨r,rfl,hl,hc⟩:=ih;have hcl:=h3.len;refine⟨c++r,by simp,by simp only[List.length_append,List.length_cons];omega,λt ht hk=>?_⟩;have:=hc t ht hk;simp at this;rw[List.append_assoc];simp at ht;exact h3.code (by omega) this
theorem Bs.ex{N:Nat}:∀{xs:List Int}{b:List Instr},(∀x,x∈xs->0<=x/\x<=100000)->∃b',Bs (N+60) b xs b'|[],b,_=>⟨b,.nil⟩|x::xs,b,h=>by obtain⟨n,rfl⟩:∃n:Nat,x=(n:Int):=⟨x.toNat,by have:=h x List.mem_cons_self;omega⟩;have hn:=h _ (List.mem_cons_self (a:=(n:Int)) (l:=xs));obtain⟨s,c,h1,h2,h3⟩:=EL (N:=N) (n:=n) (by omega) (b.length:Int);obtain⟨b',hb⟩:=Bs.ex (N:=N) (b:=b++c) λx hx=>h x (List.mem_cons_of_mem _ hx);exact⟨b',.cons h1 h2 h3 hb⟩
noncomputable def base:List Instr:=hD++ends++[nW]++pairs.map (·.1)++pairs.map (·.2)
theorem LU:(base.all λx=>dD x&&(x.1!=22&&x.1!=23)&&decide (-1000<=x.2.1/\x.2.1<=1000/\-1000<=x.2.2.1/\x.2.2.1<=1000/\-1000<=x.2.2.2/\x.2.2.2<=1000))=true:=by decide+kernel
theorem Code.good{i:Nat}{r:List Instr}(h:Code i r):(1<=r.length)/\r.getLast?=some nW/\∀x,x∈r->x∈base\/∃t,t<i+r.length/\x=(23,1,(t:Int),0):=by induction h with
 |fin=>exact⟨by simp,rfl,λx hx=>.inl (by rw[List.mem_singleton.1 hx];simp[base])⟩|@one i x r hx _ ih=>
  obtain⟨h1,h2,h3⟩:=ih;refine⟨by simp,by rw[List.getLast?_cons,h2];rfl,λy hy=>?_⟩;rcases List.mem_cons.1 hy with rfl|hy;.exact .inl (by simp[base,hx])
  grind|@two i x y r hx _ ih=>
  obtain⟨h1,h2,h3⟩:=ih;refine⟨by simp,by rw[List.getLast?_cons,List.getLast?_cons,h2];rfl,λz hz=>?_⟩;rcases List.mem_cons.1 hz with rfl|hz;.exact .inl (by simp only[base,List.mem_append,List.mem_map];exact .inl (.inr ⟨_,hx,rfl⟩))
  rcases List.mem_cons.1 hz with rfl|hz;.exact .inl (by simp only[base,List.mem_append,List.mem_map];exact .inr ⟨_,hx,rfl⟩)
  grind|@br i y r hy _ ih=>
  obtain⟨h1,h2,h3⟩:=ih;refine⟨by simp,by rw[List.getLast?_cons,List.getLast?_cons,h2];rfl,λz hz=>?_⟩;rcases List.mem_cons.1 hz with rfl|hz;.grind
  rcases List.mem_cons.1 hz with rfl|hz;.exact .inl (by simp[base,hy])
  grind
noncomputable def sc(l:List Instr):Nat->List Int|0=>[]|k+1=>match l[k]?with|some x=>if x.1=24then[0]else[]|none=>[]
theorem wH{l:List Instr}{k:Nat}{x:Instr}(h:l[k]?=some x):sc l (k+1)=if x.1=24then[0]else[]:=by simp[sc,h]
inductive EM:Instr->List Int->List Int->Prop where|one{x:Instr}:x∈hD\/x∈ends\/x=nW->EM x [] []|br{t:Nat}:t<200->EM (23,1,(t:Int),0) [] []|arg{x y:Instr}:(x,y)∈pairs->EM x [] [0]|call{x y:Instr}:(x,y)∈pairs->EM y [0] []
theorem xX:∀x,x∈hD->x.1≠34/\x.1≠28/\x.1≠30/\x.1≠22/\x.1≠23/\x.1≠24:=by
 have:(hD.all λx=>decide (x.1≠34/\x.1≠28/\x.1≠30/\x.1≠22/\x.1≠23/\x.1≠24))=true:=by decide+kernel
 grind
theorem GF:∀x y,(x,y)∈pairs->x.1=24/\y.1≠34/\y.1≠28/\y.1≠30/\y.1≠22/\y.1≠23/\y.1≠24:=by
 have:(pairs.all λp=>decide (p.1.1=24/\p.2.1≠34/\p.2.1≠28/\p.2.1≠30/\p.2.1≠22/\p.2.1≠23/\p.2.1≠24))=true:=by decide+kernel
 grind
theorem acC:∀x,x∈ends->(x.1=28\/x.1=30\/x.1=32):=by
 have:(ends.all λx=>decide (x.1=28\/x.1=30\/x.1=32))=true:=by decide+kernel
 grind
theorem mz{l:List Instr}{i:Nat}{x:Instr}(h:l[i]?=some x)(h1:x.1≠34/\x.1≠28/\x.1≠30/\x.1≠22/\x.1≠23):nx l i=[i+1]:=by simp[nx,h,h1]
theorem Nq{l:List Instr}{i:Nat}{x:Instr}(h:l[i]?=some x)(h1:x.1=34\/x.1=28\/x.1=30):nx l i=[]:=by simp[nx,h,h1]
theorem UG{l:List Instr}{i:Nat}(h:l[i]?=some (23,1,((i+2:Nat):Int),0)):nx l i=[i+1,i+2]:=by have e:((i+2:Nat):Int).toNat=i+2:=Int.toNat_natCast _;unfold nx<;>grind
structure AtC(l:List Instr)(k:Nat):Prop where ex:∃x s',l[k]?=some x/\EM x (sc l k) s'/\∀k',k'∈nx l k->sc l k'=s'/\(k'=k+1\/k'=k+2)/\k'<l.length
theorem qI(p:List Instr)(x:Instr)(r:List Instr):(p++x::r)[p.length]?=some x:=by simp
theorem Cu(p:List Instr)(x y:Instr)(r:List Instr):(p++x::y::r)[p.length+1]?=some y:=by simp
theorem Code.facts{i:Nat}{r:List Instr}(h:Code i r):∀{p:List Instr},p.length=i->sc (p++r) i=[]->(p++r).length<=200->∀k,i<=k->k<(p++r).length->AtC (p++r) k:=by
 induction h with|@fin i=>
  intro p hp hs hl k h1 h2;subst hp;simp at h2;have:k=p.length:=by omega
  subst this;have e:=qI p nW [];exact⟨_,[],e,by rw[hs];exact .one (.inr (.inr rfl)),λk' hk'=>by rw[Nq e (.inl rfl)]at hk';cases hk'⟩|@one i x r hx hc ih=>
  intro p hp hs hl k h1 h2;subst hp;have e:=qI p x r;have ho:=xX x hx;have hpos:=hc.good.1;have hs':sc (p++x::r) (p.length+1)=[]:=by rw[wH e,if_neg ho.2.2.2.2.2]
  by_cases hk:k=p.length;.subst hk;refine⟨_,[],e,by rw[hs];exact .one (.inl hx),λk' hk'=>?_⟩;rw[mz e ⟨ho.1,ho.2.1,ho.2.2.1,ho.2.2.2.1,ho.2.2.2.2.1⟩,List.mem_singleton]at hk';subst hk';exact⟨hs',.inl rfl,by simp only[List.length_append,List.length_cons];omega⟩
  .have:=@ih (p++[x]) (by simp);rw[List.append_assoc,List.singleton_append]at this;exact this hs' hl k (by omega) h2|@two i x y r hx hc ih=>
  intro p hp hs hl k h1 h2;subst hp;have e:=qI p x (y::r);have e2:=Cu p x y r;have ho:=GF x y hx;have hpos:=hc.good.1;have hs1:sc (p++x::y::r) (p.length+1)=[0]:=by rw[wH e,if_pos ho.1]
  have hs2:sc (p++x::y::r) (p.length+2)=[]:=by rw[wH e2,if_neg ho.2.2.2.2.2.2]
  by_cases hk:k=p.length;.subst hk;refine⟨_,[0],e,by rw[hs];exact .arg hx,λk' hk'=>?_⟩;rw[mz e (by rw[ho.1];decide),List.mem_singleton]at hk';subst hk';exact⟨hs1,.inl rfl,by simp only[List.length_append,List.length_cons];omega⟩
  by_cases hk2:k=p.length+1;.subst hk2;refine⟨_,[],e2,by rw[hs1];exact .call hx,λk' hk'=>?_⟩;rw[mz e2 ⟨ho.2.1,ho.2.2.1,ho.2.2.2.1,ho.2.2.2.2.1,ho.2.2.2.2.2.1⟩,List.mem_singleton]at hk';subst hk';exact⟨hs2,.inl rfl,by simp only[List.length_append,List.length_cons];omega⟩
  .have:=@ih (p++[x,y]) (by simp);rw[List.append_assoc,List.cons_append,List.singleton_append]at this;exact this hs2 hl k (by omega) h2|@br i y r hy hc ih=>
  intro p hp hs hl k h1 h2;subst hp;have e:=qI p (23,1,((p.length+2:Nat):Int),0) (y::r);have e2:=Cu p (23,1,((p.length+2:Nat):Int),0) y r;have ho:=acC y hy;have hpos:=hc.good.1;have hs1:sc (p++(23,1,((p.length+2:Nat):Int),0)::y::r) (p.length+1)=[]:=by rw[wH e];rfl
  have hs2:sc (p++(23,1,((p.length+2:Nat):Int),0)::y::r) (p.length+2)=[]:=by rw[wH e2,if_neg (by omega)]
  simp only[List.length_append,List.length_cons]at hl h2;by_cases hk:k=p.length
  .subst hk;refine⟨_,[],e,by rw[hs];exact .br (by omega),λk' hk'=>?_⟩;rw[UG e]at hk';simp only[List.mem_cons,List.not_mem_nil,or_false]at hk';rcases hk' with rfl|rfl;.exact⟨hs1,.inl rfl,by simp only[List.length_append,List.length_cons];omega⟩
   .exact⟨hs2,.inr rfl,by simp only[List.length_append,List.length_cons];omega⟩
  by_cases hk2:k=p.length+1
  .subst hk2;refine⟨_,[],e2,by rw[hs1];exact .one (.inr (.inl hy)),λk' hk'=>?_⟩;by_cases Qb:y.1=32;.rw[mz e2 (by rw[Qb];decide),List.mem_singleton]at hk';subst hk';exact⟨hs2,.inl rfl,by simp only[List.length_append,List.length_cons];omega⟩
   .rw[Nq e2 (by omega)]at hk';cases hk'
  .have:=@ih (p++[(23,1,((p.length+2:Nat):Int),0),y]) (by simp);rw[List.append_assoc,List.cons_append,List.singleton_append]at this;exact this hs2 (by simp only[List.length_append,List.length_cons];omega) k (by omega) (by simp only[List.length_append,List.length_cons];omega)
theorem Code.reach{i:Nat}{r:List Instr}(h:Code i r):∀{p:List Instr},p.length=i->Reach (p++r) i->∀k,i<=k->k<(p++r).length->Reach (p++r) k:=by induction h with|@fin i=>grind|@one i x r hx hc ih=>
 intro p hp hr k h1 h2;subst hp;by_cases hk:k=p.length;.grind
 .have ho:=xX x hx;have:=@ih (p++[x]) (by simp);rw[List.append_assoc,List.singleton_append]at this;exact this (.step hr (by rw[mz (qI p x r) ⟨ho.1,ho.2.1,ho.2.2.1,ho.2.2.2.1,ho.2.2.2.2.1⟩];simp)) k (by omega) h2|@two i x y r hx hc ih=>
 intro p hp hr k h1 h2;subst hp;have ho:=GF x y hx;have CF:Reach (p++x::y::r) (p.length+1):=.step hr (by rw[mz (qI p x (y::r)) (by rw[ho.1];decide)];simp);by_cases hk:k=p.length;.grind
 by_cases hk2:k=p.length+1;.grind
 .have:=@ih (p++[x,y]) (by simp);rw[List.append_assoc,List.cons_append,List.singleton_append]at this;exact this (.step CF (by rw[mz (Cu p x y r) ⟨ho.2.1,ho.2.2.1,ho.2.2.2.1,ho.2.2.2.2.1,ho.2.2.2.2.2.1⟩];simp)) k (by omega) h2|@br i y r hy hc ih=>
 intro p hp hr k h1 h2;subst hp;have e:=qI p (23,1,((p.length+2:Nat):Int),0) (y::r);by_cases hk:k=p.length;.grind
 by_cases hk2:k=p.length+1;.rw[hk2];exact .step hr (by rw[UG e];simp)
 .have:=@ih (p++[(23,1,((p.length+2:Nat):Int),0),y]) (by simp);rw[List.append_assoc,List.cons_append,List.singleton_append]at this;exact this (.step hr (by rw[UG e];simp)) k (by omega) h2
end Go.Proofs.YtgkllgjmfpjeoaaGreatDoor
namespace Go.Proofs.YtgkllgjmfpjeoaaGreatDoor
open Go Go.bJ Go.Sym
noncomputable def jO:List aB:=[(2,0,0,[]),(1,0,0,[]),(3,0,0,[]),(4,0,0,[]),(5,0,0,[([110],0),([111,110],1),([97,116],3)]),(6,0,3,[]),(7,0,0,[]),(4,4,0,[])]
noncomputable def nX:List (List UInt8):=[[108,97,116,101],[116,97,115,107],[98,111,111,109]]
noncomputable def PL:List Field:=[([110],0),([111,110],1),([115],2),([112],3),([114],4),([97],5),([108],6),([107],0),([113],7)]
noncomputable def Cv:List UInt8:=[109,97,105,110]
abbrev RQ:=Nat->List fm×List fm
noncomputable def Q0:RQ:=λ_=>([(0,0)],[(0,0)])
noncomputable def fJ(Q:RQ):List Func:=[([119,111,114,107],1,0,[([110],0),([107],0),([111,110],1)],[(1,1,1,0),(10,2,0,1),(23,2,8,0),(7,1,0,1),(24,1,0,0),(25,1,1,0),(6,1,1,0),(34,1,0,0),(34,0,0,0),(34,-1,0,0)],(Q 1).1,(Q 1).2),([108,97,116,101],1,-1,[([110],0),([111,110],1),([107],0)],[(29,1,2,0),(23,1,4,0),(10,1,0,2),(23,1,5,0),(34,-1,0,0),(28,0,0,0),(34,-1,0,0)],(Q 2).1,(Q 2).2),([116,97,115,107],1,-1,[([107],0),([111,110],1)],[(31,0,0,0),(33,1,0,0),(23,1,4,0),(32,0,0,0),(34,-1,0,0)],(Q 3).1,(Q 3).2),([102,97,105,108],1,-1,[([110],0)],[(28,0,0,0),(34,-1,0,0)],(Q 4).1,(Q 4).2),([108,101,97,118,101],0,-1,[],[(30,0,0,0),(34,-1,0,0)],(Q 5).1,(Q 5).2),([113,117,105,101,116],0,-1,[([111,110],1),([110],0)],[(29,0,1,0),(34,-1,0,0)],(Q 6).1,(Q 6).2),([97,103,97,105,110],1,-1,[([110],0),([111,110],1),([107],0)],[(29,1,2,0),(28,0,0,0),(34,-1,0,0)],(Q 7).1,(Q 7).2)]
noncomputable def pW(Q:RQ)(l:List Instr):Func:=(Cv,0,-1,PL,l,(Q 0).1,(Q 0).2)
noncomputable def uS(Q:RQ)(l:List Instr):List Func:=pW Q l::fJ Q
noncomputable def brs:List Instr:=(List.range 200).map λt:Nat=>((23,1,(t:Int),0):Instr)
theorem UH{t:Nat}(h:t<200):((23,1,(t:Int),0):Instr)∈brs:=List.mem_map.2 ⟨t,List.mem_range.2 h,rfl⟩
noncomputable def ahO(i:Nat):List fm×List fm×Int×Int:=(YE 400 (jO,nX,uS Q0 [],(i:Int))).getD ([],[],0,0)
noncomputable def others:List Nat:=[1,2,3,4,5,6,7]
theorem PM(N:Nat)(Q:RQ)(l:List Instr):(others.map λi:Nat=>YE (N+400) (jO,nX,uS Q l,(i:Int)))=others.map λi:Nat=>some (ahO i):=by kernel_rfl
theorem PN:(others.all λi=>(ahO i).2.2.2==0)=true:=by kernel_rfl
theorem Xk(N:Nat)(p:List Int):F4 (N+60) p=(bif(decide ((p.length:Int)>(60:Int)))then some ([],[],[],(4:Int))else(Option.bind (f4.cI (N+60) (N+60) (p,(p.length:Int),(0:Int),xW)) λb=>aF (room (b.length+[nW].length) 32) (Option.bind (YG (N+60) (jO,nX,uS Q0 (b++[nW]))) λy=>some (y.1,y.2.1,y.2.2.1,y.2.2.2)))):=by kernel_rfl
theorem EN{N:Nat}{p:List Int}(hp:p.length<=60):∀(k i:Nat)(b b':List Instr),i<=p.length->p.length-i<k->b.length<=9+2*i->Bs N b (p.drop i) b'->f4.cI N k (p,(p.length:Int),(i:Int),b)=some b'
 |0,_,_,_,_,h,_,_=>by omega|k+1,i,b,b',hi,hk,hb,h=>by
  rw[f4.cI.eq_2];by_cases he:i=p.length;.subst he;simp at h;cases h<;>grind
  .have hlt:i<p.length:=by omega
   rw[List.drop_eq_getElem_cons hlt]at h;cases h with|cons h1 h2 h3 h4=>have hc:=h3.len;rw[aJ hlt,au,aE (List.getElem?_eq_getElem hlt),Option.bind_some,h1,Option.bind_some,h2,Option.bind_some,af (by omega) (by omega),aj (by omega)];exact EN hp k (i+1) _ _ (by omega) (by omega) (by rw[List.length_append];omega) h4
end Go.Proofs.YtgkllgjmfpjeoaaGreatDoor
namespace Go.Proofs.YtgkllgjmfpjeoaaGreatDoor
open Go Go.bJ Go.Sym
open Classical
variable{l:List Instr}
structure Good(l:List Instr):Prop where
 code:Code 0 l
 len:l.length<=200pro:∃r,l=xW++r/\1<=r.length
theorem Good.inst(h:Good l){x:Instr}(hx:x∈l):x∈base\/∃t:Nat,t<l.length/\x=(23,1,(t:Int),0):=by rcases h.code.good.2.2 x hx with h|⟨t,ht,rfl⟩<;>grind
theorem Good.inst200(h:Good l){x:Instr}(hx:x∈l):x∈base\/∃t:Nat,t<200/\x=(23,1,(t:Int),0):=by
 rcases h.inst hx with h'|⟨t,ht,rfl⟩;.grind
 .exact .inr ⟨t,by have:=h.len;omega,rfl⟩
theorem Cw{x:Instr}(h:x∈base):dD x=true/\x.1≠22/\x.1≠23/\O6 x:=by have:=List.all_eq_true.1 LU x h;simp at this;obtain⟨⟨h1,h2,h3⟩,h4⟩:=this;exact⟨h1,h2,h3,by unfold O6 i64;omega⟩
theorem acD:((List.range 200).all λt:Nat=>dD (23,1,(t:Int),0))=true:=by decide+kernel
theorem Good.aF(h:Good l){x:Instr}(hx:x∈l):dD x=true/\O6 x:=by
 rcases h.inst200 hx with h|⟨t,ht,rfl⟩;.exact⟨(Cw h).1,(Cw h).2.2.2⟩
 .exact⟨List.all_eq_true.1 acD t (List.mem_range.2 ht),by unfold O6 i64;simp only;omega⟩
theorem Good.last(h:Good l):qV l=nW:=by have:=h.code.good.2.1;simp only[qV,List.getD_eq_getElem?_getD]<;>grind
theorem Good.pos(h:Good l):10<=l.length:=by obtain⟨r,rfl,hr⟩:=h.pro;rw[List.length_append];show 10<=9+r.length;omega
theorem Good.valid(h:Good l):gZ l=true:=by
 have:=h.pos;unfold gZ;rw[decide_eq_true (by omega),decide_eq_true h.len,h.last];simp only[Bool.true_and];refine Bool.and_eq_true_iff.2 ⟨?_,rfl⟩;rw[Bool.not_eq_true',List.any_eq_false];intro x hx;unfold Jj;rw[(h.aF hx).1];rcases h.inst hx with h'|⟨t,ht,rfl⟩;.have:=Cw h';simp[C1,this.2.1,this.2.2.1]
 .simp[C1];omega
theorem Good.at(h:Good l){k:Nat}(hk:k<l.length):AtC l k:=by have:=h.code.facts (p:=[]) rfl rfl (by simpa using h.len) k (by omega) (by simpa using hk)<;>grind
theorem Good.reach(h:Good l){k:Nat}(hk:k<l.length):Reach l k:=by have:=h.code.reach (p:=[]) rfl .zero k (by omega) (by simpa using hk)<;>grind
noncomputable abbrev SC(l:List Instr):List Sg:=eL (uS Q0 l)
theorem UI(l:List Instr):((base++brs).all λx=>(aQ jL x++aQ oE x).all (λs=>decide (s<9))&&(decide (called x<8)&&(!(x.1==2)||decide (x.2.2.1<3))))=true:=by decide+kernel
theorem Good.inb(h:Good l){x:Instr}(hx:x∈l):x∈base++brs:=by
 rcases h.inst200 hx with h|⟨t,ht,rfl⟩;.grind
 .exact List.mem_append.2 (.inr (UH ht))
theorem Good.near(h:Good l){x:Instr}(hx:x∈l):kJ nX.length (SC l) PL x:=by
 have:=List.all_eq_true.1 (UI l) x (h.inb hx);simp only[Bool.and_eq_true,decide_eq_true_eq,List.all_eq_true,Bool.or_eq_true,Bool.not_eq_true',beq_eq_false_iff_ne]at this;obtain⟨h1,h2,h3⟩:=this;refine⟨λs hs=>h1 s hs,?_,λe=>?_⟩;.exact h2
 .rcases h3 with h3|h3;.grind
  .exact h3
theorem Xl(l:List Instr):((base++brs).all λx=>Cn jO (SC l) PL (-1) x)=true:=by kernel_rfl
theorem Good.typ(h:Good l){x:Instr}(hx:x∈l):Cn jO (SC l) PL (-1) x=true:=List.all_eq_true.1 (Xl l) x (h.inb hx)
theorem Nr(l:List Instr):((hD++ends++[nW]++brs).map λx=>GL jO (SC l) PL x [])=(hD++ends++[nW]++brs).map λ_=>some []:=by kernel_rfl
theorem Ns(l:List Instr):(pairs.map λp=>(GL jO (SC l) PL p.1 [],GL jO (SC l) PL p.2 [0]))=pairs.map λ_=>(some [0],some []):=by kernel_rfl
theorem uR{α β:Type}{f g:α->β}:∀{l:List α},l.map f=l.map g->∀x,x∈l->f x=g x|[],_,x,h=>by cases h|y::r,e,x,h=>by rw[List.map_cons,List.map_cons,List.cons.injEq]at e;rcases List.mem_cons.1 h with rfl|h<;>simp_all
theorem JC{x:Instr}{s s':List Int}(h:EM x s s'):GL jO (SC l) PL x s=some s':=by cases h with|one h=>refine uR (Nr l) x ?_<;>grind|br h=>exact uR (Nr l) _ (List.mem_append.2 (.inr (UH h)))|arg h=>exact(Prod.mk.inj (uR (Ns l) _ h)).1|call h=>exact(Prod.mk.inj (uR (Ns l) _ h)).2
theorem Good.sc(h:Good l):qZ l (dL jO (uS Q0 l) (pW Q0 l)):=by
 have hpos:=h.pos;have key:∀{k s},PS l (dL jO (uS Q0 l) (pW Q0 l)) k s->s=Go.Proofs.YtgkllgjmfpjeoaaGreatDoor.sc l k:=λhp=>by induction hp with|zero=>rfl|@step i k x s s' hi hx ha hk ih=>subst ih;obtain⟨y,s2,hy,hst,fk⟩:=(h.at (az hx)).ex;rw[hx]at hy;cases Option.some.inj hy;have:=JC (l:=l) hst;rw[show dL jO (uS Q0 l) (pW Q0 l)=GL jO (SC l) PL from rfl,this]at ha;rw[<-Option.some.inj ha,(fk k hk).1]
 refine⟨λk s x hp hx=>?_,λk s s' h1 h2=>by rw[key h1,key h2],λs hp=>?_⟩;.obtain⟨y,s2,hy,hst,fk⟩:=(h.at (az hx)).ex;rw[hx]at hy;cases Option.some.inj hy;rw[key hp];exact⟨s2,JC hst⟩
 .rw[key hp];obtain⟨x,s',hx,hst,_⟩:=(h.at (k:=l.length-1) (by omega)).ex;have hr:x=nW:=by have:=h.last;simp only[qV,List.getD_eq_getElem?_getD,hx]at this<;>grind
  subst hr;generalize Go.Proofs.YtgkllgjmfpjeoaaGreatDoor.sc l (l.length-1)=q at hst⊢;cases hst with|one _=>rfl|arg hp=>grind|call hp=>exact absurd rfl (GF _ _ hp).2.1
end Go.Proofs.YtgkllgjmfpjeoaaGreatDoor
namespace Go.Proofs.YtgkllgjmfpjeoaaGreatDoor
open Go Go.bJ Go.Sym
open Classical
noncomputable def acE:List Nat:=[0,1,3,7,15,31,63,191,255]
noncomputable def SM(k:Nat):Nat:=acE.getD k 511
noncomputable def oV(k:Nat):Instr:=xW.getD k (0,0,0,0)
theorem UJ:((List.range 9).all λk=>SM (k+1)==(SM k|||Pq (oV k))&&(aQ jL (oV k)).all λs=>decide (0<=s)&&(SM k).testBit s.toNat)=true:=by decide+kernel
theorem Xm:(base.all λx=>decide (Nf x<512)&&(aQ jL x).all λs=>decide (0<=s)&&Nat.testBit 511 s.toNat)=true:=by decide+kernel
theorem ahP:((List.range 200).all λt:Nat=>decide (Nf (23,1,(t:Int),0)<512)&&(aQ jL (23,1,(t:Int),0)).all λs=>decide (0<=s)&&Nat.testBit 511 s.toNat)=true:=by decide+kernel
theorem LV{k:Nat}(h:9<=k):SM k=511:=by unfold SM;rw[List.getD_eq_getElem?_getD,List.getElem?_eq_none (by simpa[acE]using h)];rfl
variable{l:List Instr}
theorem Good.us(h:Good l){x:Instr}(hx:x∈l):Nf x<512/\∀s,s∈aQ jL x->0<=s/\Nat.testBit 511 s.toNat=true:=by
 have:(decide (Nf x<512)&&(aQ jL x).all λs=>decide (0<=s)&&Nat.testBit 511 s.toNat)=true:=by
  rcases h.inst200 hx with h|⟨t,ht,rfl⟩;.exact List.all_eq_true.1 Xm x h
  .exact List.all_eq_true.1 ahP t (List.mem_range.2 ht)
 grind
theorem Good.first(h:Good l){k:Nat}(hk:k<9):l[k]?=some (oV k):=by obtain⟨r,rfl,_⟩:=h.pro;rw[List.getElem?_append_left (by show k<9;exact hk)];unfold oV;rw[List.getD_eq_getElem?_getD,List.getElem?_eq_getElem (show k<xW.length from hk)];rfl
theorem Good.sol(h:Good l):Uq l 0 SM:=by
 refine⟨by intro k hk;simp[SM,acE]at hk,λi hi k hk=>?_⟩;have wM:=hi.lt (tB h.valid);obtain⟨x,s',hx,_,fk⟩:=(h.at wM).ex;by_cases h9:i<9
 .have hf:=h.first h9;have hs:oV i∈hD:=by
   have:((List.range 9).all λk=>hD.contains (oV k))=true:=by decide+kernel
   grind
  have ho:=xX _ hs;rw[mz hf ⟨ho.1,ho.2.1,ho.2.2.1,ho.2.2.2.1,ho.2.2.2.2.1⟩,List.mem_singleton]at hk;subst hk;have:=List.all_eq_true.1 UJ i (List.mem_range.2 h9);simp at this;rw[this.1,LC hf];exact iW _
 .have:=(fk k hk).2.1;rw[LV (k:=k) (by omega),LV (k:=i) (by omega)];exact sS _ _
theorem PO(h:Good l):Ce l 0 9=0:=by
 have:kI l (9:Int).toNat=true:=by unfold kI;rw[Bool.not_eq_true',List.any_eq_false];intro x hx;have:=(h.us hx).1<;>grind
 unfold Ce<;>grind
theorem LW{N:Nat}(hN:14000000<N)(h:Good l):∃ms:List Nat,U0 N (l,0,9)=some (cN ms,0)/\ms.length=l.length/\∀k x,l[k]?=some x->O ms k<2^64/\∀s,s∈aQ jL x->0<=s/\(O ms k).testBit s.toNat=true:=by
 have key:=LD (N:=N) hN (l:=l) (by have:=h.len;omega) (λ_=>h.len) 0 9;rw[if_pos h.valid,if_pos (PO h)]at key;obtain⟨G,WY,hG,he⟩:=key;refine⟨nR l G,he,tE _ _,λk x hx=>?_⟩;have NZ:=az hx;have hmem:=aU hx;rw[xP NZ];have hb:=hG.Jm k;have hlt:G k<2^64:=by have:=WY.lt hb;omega
 by_cases hk:k=l.length-1
 .rw[if_neg (λh'=>h'.2 hk)];refine⟨by omega,λs hs=>?_⟩;have hr:x=nW:=by have:=h.last;simp only[qV,List.getD_eq_getElem?_getD,<-hk,hx]at this<;>grind
  subst hr;cases hs
 .rw[if_pos ⟨h.reach NZ,hk⟩];refine⟨hlt,λs hs=>?_⟩;have hm:=hG.most SM h.sol k (h.reach NZ);by_cases h9:k<9;.have hf:=h.first h9;rw[hx]at hf;injection hf with hf;subst hf;have:=List.all_eq_true.1 UJ k (List.mem_range.2 h9);rw[Bool.and_eq_true]at this;have:=List.all_eq_true.1 this.2 s hs;rw[Bool.and_eq_true]at this;exact⟨of_decide_eq_true this.1,hm _ this.2⟩
  .obtain⟨h0,h1⟩:=(h.us hmem).2 s hs;rw[LV (by omega)]at hm;exact⟨h0,hm _ h1⟩
noncomputable def l0:List Instr:=xW++[nW]
theorem JD{n:Nat}(h:1<=n):cO [(0,0)] (n:Int):=by
 refine⟨by simp,rfl,λi hi=>by simp at hi,λi hi=>?_⟩;simp at hi;have:i=0:=by omega
 subst this;show(0:Int)<n;omega
noncomputable def wI(l:List Instr):List Nat:=[l.length,10,7,5,2,2,2,3]
noncomputable def ahQ(Q:RQ):Prop:=∀i,i<8->((Q i).1.length<=200/\(Q i).2.length<=200)/\(wg (Q i).1/\wg (Q i).2)
noncomputable def QOK(Q:RQ)(l:List Instr):Prop:=∀i,i<8->((Q i).1.length<=200/\(Q i).2.length<=200)/\(wg (Q i).1/\wg (Q i).2)/\cO (Q i).1 (((wI l).getD i 0:Nat):Int)/\cO (Q i).2 (((wI l).getD i 0:Nat):Int)
theorem QOK.fit{Q:RQ}(h:QOK Q l):ahQ Q:=λi hi=>⟨(h i hi).1,(h i hi).2.1⟩
theorem JE(h:1<=l.length):∀i,i<8->1<=(wI l).getD i 0|0,_=>h|1,_|2,_|3,_|4,_|5,_|6,_|7,_=>by simp[wI]|n+8,h=>by omega
theorem ahS:wg [(0,0)]:=by unfold wg;decide
theorem JF(h:1<=l.length):QOK Q0 l:=λi hi=>⟨by simp[Q0],⟨ahS,ahS⟩,JD (JE h i hi),JD (JE h i hi)⟩
theorem wJ(Q:RQ):∀i,i<7->(fJ Q)[i]?=some ((dZ (fJ Q0) i).1,(dZ (fJ Q0) i).2.1,(dZ (fJ Q0) i).2.2.1,(dZ (fJ Q0) i).2.2.2.1,(dZ (fJ Q0) i).2.2.2.2.1,(Q (i+1)).1,(Q (i+1)).2)/\(dZ (fJ Q0) i).2.2.2.2.1.length=(wI []).getD (i+1) 0|0,_=>⟨rfl,rfl⟩|1,_=>⟨rfl,rfl⟩|2,_=>⟨rfl,rfl⟩|3,_=>⟨rfl,rfl⟩|4,_=>⟨rfl,rfl⟩|5,_=>⟨rfl,rfl⟩|6,_=>⟨rfl,rfl⟩|n+7,h=>by omega
theorem ahT:∀i,i<7->oB (dZ (fJ Q0) i)/\i64 (dZ (fJ Q0) i).2.2.1:=by
 have hr:∀f,f∈fJ Q0->oB f/\i64 f.2.2.1:=by intro f hf;simp[fJ,List.mem_cons,List.not_mem_nil,or_false]at hf;rcases hf with rfl|rfl|rfl|rfl|rfl|rfl|rfl<;>(unfold oB O6 wg i64;decide+kernel)
 intro i hi;refine hr _ ?_;unfold dZ;rw[List.getD_eq_getElem?_getD,List.getElem?_eq_getElem (show i<(fJ Q0).length from hi)]<;>grind
theorem UK(h:Good l){Q:RQ}(hQ:ahQ Q):qU jO nX (uS Q l):=by
 have hr:∀f,f∈fJ Q->oB f/\i64 f.2.2.1:=by intro f hf;obtain⟨i,hi,rfl⟩:=List.mem_iff_getElem.1 hf;have hi:i<7:=hi;obtain⟨e,_⟩:=wJ Q i hi;rw[List.getElem?_eq_getElem (show i<(fJ Q).length from hi)]at e;rw[Option.some.inj e];obtain⟨⟨g1,g2,_,_,g5,_,_⟩,g8⟩:=ahT i hi;obtain⟨⟨q1,q2⟩,q3,q4⟩:=hQ (i+1) (by omega);exact⟨⟨g1,g2,by show(Q (i+1)).1.length<=1000;omega,by show(Q (i+1)).2.length<=1000;omega,g5,q3,q4⟩,g8⟩
 have hm:oB (pW Q l)/\i64 (pW Q l).2.2.1:=by have:=h.len;obtain⟨⟨q1,q2⟩,q3,q4⟩:=hQ 0 (by omega);exact⟨⟨by show PL.length<=300;decide,by show l.length<=1000;omega,by show(Q 0).1.length<=1000;omega,by show(Q 0).2.length<=1000;omega,λx hx=>(h.aF hx).2,q3,q4⟩,by show i64 (-1);unfold i64;decide⟩
 refine⟨⟨⟨by decide,?_⟩,by decide,by decide,by show 8<=50;decide,λf hf=>?_⟩,λf hf=>?_⟩;.unfold i64 dO;decide+kernel
 .rcases List.mem_cons.1 hf with rfl|hf<;>grind
 .rcases List.mem_cons.1 hf with rfl|hf<;>grind
theorem ahU:Good l0:=by
 refine⟨?_,by decide,[nW],rfl,by decide⟩;have hs:∀k,k<9->oV k∈hD:=by
  have:((List.range 9).all λk=>hD.contains (oV k))=true:=by decide+kernel
  grind
 exact .one (hs 0 (by omega)) (.one (hs 1 (by omega)) (.one (hs 2 (by omega)) (.one (hs 3 (by omega)) (.one (hs 4 (by omega)) (.one (hs 5 (by omega)) (.one (hs 6 (by omega)) (.one (hs 7 (by omega)) (.one (hs 8 (by omega)) .fin))))))))
theorem PR{t:List Instr}(h:Code 9 t):Code 0 (xW++t):=by
 have hs:∀k,k<9->oV k∈hD:=by
  have:((List.range 9).all λk=>hD.contains (oV k))=true:=by decide+kernel
  grind
 exact .one (hs 0 (by omega)) (.one (hs 1 (by omega)) (.one (hs 2 (by omega)) (.one (hs 3 (by omega)) (.one (hs 4 (by omega)) (.one (hs 5 (by omega)) (.one (hs 6 (by omega)) (.one (hs 7 (by omega)) (.one (hs 8 (by omega)) h))))))))
theorem ahV:fC jO nX (uS Q0 l0):=by
 have h:=Na (N:=1400) (by omega) (UK ahU (JF (l:=l0) (by decide)).fit).1;have k:F96 1400 (jO,nX,uS Q0 l0)=some true:=by kernel_rfl
 grind
theorem UL(Q:RQ)(l:List Instr):∀j,(dZ (uS Q l) j).1=(dZ (uS Q0 l0) j).1|0|1|2|3|4|5|6|7=>rfl|n+8=>rfl
theorem UM(Q:RQ)(l:List Instr){i:Nat}(hi:i<7):dZ (uS Q l) (i+1)=((dZ (fJ Q0) i).1,(dZ (fJ Q0) i).2.1,(dZ (fJ Q0) i).2.2.1,(dZ (fJ Q0) i).2.2.2.1,(dZ (fJ Q0) i).2.2.2.2.1,(Q (i+1)).1,(Q (i+1)).2):=by have:=(wJ Q i hi).1;unfold dZ at this⊢;rw[List.getD_eq_getElem?_getD,show(uS Q l)[i+1]?=(fJ Q)[i]?from rfl,this];rfl
theorem LX(h:Good l){Q:RQ}(hQ:QOK Q l):fC jO nX (uS Q l):=by
 obtain⟨h1,h2,h3,h4,h5,h6⟩:=ahV;refine⟨h1,h2,h3,h4,h5,λi hi=>?_⟩;have hi:i<8:=hi;have h7:=h6 i hi;unfold B7 at h7⊢;rw[Bool.and_eq_true,decide_eq_true_eq]at h7⊢;have hd:C0 (uS Q l) i↔C0 (uS Q0 l0) i:=by unfold C0;simp[UL Q l]
 obtain⟨_,_,q5,q6⟩:=hQ i hi;refine⟨?_,by rw[Bool.not_eq_true',decide_eq_false_iff_not]at h7⊢;rw[hd];exact h7.2⟩;cases i with|succ i=>have h7:=h7.1;rw[UM Q l (by omega)];obtain⟨g1,g2,g3,g4,g5,g6,g7,g8,_,_⟩:=h7;have e:=(wJ Q i (by omega)).2;have e2:(wI l).getD (i+1) 0=(wI []).getD (i+1) 0:=rfl;rw[e2,<-e]at q5 q6;exact⟨g1,g2,g3,g4,g5,g6,g7,g8,q5,q6⟩|zero=>obtain⟨g1,g2,g3,g4,g5,g6,_⟩:=h7.1;have:=h.pos;exact⟨g1,g2,g3,g4,g5,g6,⟨by show 1<=l.length;omega,h.len⟩,λx hx=>(h.aF hx).1,q5,q6⟩
theorem Nt:∀l:List Instr,(l.flatMap encI).length<=31*l.length|[]=>by simp|x::r=>by have:=mq x;have:=Nt r<;>grind
theorem UN:(V jO.length++(jO.flatMap oC++(V nX.length++(nX.flatMap said++V 8)))).length+(said Cv).length+(V 0).length+(V (En (-1))).length+(kH PL).length<=1000:=by decide+kernel
theorem PT:((List.range 7).all λi=>decide ((mQ (dZ (fJ Q0) i)).length<=400))=true:=by decide+kernel
theorem UO{N:Nat}(hN:1300<N)(h:Good l)(hl:l.length<=130){Q:RQ}(hQ:QOK Q l):F43 N (jO,nX,uS Q l)=some 0/\(qz jO nX (uS Q l)).length<=20000:=by
 have hlen:(qz jO nX (uS Q l)).length<=20000:=by
  have h1:=Nt l;have h3:=cF l.length;have h4:=UN;obtain⟨_,_,q5,q6⟩:=hQ 0 (by omega);have r1:=jz q5;have r2:=jz q6;have r3:=iy (Q 0).1;have r4:=iy (Q 0).2;have e0:(wI l).getD 0 0=l.length:=rfl;rw[e0]at r1 r2;have h5:((fJ Q).flatMap mQ).length<=(fJ Q).length*820:=fY λf hf=>by
   obtain⟨i,hi,rfl⟩:=List.mem_iff_getElem.1 hf;have hi:i<7:=hi;have e:=(wJ Q i hi).1;rw[List.getElem?_eq_getElem (show i<(fJ Q).length from hi)]at e;rw[Option.some.inj e];obtain⟨_,_,q5,q6⟩:=hQ (i+1) (by omega);have hn:(wI l).getD (i+1) 0<=10:=by
    have:∀j,j<7->([10,7,5,2,2,2,3]:List Nat).getD j 0<=10:=by decide
    exact this i hi
   have r1:=jz q5;have r2:=jz q6;have r3:=iy (Q (i+1)).1;have r4:=iy (Q (i+1)).2;have:=of_decide_eq_true (List.all_eq_true.1 PT i (List.mem_range.2 hi));unfold mQ at this⊢;simp only[List.length_append]at this⊢;omega
  have e7:(fJ Q).length=7:=rfl;have e:qz jO nX (uS Q l)=V jO.length++(jO.flatMap oC++(V nX.length++(nX.flatMap said++(V 8++((said Cv++(V 0++(V (En (-1))++(kH PL++(V l.length++(l.flatMap encI++(ou (Q 0).1++ou (Q 0).2)))))))++(fJ Q).flatMap mQ))))):=rfl;rw[e];simp only[List.length_append]at h4⊢;omega
 refine⟨?_,hlen⟩;rw[Jg hN (UK h hQ.fit)];unfold me;rw[if_pos (LX h hQ),if_pos hlen]
end Go.Proofs.YtgkllgjmfpjeoaaGreatDoor
