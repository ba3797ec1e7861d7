/- A part of the proof: EngZA, EngTop, EngMono, EngTb, SymB. -/
import Derived.Test.YtdogilonhnbapaaGreatDoorEngZ
import Derived.Test.YtdogilonhnbapaaGreatDoorSymA
set_option linter.unusedVariables false
set_option linter.unusedSimpArgs false
namespace Go.bI
open Go Go.RowKit
section
variable{P:Program}{X:Cx}{nt:Nat}{s:St}{a:Act}
def IL(a:Act):ResultVar->Sem Value|.tmp t=>pure (a.tmps.getD t undef)|.cell c t=>do loadVar t (<-asAddr (a.tmps.getD c undef))
theorem WD(hs:fk X nt s a){rv:ResultVar}{ar:AG}{v:AV}(hp:abN P rv=some ar)(hr:HY s ar=some v):∃u,(IL a rv).run P X.w=.ok u X.w/\V1 X v u:=by cases rv with
 |tmp t=>
  cases hp;simp[HY]at hr;split at hr;.rename_i hn;cases hr;exact⟨_,rfl,V1.D1 hn (hs.slots t)⟩
  grind|cell c t=>
  simp[abN]at hp;split at hp
  .rename_i sz agg hsz hag;split at hp;.rename_i h1;cases hp;obtain⟨cs,hcs,hw⟩:=aQ hr;obtain⟨b,off,vs,hv,hc,h2,hlen⟩:=H6 hs.mem (hs.slots c) hcs;obtain⟨u,hrun,hV⟩:=AP (P:=P) hsz hag h1 hc h2 hlen hw;exact⟨u,by simp only[IL,hv];simp[asAddr,hrun],hV⟩
   grind
  grind
theorem En(hs:fk X nt s a):∀{l:List ResultVar}{rs:List AG}{vs:List AV},HZ P l=some rs->kX s rs=some vs->∃us,(l.mapM (IL a)).run P X.w=.ok us X.w/\aC (V1 X) vs us
 |[],rs,vs,hp,hr=>by simp_all[kX,HZ,V1,aC,IL]|rv::r,rs,vs,hp,hr=>by
  simp[HZ]at hp;split at hp
  .rename_i y ys h1 h2;cases hp;simp[kX]at hr;split at hr;.rename_i v vs' h3 h4;cases hr;obtain⟨u,g1,g2⟩:=WD hs h1 h3;obtain⟨us,g3,g4⟩:=En hs h2 h4;refine⟨u::us,?_,g2,g4⟩<;>simp_all
   grind
  grind
theorem qw:∀(l:List AV)(i:Nat)(t:Tr AV)(k:Nat),jt (dU i l t) k=if h:i<=k/\k<i+l.length then l[k-i]'(by omega)else jt t k
 |[],i,t,k=>by grind[dU,jt]|x::r,i,t,k=>by
  rw[dU,qw r (i+1)];by_cases h1:i+1<=k/\k<i+1+r.length;.grind
  .rw[dif_neg h1];by_cases h2:k=i;.subst h2;simp[jt,Tr.cz]
   .rw[dif_neg (by simp;omega)];unfold jt;rw[Tr.cz,if_neg (Ne.symm h2)]
theorem WE{args:List AV}{bK:Array Value}(h:aC (V1 X) args bK.toList)(n:Nat)(t:Nat):VR X (jt (dU 0 args .lf) t) ((bK++Array.replicate n undef).getD t undef):=by
 rw[qw];have hl:=h.length;simp at hl;by_cases ht:0<=t/\t<0+args.length
 .rw[dif_pos ht];obtain⟨b,hb,hr⟩:=h.get t args[t] (List.getElem?_eq_getElem (by omega));have:(bK++Array.replicate n undef).getD t undef=b:=by rw[Array.getD_eq_getD_getElem?,Array.getElem?_append_left (by omega)]<;>grind
  rw[this];exact .vo hr
 .rw[dif_neg ht];have:(bK++Array.replicate n undef).getD t undef=undef:=by rw[Array.getD_eq_getD_getElem?,Array.getElem?_append_right (by omega),Array.getElem?_replicate]<;>grind
  rw[this];exact nG
theorem acs{vs:List AV}{us:List Value}(h:aC (V1 X) vs us):VR X (jr vs) (if h:us.toArray.size=1then us.toArray[0]else .tuple us.toArray):=by match vs,us,h with|[],[],_=>grind[V1,aC,jr,VR]|[v],[u],h=>exact .vo h.1|v::w::r,u::x::q,h=>grind[V1,aC,jr,VR]
def Sj(call:Go.bI.Call)(Fs:Nat->Option tV)(n:Nat):Go.bI.Call:=λf args mem aG nv=>match Fs f with|none=>none|some fn=>match Nat.beq args.length fn.np with|false=>none|true=>match exec call (λg=>((Fs g).map (·.sh)).getD false) n fn.body {slots:=dU 0 args .lf,mem,aG,nv}with|some (.normal,s)|some (.ret,s)=>(kX s fn.res).map λvs=>(jr vs,s.mem,s.aG,s.nv)|_=>none
theorem IM{call:Go.bI.Call}(cM:cI P call){eD:Nat->Option TypeId}{md:Nat->Mode}{Fs:Nat->Option tV}(hm:P.follows .mixedOrders=true)(jy:∀f T,eD f=some T->kU P f T)(Pg:∀f fn,Fs f=some fn->Dd P eD md f=some fn)(n:Nat):cI P (Sj call Fs n):=by
  intro f args mem aG nv r mem' ri Nt h X bK hmem hdom hargs;simp[Sj]at h;split at h;.cases h
  .rename_i fn hfn;split at h;.cases h
   .rename_i hnp;have hf:=Pg f fn hfn;unfold Dd at hf;split at hf;.cases hf
    .rename_i pf hpf;split at hf;.cases hf
     .rename_i c hbody;split at hf;.cases hf
      .rename_i hname;split at hf
       .rename_i b rs hc hrs;simp only at hf;split at hf
        .cases hf;refine⟨⟨pf,hpf,by rw[hbody];rfl,by simpa using hname⟩,?_⟩;have hlen:=hargs.length;simp at hlen;simp at hnp h;have start:fk X pf.ntmps {slots:=dU 0 args .lf,mem,aG,nv} {tmps:=bK++Array.replicate (pf.ntmps-bK.size) undef,defers:=[]}:=⟨λt=>WE hargs _ t,by simp;omega,rfl,hmem⟩;have fin:∀(x:AX)(s:St),(kX s rs).map (λvs=>(jr vs,s.mem,s.aG,s.nv))=some (r,mem',ri,Nt)->∀(Y:Cx)(a':Act),Ext X Y->fk Y pf.ntmps s a'->nv<=s.nv->(∀v L,Y.ρ v=some L->X.ρ v=some L\/(nv<=v/\v<s.nv))->a'.defers=[]/\∃v,(results pf a'.tmps).run P Y.w=.ok v Y.w/\∃Z u,Ending.returned v=.returned u/\Z.w=Y.w/\Ext X Z/\VR Z r u/\aH Z mem' ri/\nv<=Nt/\∀u L,Z.ρ u=some L->X.ρ u=some L\/(nv<=u/\u<Nt):=by
          intro x s hres Y a' hx hs' hn hd;obtain⟨vs,hvs,he⟩:=aN hres;cases he;obtain⟨us,g1,g2⟩:=En hs' hrs hvs;refine⟨hs'.defers,_,?_,Y,_,rfl,rfl,hx,acs g2,hs'.mem,hn,hd⟩;have e:results pf a'.tmps=(do let vs<-pf.results.mapM (IL a')pure (if h:vs.size=1then vs[0]else .tuple vs)):=by congr 1
          rw[e,List.mapM_toArray];simp[g1]
         split at h;.rename_i s he;refine calls_of_wp hpf hbody ((NB hm cM jy n).1 c b X _ _ (.normal,s) _ hc he start hdom λY a' hx hs' hn hd=>?_);exact fin .normal s h Y a' hx hs' hn hd
         .rename_i s he;refine calls_of_wp hpf hbody ((NB hm cM jy n).1 c b X _ _ (.ret,s) _ hc he start hdom λY a' hx hs' hn hd=>?_);exact fin .ret s h Y a' hx hs' hn hd
         .cases h
        grind
       grind
theorem NJ{eD:Nat->Option TypeId}{md:Nat->Mode}{Fs:Nat->Option tV}(hm:P.follows .mixedOrders=true)(jy:∀f T,eD f=some T->kU P f T)(Pg:∀f fn,Fs f=some fn->Dd P eD md f=some fn):∀n,cI P (VV Fs n)|0=>λ_ _ _ _ _ _ _ _ _ h=>by simp[VV]at h|n+1=>IM (NJ hm jy Pg n) hm jy Pg n
end
end Go.bI
namespace Go.bI
open Go Go.RowKit
def cx0(w:World):Cx:={w,F:=λ_ _=>False,ρ:=λ_=>none,old:=λb=>b<w.heap.size}
theorem WG(w:World)(hg:(∀b,xk b->b<w.heap.size)/\Ng w)(m:List (Tr bC))(hm:∀lv sl,aK m lv sl=none):aH (cx0 w) m .lf where
 eV lv sl e he:=by rw[hm]at he;cases he
 aG v hv:=by simp at hv
 apart k k' v v' L L' a b:=by
  rcases a with⟨_,_,_,_,he,_⟩|⟨_,he⟩;.rw[hm]at he;cases he
  .simp at he
 n8 b o h:=h.elim;ql:=⟨λ_ h=>h,hg.1,hg.2⟩
theorem xF(lv sl:Nat):aK [.lf] lv sl=none:=by unfold aK;cases lv<;>simp
theorem acu{P:Program}{eD:Nat->Option TypeId}{md:Nat->Mode}{Fs:Nat->Option tV}{n f:Nat}(hm:P.follows .mixedOrders=true)(jy:∀f T,eD f=some T->kU P f T)(Pg:∀f fn,Fs f=some fn->Dd P eD md f=some fn)(h:(VV Fs n f [] [.lf] .lf 0).map (·.1)=some (.d (.sc (.bool true))))(w:World)(hg:(∀b,xk b->b<w.heap.size)/\Ng w):Calls P f #[] w λe w'=>e=.returned (.bool true)/\Below w.heap.size w w':=by obtain⟨⟨r,m,t,v⟩,hr,he⟩:=aN h;obtain⟨_,hc⟩:=NJ hm jy Pg n f [] [.lf] .lf 0 r m t v hr (cx0 w) #[] (WG w hg _ xF) (λ_ _=>rfl) trivial;refine hc.mono ?_;rintro e w'⟨Y,u,rfl,rfl,hx,hv,_⟩;subst he;cases hv;exact⟨rfl,hx.below.toBelow⟩
def Bz:List (Nat×tV)->Nat->Option tV|[],_=>none|(g,fn)::r,f=>match Nat.beq g f with|true=>some fn|false=>Bz r f
inductive vV(P:Program)(eD:Nat->Option TypeId)(md:Nat->Mode):List (Nat×tV)->Prop where|nil:vV P eD md []|cons{g:Nat}{fn:tV}{r:List (Nat×tV)}:Dd P eD md g=some fn->vV P eD md r->vV P eD md ((g,fn)::r)
theorem Sk{P:Program}{eD:Nat->Option TypeId}{md:Nat->Mode}{l:List (Nat×tV)}(h:vV P eD md l):∀f fn,Bz l f=some fn->Dd P eD md f=some fn:=by induction h with|nil=>intro f fn h;cases h|@cons g fn' r h1 _ ih=>intro f fn h;simp[Bz]at h;split at h<;>simp_all
end Go.bI
namespace Go.bI
open Go
def k9(a b:Call):Prop:=∀f x m t n r,a f x m t n=some r->b f x m t n=some r
variable{call call':Call}{sh:Nat->Bool}
theorem Lq(hc:k9 call call'){s:St}{f lb sb vb:Nat}{args:List AV}{r:gB}(h:rO call s f lb sb vb args=some r):rO call' s f lb sb vb args=some r:=by
 unfold rO at h⊢;split at h;.cases h
 split at h
 .split at h;.cases h
  .rename_i he;rw[hc _ _ _ _ _ _ he]<;>omega
 omega
theorem sy(hc:k9 call call'){b:Bool}{row:Nat}{s:St}{lv sl aO f:Nat}{args:List AV}{r:gB}(h:fM call b row s lv sl aO f args=some r):fM call' b row s lv sl aO f args=some r:=by unfold fM at h⊢;cases b with
 |false=>cases hba:om args with|some x=>rw[hba]at h;exact Lq hc h|none=>
  rw[hba]at h;simp at h⊢;split at h;.cases h
  .split at h;.cases h
   .rename_i r' cm ts n he;rw[hc _ _ _ _ _ _ he]<;>omega
 |true=>
  simp at h⊢;split at h;.cases h
  .split at h;.cases h
   .rename_i r' cm ts n he;rw[hc _ _ _ _ _ _ he]<;>omega
theorem yY(hc:k9 call call'){s:St}{f:Nat}{args:List AV}{r:gB}(h:j5 call s f args=some r):j5 call' s f args=some r:=by
 unfold j5 at h⊢;split at h;.cases h
 .split at h;.cases h
  .rename_i r' cm ts n he;rw[hc _ _ _ _ _ _ he]<;>omega
theorem IN(hc:k9 call call'){s:St}{f:Nat}{args:List AV}{r:gB}(h:qh call s f args=some r):qh call' s f args=some r:=by
 unfold qh at h⊢;split at h;.cases h
 .split at h;.cases h
  .rename_i r' cm ts n he;rw[hc _ _ _ _ _ _ he]<;>omega
theorem IP(hc:k9 call call'){s:St}{aO f:Nat}{args:List AV}{r:gB}(h:nC call s aO f args=some r):nC call' s aO f args=some r:=by
 unfold nC at h⊢;split at h;.cases h
 .split at h;.cases h
  .rename_i r' cm ts n he;rw[hc _ _ _ _ _ _ he]<;>omega
theorem IQ(hc:k9 call call'){s:St}{aO f:Nat}{args:List AV}{r:gB}(h:nD call s aO f args=some r):nD call' s aO f args=some r:=by
 unfold nD at h⊢;split at h;.cases h
 .split at h;.cases h
  .rename_i r' cm ts n he;rw[hc _ _ _ _ _ _ he]<;>omega
theorem Sl(hc:k9 call call'){s:St}{row dst aO:Nat}{o:cq}{r:gB}(h:o.run call sh s row dst aO=some r):o.run call' sh s row dst aO=some r:=by cases o with
 |call f args=>
  simp[cq.run]at h⊢;split at h;.exact yY hc h
  .split at h;.exact IN hc h
   .split at h;.exact IP hc h
    split at h;.exact IQ hc h
    .exact sy hc h|vi f args=>
  simp[cq.run]at h⊢;split at h;.exact sy hc h
  .exact yY hc h|AF x args=>
  simp[cq.run]at h⊢;split at h;.exact sy hc h
  .cases h|_=>exact h
theorem Eo(hc:k9 call call'){s:St}{aO:Nat}{o:bB}{r:gB}(h:o.step call sh s aO=some r):o.step call' sh s aO=some r:=by
 unfold bB.step at h⊢;split at h;.cases h
 .exact Sl hc h
 .exact h
theorem yZ(hc:k9 call call'){mD:Nat}:∀{l:List bB}{i:Nat}{s r:St},kW call sh mD i l s=some r->kW call' sh mD i l s=some r
 |[],_,_,_,h=>h|o::l,i,s,r,h=>by
  unfold kW at h⊢;split at h;.cases h
  .rename_i e he;rw[Eo hc he];exact yZ hc h
theorem y8(hc:k9 call call'){mD:Nat}:∀{l:List bB}{i:Nat}{p:List (Nat×gB)}{s r:St},j6 call sh mD i l p s=some r->j6 call' sh mD i l p s=some r
 |[],_,_,_,_,h=>h|o::l,i,p,s,r,h=>by
  unfold j6 at h⊢;split at h;.cases h
  .rename_i e he;rw[Eo hc he];simp;split at h;.exact y8 hc h
   omega
theorem BA(hc:k9 call call'){l:List bB}{d:Bool}{s r:St}(h:jf call sh l d s=some r):jf call' sh l d s=some r:=by cases d with|false=>exact yZ hc h|true=>exact y8 hc h
theorem vW(hc:k9 call call'):∀(n m:Nat)(c:AC)(s:St)(r:AX×St),n<=m->exec call sh n c s=some r->exec call' sh m c s=some r|0,_,_,_,_,_,h=>by cases h|n+1,0,_,_,_,hn,_=>by omega|n+1,m+1,c,s,r,hn,h=>by have ih:=vW hc n m;unfold exec at h⊢;cases c with
 |skip=>exact h|region ops d=>simp at h⊢;cases hr:jf call sh ops d s with|none=>grind|some s'=>rw[hr]at h;rw[BA hc hr];exact h
 |seq a b=>grind|cond c a b=>grind|block id c=>grind|loop c=>grind|exit id=>exact h|ret=>exact h
end Go.bI
namespace Go.bI
open Go Go.RowKit
structure Tb where
 fs:Nat->Option tV
 O:Go.bI.Call
instance:CoeFun Tb λ_=>Nat->Option tV:=⟨Tb.fs⟩
instance:Coe Tb (Nat->Option tV):=⟨Tb.fs⟩
def Sm:Go.bI.Call:=λ_ _ _ _ _=>none
def iE(T:Tb):Nat->Go.bI.Call|0,_,_,_,_,_=>none|n+1,f,args,mem,aG,nv=>match T.fs f with|none=>T.O f args mem aG nv|some fn=>match Nat.beq args.length fn.np with|false=>none|true=>match exec (iE T n) (λg=>((T.fs g).map (·.sh)).getD false) n fn.body {slots:=dU 0 args .lf,mem,aG,nv}with|some (.normal,s)|some (.ret,s)=>(kX s fn.res).map λvs=>(jr vs,s.mem,s.aG,s.nv)|_=>none
theorem Ph{P:Program}:cI P Sm:=λ_ _ _ _ _ _ _ _ _ h=>by cases h
theorem Gn{P:Program}{T:Tb}(hO:cI P T.O){eD:Nat->Option TypeId}{md:Nat->Mode}(hm:P.follows .mixedOrders=true)(jy:∀f T,eD f=some T->kU P f T)(Pg:∀f fn,T.fs f=some fn->Dd P eD md f=some fn):∀n,cI P (iE T n)|0=>λ_ _ _ _ _ _ _ _ _ h=>by cases h|n+1=>by intro f args mem aG nv r mem' ri Nt h;cases hf:T.fs f with|none=>simp[iE,hf]at h;exact hO f args mem aG nv r mem' ri Nt h|some fn=>refine IM (Gn hO hm jy Pg n) hm jy Pg n f args mem aG nv r mem' ri Nt ?_;simp[iE,hf]at h;simp[Sj,hf];exact h
theorem NK{T:Tb}:∀(n m:Nat),n<=m->k9 (iE T n) (iE T m)
 |0,_,_=>λ_ _ _ _ _ _ h=>by cases h|n+1,0,hn=>by omega|n+1,m+1,hn=>λf x mm t nv r h=>by
  have ih:=NK (T:=T) n m (by omega);unfold iE at h⊢;split at h;.exact h
  .rename_i fn hf;split at h;.cases h
   .cases he:exec (iE T n) (λg=>((T.fs g).map (·.sh)).getD false) n fn.body {slots:=dU 0 x .lf,mem:=mm,aG:=t,nv}with|none=>grind|some y=>rw[vW ih n m fn.body _ y (by omega) he]<;>grind
end Go.bI
namespace Go.Sym
open Go Go.bI
abbrev aZ:=Nat->Option Nat
def bf(t:Ty)(l:List t.den):List (List D):=l.map (eX t)
def RC(ρ:aZ)(B:Nat)(m:List (Tr E2)):Cell->AV->Prop|.int k a,x=>x=.d (.sc (.int k a))|.bool b,x=>x=.d (.sc (.bool b))|.er b,x=>x=.d (match b with|true=>.er|false=>.sc .nilIface)|.str s,x=>x=.d (.sc (.string ⟨s.toArray⟩))|.raw v,x=>x=.d (.sc v)|.nil true,x=>x=.own [] .full|.nil false,x=>x=.d (.sl [])\/∃o,o≠.bA/\x=.own [] o|.sl t l .d,x=>x=.d (.sl (bf t l))\/∃o,o≠.bA/\x=.own (bf t l) o|.sl t l .bA,x=>x=.d (.sl (bf t l))\/∃o,x=.own (bf t l) o|.sl t l .full,x=>x=.own (bf t l) .full|.sl t l (.app v),x=>v<B/\((ρ v=none/\x=.own (bf t l) .full)\/∃u,ρ v=some u/\x=.own (bf t l) (.cB u t.size))|.ref lv sl ai t,x=>ai<B/\∃u n,ρ ai=some u/\x=.ref lv sl u 0 n t.size/\∀r,rowOf m lv sl ai=some r->n=r.l.length|.jz lv sl ai t off len,x=>ai<B/\∃u,ρ ai=some u/\x=.ref lv sl u off len t.size/\∀r,rowOf m lv sl ai=some r->off+len<=r.l.length|.ptr lv sl ai i off,x=>ai<B/\∃u,ρ ai=some u/\x=.ptr lv sl u i off|.fJ t e off,x=>x=.fJ (eX t e) off|.ff lv sl ai off n sz,x=>ai<B/\∃u,ρ ai=some u/\x=.ff lv sl u off n sz|.mp lv sl ai,x=>ai<B/\∃u,ρ ai=some u/\x=.mp lv sl u
def R1(ρ:aZ)(B:Nat)(m:List (Tr E2)):Bool×List Cell->AV->Prop|(true,cs),a=>∃aJ,a=.agg aJ/\aC (RC ρ B m) cs aJ|(false,cs),a=>∃c,cs=[c]/\RC ρ B m c a
def RV(ρ:aZ)(B:Nat)(m:List (Tr E2)):V2->AV->Prop|.c x,a=>RC ρ B m x a|.agg cs,a=>∃aJ,a=.agg aJ/\aC (RC ρ B m) cs aJ|.gm f cs,a=>∃aJ,a=.gm f aJ/\aC (RC ρ B m) cs aJ|.iF vs,a=>∃aJ,a=.iF aJ/\aC (R1 ρ B m) vs aJ
def RE(ρ:aZ)(B:Nat)(m:List (Tr E2)):E2->bC->Prop|.row ai t l,e=>ai<B/\∃u,ρ ai=some u/\e=.row u (bf t l)|.box ai cs,e=>ai<B/\∃u aJ,ρ ai=some u/\e=.box u aJ/\aC (RC ρ B m) cs aJ|.set ai l,e=>ai<B/\∃u,ρ ai=some u/\e=.mp u l
structure MR(ρ:aZ)(B:Nat)(m2:List (Tr E2))(m:List (Tr bC)):Prop where
 len:m2.length=m.length
 eV:∀lv sl e2,iD m2 lv sl=some e2->∃e,aK m lv sl=some e/\RE ρ B m2 e2 e
def TR(ρ:aZ)(B:Nat)(t2 t:Tr Unit):Prop:=∀v,t2.get? v=some ()->v<B/\∀u,ρ v=some u->t.get? u=some ()
structure VOK(ρ:aZ)(n2 n:Nat):Prop where
 low:∀v u,v<n2->ρ v=some u->u<n
 high:∀v,n2<=v->ρ v=some (n+(v-n2))inj:∀v v' u,ρ v=some u->ρ v'=some u->v=v'
def uJ(ρ:aZ)(B:Nat)(m:List (Tr E2))(t:Tr V2)(o:Tr AV):Prop:=∀k v,t.get? k=some v->RV ρ B m v (jt o k)
structure SR(ρ:aZ)(B:Nat)(os:List (Tr AV))(s2:S2)(s:St):Prop where
 slots:uJ ρ B s2.mem s2.slots s.slots
 outer:aC (uJ ρ B s2.mem) s2.outer os
 mem:MR ρ B s2.mem s.mem
 aG:TR ρ B s2.aG s.aG
 ai:VOK ρ s2.nv s.nv
 le:B<=s2.nv
def eE(B:Nat)(m m':List (Tr E2)):Prop:=∀lv sl ai r',ai<B->rowOf m' lv sl ai=some r'->∃r,rowOf m lv sl ai=some r/\r.l.length=r'.l.length
theorem eE.refl(B:Nat)(m:List (Tr E2)):eE B m m:=λ_ _ _ r _ h=>⟨r,h,rfl⟩
theorem eE.trans{B:Nat}{m m' m'':List (Tr E2)}(h:eE B m m')(k:eE B m' m''):eE B m m'':=by grind[eE]
theorem RC.move{ρ ρ':aZ}{B B':Nat}{m m':List (Tr E2)}(hs:eE B m m')(hB:B<=B')(hρ:∀v,v<B->ρ' v=ρ v):∀{c:Cell}{x:AV},RC ρ B m c x->RC ρ' B' m' c x:=by intro c x h;cases c with
 |nil f=>cases f<;>exact h|sl t l o=>cases o with|app v=>obtain⟨hv,h⟩:=h;refine⟨by omega,?_⟩<;>grind|d=>exact h|full=>exact h|bA=>exact h
 |ref lv sl ai t=>obtain⟨hv,u,n,hu,hx,hr⟩:=h;refine⟨by omega,u,n,by rw[hρ ai hv];exact hu,hx,λr' hr'=>?_⟩;obtain⟨r,h1,h2⟩:=hs _ _ _ _ hv hr'<;>grind|jz lv sl ai t off len=>obtain⟨hv,u,hu,hx,hr⟩:=h;refine⟨by omega,u,by rw[hρ ai hv];exact hu,hx,λr' hr'=>?_⟩;obtain⟨r,h1,h2⟩:=hs _ _ _ _ hv hr'<;>grind|ptr lv sl ai i off=>obtain⟨hv,u,hu,hx⟩:=h;exact⟨by omega,u,by rw[hρ ai hv];exact hu,hx⟩|ff lv sl ai off n sz=>obtain⟨hv,u,hu,hx⟩:=h;exact⟨by omega,u,by rw[hρ ai hv];exact hu,hx⟩|mp lv sl ai=>obtain⟨hv,u,hu,hx⟩:=h;exact⟨by omega,u,by rw[hρ ai hv];exact hu,hx⟩|_=>exact h
theorem R1.mono{ρ ρ':aZ}{B B':Nat}{m m':List (Tr E2)}(hc:∀c x,RC ρ B m c x->RC ρ' B' m' c x):∀{v:Bool×List Cell}{x:AV},R1 ρ B m v x->R1 ρ' B' m' v x|(true,_),_,⟨aJ,h1,h2⟩=>⟨aJ,h1,h2.mono hc⟩|(false,_),_,⟨c,h1,h2⟩=>⟨c,h1,hc _ _ h2⟩
theorem RV.mono{ρ ρ':aZ}{B B':Nat}{m m':List (Tr E2)}(hc:∀c x,RC ρ B m c x->RC ρ' B' m' c x):∀{v:V2}{x:AV},RV ρ B m v x->RV ρ' B' m' v x:=by intro v x h;cases v with|c c=>exact hc _ _ h|agg cs=>obtain⟨aJ,h1,h2⟩:=h;exact⟨aJ,h1,h2.mono hc⟩|gm f cs=>obtain⟨aJ,h1,h2⟩:=h;exact⟨aJ,h1,h2.mono hc⟩|iF vs=>obtain⟨aJ,h1,h2⟩:=h;exact⟨aJ,h1,h2.mono λ_ _=>R1.mono hc⟩
theorem RE.mono{ρ ρ':aZ}{B B':Nat}{m m':List (Tr E2)}(hB:B<=B')(hρ:∀v,v<B->ρ' v=ρ v)(hc:∀c x,RC ρ B m c x->RC ρ' B' m' c x):∀{e2:E2}{e:bC},RE ρ B m e2 e->RE ρ' B' m' e2 e:=by intro e2 e h;cases e2 with|row ai t l=>obtain⟨hv,u,h1,h2⟩:=h;exact⟨by omega,u,by rw[hρ ai hv];exact h1,h2⟩|box ai cs=>obtain⟨hv,u,aJ,h1,h2,h3⟩:=h;exact⟨by omega,u,aJ,by rw[hρ ai hv];exact h1,h2,h3.mono hc⟩|set ai l=>obtain⟨hv,u,h1,h2⟩:=h;exact⟨by omega,u,by rw[hρ ai hv];exact h1,h2⟩
theorem uJ.mono{ρ ρ':aZ}{B B':Nat}{m m':List (Tr E2)}(hc:∀c x,RC ρ B m c x->RC ρ' B' m' c x){t:Tr V2}{o:Tr AV}(h:uJ ρ B m t o):uJ ρ' B' m' t o:=λk v hk=>RV.mono hc (h k v hk)
theorem RV.move{ρ ρ':aZ}{B B':Nat}{m m':List (Tr E2)}(hs:eE B m m')(hB:B<=B')(hρ:∀v,v<B->ρ' v=ρ v){v:V2}{x:AV}(h:RV ρ B m v x):RV ρ' B' m' v x:=RV.mono (λ_ _=>RC.move hs hB hρ) h
theorem uJ.move{ρ ρ':aZ}{B B':Nat}{m m':List (Tr E2)}(hs:eE B m m')(hB:B<=B')(hρ:∀v,v<B->ρ' v=ρ v){t:Tr V2}{o:Tr AV}(h:uJ ρ B m t o):uJ ρ' B' m' t o:=uJ.mono (λ_ _=>RC.move hs hB hρ) h
theorem pP:∀l:List qc,Ed l=l.map Li|[]=>by simp[Ed]|v::r=>by simp[Ed,pP r]
theorem ez:∀(t:Ty)(x:t.den),(eX t x).length=t.size|.val,v=>by cases v;simp[eX,Li,Ty.size]|.int _,_=>rfl|.bool,_=>rfl|.str,_=>rfl|.sl _,_=>rfl|.unit,_=>rfl|.prod a b,x=>by simp[eX,Ty.size,ez a,ez b]|.sum _ _,_=>rfl
theorem ld{ρ:aZ}{B:Nat}{m:List (Tr E2)}:∀(t:Ty)(x:t.den),aC (RC ρ B m) (iK t x) ((eX t x).map .d)|.val,v=>by cases v;refine⟨rfl,rfl,rfl,.inl ?_,rfl,trivial⟩;simp[bf,qc.list,pP,eX]|.int _,_=>⟨rfl,trivial⟩|.bool,_=>⟨rfl,trivial⟩|.str,_=>⟨rfl,trivial⟩|.sl _,_=>⟨.inl rfl,trivial⟩|.unit,_=>trivial|.prod a b,x=>by simp[iK,eX,List.map_append];exact(ld a x.1).append (ld b x.2)|.sum _ _,_=>trivial
theorem BB{a b:Ty}{l:List a.den}{l':List b.den}(h:js a b l=some l'):∃e:a=b,l'=e▸l:=by unfold js at h;split at h<;>grind
theorem Pj{a b:Ty}{l:a.den}{l':b.den}(h:uE a b l=some l'):∃e:a=b,l'=e▸l:=by unfold uE at h;split at h<;>grind
def mO:Cell->Option D|.int k a=>some (.sc (.int k a))|.bool b=>some (.sc (.bool b))|.str s=>some (.sc (.string ⟨s.toArray⟩))|.raw v=>some (.sc v)|.nil _=>some (.sl [])|.sl t l _=>some (.sl (bf t l))|_=>none
def ck:List Cell->Option (List D)|[]=>some []|c::r=>match mO c,ck r with|some x,some xs=>some (x::xs)|_,_=>none
theorem lU:∀{l l':List Cell}{ds ds':List D},ck l=some ds->ck l'=some ds'->ck (l++l')=some (ds++ds')
 |[],_,_,_,h,h'=>by cases h<;>grind|c::r,l',ds,ds',h,h'=>by
  simp[ck]at h;split at h;.rename_i x xs h1 h2;cases h;simp[List.cons_append,ck,h1,lU h2 h']
  grind
theorem gF{c:Cell}{r:List Cell}{ds:List D}(h:ck (c::r)=some ds):∃x xs,mO c=some x/\ck r=some xs/\ds=x::xs:=by grind[ck,mO]
theorem BC{k:IntKind}{cs r:List Cell}{x:Int}{ds:List D}(h:IB k cs=some (x,r))(hd:ck cs=some ds):∃ds',ds=.sc (.int k x)::ds'/\ck r=some ds':=by
 unfold IB at h;split at h
 .split at h;.obtain⟨y,ys,h1,h2,rfl⟩:=gF hd;cases h1<;>grind
  grind
 grind
theorem Ep{cs r:List Cell}{x:Bool}{ds:List D}(h:Gf cs=some (x,r))(hd:ck cs=some ds):∃ds',ds=.sc (.bool x)::ds'/\ck r=some ds':=by
 unfold Gf at h;split at h;.obtain⟨y,ys,h1,h2,rfl⟩:=gF hd;cases h1<;>grind
 grind
theorem IS{cs r:List Cell}{x:List UInt8}{ds:List D}(h:NC cs=some (x,r))(hd:ck cs=some ds):∃ds',ds=.sc (.string ⟨x.toArray⟩)::ds'/\ck r=some ds':=by
 unfold NC at h;split at h;.obtain⟨y,ys,h1,h2,rfl⟩:=gF hd;cases h1<;>grind
 grind
theorem NL{t:Ty}{cs r:List Cell}{x:List t.den}{ds:List D}(h:Wv t cs=some (x,r))(hd:ck cs=some ds):∃ds',ds=.sl (bf t x)::ds'/\ck r=some ds':=by
 unfold Wv at h;split at h;.cases h;obtain⟨y,ys,h1,h2,rfl⟩:=gF hd;cases h1;exact⟨ys,rfl,h2⟩
 .split at h;.rename_i hc;obtain⟨e,hl⟩:=BB hc;obtain⟨y,ys,h1,h2,rfl⟩:=gF hd;cases h1<;>grind
  grind
 grind
theorem BD:∀(t:Ty){cs r:List Cell}{x:t.den},yR t cs=some (x,r)->∀{ds:List D},ck cs=some ds->∃ds',ds=eX t x++ds'/\ck r=some ds'
 |.val,cs,r,x,h,ds,hd=>by
  simp[yR,ZS]at h;split at h
  .rename_i k r1 h1;split at h
   .rename_i i r2 h2;split at h
    .rename_i s r3 h3;split at h
     .rename_i l r4 h4;split at h
      .rename_i c r5 h5;cases h;obtain⟨d1,rfl,e1⟩:=BC h1 hd;obtain⟨d2,rfl,e2⟩:=BC h2 e1;obtain⟨d3,rfl,e3⟩:=IS h3 e2;obtain⟨d4,rfl,e4⟩:=NL h4 e3;obtain⟨d5,rfl,e5⟩:=Ep h5 e4;refine⟨d5,?_,e5⟩;have:bf .val l=Ed l:=by rw[pP];rfl
       simp[eX,Li,this]
      grind
     grind
    grind
   grind
  grind|.int k,_,_,_,h,_,hd=>BC h hd|.bool,_,_,_,h,_,hd=>Ep h hd|.str,_,_,_,h,_,hd=>IS h hd|.sl t,_,_,_,h,_,hd=>NL h hd|.unit,_,_,_,h,ds,hd=>by cases h;exact⟨ds,rfl,hd⟩|.prod a b,cs,r,x,h,ds,hd=>by
  simp[yR]at h;split at h
  .rename_i x1 r1 h1;split at h;.rename_i x2 r2 h2;cases h;obtain⟨d1,rfl,e1⟩:=BD a h1 hd;obtain⟨d2,rfl,e2⟩:=BD b h2 e1<;>simp_all[yR,ck,Ty.den,eX]
   grind
  grind|.sum _ _,_,_,_,h,_,_=>by simp[yR]at h
theorem pQ{t:Ty}{cs:List Cell}{x:t.den}{ds:List D}(h:yS t cs=some x)(hd:ck cs=some ds):ds=eX t x:=by
 unfold yS at h;split at h;.rename_i y h1;cases h;obtain⟨ds',rfl,e⟩:=BD t h1 hd;cases e;simp
 grind
end Go.Sym
