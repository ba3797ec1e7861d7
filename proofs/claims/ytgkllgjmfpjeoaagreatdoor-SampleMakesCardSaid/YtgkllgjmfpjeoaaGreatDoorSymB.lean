/- A part of the proof: EngZA, EngTop, EngMono, EngTb, SymB. -/
import Derived.Test.YtgkllgjmfpjeoaaGreatDoorEngZ
import Derived.Test.YtgkllgjmfpjeoaaGreatDoorSymA
set_option linter.unusedVariables false
set_option linter.unusedSimpArgs false
namespace Go.bJ
open Go Go.RowKit
section
variable{P:Program}{X:Cx}{nt:Nat}{s:St}{a:Act}
def HL(a:Act):ResultVar->Sem Value|.tmp t=>pure (a.tmps.getD t undef)|.cell c t=>do loadVar t (<-asAddr (a.tmps.getD c undef))
theorem VJ(hs:fo X nt s a){rv:ResultVar}{ar:z6}{v:AV}(hp:ZD P rv=some ar)(hr:GV s ar=some v):∃u,(HL a rv).run P X.w=.ok u X.w/\V1 X v u:=by cases rv with
 |tmp t=>
  cases hp;simp[GV]at hr;split at hr;.rename_i hn;cases hr;exact⟨_,rfl,V1.Ds hn (hs.slots t)⟩
  grind|cell c t=>
  simp[ZD]at hp;split at hp
  .rename_i sz agg hsz hag;split at hp;.rename_i h1;cases hp;obtain⟨cs,hcs,hw⟩:=aR hr;obtain⟨b,off,vs,hv,hc,h2,hlen⟩:=GX hs.mem (hs.slots c) hcs;obtain⟨u,hrun,hV⟩:=Af (P:=P) hsz hag h1 hc h2 hlen hw;exact⟨u,by simp only[HL,hv];simp[asAddr,hrun],hV⟩
   grind
  grind
theorem DP(hs:fo X nt s a):∀{l:List ResultVar}{rs:List z6}{vs:List AV},GW P l=some rs->kT s rs=some vs->∃us,(l.mapM (HL a)).run P X.w=.ok us X.w/\aC (V1 X) vs us
 |[],rs,vs,hp,hr=>by simp_all[kT,GW,V1,aC,HL]|rv::r,rs,vs,hp,hr=>by
  simp[GW]at hp;split at hp
  .rename_i y ys h1 h2;cases hp;simp[kT]at hr;split at hr;.rename_i v vs' h3 h4;cases hr;obtain⟨u,g1,g2⟩:=VJ hs h1 h3;obtain⟨us,g3,g4⟩:=DP hs h2 h4;refine⟨u::us,?_,g2,g4⟩<;>simp_all
   grind
  grind
theorem qh:∀(l:List AV)(i:Nat)(t:Tr AV)(k:Nat),jG (eg i l t) k=if h:i<=k/\k<i+l.length then l[k-i]'(by omega)else jG t k
 |[],i,t,k=>by grind[eg,jG]|x::r,i,t,k=>by
  rw[eg,qh r (i+1)];by_cases h1:i+1<=k/\k<i+1+r.length;.grind
  .rw[dif_neg h1];by_cases h2:k=i;.subst h2;simp[jG,Tr.cz]
   .rw[dif_neg (by simp;omega)];unfold jG;rw[Tr.cz,if_neg (Ne.symm h2)]
theorem VK{args:List AV}{ck:Array Value}(h:aC (V1 X) args ck.toList)(n:Nat)(t:Nat):VR X (jG (eg 0 args .lf) t) ((ck++Array.replicate n undef).getD t undef):=by
 rw[qh];have hl:=h.length;simp at hl;by_cases ht:0<=t/\t<0+args.length
 .rw[dif_pos ht];obtain⟨b,hb,hr⟩:=h.get t args[t] (List.getElem?_eq_getElem (by omega));have:(ck++Array.replicate n undef).getD t undef=b:=by rw[Array.getD_eq_getD_getElem?,Array.getElem?_append_left (by omega)]<;>grind
  rw[this];exact .uZ hr
 .rw[dif_neg ht];have:(ck++Array.replicate n undef).getD t undef=undef:=by rw[Array.getD_eq_getD_getElem?,Array.getElem?_append_right (by omega),Array.getElem?_replicate]<;>grind
  rw[this];exact nA
theorem aac{vs:List AV}{us:List Value}(h:aC (V1 X) vs us):VR X (ju vs) (if h:us.toArray.size=1then us.toArray[0]else .tuple us.toArray):=by match vs,us,h with|[],[],_=>grind[V1,aC,ju,VR]|[v],[u],h=>exact .uZ h.1|v::w::r,u::x::q,h=>grind[V1,aC,ju,VR]
def Q3(call:Go.bJ.Call)(Fs:Nat->Option tF)(n:Nat):Go.bJ.Call:=λf args mem aI nv=>match Fs f with|none=>none|some fn=>match Nat.beq args.length fn.np with|false=>none|true=>match exec call (λg=>((Fs g).map (·.sh)).getD false) n fn.body {slots:=eg 0 args .lf,mem,aI,nv}with|some (.normal,s)|some (.ret,s)=>(kT s fn.res).map λvs=>(ju vs,s.mem,s.aI,s.nv)|_=>none
theorem HM{call:Go.bJ.Call}(cT:cM P call){eB:Nat->Option TypeId}{md:Nat->Mode}{Fs:Nat->Option tF}(hm:P.follows .mixedOrders=true)(jw:∀f T,eB f=some T->kP P f T)(N6:∀f fn,Fs f=some fn->CJ P eB md f=some fn)(n:Nat):cM P (Q3 call Fs n):=by
  intro f args mem aI nv r mem' qP Mj h X ck hmem hdom hargs;simp[Q3]at h;split at h;.cases h
  .rename_i fn hfn;split at h;.cases h
   .rename_i hnp;have hf:=N6 f fn hfn;unfold CJ at hf;split at hf;.cases hf
    .rename_i pf hpf;split at hf;.cases hf
     .rename_i c hbody;split at hf;.cases hf
      .rename_i hname;split at hf
       .rename_i b rs hc hrs;simp only at hf;split at hf
        .cases hf;refine⟨⟨pf,hpf,by rw[hbody];rfl,by simpa using hname⟩,?_⟩;have hlen:=hargs.length;simp at hlen;simp at hnp h;have start:fo X pf.ntmps {slots:=eg 0 args .lf,mem,aI,nv} {tmps:=ck++Array.replicate (pf.ntmps-ck.size) undef,defers:=[]}:=⟨λt=>VK hargs _ t,by simp;omega,rfl,hmem⟩;have fin:∀(x:AX)(s:St),(kT s rs).map (λvs=>(ju vs,s.mem,s.aI,s.nv))=some (r,mem',qP,Mj)->∀(Y:Cx)(a':Act),Ext X Y->fo Y pf.ntmps s a'->nv<=s.nv->(∀v L,Y.ρ v=some L->X.ρ v=some L\/(nv<=v/\v<s.nv))->a'.defers=[]/\∃v,(results pf a'.tmps).run P Y.w=.ok v Y.w/\∃Z u,Ending.returned v=.returned u/\Z.w=Y.w/\Ext X Z/\VR Z r u/\aH Z mem' qP/\nv<=Mj/\∀u L,Z.ρ u=some L->X.ρ u=some L\/(nv<=u/\u<Mj):=by
          intro x s hres Y a' hx hs' hn hd;obtain⟨vs,hvs,he⟩:=aN hres;cases he;obtain⟨us,g1,g2⟩:=DP hs' hrs hvs;refine⟨hs'.defers,_,?_,Y,_,rfl,rfl,hx,aac g2,hs'.mem,hn,hd⟩;have e:results pf a'.tmps=(do let vs<-pf.results.mapM (HL a')pure (if h:vs.size=1then vs[0]else .tuple vs)):=by congr 1
          rw[e,List.mapM_toArray];simp[g1]
         split at h;.rename_i s he;refine calls_of_wp hpf hbody ((Mr hm cT jw n).1 c b X _ _ (.normal,s) _ hc he start hdom λY a' hx hs' hn hd=>?_);exact fin .normal s h Y a' hx hs' hn hd
         .rename_i s he;refine calls_of_wp hpf hbody ((Mr hm cT jw n).1 c b X _ _ (.ret,s) _ hc he start hdom λY a' hx hs' hn hd=>?_);exact fin .ret s h Y a' hx hs' hn hd
         .cases h
        grind
       grind
theorem My{eB:Nat->Option TypeId}{md:Nat->Mode}{Fs:Nat->Option tF}(hm:P.follows .mixedOrders=true)(jw:∀f T,eB f=some T->kP P f T)(N6:∀f fn,Fs f=some fn->CJ P eB md f=some fn):∀n,cM P (U6 Fs n)|0=>λ_ _ _ _ _ _ _ _ _ h=>by simp[U6]at h|n+1=>HM (My hm jw N6 n) hm jw N6 n
end
end Go.bJ
namespace Go.bJ
open Go Go.RowKit
def cx0(w:World):Cx:={w,F:=λ_ _=>False,ρ:=λ_=>none,old:=λb=>b<w.heap.size}
theorem VL(w:World)(hg:(∀b,wQ b->b<w.heap.size)/\L9 w)(m:List (Tr bB))(hm:∀lv sl,aK m lv sl=none):aH (cx0 w) m .lf where
 fN lv sl e he:=by rw[hm]at he;cases he
 aI v hv:=by simp at hv
 apart k k' v v' L L' a b:=by
  rcases a with⟨_,_,_,_,he,_⟩|⟨_,he⟩;.rw[hm]at he;cases he
  .simp at he
 oL b o h:=h.elim;tG:=⟨λ_ h=>h,hg.1,hg.2⟩
theorem xd(lv sl:Nat):aK [.lf] lv sl=none:=by unfold aK;cases lv<;>simp
theorem aad{P:Program}{eB:Nat->Option TypeId}{md:Nat->Mode}{Fs:Nat->Option tF}{n f:Nat}(hm:P.follows .mixedOrders=true)(jw:∀f T,eB f=some T->kP P f T)(N6:∀f fn,Fs f=some fn->CJ P eB md f=some fn)(h:(U6 Fs n f [] [.lf] .lf 0).map (·.1)=some (.d (.sc (.bool true))))(w:World)(hg:(∀b,wQ b->b<w.heap.size)/\L9 w):Calls P f #[] w λe w'=>e=.returned (.bool true)/\Below w.heap.size w w':=by obtain⟨⟨r,m,t,v⟩,hr,he⟩:=aN h;obtain⟨_,hc⟩:=My hm jw N6 n f [] [.lf] .lf 0 r m t v hr (cx0 w) #[] (VL w hg _ xd) (λ_ _=>rfl) trivial;refine hc.mono ?_;rintro e w'⟨Y,u,rfl,rfl,hx,hv,_⟩;subst he;cases hv;exact⟨rfl,hx.below.toBelow⟩
def A0:List (Nat×tF)->Nat->Option tF|[],_=>none|(g,fn)::r,f=>match Nat.beq g f with|true=>some fn|false=>A0 r f
inductive vE(P:Program)(eB:Nat->Option TypeId)(md:Nat->Mode):List (Nat×tF)->Prop where|nil:vE P eB md []|cons{g:Nat}{fn:tF}{r:List (Nat×tF)}:CJ P eB md g=some fn->vE P eB md r->vE P eB md ((g,fn)::r)
theorem Q4{P:Program}{eB:Nat->Option TypeId}{md:Nat->Mode}{l:List (Nat×tF)}(h:vE P eB md l):∀f fn,A0 l f=some fn->CJ P eB md f=some fn:=by induction h with|nil=>intro f fn h;cases h|@cons g fn' r h1 _ ih=>intro f fn h;simp[A0]at h;split at h<;>simp_all
end Go.bJ
namespace Go.bJ
open Go
def mF(a b:Call):Prop:=∀f x m t n r,a f x m t n=some r->b f x m t n=some r
variable{call call':Call}{sh:Nat->Bool}
theorem rP(hc:mF call call'){b:Bool}{row:Nat}{s:St}{lv sl aO f:Nat}{args:List AV}{r:hU}(h:gr call b row s lv sl aO f args=some r):gr call' b row s lv sl aO f args=some r:=by
 unfold gr at h⊢;cases b with|false=>
  simp at h⊢;split at h;.cases h
  .split at h;.cases h
   .rename_i r' cm ts n he;rw[hc _ _ _ _ _ _ he]<;>omega|true=>
  simp at h⊢;split at h;.cases h
  .split at h;.cases h
   .rename_i r' cm ts n he;rw[hc _ _ _ _ _ _ he]<;>omega
theorem yC(hc:mF call call'){s:St}{f:Nat}{args:List AV}{r:hU}(h:j0 call s f args=some r):j0 call' s f args=some r:=by
 unfold j0 at h⊢;split at h;.cases h
 .split at h;.cases h
  .rename_i r' cm ts n he;rw[hc _ _ _ _ _ _ he]<;>omega
theorem HN(hc:mF call call'){s:St}{f:Nat}{args:List AV}{r:hU}(h:p6 call s f args=some r):p6 call' s f args=some r:=by
 unfold p6 at h⊢;split at h;.cases h
 .split at h;.cases h
  .rename_i r' cm ts n he;rw[hc _ _ _ _ _ _ he]<;>omega
theorem HO(hc:mF call call'){s:St}{aO f:Nat}{args:List AV}{r:hU}(h:ni call s aO f args=some r):ni call' s aO f args=some r:=by
 unfold ni at h⊢;split at h;.cases h
 .split at h;.cases h
  .rename_i r' cm ts n he;rw[hc _ _ _ _ _ _ he]<;>omega
theorem HP(hc:mF call call'){s:St}{aO f:Nat}{args:List AV}{r:hU}(h:nj call s aO f args=some r):nj call' s aO f args=some r:=by
 unfold nj at h⊢;split at h;.cases h
 .split at h;.cases h
  .rename_i r' cm ts n he;rw[hc _ _ _ _ _ _ he]<;>omega
theorem Q5(hc:mF call call'){s:St}{row dst aO:Nat}{o:cj}{r:hU}(h:o.run call sh s row dst aO=some r):o.run call' sh s row dst aO=some r:=by cases o with
 |call f args=>
  simp[cj.run]at h⊢;split at h;.exact yC hc h
  .split at h;.exact HN hc h
   .split at h;.exact HO hc h
    split at h;.exact HP hc h
    .exact rP hc h|uT f args=>
  simp[cj.run]at h⊢;split at h;.exact rP hc h
  .exact yC hc h|zZ x args=>
  simp[cj.run]at h⊢;split at h;.exact rP hc h
  .cases h|_=>exact h
theorem DQ(hc:mF call call'){s:St}{aO:Nat}{o:bz}{r:hU}(h:o.step call sh s aO=some r):o.step call' sh s aO=some r:=by
 unfold bz.step at h⊢;split at h;.cases h
 .exact Q5 hc h
 .exact h
theorem yD(hc:mF call call'){mB:Nat}:∀{l:List bz}{i:Nat}{s r:St},kS call sh mB i l s=some r->kS call' sh mB i l s=some r
 |[],_,_,_,h=>h|o::l,i,s,r,h=>by
  unfold kS at h⊢;split at h;.cases h
  .rename_i e he;rw[DQ hc he];exact yD hc h
theorem yE(hc:mF call call'){mB:Nat}:∀{l:List bz}{i:Nat}{p:List (Nat×hU)}{s r:St},j3 call sh mB i l p s=some r->j3 call' sh mB i l p s=some r
 |[],_,_,_,_,h=>h|o::l,i,p,s,r,h=>by
  unfold j3 at h⊢;split at h;.cases h
  .rename_i e he;rw[DQ hc he];simp;split at h;.exact yE hc h
   omega
theorem A1(hc:mF call call'){l:List bz}{d:Bool}{s r:St}(h:jc call sh l d s=some r):jc call' sh l d s=some r:=by cases d with|false=>exact yD hc h|true=>exact yE hc h
theorem vF(hc:mF call call'):∀(n m:Nat)(c:AC)(s:St)(r:AX×St),n<=m->exec call sh n c s=some r->exec call' sh m c s=some r|0,_,_,_,_,_,h=>by cases h|n+1,0,_,_,_,hn,_=>by omega|n+1,m+1,c,s,r,hn,h=>by have ih:=vF hc n m;unfold exec at h⊢;cases c with
 |skip=>exact h|region ops d=>simp at h⊢;cases hr:jc call sh ops d s with|none=>grind|some s'=>rw[hr]at h;rw[A1 hc hr];exact h
 |seq a b=>grind|cond c a b=>grind|block id c=>grind|loop c=>grind|exit id=>exact h|ret=>exact h
end Go.bJ
namespace Go.bJ
open Go Go.RowKit
structure Tb where
 fs:Nat->Option tF
 O:Go.bJ.Call
instance:CoeFun Tb λ_=>Nat->Option tF:=⟨Tb.fs⟩
instance:Coe Tb (Nat->Option tF):=⟨Tb.fs⟩
def Q6:Go.bJ.Call:=λ_ _ _ _ _=>none
def jj(T:Tb):Nat->Go.bJ.Call|0,_,_,_,_,_=>none|n+1,f,args,mem,aI,nv=>match T.fs f with|none=>T.O f args mem aI nv|some fn=>match Nat.beq args.length fn.np with|false=>none|true=>match exec (jj T n) (λg=>((T.fs g).map (·.sh)).getD false) n fn.body {slots:=eg 0 args .lf,mem,aI,nv}with|some (.normal,s)|some (.ret,s)=>(kT s fn.res).map λvs=>(ju vs,s.mem,s.aI,s.nv)|_=>none
theorem N7{P:Program}:cM P Q6:=λ_ _ _ _ _ _ _ _ _ h=>by cases h
theorem FF{P:Program}{T:Tb}(hO:cM P T.O){eB:Nat->Option TypeId}{md:Nat->Mode}(hm:P.follows .mixedOrders=true)(jw:∀f T,eB f=some T->kP P f T)(N6:∀f fn,T.fs f=some fn->CJ P eB md f=some fn):∀n,cM P (jj T n)|0=>λ_ _ _ _ _ _ _ _ _ h=>by cases h|n+1=>by intro f args mem aI nv r mem' qP Mj h;cases hf:T.fs f with|none=>simp[jj,hf]at h;exact hO f args mem aI nv r mem' qP Mj h|some fn=>refine HM (FF hO hm jw N6 n) hm jw N6 n f args mem aI nv r mem' qP Mj ?_;simp[jj,hf]at h;simp[Q3,hf];exact h
theorem Mz{T:Tb}:∀(n m:Nat),n<=m->mF (jj T n) (jj T m)
 |0,_,_=>λ_ _ _ _ _ _ h=>by cases h|n+1,0,hn=>by omega|n+1,m+1,hn=>λf x mm t nv r h=>by
  have ih:=Mz (T:=T) n m (by omega);unfold jj at h⊢;split at h;.exact h
  .rename_i fn hf;split at h;.cases h
   .cases he:exec (jj T n) (λg=>((T.fs g).map (·.sh)).getD false) n fn.body {slots:=eg 0 x .lf,mem:=mm,aI:=t,nv}with|none=>grind|some y=>rw[vF ih n m fn.body _ y (by omega) he]<;>grind
end Go.bJ
namespace Go.Sym
open Go Go.bJ
abbrev bt:=Nat->Option Nat
def bf(t:Ty)(l:List t.den):List (List D):=l.map (eY t)
def RC(ρ:bt)(B:Nat)(m:List (Tr E2)):Cell->AV->Prop|.int k a,x=>x=.d (.sc (.int k a))|.bool b,x=>x=.d (.sc (.bool b))|.er b,x=>x=.d (match b with|true=>.er|false=>.sc .nilIface)|.str s,x=>x=.d (.sc (.string ⟨s.toArray⟩))|.raw v,x=>x=.d (.sc v)|.nil true,x=>x=.own [] .full|.nil false,x=>x=.d (.sl [])\/∃o,o≠.bC/\x=.own [] o|.sl t l .d,x=>x=.d (.sl (bf t l))\/∃o,o≠.bC/\x=.own (bf t l) o|.sl t l .bC,x=>x=.d (.sl (bf t l))\/∃o,x=.own (bf t l) o|.sl t l .full,x=>x=.own (bf t l) .full|.sl t l (.app v),x=>v<B/\((ρ v=none/\x=.own (bf t l) .full)\/∃u,ρ v=some u/\x=.own (bf t l) (.cD u t.size))|.ref lv sl ah t,x=>ah<B/\∃u n,ρ ah=some u/\x=.ref lv sl u 0 n t.size/\∀r,rowOf m lv sl ah=some r->n=r.l.length|.jx lv sl ah t off len,x=>ah<B/\∃u,ρ ah=some u/\x=.ref lv sl u off len t.size/\∀r,rowOf m lv sl ah=some r->off+len<=r.l.length|.ptr lv sl ah i off,x=>ah<B/\∃u,ρ ah=some u/\x=.ptr lv sl u i off|.fK t e off,x=>x=.fK (eY t e) off|.fe lv sl ah off n sz,x=>ah<B/\∃u,ρ ah=some u/\x=.fe lv sl u off n sz|.mp lv sl ah,x=>ah<B/\∃u,ρ ah=some u/\x=.mp lv sl u
def R1(ρ:bt)(B:Nat)(m:List (Tr E2)):Bool×List Cell->AV->Prop|(true,cs),a=>∃aL,a=.agg aL/\aC (RC ρ B m) cs aL|(false,cs),a=>∃c,cs=[c]/\RC ρ B m c a
def RV(ρ:bt)(B:Nat)(m:List (Tr E2)):V2->AV->Prop|.c x,a=>RC ρ B m x a|.agg cs,a=>∃aL,a=.agg aL/\aC (RC ρ B m) cs aL|.gp f cs,a=>∃aL,a=.gp f aL/\aC (RC ρ B m) cs aL|.iY vs,a=>∃aL,a=.iY aL/\aC (R1 ρ B m) vs aL
def RE(ρ:bt)(B:Nat)(m:List (Tr E2)):E2->bB->Prop|.row ah t l,e=>ah<B/\∃u,ρ ah=some u/\e=.row u (bf t l)|.box ah cs,e=>ah<B/\∃u aL,ρ ah=some u/\e=.box u aL/\aC (RC ρ B m) cs aL|.set ah l,e=>ah<B/\∃u,ρ ah=some u/\e=.mp u l
structure MR(ρ:bt)(B:Nat)(m2:List (Tr E2))(m:List (Tr bB)):Prop where
 len:m2.length=m.length
 fN:∀lv sl e2,ji m2 lv sl=some e2->∃e,aK m lv sl=some e/\RE ρ B m2 e2 e
def TR(ρ:bt)(B:Nat)(t2 t:Tr Unit):Prop:=∀v,t2.get? v=some ()->v<B/\∀u,ρ v=some u->t.get? u=some ()
structure VOK(ρ:bt)(n2 n:Nat):Prop where
 low:∀v u,v<n2->ρ v=some u->u<n
 high:∀v,n2<=v->ρ v=some (n+(v-n2))inj:∀v v' u,ρ v=some u->ρ v'=some u->v=v'
def ur(ρ:bt)(B:Nat)(m:List (Tr E2))(t:Tr V2)(o:Tr AV):Prop:=∀k v,t.get? k=some v->RV ρ B m v (jG o k)
structure SR(ρ:bt)(B:Nat)(os:List (Tr AV))(s2:S2)(s:St):Prop where
 slots:ur ρ B s2.mem s2.slots s.slots
 outer:aC (ur ρ B s2.mem) s2.outer os
 mem:MR ρ B s2.mem s.mem
 aI:TR ρ B s2.aI s.aI
 ah:VOK ρ s2.nv s.nv
 le:B<=s2.nv
def eZ(B:Nat)(m m':List (Tr E2)):Prop:=∀lv sl ah r',ah<B->rowOf m' lv sl ah=some r'->∃r,rowOf m lv sl ah=some r/\r.l.length=r'.l.length
theorem eZ.refl(B:Nat)(m:List (Tr E2)):eZ B m m:=λ_ _ _ r _ h=>⟨r,h,rfl⟩
theorem eZ.trans{B:Nat}{m m' m'':List (Tr E2)}(h:eZ B m m')(k:eZ B m' m''):eZ B m m'':=by grind[eZ]
theorem RC.move{ρ ρ':bt}{B B':Nat}{m m':List (Tr E2)}(hs:eZ B m m')(hB:B<=B')(hρ:∀v,v<B->ρ' v=ρ v):∀{c:Cell}{x:AV},RC ρ B m c x->RC ρ' B' m' c x:=by intro c x h;cases c with
 |nil f=>cases f<;>exact h|sl t l o=>cases o with|app v=>obtain⟨hv,h⟩:=h;refine⟨by omega,?_⟩<;>grind|d=>exact h|full=>exact h|bC=>exact h
 |ref lv sl ah t=>obtain⟨hv,u,n,hu,hx,hr⟩:=h;refine⟨by omega,u,n,by rw[hρ ah hv];exact hu,hx,λr' hr'=>?_⟩;obtain⟨r,h1,h2⟩:=hs _ _ _ _ hv hr'<;>grind|jx lv sl ah t off len=>obtain⟨hv,u,hu,hx,hr⟩:=h;refine⟨by omega,u,by rw[hρ ah hv];exact hu,hx,λr' hr'=>?_⟩;obtain⟨r,h1,h2⟩:=hs _ _ _ _ hv hr'<;>grind|ptr lv sl ah i off=>obtain⟨hv,u,hu,hx⟩:=h;exact⟨by omega,u,by rw[hρ ah hv];exact hu,hx⟩|fe lv sl ah off n sz=>obtain⟨hv,u,hu,hx⟩:=h;exact⟨by omega,u,by rw[hρ ah hv];exact hu,hx⟩|mp lv sl ah=>obtain⟨hv,u,hu,hx⟩:=h;exact⟨by omega,u,by rw[hρ ah hv];exact hu,hx⟩|_=>exact h
theorem R1.mono{ρ ρ':bt}{B B':Nat}{m m':List (Tr E2)}(hc:∀c x,RC ρ B m c x->RC ρ' B' m' c x):∀{v:Bool×List Cell}{x:AV},R1 ρ B m v x->R1 ρ' B' m' v x|(true,_),_,⟨aL,h1,h2⟩=>⟨aL,h1,h2.mono hc⟩|(false,_),_,⟨c,h1,h2⟩=>⟨c,h1,hc _ _ h2⟩
theorem RV.mono{ρ ρ':bt}{B B':Nat}{m m':List (Tr E2)}(hc:∀c x,RC ρ B m c x->RC ρ' B' m' c x):∀{v:V2}{x:AV},RV ρ B m v x->RV ρ' B' m' v x:=by intro v x h;cases v with|c c=>exact hc _ _ h|agg cs=>obtain⟨aL,h1,h2⟩:=h;exact⟨aL,h1,h2.mono hc⟩|gp f cs=>obtain⟨aL,h1,h2⟩:=h;exact⟨aL,h1,h2.mono hc⟩|iY vs=>obtain⟨aL,h1,h2⟩:=h;exact⟨aL,h1,h2.mono λ_ _=>R1.mono hc⟩
theorem RE.mono{ρ ρ':bt}{B B':Nat}{m m':List (Tr E2)}(hB:B<=B')(hρ:∀v,v<B->ρ' v=ρ v)(hc:∀c x,RC ρ B m c x->RC ρ' B' m' c x):∀{e2:E2}{e:bB},RE ρ B m e2 e->RE ρ' B' m' e2 e:=by intro e2 e h;cases e2 with|row ah t l=>obtain⟨hv,u,h1,h2⟩:=h;exact⟨by omega,u,by rw[hρ ah hv];exact h1,h2⟩|box ah cs=>obtain⟨hv,u,aL,h1,h2,h3⟩:=h;exact⟨by omega,u,aL,by rw[hρ ah hv];exact h1,h2,h3.mono hc⟩|set ah l=>obtain⟨hv,u,h1,h2⟩:=h;exact⟨by omega,u,by rw[hρ ah hv];exact h1,h2⟩
theorem ur.mono{ρ ρ':bt}{B B':Nat}{m m':List (Tr E2)}(hc:∀c x,RC ρ B m c x->RC ρ' B' m' c x){t:Tr V2}{o:Tr AV}(h:ur ρ B m t o):ur ρ' B' m' t o:=λk v hk=>RV.mono hc (h k v hk)
theorem RV.move{ρ ρ':bt}{B B':Nat}{m m':List (Tr E2)}(hs:eZ B m m')(hB:B<=B')(hρ:∀v,v<B->ρ' v=ρ v){v:V2}{x:AV}(h:RV ρ B m v x):RV ρ' B' m' v x:=RV.mono (λ_ _=>RC.move hs hB hρ) h
theorem ur.move{ρ ρ':bt}{B B':Nat}{m m':List (Tr E2)}(hs:eZ B m m')(hB:B<=B')(hρ:∀v,v<B->ρ' v=ρ v){t:Tr V2}{o:Tr AV}(h:ur ρ B m t o):ur ρ' B' m' t o:=ur.mono (λ_ _=>RC.move hs hB hρ) h
theorem pG:∀l:List pX,DE l=l.map Kj|[]=>by simp[DE]|v::r=>by simp[DE,pG r]
theorem eu:∀(t:Ty)(x:t.den),(eY t x).length=t.size|.val,v=>by cases v;simp[eY,Kj,Ty.size]|.int _,_=>rfl|.bool,_=>rfl|.str,_=>rfl|.sl _,_=>rfl|.unit,_=>rfl|.prod a b,x=>by simp[eY,Ty.size,eu a,eu b]|.sum _ _,_=>rfl
theorem kX{ρ:bt}{B:Nat}{m:List (Tr E2)}:∀(t:Ty)(x:t.den),aC (RC ρ B m) (iI t x) ((eY t x).map .d)|.val,v=>by cases v;refine⟨rfl,rfl,rfl,.inl ?_,rfl,trivial⟩;simp[bf,pX.list,pG,eY]|.int _,_=>⟨rfl,trivial⟩|.bool,_=>⟨rfl,trivial⟩|.str,_=>⟨rfl,trivial⟩|.sl _,_=>⟨.inl rfl,trivial⟩|.unit,_=>trivial|.prod a b,x=>by simp[iI,eY,List.map_append];exact(kX a x.1).append (kX b x.2)|.sum _ _,_=>trivial
theorem A2{a b:Ty}{l:List a.den}{l':List b.den}(h:jq a b l=some l'):∃e:a=b,l'=e▸l:=by unfold jq at h;split at h<;>grind
theorem N8{a b:Ty}{l:a.den}{l':b.den}(h:uj a b l=some l'):∃e:a=b,l'=e▸l:=by unfold uj at h;split at h<;>grind
def nF:Cell->Option D|.int k a=>some (.sc (.int k a))|.bool b=>some (.sc (.bool b))|.str s=>some (.sc (.string ⟨s.toArray⟩))|.raw v=>some (.sc v)|.nil _=>some (.sl [])|.sl t l _=>some (.sl (bf t l))|_=>none
def cc:List Cell->Option (List D)|[]=>some []|c::r=>match nF c,cc r with|some x,some xs=>some (x::xs)|_,_=>none
theorem lP:∀{l l':List Cell}{ds ds':List D},cc l=some ds->cc l'=some ds'->cc (l++l')=some (ds++ds')
 |[],_,_,_,h,h'=>by cases h<;>grind|c::r,l',ds,ds',h,h'=>by
  simp[cc]at h;split at h;.rename_i x xs h1 h2;cases h;simp[List.cons_append,cc,h1,lP h2 h']
  grind
theorem gA{c:Cell}{r:List Cell}{ds:List D}(h:cc (c::r)=some ds):∃x xs,nF c=some x/\cc r=some xs/\ds=x::xs:=by grind[cc,nF]
theorem A3{k:IntKind}{cs r:List Cell}{x:Int}{ds:List D}(h:HD k cs=some (x,r))(hd:cc cs=some ds):∃ds',ds=.sc (.int k x)::ds'/\cc r=some ds':=by
 unfold HD at h;split at h
 .split at h;.obtain⟨y,ys,h1,h2,rfl⟩:=gA hd;cases h1<;>grind
  grind
 grind
theorem DS{cs r:List Cell}{x:Bool}{ds:List D}(h:Fv cs=some (x,r))(hd:cc cs=some ds):∃ds',ds=.sc (.bool x)::ds'/\cc r=some ds':=by
 unfold Fv at h;split at h;.obtain⟨y,ys,h1,h2,rfl⟩:=gA hd;cases h1<;>grind
 grind
theorem HQ{cs r:List Cell}{x:List UInt8}{ds:List D}(h:Ms cs=some (x,r))(hd:cc cs=some ds):∃ds',ds=.sc (.string ⟨x.toArray⟩)::ds'/\cc r=some ds':=by
 unfold Ms at h;split at h;.obtain⟨y,ys,h1,h2,rfl⟩:=gA hd;cases h1<;>grind
 grind
theorem MA{t:Ty}{cs r:List Cell}{x:List t.den}{ds:List D}(h:Vz t cs=some (x,r))(hd:cc cs=some ds):∃ds',ds=.sl (bf t x)::ds'/\cc r=some ds':=by
 unfold Vz at h;split at h;.cases h;obtain⟨y,ys,h1,h2,rfl⟩:=gA hd;cases h1;exact⟨ys,rfl,h2⟩
 .split at h;.rename_i hc;obtain⟨e,hl⟩:=A2 hc;obtain⟨y,ys,h1,h2,rfl⟩:=gA hd;cases h1<;>grind
  grind
 grind
theorem A4:∀(t:Ty){cs r:List Cell}{x:t.den},yu t cs=some (x,r)->∀{ds:List D},cc cs=some ds->∃ds',ds=eY t x++ds'/\cc r=some ds'
 |.val,cs,r,x,h,ds,hd=>by
  simp[yu,XI]at h;split at h
  .rename_i k r1 h1;split at h
   .rename_i i r2 h2;split at h
    .rename_i s r3 h3;split at h
     .rename_i l r4 h4;split at h
      .rename_i c r5 h5;cases h;obtain⟨d1,rfl,e1⟩:=A3 h1 hd;obtain⟨d2,rfl,e2⟩:=A3 h2 e1;obtain⟨d3,rfl,e3⟩:=HQ h3 e2;obtain⟨d4,rfl,e4⟩:=MA h4 e3;obtain⟨d5,rfl,e5⟩:=DS h5 e4;refine⟨d5,?_,e5⟩;have:bf .val l=DE l:=by rw[pG];rfl
       simp[eY,Kj,this]
      grind
     grind
    grind
   grind
  grind|.int k,_,_,_,h,_,hd=>A3 h hd|.bool,_,_,_,h,_,hd=>DS h hd|.str,_,_,_,h,_,hd=>HQ h hd|.sl t,_,_,_,h,_,hd=>MA h hd|.unit,_,_,_,h,ds,hd=>by cases h;exact⟨ds,rfl,hd⟩|.prod a b,cs,r,x,h,ds,hd=>by
  simp[yu]at h;split at h
  .rename_i x1 r1 h1;split at h;.rename_i x2 r2 h2;cases h;obtain⟨d1,rfl,e1⟩:=A4 a h1 hd;obtain⟨d2,rfl,e2⟩:=A4 b h2 e1<;>simp_all[yu,cc,Ty.den,eY]
   grind
  grind|.sum _ _,_,_,_,h,_,_=>by simp[yu]at h
theorem pH{t:Ty}{cs:List Cell}{x:t.den}{ds:List D}(h:yw t cs=some x)(hd:cc cs=some ds):ds=eY t x:=by
 unfold yw at h;split at h;.rename_i y h1;cases h;obtain⟨ds',rfl,e⟩:=A4 t h1 hd;cases e;simp
 grind
end Go.Sym
