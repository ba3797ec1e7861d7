/- A part of the proof: EngW, EngX, EngY. -/
import Derived.Test.YtkdilffhbejjaaaGreatEngV
set_option linter.unusedVariables false
set_option linter.unusedSimpArgs false
namespace Go.bM
open Go
abbrev Fx:=Nat×Option Nat×gT
def kI(s:St):List Fx->St|[]=>s|x::r=>kI (s.app x.2.1 x.2.2) r
theorem zn:∀(l l':List Fx)(s:St),kI s (l++l')=kI (kI s l) l'|[],_,_=>rfl|_::r,l',_=>zn r l' _
structure View(α:Type)where
 qT:St->α
 gq:Fx->Bool
 off:∀(s:St)(x:Fx),gq x=false->qT (s.app x.2.1 x.2.2)=qT s
 on:∀(s s':St)(x:Fx),qT s=qT s'->qT (s.app x.2.1 x.2.2)=qT (s'.app x.2.1 x.2.2)
section
variable{α:Type}(V:View α)
theorem View.congr:∀(l:List Fx){s s':St},V.qT s=V.qT s'->V.qT (kI s l)=V.qT (kI s' l)|[],_,_,h=>h|x::r,_,_,h=>View.congr r (V.on _ _ x h)
theorem View.filter:∀(l:List Fx)(s:St),V.qT (kI s l)=V.qT (kI s (l.filter V.gq))|[],_=>rfl|x::r,s=>by cases h:V.gq x with|true=>simp[rc,h,ii,kI];exact View.filter r _|false=>simp[rc,h,kI,io,m6];exact(View.congr V r (V.off s x h)).trans (View.filter r s)
end
theorem tY(t:Tr AV)(dst:Option Nat)(v:AV)(n:Nat):dz (nE t dst v) n=if dst=some n then v else dz t n:=by unfold dz nE;cases dst with|none=>simp|some d=>simp[Tr.cy,eI]<;>grind
theorem qb(s:St)(d:Option Nat)(r:gT):(s.app d r).slots=nE s.slots d r.val:=by cases r<;>rfl
def Na(t:Nat):View AV where
 qT s:=dz s.slots t;gq x:=x.2.1==some t;off s x h:=by rw[qb,tY,be (by simpa using h)]
 on s s' x h:=by rw[qb,qb,tY,tY,h]
theorem mI(m:List (Tr bH))(lv sl:Nat)(e:Option bH):(cC m lv sl e).length=m.length:=by simp[cC]
theorem dA:∀(u:List (Nat×Nat×Option bH))(m:List (Tr bH)),(bF m u).length=m.length|[],_=>rfl|(lv,sl,e)::r,m=>(dA r _).trans (mI m lv sl e)
def isAll:gT->Bool|.ck _=>false|.all ..=>true
def amD:View Nat where
 qT s:=s.mem.length;gq x:=isAll x.2.2;off s x h:=by obtain⟨i,d,r⟩:=x;cases r with|ck e=>exact dA _ _|all=>cases h
 on s s' x h:=by obtain⟨i,d,r⟩:=x;cases r with|ck e=>exact(dA _ _).trans (h.trans (dA _ _).symm)|all=>rfl
def nvV:View Nat where
 qT s:=s.nv;gq x:=isAll x.2.2;off s x h:=by obtain⟨i,d,r⟩:=x;cases r with|ck e=>rfl|all=>cases h
 on s s' x h:=by obtain⟨i,d,r⟩:=x;cases r with|ck e=>exact h|all=>rfl
theorem OQ{s:St}{d:Option Nat}{r:gT}(h:lH r=false):(s.app d r).mem=s.mem/\(s.app d r).aK=s.aK/\(s.app d r).nv=s.nv:=by cases r with|ck e=>simp[lH,ph,am,ul]at h;simp[St.app,h.1.2,h.2];grind[eu,bF]|all=>cases h
def afR:View (List (Tr bH)×Tr Unit×Nat)where
 qT s:=(s.mem,s.aK,s.nv);gq x:=lH x.2.2;off s x h:=by obtain⟨h1,h2,h3⟩:=OQ (s:=s) (d:=x.2.1) h;simp only[h1,h2,h3]
 on s s' x h:=by obtain⟨i,d,r⟩:=x;simp only[eb]at h;cases r with|ck e=>simp only[St.app,h.1,h.2.1,h.2.2]|all=>rfl
theorem wm{lv sl:Nat}:∀(u:List (Nat×Nat×Option bH))(m m':List (Tr bH)),aN m lv sl=aN m' lv sl->m.length=m'.length->aN (bF m u) lv sl=aN (bF m' u) lv sl|[],_,_,h,_=>h|(a,b,e)::r,m,m',h,hl=>wm r _ _ (by rw[cG,cG,h,hl]) (by grind[aN,cC])
theorem wo{lv sl:Nat}:∀(u:List (Nat×Nat×Option bH))(m:List (Tr bH)),cB lv sl∉u.map (λu=>cB u.1 u.2.1)->aN (bF m u) lv sl=aN m lv sl|[],_,_=>rfl|(a,b,e)::r,m,h=>by simp only[fj,dk,rh]at h;rw[bF,wo r _ h.2,cG,be]<;>grind
theorem wq{v:Nat}:∀(u:List (Nat×Bool))(m m':Tr Unit),m.get? v=m'.get? v->(eu m u).get? v=(eu m' u).get? v|[],_,_,h=>h|(a,b)::r,m,m',h=>wq r _ _ (by rw[Tr.cy,Tr.cy,h])
theorem wu{v:Nat}:∀(u:List (Nat×Bool))(m:Tr Unit),kH v∉u.map (λu=>kH u.1)->(eu m u).get? v=m.get? v|[],_,_=>rfl|(a,b)::r,m,h=>by simp only[fj,dk,rh]at h;rw[eu,wu r _ h.2,Tr.cy,be]<;>grind
def kQ(k:Nat×Nat×Nat):gT->Bool|.ck e=>decide (k∈e.wr)|.all ..=>true
def Xx(lv sl:Nat):View (Option bH×Nat)where
 qT s:=(aN s.mem lv sl,s.mem.length);gq x:=kQ (cB lv sl) x.2.2;off s x h:=by obtain⟨i,d,r⟩:=x;cases r with|ck e=>simp only[kQ,fT.wr,bj,rh,lx]at h;simp only[St.app,dA,wo _ _ h.1]|all=>cases h
 on s s' x h:=by obtain⟨i,d,r⟩:=x;simp only[eb]at h;cases r with|ck e=>simp only[St.app,dA,wm _ _ _ h.1 h.2,h.2]|all=>rfl
def aby(v:Nat):View (Option Unit)where
 qT s:=s.aK.get? v;gq x:=kQ (kH v) x.2.2;off s x h:=by obtain⟨i,d,r⟩:=x;cases r with|ck e=>simp only[kQ,fT.wr,bj,rh,lx]at h;exact wu _ _ h.2|all=>cases h
 on s s' x h:=by obtain⟨i,d,r⟩:=x;cases r with|ck e=>exact wq _ _ _ h|all=>rfl
def Clear:gT->gT->Prop|.ck a,.ck b=>(∀k∈a.rd,k∉b.wr)/\(∀k∈a.wr,k∉b.rd)/\∀k∈a.wr,k∉b.wr|a,b=>¬(lH a=true/\lH b=true)
theorem Clear.symm{a b:gT}(h:Clear a b):Clear b a:=by cases a<;>cases b<;>grind[Clear]
theorem Lj{a b:gT}(h:vH a b=false):Clear a b:=by·simp[vH,gg]at h;grind[fT.wr,meets,Clear]
theorem Clear.all{a b:gT}(h:Clear a b)(hab:isAll a=true\/isAll b=true)(ha:lH a=true)(hb:lH b=true):False:=by cases a<;>cases b<;>grind[lH,isAll,Clear]
theorem uZ{a:gT}(h:isAll a=true):lH a=true:=by cases a<;>first|rfl|cases h
theorem Clear.gq{a b:gT}(h:Clear a b){k:Nat×Nat×Nat}(ha:kQ k a=true)(hb:kQ k b=true)(hla:lH a=true)(hlb:lH b=true):False:=by cases a<;>cases b<;>grind[lH,kQ,Clear]
theorem BH{a:gT}{k:Nat×Nat×Nat}(h:kQ k a=true):lH a=true:=by cases a with|ck e=>simp only[kQ,db,fT.wr,bj]at h<;>grind[kQ,lH]|all=>rfl
theorem BI{l:List Nat}{n:Nat}:KI l n=true↔n∈l:=by simp_all[KI]
structure Xy(x y:bE):Prop where
 xy:∀t,x.dst=some t->t∉y.looks
 yx:∀t,y.dst=some t->t∉x.looks
 ne:∀t,x.dst=some t->y.dst≠some t
theorem Xy.symm{x y:bE}(h:Xy x y):Xy y x:=⟨h.yx,h.xy,λt h1 h2=>h.ne t h2 h1⟩
theorem apart_spec{x y:bE}(h:x.apart y=true):Xy x y:=by
 simp[bE.apart,am]at h;refine⟨λt ht hm=>?_,λt ht hm=>?_,λt ht h'=>?_⟩;.have:=h.1.1;simp[A9,ht,BI.2 hm]at this
 .have:=h.1.2;simp[A9,ht,BI.2 hm]at this
 simp_all[MV,A9]
theorem Lk{call:Call}{sh:Nat->Bool}{s s':St}{o:bE}{aT:Nat}{r:gT}(h:o.step call sh s aT=some r)(hs:∀t∈o.looks,dz s'.slots t=dz s.slots t)(hn:Av s s' r):o.step call sh s' aT=some r:=by
 have hw:iY s'.slots o=iY s.slots o:=by unfold iY;split<;>simp_all[Av,bE.looks,bE.step,Call,dz]
 unfold bE.step at h⊢;rw[hw];split at h;.cases h
 .refine OP h (λx hx=>?_) hn;cases x with|t n=>exact hs n (by simp only[bE.looks,bj,m7];exact .inl ⟨_,hx,by simp[cc.slot]⟩)|c v=>rfl
 omega
end Go.bM
namespace Go.bM
open Go
structure Nb(call:Call)(sh:Nat->Bool)(lN:Nat)(all:List bE)(s0:St)(L:List Fx):Prop where
 lt:L.Pairwise λx y=>x.1<y.1dom:∀i,i<all.length↔∃x∈L,x.1=i
 step:∀pre x post,L=pre++x::post->∃o,all[x.1]?=some o/\x.2.1=o.dst/\o.step call sh (kI s0 pre) (lN+x.1)=some x.2.2meet:∀x y,x∈L->y∈L->x.1<y.1->∀o,all[y.1]?=some o->o.n9.testBit x.1=true\/Clear x.2.2 y.2.2
theorem BJ{n9:Nat}{e:gT}:∀{eg:List (Nat×gT)},clear n9 e eg=true->∀y∈eg,n9.testBit y.1=true\/Clear y.2 e
 |[],_,y,hy=>by cases hy|(i,x)::r,h,y,hy=>by
  simp[clear,am,f5,eK]at h;rcases dk.1 hy with rfl|hy;.exact h.1.imp id Lj
  .exact BJ h.2 y hy
theorem wv{call:Call}{sh:Nat->Bool}{lN:Nat}{all:List bE}:∀(ops:List bE)(i:Nat)(eg:List (Nat×gT))(s s':St),(∀k,ops[k]?=all[i+k]?)->jU call sh lN i ops eg s=some s'->∃L:List Fx,s'=kI s L/\L.map (·.1)=List.range' i ops.length/\(∀pre x post,L=pre++x::post->∃o,all[x.1]?=some o/\x.2.1=o.dst/\o.step call sh (kI s pre) (lN+x.1)=some x.2.2/\(∀y∈pre,o.n9.testBit y.1=true\/Clear y.2.2 x.2.2)/\∀y∈eg,o.n9.testBit y.1=true\/Clear y.2 x.2.2)
 |[],i,eg,s,s',_,h=>by simp[jU,eI]at h;exact⟨[],h.symm,rfl,λpre x post h=>by simp at h⟩|o::r,i,eg,s,s',hall,h=>by
  simp[jU]at h;split at h;.cases h
  .rename_i e he;split at h;.rename_i hc;obtain⟨L,h1,h2,h3⟩:=wv r (i+1) ((i,e)::eg) _ _ (λk=>by have:=hall (k+1);rw[List.getElem?_cons_succ]at this;rw[this];congr 1;omega) h;refine⟨(i,o.dst,e)::L,h1,by simp[h2,List.range'_succ],λpre x post hp=>?_⟩;cases pre with|nil=>cases hp;exact⟨o,by have:=hall 0;simpa using this.symm,rfl,he,⟨λy hy=>absurd hy dC,λy hy=>BJ hc y hy⟩⟩|cons p pre=>
    simp at hp;obtain⟨rfl,hp⟩:=hp;obtain⟨o',g1,g2,g3,g4,g5⟩:=h3 pre x post hp;refine⟨o',g1,g2,g3,λy hy=>?_,λy hy=>g5 y (dl _ hy)⟩;rcases dk.1 hy with rfl|hy;.exact g5 _ (cb ..)
    .exact g4 y hy
   .cases h
theorem Nb.abz{call:Call}{sh:Nat->Bool}{lN:Nat}{all:List bE}{s s':St}(h:jU call sh lN 0 all [] s=some s'):∃L,s'=kI s L/\Nb call sh lN all s L:=by
 obtain⟨L,h1,h2,h3⟩:=wv (all:=all) all 0 [] s s' (λk=>by simp) h;refine⟨L,h1,?_,λi=>?_,λpre x post hp=>?_,λx y hx hy hlt o ho=>?_⟩
 .have:(L.map (·.1)).Pairwise (·<·):=by rw[h2];exact List.pairwise_lt_range'
  exact List.pairwise_map.1 this
 .have:i∈L.map (·.1)↔i<all.length:=by rw[h2,List.mem_range'_1];omega
  rw[<-this,im]
 .obtain⟨o,g1,g2,g3,_⟩:=h3 pre x post hp;exact⟨o,g1,g2,g3⟩
 .obtain⟨pre,post,rfl⟩:=te hy;obtain⟨o',g1,g2,g3,g4,_⟩:=h3 pre y post rfl;rw[ho]at g1;cases g1;refine g4 x ?_;have hL:(pre++y::post).Pairwise λx y:Fx=>x.1<y.1:=by
   have:((pre++y::post).map (·.1)).Pairwise (·<·):=by rw[h2];exact List.pairwise_lt_range'
   exact List.pairwise_map.1 this
  rcases bj.1 hx with hx|hx;.exact hx
  .rcases dk.1 hx with rfl|hx;.omega
   .have:=(na.1 (sa.1 hL).2.1).1 x hx;omega
theorem wz{y:bE}:∀{eg:List bE}{i:Nat},AB y i eg=true->∀k x,eg[k]?=some x->y.n9.testBit (i+k)=true\/Xy x y|[],_,_,k,x,hx=>by grind|p::r,i,h,k,x,hx=>by simp[AB,am,f5]at h;cases k with|zero=>cases hx;exact h.1.imp id apart_spec|succ k=>have:=wz h.2 k x (by simpa using hx);rwa[show i+(k+1)=i+1+k by omega]
theorem uB:∀{l eg:List bE},mP eg l=true->∀i j x y,(eg++l)[i]?=some x->(eg++l)[j]?=some y->i<j->eg.length<=j->y.n9.testBit i=true\/Xy x y
 |[],eg,_,i,j,x,y,_,hy,_,hj=>by grind|o::r,eg,h,i,j,x,y,hx,hy,hij,hj=>by
  simp[mP,am]at h;rcases f6 eg.length j with hl|hl
  .have e:eg++o::r=eg++[o]++r:=by simp
   rw[e]at hx hy;exact uB h.2 i j x y hx hy hij (by simp;omega)
  .have:j=eg.length:=by omega
   subst this;simp at hy;rw[ol hij]at hx;have:=wz h.1 i x hx<;>grind
section
variable{call:Call}{sh:Nat->Bool}{lN:Nat}{all:List bE}{s0:St}{L:List Fx}
def HK(s0:St)(L:List Fx)(p:Nat->Bool):St:=kI s0 (L.filter λx=>p x.1)
def Gu(all:List bE)(p:Nat->Bool):Prop:=∀j o,all[j]?=some o->p j=true->∀k,k<j->o.n9.testBit k=true->p k=true
theorem Nb.split(h:Nb call sh lN all s0 L){i:Nat}(hi:i<all.length):∃pre x post,L=pre++x::post/\x.1=i/\(∀y∈pre,y.1<i)/\∀y∈post,i<y.1:=by
 obtain⟨x,hx,rfl⟩:=(h.dom i).1 hi;obtain⟨pre,post,rfl⟩:=te hx;refine⟨pre,x,post,rfl,rfl,λy hy=>?_,λy hy=>?_⟩;.exact(sa.1 h.lt).2.2 y hy x (cb ..)
 .exact(na.1 (sa.1 h.lt).2.1).1 y hy
def Iz(all:List bE)(i:Nat)(y:Fx):Prop:=(y.1<i->∀o,all[i]?=some o->o.n9.testBit y.1=true)/\(i<y.1->∀o,all[y.1]?=some o->o.n9.testBit i=true)
theorem part{α:Type}(V:View α){pre post:List Fx}{x:Fx}{p:Nat->Bool}(hpre:∀y∈pre,V.gq y=true->p y.1=true)(hpost:∀y∈post,V.gq y=true->p y.1=false)(hx:p x.1=false)(s:St):V.qT (kI s ((pre++x::post).filter λx=>p x.1))=V.qT (kI s pre):=by
 rw[V.filter,V.filter pre,List.filter_append];simp[hx,f0,io,m6];have e1:post.filter (λa=>V.gq a&&p a.1)=[]:=by refine ro.2 λy hy hb=>?_<;>grind
 have e2:pre.filter (λa=>V.gq a&&p a.1)=pre.filter V.gq:=by refine tl λy hy=>?_<;>grind
 grind
theorem BK{α:Type}(V:View α){p:Nat->Bool}(hc:Gu all p){pre post:List Fx}{x:Fx}(hpre:∀y∈pre,y.1<x.1)(hpost:∀y∈post,x.1<y.1)(hi:p x.1=false){o:bE}(ho:all[x.1]?=some o)(hb:∀k,k<x.1->o.n9.testBit k=true->p k=true)(hdom:∀y∈post,∃o',all[y.1]?=some o')(hV:∀y∈pre++post,V.gq y=true->Iz all x.1 y)(s:St):V.qT (HK s (pre++x::post) p)=V.qT (kI s pre):=by
 refine part V (λy hy ht=>?_) (λy hy ht=>?_) hi s;.exact hb _ (hpre y hy) ((hV y (dp _ hy) ht).1 (hpre y hy) o ho)
 .obtain⟨o',ho'⟩:=hdom y hy;cases hp:p y.1with|false=>rfl|true=>have:=hc _ _ ho' hp _ (hpost y hy) ((hV y (dq _ hy) ht).2 (hpost y hy) o' ho')<;>grind
theorem afS{α:Type}(V:View α){pre post:List Fx}{x:Fx}{p:Nat->Bool}(hpre:∀y∈pre,V.gq y=true->p y.1=true)(hpost:∀y∈post,V.gq y=true->p y.1=false)(hx:p x.1=true)(s:St):V.qT (kI s ((pre++x::post).filter λx=>p x.1))=V.qT ((kI s pre).app x.2.1 x.2.2):=by
 have e0:(kI s pre).app x.2.1 x.2.2=kI s (pre++[x]):=by rw[zn];rfl
 rw[e0,V.filter,V.filter (pre++[x]),tb,List.filter_append];have e1:(x::post).filter (λa=>V.gq a&&p a.1)=[x].filter V.gq:=by
  have e1:post.filter (λa=>V.gq a&&p a.1)=[]:=by refine ro.2 λy hy hb=>?_<;>grind
  grind
 have e2:pre.filter (λa=>V.gq a&&p a.1)=pre.filter V.gq:=by refine tl λy hy=>?_<;>grind
 grind
theorem Nb.pair(h:Nb call sh lN all s0 L)(hap:mP [] all=true){x y:Fx}(hx:x∈L)(hy:y∈L)(hne:y.1≠x.1){o oy:bE}(ho:all[x.1]?=some o)(ZE:all[y.1]?=some oy):Iz all x.1 y\/(Xy oy o/\Clear y.2.2 x.2.2):=by
 have key:=λi j a b(ha:all[i]?=some a)(hb:all[j]?=some b)(hij:i<j)=>uB (eg:=[]) hap i j a b (by simpa using ha) (by simpa using hb) hij (vd _);rcases Nat.lt_or_gt_of_ne hne with hl|hl;.have b:o.n9.testBit y.1=true->Iz all x.1 y:=λhb=>⟨λ_ o' ho'=>by rw[ho]at ho';injection ho' with ho';rw[<-ho'];exact hb,λh=>by omega⟩;rcases h.meet y x hy hx hl o ho with h1|h1<;>grind
 .have b:oy.n9.testBit x.1=true->Iz all x.1 y:=λhb=>⟨λh=>by omega,λ_ o' ho'=>by rw[ZE]at ho';injection ho' with ho';rw[<-ho'];exact hb⟩;rcases h.meet x y hx hy hl oy ZE with h1|h1;.grind
  .rcases key _ _ _ _ ho ZE hl with h2|h2;.exact .inl (b h2)
   .exact .inr ⟨h2.symm,h1.symm⟩
theorem Nb.at(h:Nb call sh lN all s0 L){y:Fx}(hy:y∈L):∃o,all[y.1]?=some o/\y.2.1=o.dst:=by obtain⟨pre,post,rfl⟩:=te hy;obtain⟨o,h1,h2,_⟩:=h.step pre y post rfl<;>grind
theorem Nb.any(h:Nb call sh lN all s0 L)(hap:mP [] all=true){p:Nat->Bool}(hc:Gu all p){i:Nat}{o:bE}(ho:all[i]?=some o)(hi:p i=false)(hb:∀k,k<i->o.n9.testBit k=true->p k=true):∃x∈L,x.1=i/\x.2.1=o.dst/\o.step call sh (HK s0 L p) (lN+i)=some x.2.2:=by
 obtain⟨pre,x,post,rfl,rfl,h1,h2⟩:=h.split (cf.1 ho).1;obtain⟨o',g1,g2,g3⟩:=h.step pre x post rfl;rw[ho]at g1;cases g1;have hmem:x∈pre++x::post:=by simp
 refine⟨x,hmem,rfl,g2,?_⟩;have qT:∀{α:Type}(V:View α),(∀y oy,y∈pre++x::post->all[y.1]?=some oy->y.2.1=oy.dst->V.gq y=true->Xy oy o->Clear y.2.2 x.2.2->False)->V.qT (HK s0 (pre++x::post) p)=V.qT (kI s0 pre):=by
  intro α V hV;refine BK V hc h1 h2 hi ho hb (λy hy=>?_) (λy hy ht=>?_) s0;.obtain⟨o',h',_⟩:=h.at (y:=y) (by simp[hy])<;>grind
  .have hy':y∈pre++x::post:=by grind
   have hne:y.1≠x.1:=by grind
   obtain⟨oy,ZE,hd⟩:=h.at hy';rcases h.pair hap hmem hy' hne ho ZE with hh|hh<;>grind
 refine Lk g3 (λt ht=>?_) ?_;.refine qT (Na t) λy oy _ _ hd DK hoff _=>?_;simp[Na,kv]at DK;exact hoff.xy t (hd▸DK) ht
 .cases hr:x.2.2with
  |ck e=>
   refine⟨λhl=>?_,λk hk=>?_⟩;.refine qT amD λy oy _ _ _ DK _ nM=>?_;rw[hr]at nM;exact nM.all (.inl DK) (uZ DK) hl
   .have afT:lH (.ck e)=true:=by simp only[lH]<;>grind
    have rd:∀{b:gT},kQ k b=true->Clear b (.ck e)->False:=by intro b hb nM;cases b with|ck b=>simp[kQ,db]at hb;exact nM.2.1 k hb hk|all=>exact nM.all (.inl rfl) rfl afT
    obtain⟨k0,k1,k2⟩:=k;unfold kO;by_cases hk0:k0=0;.subst hk0;have:=qT (Xx k1 k2) λy oy _ _ _ DK _ nM=>rd (b:=y.2.2) DK (hr▸nM);simp[Xx,eb]at this<;>grind
    .by_cases hk1:k0=1/\k2=0;.obtain⟨rfl,rfl⟩:=hk1;have:=qT (aby k1) λy oy _ _ _ DK _ nM=>rd (b:=y.2.2) DK (hr▸nM);simp[aby]at this;simp[this]
     grind|all v m t n=>
   have:=qT afR λy oy _ _ _ DK _ nM=>by rw[hr]at nM;exact nM.all (.inr rfl) DK rfl
   simp[afR,eb]at this;exact this
structure St.amE(s s':St):Prop where
 slots:∀t,dz s.slots t=dz s'.slots t
 mem:∀lv sl,aN s.mem lv sl=aN s'.mem lv sl
 aK:∀v,s.aK.get? v=s'.aK.get? v
 nv:s.nv=s'.nv
theorem Nb.after(h:Nb call sh lN all s0 L)(hap:mP [] all=true){p:Nat->Bool}(hc:Gu all p){x:Fx}(hx:x∈L){o:bE}(ho:all[x.1]?=some o)(hd:x.2.1=o.dst)(hi:p x.1=false)(hb:∀k,k<x.1->o.n9.testBit k=true->p k=true):St.amE (HK s0 L λj=>p j||j==x.1) ((HK s0 L p).app x.2.1 x.2.2):=by
 obtain⟨pre,x',post,rfl,hxx,h1,h2⟩:=h.split (cf.1 ho).1;have amF:x=x':=by grind
 subst amF;have qT:∀{α:Type}(V:View α),(V.gq x=true->∀y oy,all[y.1]?=some oy->y.2.1=oy.dst->V.gq y=true->Xy oy o->Clear y.2.2 x.2.2->False)->V.qT (HK s0 (pre++x::post) λj=>p j||j==x.1)=V.qT ((HK s0 (pre++x::post) p).app x.2.1 x.2.2):=by intro α V hV;cases ht:V.gq x with|false=>rw[V.off _ _ ht];unfold HK;rw[V.filter,V.filter (List.filter (λx=>p x.1) _),tb,tb];congr 2;refine tl λy hy=>?_<;>grind|true=>
   have hV:=hV ht;have bound:∀y∈pre++post,V.gq y=true->Iz all x.1 y:=by
    intro y hy ht;have hy':y∈pre++x::post:=by rcases bj.1 hy with hy|hy<;>simp[hy]
    have hne:y.1≠x.1:=by
     rcases bj.1 hy with hy|hy;.exact xa (h1 y hy)
     .exact(xa (h2 y hy)).symm
    obtain⟨oy,ZE,hd⟩:=h.at hy';rcases h.pair hap hx hy' hne ho ZE with hh|hh;.exact hh
    .exact(hV y oy ZE hd ht hh.1 hh.2).elim
   have hdom:∀y∈post,∃o',all[y.1]?=some o':=λy hy=>by obtain⟨o',h',_⟩:=h.at (y:=y) (by simp[hy]);exact⟨o',h'⟩
   rw[V.on _ _ x (BK V hc h1 h2 hi ho hb hdom bound s0)];refine afS V (p:=λj=>p j||j==x.1) (λy hy ht=>?_) (λy hy ht=>?_) (by simp) s0;.simp[hb _ (h1 y hy) ((bound y (dp _ hy) ht).1 (h1 y hy) o ho)]
   .obtain⟨o',ho'⟩:=hdom y hy;have hne:(y.1==x.1)=false:=by simpa using(xa (h2 y hy)).symm
    rw[hne];cases hp:p y.1with|false=>rfl|true=>have:=hc _ _ ho' hp _ (h2 y hy) ((bound y (dq _ hy) ht).2 (h2 y hy) o' ho');rw[hi]at this;cases this
 have key:∀k,kQ k x.2.2=true->∀(y:Fx),kQ k y.2.2=true->Clear y.2.2 x.2.2->False:=λk hx y hy nM=>nM.gq hy hx (BH hy) (BH hx);refine⟨λt=>qT (Na t) λZF y oy _ hdy DK hoff _=>?_,λlv sl=>?_,λv=>qT (aby v) λZF y _ _ _ DK _ nM=>key _ ZF y DK nM,qT nvV λZF y _ _ _ DK _ nM=>nM.all (.inl DK) (uZ DK) (uZ ZF)⟩;.simp[Na,kv]at ZF DK;exact hoff.ne t (hdy▸DK) (hd▸ZF)
 .have:=qT (Xx lv sl) λZF y _ _ _ DK _ nM=>key _ ZF y DK nM;simp[Xx,eb]at this;exact this.1
end
end Go.bM
namespace Go.bM
open Go Go.RowKit
section
variable{P:Program}{X:Cx}{nt:NT}{s:St}{a:Act}{aT:Nat}{call:Go.bM.Call}{sh:Nat->Bool}{dm:Nat->Option TypeId}
theorem fu.put{Y:Cx}{dst:Option Nat}{r:gT}{v:Value}(hs:fu X nt s a)(hx:Ext X Y)(hv:VR Y r.val v)(hm:aH Y (s.app dst r).mem (s.app dst r).aK)(hlt:dst.getD 0<nt):fu Y nt (s.app dst r) (a.put dst v):=by cases dst with|none=>refine⟨λt=>?_,hs.size,hs.defers,hm⟩;rw[qb];exact(hs.slots t).ext hx|some d=>
  simp at hlt;refine⟨λt=>?_,by simp[Act.put,hs.size],hs.defers,hm⟩;rw[qb,tY];simp only[eI];by_cases h:d=t
  .subst h;have:((a.put (some d) v).tmps.getD d undef)=v:=by simp[Act.put,hs.size,hlt]
   grind
  .rw[be h];have:((a.put (some d) v).tmps.getD t undef)=a.tmps.getD t undef:=by simp[Act.put,Array.getElem?_setIfInBounds_ne h]
   rw[this];exact(hs.slots t).ext hx
theorem EC(hs:fu X nt s a){ops:Array Oper}{o:Oper}{ao:bE}(hgd:gdP ops o.guard=some ao.gd){b:Bool}(hw:iY s.slots ao=some b):Region.wanted o (yielded ops a.tmps)=b:=by unfold iY at hw;unfold Region.wanted;cases hg:o.guard with|none=>grind[dz,gdP]|some jb=>
 obtain⟨j,w⟩:=jb;rw[hg]at hgd;obtain⟨d,hd,hgd⟩:=aQ hgd;rw[<-hgd]at hw;simp at hw⊢;have hv:=hs.slots d;have hy:yielded ops a.tmps j=match a.tmps[d]?with|some (.bool b)=>some b|_=>none:=by unfold yielded<;>grind
 rw[hy];split at hw;.rename_i t ht;rw[ht]at hv;have hv:=VR.sc hv;cases h:a.tmps[d]?with|none=>rw[i5,h]at hv;cases hv|some v=>simp_all
 .rename_i vs ht;rw[ht]at hv;obtain⟨us,hu,_⟩:=hv;cases hw;cases h:a.tmps[d]?with|none=>rfl|some v=>simp_all
 grind
theorem Nc(cH:eo P call)(gP:∀f T,dm f=some T->jZ P f T)(hs:fu X nt s a)(hfr:X.ρ aT=none)(BC:aT<s.nv)(hdom:∀v,s.nv<=v->X.ρ v=none){ops:Array Oper}{i:Nat}{o:Oper}(hoi:ops[i]?=some o){ao:bE}(hop:DG P dm o.op=some ao.op)(hd:ao.dst=o.dst)(hgd:gdP ops o.guard=some ao.gd)(hlt:ao.dst.getD 0<nt){r:gT}(hr:ao.step call sh s aT=some r){K:Act->World->Prop}{Q:Exit->Act->World->Prop}(hK:∀Y a',Ext X Y->fu Y nt (s.app ao.dst r) a'->fL X Y aT s.nv (s.app ao.dst r).nv->K a' Y.w):wpOp P ops Q i K a X.w:=by
 unfold wpOp;simp[hoi];unfold bE.step at hr;split at hr;.cases hr
 .rename_i hw;rw[EC hs hgd hw];refine .inl (abx (dst:=ao.dst) cH gP hs hfr BC hdom hop hr K Q λY v hx hv hm hdm=>?_);rw[<-hd];exact hK Y _ hx (hs.put hx hv hm hlt) hdm
 .rename_i hw;rw[EC hs hgd hw];cases hr;rw[<-hd];exact hK X _ (Ext.refl X) (hs.put (Ext.refl X) oh hs.mem hlt) (fL.refl _ _ _)
structure Ll(P:Program)(dm:Nat->Option TypeId)(nt:Nat)(ops:Array Oper)(all:List bE):Prop where
 len:all.length=ops.size
 at_:∀(i:Nat)(ao:bE),all[i]?=some ao->∃o:Oper,ops[i]?=some o/\DG P dm o.op=some ao.op/\ao.dst=o.dst/\gdP ops o.guard=some ao.gd/\ao.dst.getD 0<nt
theorem zo{rows:List (Nat×Nat)}{ops:Array Oper}:∀{l:List (Oper×Nat)}{aO:List bE},xE P dm nt rows ops l=some aO->aO.length=l.length/\∀(i:Nat)(ao:bE),aO[i]?=some ao->∃(o:Oper)(b:Nat),l[i]?=some (o,b)/\ao.n9=b/\DG P dm o.op=some ao.op/\ao.dst=o.dst/\gdP ops o.guard=some ao.gd/\ao.dst.getD 0<nt
 |[],aO,h=>by cases h<;>grind|(o,b)::r,aO,h=>by
  simp[xE]at h;split at h;.rename_i a' as' h1 h2;cases h;obtain⟨h3,h4⟩:=zo h2;refine⟨by simp[h3],λi ao hi=>?_⟩;cases i with
   |zero=>
    cases hi;unfold Zt at h1;split at h1
    .rename_i ap g hap hg;split at h1;.rename_i hlt;cases h1;exact⟨o,b,rfl,rfl,hap,rfl,hg,hlt⟩
     .cases h1
    .cases h1|succ i=>exact h4 i ao (by simpa using hi)
  .cases h
theorem ED(cH:eo P call)(gP:∀f T,dm f=some T->jZ P f T){ops:Array Oper}{all:List bE}(wA:Ll P dm nt ops all){lN:Nat}{Q:Exit->Act->World->Prop}:∀(l:List bE)(i:Nat)(s s':St)(X:Cx)(a:Act),(∀k,l[k]?=all[i+k]?)->ji call sh lN i l s=some s'->fu X nt s a->(∀k,i<=k->k<i+l.length->X.ρ (lN+k)=none)->lN+(i+l.length)<=s.nv->(∀v,s.nv<=v->X.ρ v=none)->(∀Y a',Ext X Y->fu Y nt s' a'->s.nv<=s'.nv->(∀v L,Y.ρ v=some L->X.ρ v=some L\/(lN<=v/\v<s'.nv))->Q .normal a' Y.w)->wpOps P ops Q (List.range' i l.length) a X.w
 |[],i,s,s',X,a,_,h,hs,_,_,_,hQ=>by cases h;exact hQ X a (Ext.refl X) hs (bc _) λ_ _ h=>.inl h|o::r,i,s,s',X,a,hall,h,hs,hfr,BC,hdom,hQ=>by
  simp[ji]at h;split at h;.cases h
  .rename_i e he;have h0:=hall 0;obtain⟨oc,g1,g2,g3,g4,g5⟩:=wA.at_ i o h0.symm;simp[eQ]at hfr BC;refine Nc cH gP hs (hfr i (bc _) (by omega)) (by omega) hdom g1 g2 g3 g4 g5 he λY a' hx hs' hd=>?_;obtain⟨d1,d2⟩:=hd;refine ED cH gP wA r (i+1) _ s' Y a' (λk=>by have:=hall (k+1);rw[List.getElem?_cons_succ]at this;rw[this];congr 1;omega) h hs' (λk h1 h2=>?_) (by omega) (λv hv=>?_) λZ a'' hz abB hn DT=>?_;.cases hY:Y.ρ (lN+k)with|none=>rfl|some L=>grind
   .cases hY:Y.ρ v with|none=>rfl|some L=>grind
   .refine hQ Z a'' (hx.trans hz) abB (ml d1 hn) λv L hv=>?_<;>grind
theorem EE{p q:Nat->Bool}:∀{l:List Nat},(∀x,q x=true->p x=true)->(∃x∈l,p x=true/\q x=false)->l.countP q<l.countP p
 |[],_,⟨x,hx,_⟩=>by cases hx|y::r,h,⟨x,hx,h1,h2⟩=>by
  have mono:r.countP q<=r.countP p:=List.countP_mono_left λx _=>h x;rcases dk.1 hx with rfl|hx;.grind
  .have:=EE h ⟨x,hx,h1,h2⟩<;>grind
theorem BL{n9:List Nat}:∀{l:List Oper}{bs:List Nat}{i:Nat},Ed n9 i l bs=true->∀k o,l[k]?=some o->∃b,bs[k]?=some b/\FX n9 (i+k) o b=true|[],_,_,_,k,o,h=>by simp at h|o::r,[],i,h,_,_,_=>by simp[Ed]at h|o::r,b::bs,i,h,k,o',hk=>by simp[Ed,am]at h;cases k with|zero=>grind|succ k=>obtain⟨b',h1,h2⟩:=BL h.2 k o' (by simpa using hk)<;>grind
structure RD(ops:Array Oper)(all:List bE):Prop where
 back:∀(i:Nat)(o:Oper),ops[i]?=some o->∀e∈o.after,Region.binds .any e=true->e.on<i
 n9:∀(i:Nat)(o:Oper)(ao:bE),ops[i]?=some o->all[i]?=some ao->∀k,k<i->ao.n9.testBit k=true->∃e∈o.after,Region.binds .any e=true/\(e.on=k\/(k<e.on/\∀ao',all[e.on]?=some ao'->ao'.n9.testBit k=true))
theorem abC(cH:eo P call)(gP:∀f T,dm f=some T->jZ P f T){ops:Array Oper}{all:List bE}(wA:Ll P dm nt ops all)(RF:RD ops all)(hap:mP [] all=true){lN:Nat}{s0:St}{L:List Fx}(RG:Nb call sh lN all s0 L){Q:Exit->Act->World->Prop}:∀(fuel:Nat)(listed:Array Bool)(X:Cx)(a:Act),listed.size=ops.size->(List.range ops.size).countP (λj=>!listed.getD j false)<=fuel->Gu all (λj=>listed.getD j false)->fu X nt (HK s0 L λj=>listed.getD j false) a->(∀k,k<ops.size->listed.getD k false=false->X.ρ (lN+k)=none)->lN+ops.size<=(HK s0 L λj=>listed.getD j false).nv->(∀v,(HK s0 L λj=>listed.getD j false).nv<=v->X.ρ v=none)->(∀Y a',Ext X Y->fu Y nt (kI s0 L) a'->(HK s0 L λj=>listed.getD j false).nv<=(kI s0 L).nv->(∀v M,Y.ρ v=some M->X.ρ v=some M\/(lN<=v/\v<(kI s0 L).nv))->Q .normal a' Y.w)->wpAny P .any ops Q fuel listed a X.w:=by
 have abD:∀(listed:Array Bool)(j:Nat),listed.size=ops.size->j<ops.size->listed.getD j true=listed.getD j false:=λlisted j h hj=>by simp[show j<listed.size by omega]
 have fin:∀(listed:Array Bool)(X:Cx)(a:Act),listed.size=ops.size->Region.ready .any ops listed=[]->fu X nt (HK s0 L λj=>listed.getD j false) a->(∀Y a',Ext X Y->fu Y nt (kI s0 L) a'->(HK s0 L λj=>listed.getD j false).nv<=(kI s0 L).nv->(∀v M,Y.ρ v=some M->X.ρ v=some M\/(lN<=v/\v<(kI s0 L).nv))->Q .normal a' Y.w)->Q .normal a X.w:=by
  intro listed X a hsz hr hs hQ;have hall:∀j,j<ops.size->listed.getD j false=true:=by intro j;induction j using Nat.strongRecOn with|_ j ih=>intro hj;cases hl:listed.getD j false with|true=>rfl|false=>have hm:j∈Region.ready .any ops listed:=mem_ready.2 ⟨by rw[abD _ _ hsz hj];exact hl,ops[j],o0 hj,λe he hb=>by have:=RF.back j _ (o0 hj) e he hb;exact ih _ this (by omega)⟩;rw[hr]at hm;cases hm
  have hst:(HK s0 L λj=>listed.getD j false)=kI s0 L:=by unfold HK;rw[List.filter_eq_self.2 λx hx=>hall x.1 (wA.len▸(RG.dom x.1).2 ⟨x,hx,rfl⟩)]
  rw[hst]at hs hQ;exact hQ X a (Ext.refl X) hs (bc _) λ_ _ h=>.inl h
 intro fuel;induction fuel with|zero=>
  intro listed X a hsz afU hc hs hfr BC hdom hQ;have hr:Region.ready .any ops listed=[]:=by cases hr:Region.ready .any ops listed with|nil=>rfl|cons j r=>
    have hj:j∈Region.ready .any ops listed:=by rw[hr];exact cb ..
    obtain⟨h1,o,h2,_⟩:=mem_ready.1 hj;have hlt:j<ops.size:=(lc.1 h2).1;have:=List.countP_eq_zero.1 (Nat.le_zero.1 afU) j (sd.2 hlt);rw[abD _ _ hsz hlt]at h1;rw[h1]at this;exact absurd rfl this
  exact⟨hr,fin listed X a hsz hr hs hQ⟩|succ fuel ih=>
  intro listed X a hsz afU hc hs hfr BC hdom hQ;refine⟨λhr=>fin listed X a hsz hr hs hQ,λi hi=>?_⟩;obtain⟨hl,o,ho,abE⟩:=mem_ready.1 hi;have hlt:i<ops.size:=(lc.1 ho).1;rw[abD _ _ hsz hlt]at hl;obtain⟨ao,hao⟩:∃ao,all[i]?=some ao:=⟨all[i]'(by rw[wA.len];exact hlt),al _⟩;obtain⟨o',g1,g2,g3,g4,g5⟩:=wA.at_ i ao hao;rw[ho]at g1;injection g1 with g1;subst g1;have hb:∀k,k<i->ao.n9.testBit k=true->listed.getD k false=true:=by
   intro k hk RH;obtain⟨e,he,ZG,h⟩:=RF.n9 i o ao ho hao k hk RH;have hon:=abE e he ZG;rcases h with h|⟨h1,h2⟩;.rw[<-h];exact hon
   .have hlt':e.on<all.length:=by rw[wA.len];have:=RF.back i o ho e he ZG;omega
    exact hc e.on _ (al hlt') hon k h1 (h2 _ (al hlt'))
  obtain⟨x,hx,rfl,hxd,hstep⟩:=RG.any hap hc hao hl hb;have AF:(λj=>(listed.setIfInBounds x.1 true).getD j false)=λj=>listed.getD j false||j==x.1:=by
   funext j;by_cases hj:j=x.1;.subst hj;simp[show x.1<listed.size by omega]
   .rw[getD_set_ne false (pj hj),show(j==x.1)=false from by simpa using hj,wt]
  have hsame:=RG.after hap hc hx hao hxd hl hb;rw[<-AF]at hsame;refine Nc cH gP hs (hfr _ hlt hl) (by omega) hdom ho g2 g3 g4 g5 hstep λY a' hx' hs' hd=>?_;rw[<-hxd]at hs' hd;obtain⟨d1,d2⟩:=hd;rw[<-hsame.nv]at d1 d2;refine ih (listed.setIfInBounds x.1 true) Y a' (by simpa using hsz) ?_ ?_ ⟨λt=>?_,hs'.size,hs'.defers,hs'.mem.congr hsame.mem hsame.aK⟩ (λk hk Xz=>?_) (by omega) (λv hv=>?_) λZ a'' hz abB hn DT=>?_;.have:=EE (p:=λj=>!listed.getD j false) (q:=λj=>!(listed.setIfInBounds x.1 true).getD j false) (l:=List.range ops.size) (λj hj=>by have:=congrFun AF j;rw[this]at hj;simp only[eK,gg]at hj;simp only[eK];exact hj.1) ⟨x.1,sd.2 hlt,by simp only[hl,ge],by have:=congrFun AF x.1;simp only[this,i9,t6,da]⟩;omega
  .rw[AF];intro j oj hoj hj k hk RH;simp only[f5,kv]at hj⊢;rcases hj with hj|hj;.exact .inl (hc j oj hoj hj k hk RH)
   .subst hj;rw[hao]at hoj;injection hoj with hoj;subst hoj;exact .inl (hb k hk RH)
  .rw[hsame.slots];exact hs'.slots t
  .have hk':=congrFun AF k;rw[hk']at Xz;simp only[gg,lj]at Xz;cases hY:Y.ρ (lN+k)with|none=>rfl|some M=>
    rcases d2 _ _ hY with h|h|h;.rw[hfr k hk Xz.1]at h;cases h
    .omega
    .omega
  .cases hY:Y.ρ v with|none=>rfl|some M=>
    rcases d2 _ _ hY with h|h|h;.rw[hdom v (by omega)]at h;cases h
    .omega
    .omega
  .refine hQ Z a'' (hx'.trans hz) abB (ml d1 hn) λv M hv=>?_;rcases DT v M hv with h|h
   .rcases d2 v M h with h|h|h;.exact .inl h
    .exact .inr (by omega)
    .exact .inr (by omega)
   .exact .inr h
end
end Go.bM
