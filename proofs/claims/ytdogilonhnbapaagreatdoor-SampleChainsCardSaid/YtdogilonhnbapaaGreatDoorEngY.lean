/- A part of the proof: EngW, EngX, EngY. -/
import Derived.Test.YtdogilonhnbapaaGreatDoorEngV
set_option linter.unusedVariables false
set_option linter.unusedSimpArgs false
namespace Go.bI
open Go
abbrev Fx:=Nat×Option Nat×gB
def jZ(s:St):List Fx->St|[]=>s|x::r=>jZ (s.app x.2.1 x.2.2) r
theorem yO:∀(l l':List Fx)(s:St),jZ s (l++l')=jZ (jZ s l) l'|[],_,_=>rfl|_::r,l',_=>yO r l' _
structure View(α:Type)where
 qu:St->α
 fU:Fx->Bool
 off:∀(s:St)(x:Fx),fU x=false->qu (s.app x.2.1 x.2.2)=qu s
 on:∀(s s':St)(x:Fx),qu s=qu s'->qu (s.app x.2.1 x.2.2)=qu (s'.app x.2.1 x.2.2)
section
variable{α:Type}(V:View α)
theorem View.congr:∀(l:List Fx){s s':St},V.qu s=V.qu s'->V.qu (jZ s l)=V.qu (jZ s' l)|[],_,_,h=>h|x::r,_,_,h=>View.congr r (V.on _ _ x h)
theorem View.filter:∀(l:List Fx)(s:St),V.qu (jZ s l)=V.qu (jZ s (l.filter V.fU))|[],_=>rfl|x::r,s=>by cases h:V.fU x with|true=>simp[List.filter_cons,h,if_true,jZ];exact View.filter r _|false=>simp[List.filter_cons,h,jZ,Bool.false_eq_true,if_false];exact(View.congr V r (V.off s x h)).trans (View.filter r s)
end
theorem tH(t:Tr AV)(dst:Option Nat)(v:AV)(n:Nat):jt (vj t dst v) n=if dst=some n then v else jt t n:=by unfold jt vj;cases dst with|none=>simp|some d=>simp[Tr.cz,Option.some.injEq]<;>grind
theorem pI(s:St)(d:Option Nat)(r:gB):(s.app d r).slots=vj s.slots d r.val:=by cases r<;>rfl
def Ny(t:Nat):View AV where
 qu s:=jt s.slots t;fU x:=x.2.1==some t;off s x h:=by rw[pI,tH,if_neg (by simpa using h)]
 on s s' x h:=by rw[pI,pI,tH,tH,h]
theorem lT(m:List (Tr bC))(lv sl:Nat)(e:Option bC):(cj m lv sl e).length=m.length:=by simp[cj]
theorem dc:∀(u:List (Nat×Nat×Option bC))(m:List (Tr bC)),(bz m u).length=m.length|[],_=>rfl|(lv,sl,e)::r,m=>(dc r _).trans (lT m lv sl e)
def isAll:gB->Bool|.bX _=>false|.all ..=>true
def alG:View Nat where
 qu s:=s.mem.length;fU x:=isAll x.2.2;off s x h:=by obtain⟨i,d,r⟩:=x;cases r with|bX e=>exact dc _ _|all=>cases h
 on s s' x h:=by obtain⟨i,d,r⟩:=x;cases r with|bX e=>exact(dc _ _).trans (h.trans (dc _ _).symm)|all=>rfl
def nvV:View Nat where
 qu s:=s.nv;fU x:=isAll x.2.2;off s x h:=by obtain⟨i,d,r⟩:=x;cases r with|bX e=>rfl|all=>cases h
 on s s' x h:=by obtain⟨i,d,r⟩:=x;cases r with|bX e=>exact h|all=>rfl
theorem O8{s:St}{d:Option Nat}{r:gB}(h:kS r=false):(s.app d r).mem=s.mem/\(s.app d r).aG=s.aG/\(s.app d r).nv=s.nv:=by cases r with|bX e=>simp[kS,Bool.not_eq_false',Bool.and_eq_true,List.isEmpty_iff]at h;simp[St.app,h.1.2,h.2];grind[dR,bz]|all=>cases h
def agL:View (List (Tr bC)×Tr Unit×Nat)where
 qu s:=(s.mem,s.aG,s.nv);fU x:=kS x.2.2;off s x h:=by obtain⟨h1,h2,h3⟩:=O8 (s:=s) (d:=x.2.1) h;simp only[h1,h2,h3]
 on s s' x h:=by obtain⟨i,d,r⟩:=x;simp only[Prod.mk.injEq]at h;cases r with|bX e=>simp only[St.app,h.1,h.2.1,h.2.2]|all=>rfl
theorem vK{lv sl:Nat}:∀(u:List (Nat×Nat×Option bC))(m m':List (Tr bC)),aK m lv sl=aK m' lv sl->m.length=m'.length->aK (bz m u) lv sl=aK (bz m' u) lv sl|[],_,_,h,_=>h|(a,b,e)::r,m,m',h,hl=>vK r _ _ (by rw[cr,cr,h,hl]) (by grind[aK,cj])
theorem vL{lv sl:Nat}:∀(u:List (Nat×Nat×Option bC))(m:List (Tr bC)),bL lv sl∉u.map (λu=>bL u.1 u.2.1)->aK (bz m u) lv sl=aK m lv sl|[],_,_=>rfl|(a,b,e)::r,m,h=>by simp only[List.map_cons,List.mem_cons,not_or]at h;rw[bz,vL r _ h.2,cr,if_neg]<;>grind
theorem vM{v:Nat}:∀(u:List (Nat×Bool))(m m':Tr Unit),m.get? v=m'.get? v->(dR m u).get? v=(dR m' u).get? v|[],_,_,h=>h|(a,b)::r,m,m',h=>vM r _ _ (by rw[Tr.cz,Tr.cz,h])
theorem vN{v:Nat}:∀(u:List (Nat×Bool))(m:Tr Unit),jX v∉u.map (λu=>jX u.1)->(dR m u).get? v=m.get? v|[],_,_=>rfl|(a,b)::r,m,h=>by simp only[List.map_cons,List.mem_cons,not_or]at h;rw[dR,vN r _ h.2,Tr.cz,if_neg]<;>grind
def kf(k:Nat×Nat×Nat):gB->Bool|.bX e=>decide (k∈e.wr)|.all ..=>true
def Ws(lv sl:Nat):View (Option bC×Nat)where
 qu s:=(aK s.mem lv sl,s.mem.length);fU x:=kf (bL lv sl) x.2.2;off s x h:=by obtain⟨i,d,r⟩:=x;cases r with|bX e=>simp only[kf,fH.wr,List.mem_append,not_or,decide_eq_false_iff_not]at h;simp only[St.app,dc,vL _ _ h.1]|all=>cases h
 on s s' x h:=by obtain⟨i,d,r⟩:=x;simp only[Prod.mk.injEq]at h;cases r with|bX e=>simp only[St.app,dc,vK _ _ _ h.1 h.2,h.2]|all=>rfl
def ab7(v:Nat):View (Option Unit)where
 qu s:=s.aG.get? v;fU x:=kf (jX v) x.2.2;off s x h:=by obtain⟨i,d,r⟩:=x;cases r with|bX e=>simp only[kf,fH.wr,List.mem_append,not_or,decide_eq_false_iff_not]at h;exact vN _ _ h.2|all=>cases h
 on s s' x h:=by obtain⟨i,d,r⟩:=x;cases r with|bX e=>exact vM _ _ _ h|all=>rfl
def Clear:gB->gB->Prop|.bX a,.bX b=>(∀k∈a.rd,k∉b.wr)/\(∀k∈a.wr,k∉b.rd)/\∀k∈a.wr,k∉b.wr|a,b=>¬(kS a=true/\kS b=true)
theorem Clear.symm{a b:gB}(h:Clear a b):Clear b a:=by cases a<;>cases b<;>grind[Clear]
theorem Le{a b:gB}(h:vl a b=false):Clear a b:=by·simp[vl,Bool.or_eq_false_iff]at h;grind[fH.wr,meets,Clear]
theorem Clear.all{a b:gB}(h:Clear a b)(hab:isAll a=true\/isAll b=true)(ha:kS a=true)(hb:kS b=true):False:=by cases a<;>cases b<;>grind[kS,isAll,Clear]
theorem uD{a:gB}(h:isAll a=true):kS a=true:=by cases a<;>first|rfl|cases h
theorem Clear.fU{a b:gB}(h:Clear a b){k:Nat×Nat×Nat}(ha:kf k a=true)(hb:kf k b=true)(hla:kS a=true)(hlb:kS b=true):False:=by cases a<;>cases b<;>grind[kS,kf,Clear]
theorem Bh{a:gB}{k:Nat×Nat×Nat}(h:kf k a=true):kS a=true:=by cases a with|bX e=>simp only[kf,decide_eq_true_eq,fH.wr,List.mem_append]at h<;>grind[kf,kS]|all=>rfl
theorem Bi{l:List Nat}{n:Nat}:KF l n=true↔n∈l:=by simp_all[KF]
structure Wt(x y:bB):Prop where
 xy:∀t,x.dst=some t->t∉y.looks
 yx:∀t,y.dst=some t->t∉x.looks
 ne:∀t,x.dst=some t->y.dst≠some t
theorem Wt.symm{x y:bB}(h:Wt x y):Wt y x:=⟨h.yx,h.xy,λt h1 h2=>h.ne t h2 h1⟩
theorem apart_spec{x y:bB}(h:x.apart y=true):Wt x y:=by
 simp[bB.apart,Bool.and_eq_true]at h;refine⟨λt ht hm=>?_,λt ht hm=>?_,λt ht h'=>?_⟩;.have:=h.1.1;simp[AK,ht,Bi.2 hm]at this
 .have:=h.1.2;simp[AK,ht,Bi.2 hm]at this
 simp_all[Nf,AK]
theorem Lg{call:Call}{sh:Nat->Bool}{s s':St}{o:bB}{aO:Nat}{r:gB}(h:o.step call sh s aO=some r)(hs:∀t∈o.looks,jt s'.slots t=jt s.slots t)(hn:xz s s' r):o.step call sh s' aO=some r:=by
 have hw:jC s'.slots o=jC s.slots o:=by unfold jC;split<;>simp_all[xz,bB.looks,bB.step,Call,jt]
 unfold bB.step at h⊢;rw[hw];split at h;.cases h
 .refine O7 h (λx hx=>?_) hn;cases x with|t n=>exact hs n (by simp only[bB.looks,List.mem_append,List.mem_flatMap];exact .inl ⟨_,hx,by simp[bZ.slot]⟩)|c v=>rfl
 omega
end Go.bI
namespace Go.bI
open Go
structure Nz(call:Call)(sh:Nat->Bool)(mD:Nat)(all:List bB)(s0:St)(L:List Fx):Prop where
 lt:L.Pairwise λx y=>x.1<y.1dom:∀i,i<all.length↔∃x∈L,x.1=i
 step:∀pre x post,L=pre++x::post->∃o,all[x.1]?=some o/\x.2.1=o.dst/\o.step call sh (jZ s0 pre) (mD+x.1)=some x.2.2meet:∀x y,x∈L->y∈L->x.1<y.1->∀o,all[y.1]?=some o->o.nB.testBit x.1=true\/Clear x.2.2 y.2.2
theorem Bj{nB:Nat}{e:gB}:∀{past:List (Nat×gB)},clear nB e past=true->∀y∈past,nB.testBit y.1=true\/Clear y.2 e
 |[],_,y,hy=>by cases hy|(i,x)::r,h,y,hy=>by
  simp[clear,Bool.and_eq_true,Bool.or_eq_true,Bool.not_eq_true']at h;rcases List.mem_cons.1 hy with rfl|hy;.exact h.1.imp id Le
  .exact Bj h.2 y hy
theorem vO{call:Call}{sh:Nat->Bool}{mD:Nat}{all:List bB}:∀(ops:List bB)(i:Nat)(past:List (Nat×gB))(s s':St),(∀k,ops[k]?=all[i+k]?)->j6 call sh mD i ops past s=some s'->∃L:List Fx,s'=jZ s L/\L.map (·.1)=List.range' i ops.length/\(∀pre x post,L=pre++x::post->∃o,all[x.1]?=some o/\x.2.1=o.dst/\o.step call sh (jZ s pre) (mD+x.1)=some x.2.2/\(∀y∈pre,o.nB.testBit y.1=true\/Clear y.2.2 x.2.2)/\∀y∈past,o.nB.testBit y.1=true\/Clear y.2 x.2.2)
 |[],i,past,s,s',_,h=>by simp[j6,Option.some.injEq]at h;exact⟨[],h.symm,rfl,λpre x post h=>by simp at h⟩|o::r,i,past,s,s',hall,h=>by
  simp[j6]at h;split at h;.cases h
  .rename_i e he;split at h;.rename_i hc;obtain⟨L,h1,h2,h3⟩:=vO r (i+1) ((i,e)::past) _ _ (λk=>by have:=hall (k+1);rw[List.getElem?_cons_succ]at this;rw[this];congr 1;omega) h;refine⟨(i,o.dst,e)::L,h1,by simp[h2,List.range'_succ],λpre x post hp=>?_⟩;cases pre with|nil=>cases hp;exact⟨o,by have:=hall 0;simpa using this.symm,rfl,he,⟨λy hy=>absurd hy List.not_mem_nil,λy hy=>Bj hc y hy⟩⟩|cons p pre=>
    simp at hp;obtain⟨rfl,hp⟩:=hp;obtain⟨o',g1,g2,g3,g4,g5⟩:=h3 pre x post hp;refine⟨o',g1,g2,g3,λy hy=>?_,λy hy=>g5 y (List.mem_cons_of_mem _ hy)⟩;rcases List.mem_cons.1 hy with rfl|hy;.exact g5 _ (List.mem_cons_self ..)
    .exact g4 y hy
   .cases h
theorem Nz.of_run{call:Call}{sh:Nat->Bool}{mD:Nat}{all:List bB}{s s':St}(h:j6 call sh mD 0 all [] s=some s'):∃L,s'=jZ s L/\Nz call sh mD all s L:=by
 obtain⟨L,h1,h2,h3⟩:=vO (all:=all) all 0 [] s s' (λk=>by simp) h;refine⟨L,h1,?_,λi=>?_,λpre x post hp=>?_,λx y hx hy hlt o ho=>?_⟩
 .have:(L.map (·.1)).Pairwise (·<·):=by rw[h2];exact List.pairwise_lt_range'
  exact List.pairwise_map.1 this
 .have:i∈L.map (·.1)↔i<all.length:=by rw[h2,List.mem_range'_1];omega
  rw[<-this,List.mem_map]
 .obtain⟨o,g1,g2,g3,_⟩:=h3 pre x post hp;exact⟨o,g1,g2,g3⟩
 .obtain⟨pre,post,rfl⟩:=List.append_of_mem hy;obtain⟨o',g1,g2,g3,g4,_⟩:=h3 pre y post rfl;rw[ho]at g1;cases g1;refine g4 x ?_;have hL:(pre++y::post).Pairwise λx y:Fx=>x.1<y.1:=by
   have:((pre++y::post).map (·.1)).Pairwise (·<·):=by rw[h2];exact List.pairwise_lt_range'
   exact List.pairwise_map.1 this
  rcases List.mem_append.1 hx with hx|hx;.exact hx
  .rcases List.mem_cons.1 hx with rfl|hx;.omega
   .have:=(List.pairwise_cons.1 (List.pairwise_append.1 hL).2.1).1 x hx;omega
theorem vP{y:bB}:∀{past:List bB}{i:Nat},Af y i past=true->∀k x,past[k]?=some x->y.nB.testBit (i+k)=true\/Wt x y|[],_,_,k,x,hx=>by grind|p::r,i,h,k,x,hx=>by simp[Af,Bool.and_eq_true,Bool.or_eq_true]at h;cases k with|zero=>cases hx;exact h.1.imp id apart_spec|succ k=>have:=vP h.2 k x (by simpa using hx);rwa[show i+(k+1)=i+1+k by omega]
theorem ud:∀{l past:List bB},l6 past l=true->∀i j x y,(past++l)[i]?=some x->(past++l)[j]?=some y->i<j->past.length<=j->y.nB.testBit i=true\/Wt x y
 |[],past,_,i,j,x,y,_,hy,_,hj=>by grind|o::r,past,h,i,j,x,y,hx,hy,hij,hj=>by
  simp[l6,Bool.and_eq_true]at h;rcases Nat.lt_or_ge past.length j with hl|hl
  .have e:past++o::r=past++[o]++r:=by simp
   rw[e]at hx hy;exact ud h.2 i j x y hx hy hij (by simp;omega)
  .have:j=past.length:=by omega
   subst this;simp at hy;rw[List.getElem?_append_left hij]at hx;have:=vP h.1 i x hx<;>grind
section
variable{call:Call}{sh:Nat->Bool}{mD:Nat}{all:List bB}{s0:St}{L:List Fx}
def HK(s0:St)(L:List Fx)(p:Nat->Bool):St:=jZ s0 (L.filter λx=>p x.1)
def Gd(all:List bB)(p:Nat->Bool):Prop:=∀j o,all[j]?=some o->p j=true->∀k,k<j->o.nB.testBit k=true->p k=true
theorem Nz.split(h:Nz call sh mD all s0 L){i:Nat}(hi:i<all.length):∃pre x post,L=pre++x::post/\x.1=i/\(∀y∈pre,y.1<i)/\∀y∈post,i<y.1:=by
 obtain⟨x,hx,rfl⟩:=(h.dom i).1 hi;obtain⟨pre,post,rfl⟩:=List.append_of_mem hx;refine⟨pre,x,post,rfl,rfl,λy hy=>?_,λy hy=>?_⟩;.exact(List.pairwise_append.1 h.lt).2.2 y hy x (List.mem_cons_self ..)
 .exact(List.pairwise_cons.1 (List.pairwise_append.1 h.lt).2.1).1 y hy
def Iy(all:List bB)(i:Nat)(y:Fx):Prop:=(y.1<i->∀o,all[i]?=some o->o.nB.testBit y.1=true)/\(i<y.1->∀o,all[y.1]?=some o->o.nB.testBit i=true)
theorem part{α:Type}(V:View α){pre post:List Fx}{x:Fx}{p:Nat->Bool}(hpre:∀y∈pre,V.fU y=true->p y.1=true)(hpost:∀y∈post,V.fU y=true->p y.1=false)(hx:p x.1=false)(s:St):V.qu (jZ s ((pre++x::post).filter λx=>p x.1))=V.qu (jZ s pre):=by
 rw[V.filter,V.filter pre,List.filter_append];simp[hx,Bool.and_false,Bool.false_eq_true,if_false];have e1:post.filter (λa=>V.fU a&&p a.1)=[]:=by refine List.filter_eq_nil_iff.2 λy hy hb=>?_<;>grind
 have e2:pre.filter (λa=>V.fU a&&p a.1)=pre.filter V.fU:=by refine List.filter_congr λy hy=>?_<;>grind
 grind
theorem Bk{α:Type}(V:View α){p:Nat->Bool}(hc:Gd all p){pre post:List Fx}{x:Fx}(hpre:∀y∈pre,y.1<x.1)(hpost:∀y∈post,x.1<y.1)(hi:p x.1=false){o:bB}(ho:all[x.1]?=some o)(hb:∀k,k<x.1->o.nB.testBit k=true->p k=true)(hdom:∀y∈post,∃o',all[y.1]?=some o')(hV:∀y∈pre++post,V.fU y=true->Iy all x.1 y)(s:St):V.qu (HK s (pre++x::post) p)=V.qu (jZ s pre):=by
 refine part V (λy hy ht=>?_) (λy hy ht=>?_) hi s;.exact hb _ (hpre y hy) ((hV y (List.mem_append_left _ hy) ht).1 (hpre y hy) o ho)
 .obtain⟨o',ho'⟩:=hdom y hy;cases hp:p y.1with|false=>rfl|true=>have:=hc _ _ ho' hp _ (hpost y hy) ((hV y (List.mem_append_right _ hy) ht).2 (hpost y hy) o' ho')<;>grind
theorem agM{α:Type}(V:View α){pre post:List Fx}{x:Fx}{p:Nat->Bool}(hpre:∀y∈pre,V.fU y=true->p y.1=true)(hpost:∀y∈post,V.fU y=true->p y.1=false)(hx:p x.1=true)(s:St):V.qu (jZ s ((pre++x::post).filter λx=>p x.1))=V.qu ((jZ s pre).app x.2.1 x.2.2):=by
 have e0:(jZ s pre).app x.2.1 x.2.2=jZ s (pre++[x]):=by rw[yO];rfl
 rw[e0,V.filter,V.filter (pre++[x]),List.filter_filter,List.filter_append];have e1:(x::post).filter (λa=>V.fU a&&p a.1)=[x].filter V.fU:=by
  have e1:post.filter (λa=>V.fU a&&p a.1)=[]:=by refine List.filter_eq_nil_iff.2 λy hy hb=>?_<;>grind
  grind
 have e2:pre.filter (λa=>V.fU a&&p a.1)=pre.filter V.fU:=by refine List.filter_congr λy hy=>?_<;>grind
 grind
theorem Nz.pair(h:Nz call sh mD all s0 L)(hap:l6 [] all=true){x y:Fx}(hx:x∈L)(hy:y∈L)(hne:y.1≠x.1){o oy:bB}(ho:all[x.1]?=some o)(ZP:all[y.1]?=some oy):Iy all x.1 y\/(Wt oy o/\Clear y.2.2 x.2.2):=by
 have key:=λi j a b(ha:all[i]?=some a)(hb:all[j]?=some b)(hij:i<j)=>ud (past:=[]) hap i j a b (by simpa using ha) (by simpa using hb) hij (Nat.zero_le _);rcases Nat.lt_or_gt_of_ne hne with hl|hl;.have b:o.nB.testBit y.1=true->Iy all x.1 y:=λhb=>⟨λ_ o' ho'=>by rw[ho]at ho';injection ho' with ho';rw[<-ho'];exact hb,λh=>by omega⟩;rcases h.meet y x hy hx hl o ho with h1|h1<;>grind
 .have b:oy.nB.testBit x.1=true->Iy all x.1 y:=λhb=>⟨λh=>by omega,λ_ o' ho'=>by rw[ZP]at ho';injection ho' with ho';rw[<-ho'];exact hb⟩;rcases h.meet x y hx hy hl oy ZP with h1|h1;.grind
  .rcases key _ _ _ _ ho ZP hl with h2|h2;.exact .inl (b h2)
   .exact .inr ⟨h2.symm,h1.symm⟩
theorem Nz.at(h:Nz call sh mD all s0 L){y:Fx}(hy:y∈L):∃o,all[y.1]?=some o/\y.2.1=o.dst:=by obtain⟨pre,post,rfl⟩:=List.append_of_mem hy;obtain⟨o,h1,h2,_⟩:=h.step pre y post rfl<;>grind
theorem Nz.any(h:Nz call sh mD all s0 L)(hap:l6 [] all=true){p:Nat->Bool}(hc:Gd all p){i:Nat}{o:bB}(ho:all[i]?=some o)(hi:p i=false)(hb:∀k,k<i->o.nB.testBit k=true->p k=true):∃x∈L,x.1=i/\x.2.1=o.dst/\o.step call sh (HK s0 L p) (mD+i)=some x.2.2:=by
 obtain⟨pre,x,post,rfl,rfl,h1,h2⟩:=h.split (List.getElem?_eq_some_iff.1 ho).1;obtain⟨o',g1,g2,g3⟩:=h.step pre x post rfl;rw[ho]at g1;cases g1;have hmem:x∈pre++x::post:=by simp
 refine⟨x,hmem,rfl,g2,?_⟩;have qu:∀{α:Type}(V:View α),(∀y oy,y∈pre++x::post->all[y.1]?=some oy->y.2.1=oy.dst->V.fU y=true->Wt oy o->Clear y.2.2 x.2.2->False)->V.qu (HK s0 (pre++x::post) p)=V.qu (jZ s0 pre):=by
  intro α V hV;refine Bk V hc h1 h2 hi ho hb (λy hy=>?_) (λy hy ht=>?_) s0;.obtain⟨o',h',_⟩:=h.at (y:=y) (by simp[hy])<;>grind
  .have hy':y∈pre++x::post:=by grind
   have hne:y.1≠x.1:=by grind
   obtain⟨oy,ZP,hd⟩:=h.at hy';rcases h.pair hap hmem hy' hne ho ZP with hh|hh<;>grind
 refine Lg g3 (λt ht=>?_) ?_;.refine qu (Ny t) λy oy _ _ hd hty hoff _=>?_;simp[Ny,beq_iff_eq]at hty;exact hoff.xy t (hd▸hty) ht
 .cases hr:x.2.2with
  |bX e=>
   refine⟨λhl=>?_,λk hk=>?_⟩;.refine qu alG λy oy _ _ _ hty _ hcl=>?_;rw[hr]at hcl;exact hcl.all (.inl hty) (uD hty) hl
   .have agN:kS (.bX e)=true:=by simp only[kS]<;>grind
    have rd:∀{b:gB},kf k b=true->Clear b (.bX e)->False:=by intro b hb hcl;cases b with|bX b=>simp[kf,decide_eq_true_eq]at hb;exact hcl.2.1 k hb hk|all=>exact hcl.all (.inl rfl) rfl agN
    obtain⟨k0,k1,k2⟩:=k;unfold j9;by_cases hk0:k0=0;.subst hk0;have:=qu (Ws k1 k2) λy oy _ _ _ hty _ hcl=>rd (b:=y.2.2) hty (hr▸hcl);simp[Ws,Prod.mk.injEq]at this<;>grind
    .by_cases hk1:k0=1/\k2=0;.obtain⟨rfl,rfl⟩:=hk1;have:=qu (ab7 k1) λy oy _ _ _ hty _ hcl=>rd (b:=y.2.2) hty (hr▸hcl);simp[ab7]at this;simp[this]
     grind|all v m t n=>
   have:=qu agL λy oy _ _ _ hty _ hcl=>by rw[hr]at hcl;exact hcl.all (.inr rfl) hty rfl
   simp[agL,Prod.mk.injEq]at this;exact this
structure St.alH(s s':St):Prop where
 slots:∀t,jt s.slots t=jt s'.slots t
 mem:∀lv sl,aK s.mem lv sl=aK s'.mem lv sl
 aG:∀v,s.aG.get? v=s'.aG.get? v
 nv:s.nv=s'.nv
theorem Nz.after(h:Nz call sh mD all s0 L)(hap:l6 [] all=true){p:Nat->Bool}(hc:Gd all p){x:Fx}(hx:x∈L){o:bB}(ho:all[x.1]?=some o)(hd:x.2.1=o.dst)(hi:p x.1=false)(hb:∀k,k<x.1->o.nB.testBit k=true->p k=true):St.alH (HK s0 L λj=>p j||j==x.1) ((HK s0 L p).app x.2.1 x.2.2):=by
 obtain⟨pre,x',post,rfl,hxx,h1,h2⟩:=h.split (List.getElem?_eq_some_iff.1 ho).1;have alI:x=x':=by grind
 subst alI;have qu:∀{α:Type}(V:View α),(V.fU x=true->∀y oy,all[y.1]?=some oy->y.2.1=oy.dst->V.fU y=true->Wt oy o->Clear y.2.2 x.2.2->False)->V.qu (HK s0 (pre++x::post) λj=>p j||j==x.1)=V.qu ((HK s0 (pre++x::post) p).app x.2.1 x.2.2):=by intro α V hV;cases ht:V.fU x with|false=>rw[V.off _ _ ht];unfold HK;rw[V.filter,V.filter (List.filter (λx=>p x.1) _),List.filter_filter,List.filter_filter];congr 2;refine List.filter_congr λy hy=>?_<;>grind|true=>
   have hV:=hV ht;have bound:∀y∈pre++post,V.fU y=true->Iy all x.1 y:=by
    intro y hy ht;have hy':y∈pre++x::post:=by rcases List.mem_append.1 hy with hy|hy<;>simp[hy]
    have hne:y.1≠x.1:=by
     rcases List.mem_append.1 hy with hy|hy;.exact Nat.ne_of_lt (h1 y hy)
     .exact(Nat.ne_of_lt (h2 y hy)).symm
    obtain⟨oy,ZP,hd⟩:=h.at hy';rcases h.pair hap hx hy' hne ho ZP with hh|hh;.exact hh
    .exact(hV y oy ZP hd ht hh.1 hh.2).elim
   have hdom:∀y∈post,∃o',all[y.1]?=some o':=λy hy=>by obtain⟨o',h',_⟩:=h.at (y:=y) (by simp[hy]);exact⟨o',h'⟩
   rw[V.on _ _ x (Bk V hc h1 h2 hi ho hb hdom bound s0)];refine agM V (p:=λj=>p j||j==x.1) (λy hy ht=>?_) (λy hy ht=>?_) (by simp) s0;.simp[hb _ (h1 y hy) ((bound y (List.mem_append_left _ hy) ht).1 (h1 y hy) o ho)]
   .obtain⟨o',ho'⟩:=hdom y hy;have hne:(y.1==x.1)=false:=by simpa using(Nat.ne_of_lt (h2 y hy)).symm
    rw[hne];cases hp:p y.1with|false=>rfl|true=>have:=hc _ _ ho' hp _ (h2 y hy) ((bound y (List.mem_append_right _ hy) ht).2 (h2 y hy) o' ho');rw[hi]at this;cases this
 have key:∀k,kf k x.2.2=true->∀(y:Fx),kf k y.2.2=true->Clear y.2.2 x.2.2->False:=λk hx y hy hcl=>hcl.fU hy hx (Bh hy) (Bh hx);refine⟨λt=>qu (Ny t) λZQ y oy _ hdy hty hoff _=>?_,λlv sl=>?_,λv=>qu (ab7 v) λZQ y _ _ _ hty _ hcl=>key _ ZQ y hty hcl,qu nvV λZQ y _ _ _ hty _ hcl=>hcl.all (.inl hty) (uD hty) (uD ZQ)⟩;.simp[Ny,beq_iff_eq]at ZQ hty;exact hoff.ne t (hdy▸hty) (hd▸ZQ)
 .have:=qu (Ws lv sl) λZQ y _ _ _ hty _ hcl=>key _ ZQ y hty hcl;simp[Ws,Prod.mk.injEq]at this;exact this.1
end
end Go.bI
namespace Go.bI
open Go Go.RowKit
section
variable{P:Program}{X:Cx}{nt:Nat}{s:St}{a:Act}{aO:Nat}{call:Go.bI.Call}{sh:Nat->Bool}{eD:Nat->Option TypeId}
theorem fk.put{Y:Cx}{dst:Option Nat}{r:gB}{v:Value}(hs:fk X nt s a)(hx:Ext X Y)(hv:VR Y r.val v)(hm:aH Y (s.app dst r).mem (s.app dst r).aG)(hlt:dst.getD 0<nt):fk Y nt (s.app dst r) (a.put dst v):=by cases dst with|none=>refine⟨λt=>?_,hs.size,hs.defers,hm⟩;rw[pI];exact(hs.slots t).ext hx|some d=>
  simp at hlt;refine⟨λt=>?_,by simp[Act.put,hs.size],hs.defers,hm⟩;rw[pI,tH];simp only[Option.some.injEq];by_cases h:d=t
  .subst h;have:((a.put (some d) v).tmps.getD d undef)=v:=by simp[Act.put,hs.size,hlt]
   grind
  .rw[if_neg h];have:((a.put (some d) v).tmps.getD t undef)=a.tmps.getD t undef:=by simp[Act.put,Array.getElem?_setIfInBounds_ne h]
   rw[this];exact(hs.slots t).ext hx
theorem D5(hs:fk X nt s a){ops:Array Oper}{o:Oper}{ao:bB}(hgd:gdP ops o.guard=some ao.gd){b:Bool}(hw:jC s.slots ao=some b):Region.wanted o (yielded ops a.tmps)=b:=by unfold jC at hw;unfold Region.wanted;cases hg:o.guard with|none=>grind[jt,gdP]|some jb=>
 obtain⟨j,w⟩:=jb;rw[hg]at hgd;obtain⟨d,hd,hgd⟩:=aN hgd;rw[<-hgd]at hw;simp at hw⊢;have hv:=hs.slots d;have hy:yielded ops a.tmps j=match a.tmps[d]?with|some (.bool b)=>some b|_=>none:=by unfold yielded<;>grind
 rw[hy];split at hw;.rename_i t ht;rw[ht]at hv;have hv:=VR.sc hv;cases h:a.tmps[d]?with|none=>rw[Array.getD_eq_getD_getElem?,h]at hv;cases hv|some v=>simp_all
 .rename_i vs ht;rw[ht]at hv;obtain⟨us,hu,_⟩:=hv;cases hw;cases h:a.tmps[d]?with|none=>rfl|some v=>simp_all
 grind
theorem NA(cM:cI P call)(jy:∀f T,eD f=some T->kU P f T)(hs:fk X nt s a)(hfr:X.ρ aO=none)(Bc:aO<s.nv)(hdom:∀v,s.nv<=v->X.ρ v=none){ops:Array Oper}{i:Nat}{o:Oper}(hoi:ops[i]?=some o){ao:bB}(hop:C5 P eD o.op=some ao.op)(hd:ao.dst=o.dst)(hgd:gdP ops o.guard=some ao.gd)(hlt:ao.dst.getD 0<nt){r:gB}(hr:ao.step call sh s aO=some r){K:Act->World->Prop}{Q:Exit->Act->World->Prop}(hK:∀Y a',Ext X Y->fk Y nt (s.app ao.dst r) a'->eY X Y aO s.nv (s.app ao.dst r).nv->K a' Y.w):wpOp P ops Q i K a X.w:=by
 unfold wpOp;simp[hoi];unfold bB.step at hr;split at hr;.cases hr
 .rename_i hw;rw[D5 hs hgd hw];refine .inl (ab6 (dst:=ao.dst) cM jy hs hfr Bc hdom hop hr K Q λY v hx hv hm hdm=>?_);rw[<-hd];exact hK Y _ hx (hs.put hx hv hm hlt) hdm
 .rename_i hw;rw[D5 hs hgd hw];cases hr;rw[<-hd];exact hK X _ (Ext.refl X) (hs.put (Ext.refl X) nG hs.mem hlt) (eY.refl _ _ _)
structure Lh(P:Program)(eD:Nat->Option TypeId)(nt:Nat)(ops:Array Oper)(all:List bB):Prop where
 len:all.length=ops.size
 at_:∀(i:Nat)(ao:bB),all[i]?=some ao->∃o:Oper,ops[i]?=some o/\C5 P eD o.op=some ao.op/\ao.dst=o.dst/\gdP ops o.guard=some ao.gd/\ao.dst.getD 0<nt
theorem yP{rows:List (Nat×Nat)}{ops:Array Oper}:∀{l:List (Oper×Nat)}{aJ:List bB},xj P eD nt rows ops l=some aJ->aJ.length=l.length/\∀(i:Nat)(ao:bB),aJ[i]?=some ao->∃(o:Oper)(b:Nat),l[i]?=some (o,b)/\ao.nB=b/\C5 P eD o.op=some ao.op/\ao.dst=o.dst/\gdP ops o.guard=some ao.gd/\ao.dst.getD 0<nt
 |[],aJ,h=>by cases h<;>grind|(o,b)::r,aJ,h=>by
  simp[xj]at h;split at h;.rename_i a' as' h1 h2;cases h;obtain⟨h3,h4⟩:=yP h2;refine⟨by simp[h3],λi ao hi=>?_⟩;cases i with
   |zero=>
    cases hi;unfold ZI at h1;split at h1
    .rename_i ap g hap hg;split at h1;.rename_i hlt;cases h1;exact⟨o,b,rfl,rfl,hap,rfl,hg,hlt⟩
     .cases h1
    .cases h1|succ i=>exact h4 i ao (by simpa using hi)
  .cases h
theorem D6(cM:cI P call)(jy:∀f T,eD f=some T->kU P f T){ops:Array Oper}{all:List bB}(vQ:Lh P eD nt ops all){mD:Nat}{Q:Exit->Act->World->Prop}:∀(l:List bB)(i:Nat)(s s':St)(X:Cx)(a:Act),(∀k,l[k]?=all[i+k]?)->kW call sh mD i l s=some s'->fk X nt s a->(∀k,i<=k->k<i+l.length->X.ρ (mD+k)=none)->mD+(i+l.length)<=s.nv->(∀v,s.nv<=v->X.ρ v=none)->(∀Y a',Ext X Y->fk Y nt s' a'->s.nv<=s'.nv->(∀v L,Y.ρ v=some L->X.ρ v=some L\/(mD<=v/\v<s'.nv))->Q .normal a' Y.w)->wpOps P ops Q (List.range' i l.length) a X.w
 |[],i,s,s',X,a,_,h,hs,_,_,_,hQ=>by cases h;exact hQ X a (Ext.refl X) hs (Nat.le_refl _) λ_ _ h=>.inl h|o::r,i,s,s',X,a,hall,h,hs,hfr,Bc,hdom,hQ=>by
  simp[kW]at h;split at h;.cases h
  .rename_i e he;have h0:=hall 0;obtain⟨oc,g1,g2,g3,g4,g5⟩:=vQ.at_ i o h0.symm;simp[List.length_cons]at hfr Bc;refine NA cM jy hs (hfr i (Nat.le_refl _) (by omega)) (by omega) hdom g1 g2 g3 g4 g5 he λY a' hx hs' hd=>?_;obtain⟨d1,d2⟩:=hd;refine D6 cM jy vQ r (i+1) _ s' Y a' (λk=>by have:=hall (k+1);rw[List.getElem?_cons_succ]at this;rw[this];congr 1;omega) h hs' (λk h1 h2=>?_) (by omega) (λv hv=>?_) λZ a'' hz ab8 hn Dh=>?_;.cases hY:Y.ρ (mD+k)with|none=>rfl|some L=>grind
   .cases hY:Y.ρ v with|none=>rfl|some L=>grind
   .refine hQ Z a'' (hx.trans hz) ab8 (Nat.le_trans d1 hn) λv L hv=>?_<;>grind
theorem D7{p q:Nat->Bool}:∀{l:List Nat},(∀x,q x=true->p x=true)->(∃x∈l,p x=true/\q x=false)->l.countP q<l.countP p
 |[],_,⟨x,hx,_⟩=>by cases hx|y::r,h,⟨x,hx,h1,h2⟩=>by
  have mono:r.countP q<=r.countP p:=List.countP_mono_left λx _=>h x;rcases List.mem_cons.1 hx with rfl|hx;.grind
  .have:=D7 h ⟨x,hx,h1,h2⟩<;>grind
theorem Bl{nB:List Nat}:∀{l:List Oper}{bs:List Nat}{i:Nat},DI nB i l bs=true->∀k o,l[k]?=some o->∃b,bs[k]?=some b/\FG nB (i+k) o b=true|[],_,_,_,k,o,h=>by simp at h|o::r,[],i,h,_,_,_=>by simp[DI]at h|o::r,b::bs,i,h,k,o',hk=>by simp[DI,Bool.and_eq_true]at h;cases k with|zero=>grind|succ k=>obtain⟨b',h1,h2⟩:=Bl h.2 k o' (by simpa using hk)<;>grind
structure R3(ops:Array Oper)(all:List bB):Prop where
 back:∀(i:Nat)(o:Oper),ops[i]?=some o->∀e∈o.after,Region.binds .any e=true->e.on<i
 nB:∀(i:Nat)(o:Oper)(ao:bB),ops[i]?=some o->all[i]?=some ao->∀k,k<i->ao.nB.testBit k=true->∃e∈o.after,Region.binds .any e=true/\(e.on=k\/(k<e.on/\∀ao',all[e.on]?=some ao'->ao'.nB.testBit k=true))
theorem ab9(cM:cI P call)(jy:∀f T,eD f=some T->kU P f T){ops:Array Oper}{all:List bB}(vQ:Lh P eD nt ops all)(R4:R3 ops all)(hap:l6 [] all=true){mD:Nat}{s0:St}{L:List Fx}(R5:Nz call sh mD all s0 L){Q:Exit->Act->World->Prop}:∀(fuel:Nat)(listed:Array Bool)(X:Cx)(a:Act),listed.size=ops.size->(List.range ops.size).countP (λj=>!listed.getD j false)<=fuel->Gd all (λj=>listed.getD j false)->fk X nt (HK s0 L λj=>listed.getD j false) a->(∀k,k<ops.size->listed.getD k false=false->X.ρ (mD+k)=none)->mD+ops.size<=(HK s0 L λj=>listed.getD j false).nv->(∀v,(HK s0 L λj=>listed.getD j false).nv<=v->X.ρ v=none)->(∀Y a',Ext X Y->fk Y nt (jZ s0 L) a'->(HK s0 L λj=>listed.getD j false).nv<=(jZ s0 L).nv->(∀v M,Y.ρ v=some M->X.ρ v=some M\/(mD<=v/\v<(jZ s0 L).nv))->Q .normal a' Y.w)->wpAny P .any ops Q fuel listed a X.w:=by
 have acd:∀(listed:Array Bool)(j:Nat),listed.size=ops.size->j<ops.size->listed.getD j true=listed.getD j false:=λlisted j h hj=>by simp[show j<listed.size by omega]
 have fin:∀(listed:Array Bool)(X:Cx)(a:Act),listed.size=ops.size->Region.ready .any ops listed=[]->fk X nt (HK s0 L λj=>listed.getD j false) a->(∀Y a',Ext X Y->fk Y nt (jZ s0 L) a'->(HK s0 L λj=>listed.getD j false).nv<=(jZ s0 L).nv->(∀v M,Y.ρ v=some M->X.ρ v=some M\/(mD<=v/\v<(jZ s0 L).nv))->Q .normal a' Y.w)->Q .normal a X.w:=by
  intro listed X a hsz hr hs hQ;have hall:∀j,j<ops.size->listed.getD j false=true:=by intro j;induction j using Nat.strongRecOn with|_ j ih=>intro hj;cases hl:listed.getD j false with|true=>rfl|false=>have hm:j∈Region.ready .any ops listed:=mem_ready.2 ⟨by rw[acd _ _ hsz hj];exact hl,ops[j],Array.getElem?_eq_getElem hj,λe he hb=>by have:=R4.back j _ (Array.getElem?_eq_getElem hj) e he hb;exact ih _ this (by omega)⟩;rw[hr]at hm;cases hm
  have hst:(HK s0 L λj=>listed.getD j false)=jZ s0 L:=by unfold HK;rw[List.filter_eq_self.2 λx hx=>hall x.1 (vQ.len▸(R5.dom x.1).2 ⟨x,hx,rfl⟩)]
  rw[hst]at hs hQ;exact hQ X a (Ext.refl X) hs (Nat.le_refl _) λ_ _ h=>.inl h
 intro fuel;induction fuel with|zero=>
  intro listed X a hsz agO hc hs hfr Bc hdom hQ;have hr:Region.ready .any ops listed=[]:=by cases hr:Region.ready .any ops listed with|nil=>rfl|cons j r=>
    have hj:j∈Region.ready .any ops listed:=by rw[hr];exact List.mem_cons_self ..
    obtain⟨h1,o,h2,_⟩:=mem_ready.1 hj;have hlt:j<ops.size:=(Array.getElem?_eq_some_iff.1 h2).1;have:=List.countP_eq_zero.1 (Nat.le_zero.1 agO) j (List.mem_range.2 hlt);rw[acd _ _ hsz hlt]at h1;rw[h1]at this;exact absurd rfl this
  exact⟨hr,fin listed X a hsz hr hs hQ⟩|succ fuel ih=>
  intro listed X a hsz agO hc hs hfr Bc hdom hQ;refine⟨λhr=>fin listed X a hsz hr hs hQ,λi hi=>?_⟩;obtain⟨hl,o,ho,ace⟩:=mem_ready.1 hi;have hlt:i<ops.size:=(Array.getElem?_eq_some_iff.1 ho).1;rw[acd _ _ hsz hlt]at hl;obtain⟨ao,hao⟩:∃ao,all[i]?=some ao:=⟨all[i]'(by rw[vQ.len];exact hlt),List.getElem?_eq_getElem _⟩;obtain⟨o',g1,g2,g3,g4,g5⟩:=vQ.at_ i ao hao;rw[ho]at g1;injection g1 with g1;subst g1;have hb:∀k,k<i->ao.nB.testBit k=true->listed.getD k false=true:=by
   intro k hk R6;obtain⟨e,he,ZR,h⟩:=R4.nB i o ao ho hao k hk R6;have hon:=ace e he ZR;rcases h with h|⟨h1,h2⟩;.rw[<-h];exact hon
   .have hlt':e.on<all.length:=by rw[vQ.len];have:=R4.back i o ho e he ZR;omega
    exact hc e.on _ (List.getElem?_eq_getElem hlt') hon k h1 (h2 _ (List.getElem?_eq_getElem hlt'))
  obtain⟨x,hx,rfl,hxd,hstep⟩:=R5.any hap hc hao hl hb;have hp':(λj=>(listed.setIfInBounds x.1 true).getD j false)=λj=>listed.getD j false||j==x.1:=by
   funext j;by_cases hj:j=x.1;.subst hj;simp[show x.1<listed.size by omega]
   .rw[getD_set_ne false (Ne.symm hj),show(j==x.1)=false from by simpa using hj,Bool.or_false]
  have hsame:=R5.after hap hc hx hao hxd hl hb;rw[<-hp']at hsame;refine NA cM jy hs (hfr _ hlt hl) (by omega) hdom ho g2 g3 g4 g5 hstep λY a' hx' hs' hd=>?_;rw[<-hxd]at hs' hd;obtain⟨d1,d2⟩:=hd;rw[<-hsame.nv]at d1 d2;refine ih (listed.setIfInBounds x.1 true) Y a' (by simpa using hsz) ?_ ?_ ⟨λt=>?_,hs'.size,hs'.defers,hs'.mem.congr hsame.mem hsame.aG⟩ (λk hk R7=>?_) (by omega) (λv hv=>?_) λZ a'' hz ab8 hn Dh=>?_;.have:=D7 (p:=λj=>!listed.getD j false) (q:=λj=>!(listed.setIfInBounds x.1 true).getD j false) (l:=List.range ops.size) (λj hj=>by have:=congrFun hp' j;rw[this]at hj;simp only[Bool.not_eq_true',Bool.or_eq_false_iff]at hj;simp only[Bool.not_eq_true'];exact hj.1) ⟨x.1,List.mem_range.2 hlt,by simp only[hl,Bool.not_false],by have:=congrFun hp' x.1;simp only[this,beq_self_eq_true,Bool.or_true,Bool.not_true]⟩;omega
  .rw[hp'];intro j oj hoj hj k hk R6;simp only[Bool.or_eq_true,beq_iff_eq]at hj⊢;rcases hj with hj|hj;.exact .inl (hc j oj hoj hj k hk R6)
   .subst hj;rw[hao]at hoj;injection hoj with hoj;subst hoj;exact .inl (hb k hk R6)
  .rw[hsame.slots];exact hs'.slots t
  .have hk':=congrFun hp' k;rw[hk']at R7;simp only[Bool.or_eq_false_iff,beq_eq_false_iff_ne]at R7;cases hY:Y.ρ (mD+k)with|none=>rfl|some M=>
    rcases d2 _ _ hY with h|h|h;.rw[hfr k hk R7.1]at h;cases h
    .omega
    .omega
  .cases hY:Y.ρ v with|none=>rfl|some M=>
    rcases d2 _ _ hY with h|h|h;.rw[hdom v (by omega)]at h;cases h
    .omega
    .omega
  .refine hQ Z a'' (hx'.trans hz) ab8 (Nat.le_trans d1 hn) λv M hv=>?_;rcases Dh v M hv with h|h
   .rcases d2 v M h with h|h|h;.exact .inl h
    .exact .inr (by omega)
    .exact .inr (by omega)
   .exact .inr h
end
end Go.bI
