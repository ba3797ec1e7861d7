/- A part of the proof: EngW, EngX, EngY. -/
import Derived.Test.YtgkllgjmfpjeoaaGreatDoorEngV
set_option linter.unusedVariables false
set_option linter.unusedSimpArgs false
namespace Go.bJ
open Go
abbrev Fx:=Nat×Option Nat×hU
def jX(s:St):List Fx->St|[]=>s|x::r=>jX (s.app x.2.1 x.2.2) r
theorem yp:∀(l l':List Fx)(s:St),jX s (l++l')=jX (jX s l) l'|[],_,_=>rfl|_::r,l',_=>yp r l' _
structure View(α:Type)where
 qf:St->α
 fT:Fx->Bool
 off:∀(s:St)(x:Fx),fT x=false->qf (s.app x.2.1 x.2.2)=qf s
 on:∀(s s':St)(x:Fx),qf s=qf s'->qf (s.app x.2.1 x.2.2)=qf (s'.app x.2.1 x.2.2)
section
variable{α:Type}(V:View α)
theorem View.congr:∀(l:List Fx){s s':St},V.qf s=V.qf s'->V.qf (jX s l)=V.qf (jX s' l)|[],_,_,h=>h|x::r,_,_,h=>View.congr r (V.on _ _ x h)
theorem View.filter:∀(l:List Fx)(s:St),V.qf (jX s l)=V.qf (jX s (l.filter V.fT))|[],_=>rfl|x::r,s=>by cases h:V.fT x with|true=>simp[List.filter_cons,h,if_true,jX];exact View.filter r _|false=>simp[List.filter_cons,h,jX,Bool.false_eq_true,if_false];exact(View.congr V r (V.off s x h)).trans (View.filter r s)
end
theorem sZ(t:Tr AV)(dst:Option Nat)(v:AV)(n:Nat):jG (uU t dst v) n=if dst=some n then v else jG t n:=by unfold jG uU;cases dst with|none=>simp|some d=>simp[Tr.cz,Option.some.injEq]<;>grind
theorem o9(s:St)(d:Option Nat)(r:hU):(s.app d r).slots=uU s.slots d r.val:=by cases r<;>rfl
def Mo(t:Nat):View AV where
 qf s:=jG s.slots t;fT x:=x.2.1==some t;off s x h:=by rw[o9,sZ,if_neg (by simpa using h)]
 on s s' x h:=by rw[o9,o9,sZ,sZ,h]
theorem lN(m:List (Tr bB))(lv sl:Nat)(e:Option bB):(ct m lv sl e).length=m.length:=by simp[ct]
theorem cX:∀(u:List (Nat×Nat×Option bB))(m:List (Tr bB)),(bw m u).length=m.length|[],_=>rfl|(lv,sl,e)::r,m=>(cX r _).trans (lN m lv sl e)
def isAll:hU->Bool|.bW _=>false|.all ..=>true
def aiX:View Nat where
 qf s:=s.mem.length;fT x:=isAll x.2.2;off s x h:=by obtain⟨i,d,r⟩:=x;cases r with|bW e=>exact cX _ _|all=>cases h
 on s s' x h:=by obtain⟨i,d,r⟩:=x;cases r with|bW e=>exact(cX _ _).trans (h.trans (cX _ _).symm)|all=>rfl
def nvV:View Nat where
 qf s:=s.nv;fT x:=isAll x.2.2;off s x h:=by obtain⟨i,d,r⟩:=x;cases r with|bW e=>rfl|all=>cases h
 on s s' x h:=by obtain⟨i,d,r⟩:=x;cases r with|bW e=>exact h|all=>rfl
theorem NY{s:St}{d:Option Nat}{r:hU}(h:kM r=false):(s.app d r).mem=s.mem/\(s.app d r).aI=s.aI/\(s.app d r).nv=s.nv:=by cases r with|bW e=>simp[kM,Bool.not_eq_false',Bool.and_eq_true,List.isEmpty_iff]at h;simp[St.app,h.1.2,h.2];grind[dS,bw]|all=>cases h
def adD:View (List (Tr bB)×Tr Unit×Nat)where
 qf s:=(s.mem,s.aI,s.nv);fT x:=kM x.2.2;off s x h:=by obtain⟨h1,h2,h3⟩:=NY (s:=s) (d:=x.2.1) h;simp only[h1,h2,h3]
 on s s' x h:=by obtain⟨i,d,r⟩:=x;simp only[Prod.mk.injEq]at h;cases r with|bW e=>simp only[St.app,h.1,h.2.1,h.2.2]|all=>rfl
theorem vp{lv sl:Nat}:∀(u:List (Nat×Nat×Option bB))(m m':List (Tr bB)),aK m lv sl=aK m' lv sl->m.length=m'.length->aK (bw m u) lv sl=aK (bw m' u) lv sl|[],_,_,h,_=>h|(a,b,e)::r,m,m',h,hl=>vp r _ _ (by rw[cx,cx,h,hl]) (by grind[aK,ct])
theorem vq{lv sl:Nat}:∀(u:List (Nat×Nat×Option bB))(m:List (Tr bB)),cq lv sl∉u.map (λu=>cq u.1 u.2.1)->aK (bw m u) lv sl=aK m lv sl|[],_,_=>rfl|(a,b,e)::r,m,h=>by simp only[List.map_cons,List.mem_cons,not_or]at h;rw[bw,vq r _ h.2,cx,if_neg]<;>grind
theorem vr{v:Nat}:∀(u:List (Nat×Bool))(m m':Tr Unit),m.get? v=m'.get? v->(dS m u).get? v=(dS m' u).get? v|[],_,_,h=>h|(a,b)::r,m,m',h=>vr r _ _ (by rw[Tr.cz,Tr.cz,h])
theorem vt{v:Nat}:∀(u:List (Nat×Bool))(m:Tr Unit),jW v∉u.map (λu=>jW u.1)->(dS m u).get? v=m.get? v|[],_,_=>rfl|(a,b)::r,m,h=>by simp only[List.map_cons,List.mem_cons,not_or]at h;rw[dS,vt r _ h.2,Tr.cz,if_neg]<;>grind
def j8(k:Nat×Nat×Nat):hU->Bool|.bW e=>decide (k∈e.wr)|.all ..=>true
def Vw(lv sl:Nat):View (Option bB×Nat)where
 qf s:=(aK s.mem lv sl,s.mem.length);fT x:=j8 (cq lv sl) x.2.2;off s x h:=by obtain⟨i,d,r⟩:=x;cases r with|bW e=>simp only[j8,fH.wr,List.mem_append,not_or,decide_eq_false_iff_not]at h;simp only[St.app,cX,vq _ _ h.1]|all=>cases h
 on s s' x h:=by obtain⟨i,d,r⟩:=x;simp only[Prod.mk.injEq]at h;cases r with|bW e=>simp only[St.app,cX,vp _ _ _ h.1 h.2,h.2]|all=>rfl
def ZW(v:Nat):View (Option Unit)where
 qf s:=s.aI.get? v;fT x:=j8 (jW v) x.2.2;off s x h:=by obtain⟨i,d,r⟩:=x;cases r with|bW e=>simp only[j8,fH.wr,List.mem_append,not_or,decide_eq_false_iff_not]at h;exact vt _ _ h.2|all=>cases h
 on s s' x h:=by obtain⟨i,d,r⟩:=x;cases r with|bW e=>exact vr _ _ _ h|all=>rfl
def Clear:hU->hU->Prop|.bW a,.bW b=>(∀k∈a.rd,k∉b.wr)/\(∀k∈a.wr,k∉b.rd)/\∀k∈a.wr,k∉b.wr|a,b=>¬(kM a=true/\kM b=true)
theorem Clear.symm{a b:hU}(h:Clear a b):Clear b a:=by cases a<;>cases b<;>grind[Clear]
theorem Kg{a b:hU}(h:uW a b=false):Clear a b:=by·simp[uW,Bool.or_eq_false_iff]at h;grind[fH.wr,meets,Clear]
theorem Clear.all{a b:hU}(h:Clear a b)(hab:isAll a=true\/isAll b=true)(ha:kM a=true)(hb:kM b=true):False:=by cases a<;>cases b<;>grind[kM,isAll,Clear]
theorem uh{a:hU}(h:isAll a=true):kM a=true:=by cases a<;>first|rfl|cases h
theorem Clear.fT{a b:hU}(h:Clear a b){k:Nat×Nat×Nat}(ha:j8 k a=true)(hb:j8 k b=true)(hla:kM a=true)(hlb:kM b=true):False:=by cases a<;>cases b<;>grind[kM,j8,Clear]
theorem AE{a:hU}{k:Nat×Nat×Nat}(h:j8 k a=true):kM a=true:=by cases a with|bW e=>simp only[j8,decide_eq_true_eq,fH.wr,List.mem_append]at h<;>grind[j8,kM]|all=>rfl
theorem AF{l:List Nat}{n:Nat}:JQ l n=true↔n∈l:=by simp_all[JQ]
structure Vx(x y:bz):Prop where
 xy:∀t,x.dst=some t->t∉y.looks
 yx:∀t,y.dst=some t->t∉x.looks
 ne:∀t,x.dst=some t->y.dst≠some t
theorem Vx.symm{x y:bz}(h:Vx x y):Vx y x:=⟨h.yx,h.xy,λt h1 h2=>h.ne t h2 h1⟩
theorem apart_spec{x y:bz}(h:x.apart y=true):Vx x y:=by
 simp[bz.apart,Bool.and_eq_true]at h;refine⟨λt ht hm=>?_,λt ht hm=>?_,λt ht h'=>?_⟩;.have:=h.1.1;simp[Aa,ht,AF.2 hm]at this
 .have:=h.1.2;simp[Aa,ht,AF.2 hm]at this
 simp_all[L7,Aa]
theorem Kh{call:Call}{sh:Nat->Bool}{s s':St}{o:bz}{aO:Nat}{r:hU}(h:o.step call sh s aO=some r)(hs:∀t∈o.looks,jG s'.slots t=jG s.slots t)(hn:zx s s' r):o.step call sh s' aO=some r:=by
 have hw:jB s'.slots o=jB s.slots o:=by unfold jB;split<;>simp_all[zx,bz.looks,bz.step,Call,jG]
 unfold bz.step at h⊢;rw[hw];split at h;.cases h
 .refine NX h (λx hx=>?_) hn;cases x with|t n=>exact hs n (by simp only[bz.looks,List.mem_append,List.mem_flatMap];exact .inl ⟨_,hx,by simp[bT.slot]⟩)|c v=>rfl
 omega
end Go.bJ
namespace Go.bJ
open Go
structure Mp(call:Call)(sh:Nat->Bool)(mB:Nat)(all:List bz)(s0:St)(L:List Fx):Prop where
 lt:L.Pairwise λx y=>x.1<y.1dom:∀i,i<all.length↔∃x∈L,x.1=i
 step:∀pre x post,L=pre++x::post->∃o,all[x.1]?=some o/\x.2.1=o.dst/\o.step call sh (jX s0 pre) (mB+x.1)=some x.2.2meet:∀x y,x∈L->y∈L->x.1<y.1->∀o,all[y.1]?=some o->o.nh.testBit x.1=true\/Clear x.2.2 y.2.2
theorem AG{nh:Nat}{e:hU}:∀{past:List (Nat×hU)},clear nh e past=true->∀y∈past,nh.testBit y.1=true\/Clear y.2 e
 |[],_,y,hy=>by cases hy|(i,x)::r,h,y,hy=>by
  simp[clear,Bool.and_eq_true,Bool.or_eq_true,Bool.not_eq_true']at h;rcases List.mem_cons.1 hy with rfl|hy;.exact h.1.imp id Kg
  .exact AG h.2 y hy
theorem vu{call:Call}{sh:Nat->Bool}{mB:Nat}{all:List bz}:∀(ops:List bz)(i:Nat)(past:List (Nat×hU))(s s':St),(∀k,ops[k]?=all[i+k]?)->j3 call sh mB i ops past s=some s'->∃L:List Fx,s'=jX s L/\L.map (·.1)=List.range' i ops.length/\(∀pre x post,L=pre++x::post->∃o,all[x.1]?=some o/\x.2.1=o.dst/\o.step call sh (jX s pre) (mB+x.1)=some x.2.2/\(∀y∈pre,o.nh.testBit y.1=true\/Clear y.2.2 x.2.2)/\∀y∈past,o.nh.testBit y.1=true\/Clear y.2 x.2.2)
 |[],i,past,s,s',_,h=>by simp[j3,Option.some.injEq]at h;exact⟨[],h.symm,rfl,λpre x post h=>by simp at h⟩|o::r,i,past,s,s',hall,h=>by
  simp[j3]at h;split at h;.cases h
  .rename_i e he;split at h;.rename_i hc;obtain⟨L,h1,h2,h3⟩:=vu r (i+1) ((i,e)::past) _ _ (λk=>by have:=hall (k+1);rw[List.getElem?_cons_succ]at this;rw[this];congr 1;omega) h;refine⟨(i,o.dst,e)::L,h1,by simp[h2,List.range'_succ],λpre x post hp=>?_⟩;cases pre with|nil=>cases hp;exact⟨o,by have:=hall 0;simpa using this.symm,rfl,he,⟨λy hy=>absurd hy List.not_mem_nil,λy hy=>AG hc y hy⟩⟩|cons p pre=>
    simp at hp;obtain⟨rfl,hp⟩:=hp;obtain⟨o',g1,g2,g3,g4,g5⟩:=h3 pre x post hp;refine⟨o',g1,g2,g3,λy hy=>?_,λy hy=>g5 y (List.mem_cons_of_mem _ hy)⟩;rcases List.mem_cons.1 hy with rfl|hy;.exact g5 _ (List.mem_cons_self ..)
    .exact g4 y hy
   .cases h
theorem Mp.of_run{call:Call}{sh:Nat->Bool}{mB:Nat}{all:List bz}{s s':St}(h:j3 call sh mB 0 all [] s=some s'):∃L,s'=jX s L/\Mp call sh mB all s L:=by
 obtain⟨L,h1,h2,h3⟩:=vu (all:=all) all 0 [] s s' (λk=>by simp) h;refine⟨L,h1,?_,λi=>?_,λpre x post hp=>?_,λx y hx hy hlt o ho=>?_⟩
 .have:(L.map (·.1)).Pairwise (·<·):=by rw[h2];exact List.pairwise_lt_range'
  exact List.pairwise_map.1 this
 .have:i∈L.map (·.1)↔i<all.length:=by rw[h2,List.mem_range'_1];omega
  rw[<-this,List.mem_map]
 .obtain⟨o,g1,g2,g3,_⟩:=h3 pre x post hp;exact⟨o,g1,g2,g3⟩
 .obtain⟨pre,post,rfl⟩:=List.append_of_mem hy;obtain⟨o',g1,g2,g3,g4,_⟩:=h3 pre y post rfl;rw[ho]at g1;cases g1;refine g4 x ?_;have hL:(pre++y::post).Pairwise λx y:Fx=>x.1<y.1:=by
   have:((pre++y::post).map (·.1)).Pairwise (·<·):=by rw[h2];exact List.pairwise_lt_range'
   exact List.pairwise_map.1 this
  rcases List.mem_append.1 hx with hx|hx;.exact hx
  .rcases List.mem_cons.1 hx with rfl|hx;.omega
   .have:=(List.pairwise_cons.1 (List.pairwise_append.1 hL).2.1).1 x hx;omega
theorem vw{y:bz}:∀{past:List bz}{i:Nat},zF y i past=true->∀k x,past[k]?=some x->y.nh.testBit (i+k)=true\/Vx x y|[],_,_,k,x,hx=>by grind|p::r,i,h,k,x,hx=>by simp[zF,Bool.and_eq_true,Bool.or_eq_true]at h;cases k with|zero=>cases hx;exact h.1.imp id apart_spec|succ k=>have:=vw h.2 k x (by simpa using hx);rwa[show i+(k+1)=i+1+k by omega]
theorem tN:∀{l past:List bz},lW past l=true->∀i j x y,(past++l)[i]?=some x->(past++l)[j]?=some y->i<j->past.length<=j->y.nh.testBit i=true\/Vx x y
 |[],past,_,i,j,x,y,_,hy,_,hj=>by grind|o::r,past,h,i,j,x,y,hx,hy,hij,hj=>by
  simp[lW,Bool.and_eq_true]at h;rcases Nat.lt_or_ge past.length j with hl|hl
  .have e:past++o::r=past++[o]++r:=by simp
   rw[e]at hx hy;exact tN h.2 i j x y hx hy hij (by simp;omega)
  .have:j=past.length:=by omega
   subst this;simp at hy;rw[List.getElem?_append_left hij]at hx;have:=vw h.1 i x hx<;>grind
section
variable{call:Call}{sh:Nat->Bool}{mB:Nat}{all:List bz}{s0:St}{L:List Fx}
def GH(s0:St)(L:List Fx)(p:Nat->Bool):St:=jX s0 (L.filter λx=>p x.1)
def Ft(all:List bz)(p:Nat->Bool):Prop:=∀j o,all[j]?=some o->p j=true->∀k,k<j->o.nh.testBit k=true->p k=true
theorem Mp.split(h:Mp call sh mB all s0 L){i:Nat}(hi:i<all.length):∃pre x post,L=pre++x::post/\x.1=i/\(∀y∈pre,y.1<i)/\∀y∈post,i<y.1:=by
 obtain⟨x,hx,rfl⟩:=(h.dom i).1 hi;obtain⟨pre,post,rfl⟩:=List.append_of_mem hx;refine⟨pre,x,post,rfl,rfl,λy hy=>?_,λy hy=>?_⟩;.exact(List.pairwise_append.1 h.lt).2.2 y hy x (List.mem_cons_self ..)
 .exact(List.pairwise_cons.1 (List.pairwise_append.1 h.lt).2.1).1 y hy
def HA(all:List bz)(i:Nat)(y:Fx):Prop:=(y.1<i->∀o,all[i]?=some o->o.nh.testBit y.1=true)/\(i<y.1->∀o,all[y.1]?=some o->o.nh.testBit i=true)
theorem part{α:Type}(V:View α){pre post:List Fx}{x:Fx}{p:Nat->Bool}(hpre:∀y∈pre,V.fT y=true->p y.1=true)(hpost:∀y∈post,V.fT y=true->p y.1=false)(hx:p x.1=false)(s:St):V.qf (jX s ((pre++x::post).filter λx=>p x.1))=V.qf (jX s pre):=by
 rw[V.filter,V.filter pre,List.filter_append];simp[hx,Bool.and_false,Bool.false_eq_true,if_false];have e1:post.filter (λa=>V.fT a&&p a.1)=[]:=by refine List.filter_eq_nil_iff.2 λy hy hb=>?_<;>grind
 have e2:pre.filter (λa=>V.fT a&&p a.1)=pre.filter V.fT:=by refine List.filter_congr λy hy=>?_<;>grind
 grind
theorem AH{α:Type}(V:View α){p:Nat->Bool}(hc:Ft all p){pre post:List Fx}{x:Fx}(hpre:∀y∈pre,y.1<x.1)(hpost:∀y∈post,x.1<y.1)(hi:p x.1=false){o:bz}(ho:all[x.1]?=some o)(hb:∀k,k<x.1->o.nh.testBit k=true->p k=true)(hdom:∀y∈post,∃o',all[y.1]?=some o')(hV:∀y∈pre++post,V.fT y=true->HA all x.1 y)(s:St):V.qf (GH s (pre++x::post) p)=V.qf (jX s pre):=by
 refine part V (λy hy ht=>?_) (λy hy ht=>?_) hi s;.exact hb _ (hpre y hy) ((hV y (List.mem_append_left _ hy) ht).1 (hpre y hy) o ho)
 .obtain⟨o',ho'⟩:=hdom y hy;cases hp:p y.1with|false=>rfl|true=>have:=hc _ _ ho' hp _ (hpost y hy) ((hV y (List.mem_append_right _ hy) ht).2 (hpost y hy) o' ho')<;>grind
theorem adE{α:Type}(V:View α){pre post:List Fx}{x:Fx}{p:Nat->Bool}(hpre:∀y∈pre,V.fT y=true->p y.1=true)(hpost:∀y∈post,V.fT y=true->p y.1=false)(hx:p x.1=true)(s:St):V.qf (jX s ((pre++x::post).filter λx=>p x.1))=V.qf ((jX s pre).app x.2.1 x.2.2):=by
 have e0:(jX s pre).app x.2.1 x.2.2=jX s (pre++[x]):=by rw[yp];rfl
 rw[e0,V.filter,V.filter (pre++[x]),List.filter_filter,List.filter_append];have e1:(x::post).filter (λa=>V.fT a&&p a.1)=[x].filter V.fT:=by
  have e1:post.filter (λa=>V.fT a&&p a.1)=[]:=by refine List.filter_eq_nil_iff.2 λy hy hb=>?_<;>grind
  grind
 have e2:pre.filter (λa=>V.fT a&&p a.1)=pre.filter V.fT:=by refine List.filter_congr λy hy=>?_<;>grind
 grind
theorem Mp.pair(h:Mp call sh mB all s0 L)(hap:lW [] all=true){x y:Fx}(hx:x∈L)(hy:y∈L)(hne:y.1≠x.1){o oy:bz}(ho:all[x.1]?=some o)(XF:all[y.1]?=some oy):HA all x.1 y\/(Vx oy o/\Clear y.2.2 x.2.2):=by
 have key:=λi j a b(ha:all[i]?=some a)(hb:all[j]?=some b)(hij:i<j)=>tN (past:=[]) hap i j a b (by simpa using ha) (by simpa using hb) hij (Nat.zero_le _);rcases Nat.lt_or_gt_of_ne hne with hl|hl;.have b:o.nh.testBit y.1=true->HA all x.1 y:=λhb=>⟨λ_ o' ho'=>by rw[ho]at ho';injection ho' with ho';rw[<-ho'];exact hb,λh=>by omega⟩;rcases h.meet y x hy hx hl o ho with h1|h1<;>grind
 .have b:oy.nh.testBit x.1=true->HA all x.1 y:=λhb=>⟨λh=>by omega,λ_ o' ho'=>by rw[XF]at ho';injection ho' with ho';rw[<-ho'];exact hb⟩;rcases h.meet x y hx hy hl oy XF with h1|h1;.grind
  .rcases key _ _ _ _ ho XF hl with h2|h2;.exact .inl (b h2)
   .exact .inr ⟨h2.symm,h1.symm⟩
theorem Mp.at(h:Mp call sh mB all s0 L){y:Fx}(hy:y∈L):∃o,all[y.1]?=some o/\y.2.1=o.dst:=by obtain⟨pre,post,rfl⟩:=List.append_of_mem hy;obtain⟨o,h1,h2,_⟩:=h.step pre y post rfl<;>grind
theorem Mp.any(h:Mp call sh mB all s0 L)(hap:lW [] all=true){p:Nat->Bool}(hc:Ft all p){i:Nat}{o:bz}(ho:all[i]?=some o)(hi:p i=false)(hb:∀k,k<i->o.nh.testBit k=true->p k=true):∃x∈L,x.1=i/\x.2.1=o.dst/\o.step call sh (GH s0 L p) (mB+i)=some x.2.2:=by
 obtain⟨pre,x,post,rfl,rfl,h1,h2⟩:=h.split (List.getElem?_eq_some_iff.1 ho).1;obtain⟨o',g1,g2,g3⟩:=h.step pre x post rfl;rw[ho]at g1;cases g1;have hmem:x∈pre++x::post:=by simp
 refine⟨x,hmem,rfl,g2,?_⟩;have qf:∀{α:Type}(V:View α),(∀y oy,y∈pre++x::post->all[y.1]?=some oy->y.2.1=oy.dst->V.fT y=true->Vx oy o->Clear y.2.2 x.2.2->False)->V.qf (GH s0 (pre++x::post) p)=V.qf (jX s0 pre):=by
  intro α V hV;refine AH V hc h1 h2 hi ho hb (λy hy=>?_) (λy hy ht=>?_) s0;.obtain⟨o',h',_⟩:=h.at (y:=y) (by simp[hy])<;>grind
  .have hy':y∈pre++x::post:=by grind
   have hne:y.1≠x.1:=by grind
   obtain⟨oy,XF,hd⟩:=h.at hy';rcases h.pair hap hmem hy' hne ho XF with hh|hh<;>grind
 refine Kh g3 (λt ht=>?_) ?_;.refine qf (Mo t) λy oy _ _ hd hty hoff _=>?_;simp[Mo,beq_iff_eq]at hty;exact hoff.xy t (hd▸hty) ht
 .cases hr:x.2.2with
  |bW e=>
   refine⟨λhl=>?_,λk hk=>?_⟩;.refine qf aiX λy oy _ _ _ hty _ hcl=>?_;rw[hr]at hcl;exact hcl.all (.inl hty) (uh hty) hl
   .have adF:kM (.bW e)=true:=by simp only[kM]<;>grind
    have rd:∀{b:hU},j8 k b=true->Clear b (.bW e)->False:=by intro b hb hcl;cases b with|bW b=>simp[j8,decide_eq_true_eq]at hb;exact hcl.2.1 k hb hk|all=>exact hcl.all (.inl rfl) rfl adF
    obtain⟨k0,k1,k2⟩:=k;unfold j6;by_cases hk0:k0=0;.subst hk0;have:=qf (Vw k1 k2) λy oy _ _ _ hty _ hcl=>rd (b:=y.2.2) hty (hr▸hcl);simp[Vw,Prod.mk.injEq]at this<;>grind
    .by_cases hk1:k0=1/\k2=0;.obtain⟨rfl,rfl⟩:=hk1;have:=qf (ZW k1) λy oy _ _ _ hty _ hcl=>rd (b:=y.2.2) hty (hr▸hcl);simp[ZW]at this;simp[this]
     grind|all v m t n=>
   have:=qf adD λy oy _ _ _ hty _ hcl=>by rw[hr]at hcl;exact hcl.all (.inr rfl) hty rfl
   simp[adD,Prod.mk.injEq]at this;exact this
structure St.aiY(s s':St):Prop where
 slots:∀t,jG s.slots t=jG s'.slots t
 mem:∀lv sl,aK s.mem lv sl=aK s'.mem lv sl
 aI:∀v,s.aI.get? v=s'.aI.get? v
 nv:s.nv=s'.nv
theorem Mp.after(h:Mp call sh mB all s0 L)(hap:lW [] all=true){p:Nat->Bool}(hc:Ft all p){x:Fx}(hx:x∈L){o:bz}(ho:all[x.1]?=some o)(hd:x.2.1=o.dst)(hi:p x.1=false)(hb:∀k,k<x.1->o.nh.testBit k=true->p k=true):St.aiY (GH s0 L λj=>p j||j==x.1) ((GH s0 L p).app x.2.1 x.2.2):=by
 obtain⟨pre,x',post,rfl,hxx,h1,h2⟩:=h.split (List.getElem?_eq_some_iff.1 ho).1;have aiZ:x=x':=by grind
 subst aiZ;have qf:∀{α:Type}(V:View α),(V.fT x=true->∀y oy,all[y.1]?=some oy->y.2.1=oy.dst->V.fT y=true->Vx oy o->Clear y.2.2 x.2.2->False)->V.qf (GH s0 (pre++x::post) λj=>p j||j==x.1)=V.qf ((GH s0 (pre++x::post) p).app x.2.1 x.2.2):=by intro α V hV;cases ht:V.fT x with|false=>rw[V.off _ _ ht];unfold GH;rw[V.filter,V.filter (List.filter (λx=>p x.1) _),List.filter_filter,List.filter_filter];congr 2;refine List.filter_congr λy hy=>?_<;>grind|true=>
   have hV:=hV ht;have bound:∀y∈pre++post,V.fT y=true->HA all x.1 y:=by
    intro y hy ht;have hy':y∈pre++x::post:=by rcases List.mem_append.1 hy with hy|hy<;>simp[hy]
    have hne:y.1≠x.1:=by
     rcases List.mem_append.1 hy with hy|hy;.exact Nat.ne_of_lt (h1 y hy)
     .exact(Nat.ne_of_lt (h2 y hy)).symm
    obtain⟨oy,XF,hd⟩:=h.at hy';rcases h.pair hap hx hy' hne ho XF with hh|hh;.exact hh
    .exact(hV y oy XF hd ht hh.1 hh.2).elim
   have hdom:∀y∈post,∃o',all[y.1]?=some o':=λy hy=>by obtain⟨o',h',_⟩:=h.at (y:=y) (by simp[hy]);exact⟨o',h'⟩
   rw[V.on _ _ x (AH V hc h1 h2 hi ho hb hdom bound s0)];refine adE V (p:=λj=>p j||j==x.1) (λy hy ht=>?_) (λy hy ht=>?_) (by simp) s0;.simp[hb _ (h1 y hy) ((bound y (List.mem_append_left _ hy) ht).1 (h1 y hy) o ho)]
   .obtain⟨o',ho'⟩:=hdom y hy;have hne:(y.1==x.1)=false:=by simpa using(Nat.ne_of_lt (h2 y hy)).symm
    rw[hne];cases hp:p y.1with|false=>rfl|true=>have:=hc _ _ ho' hp _ (h2 y hy) ((bound y (List.mem_append_right _ hy) ht).2 (h2 y hy) o' ho');rw[hi]at this;cases this
 have key:∀k,j8 k x.2.2=true->∀(y:Fx),j8 k y.2.2=true->Clear y.2.2 x.2.2->False:=λk hx y hy hcl=>hcl.fT hy hx (AE hy) (AE hx);refine⟨λt=>qf (Mo t) λXG y oy _ hdy hty hoff _=>?_,λlv sl=>?_,λv=>qf (ZW v) λXG y _ _ _ hty _ hcl=>key _ XG y hty hcl,qf nvV λXG y _ _ _ hty _ hcl=>hcl.all (.inl hty) (uh hty) (uh XG)⟩;.simp[Mo,beq_iff_eq]at XG hty;exact hoff.ne t (hdy▸hty) (hd▸XG)
 .have:=qf (Vw lv sl) λXG y _ _ _ hty _ hcl=>key _ XG y hty hcl;simp[Vw,Prod.mk.injEq]at this;exact this.1
end
end Go.bJ
namespace Go.bJ
open Go Go.RowKit
section
variable{P:Program}{X:Cx}{nt:Nat}{s:St}{a:Act}{aO:Nat}{call:Go.bJ.Call}{sh:Nat->Bool}{eB:Nat->Option TypeId}
theorem fo.put{Y:Cx}{dst:Option Nat}{r:hU}{v:Value}(hs:fo X nt s a)(hx:Ext X Y)(hv:VR Y r.val v)(hm:aH Y (s.app dst r).mem (s.app dst r).aI)(hlt:dst.getD 0<nt):fo Y nt (s.app dst r) (a.put dst v):=by cases dst with|none=>refine⟨λt=>?_,hs.size,hs.defers,hm⟩;rw[o9];exact(hs.slots t).ext hx|some d=>
  simp at hlt;refine⟨λt=>?_,by simp[Act.put,hs.size],hs.defers,hm⟩;rw[o9,sZ];simp only[Option.some.injEq];by_cases h:d=t
  .subst h;have:((a.put (some d) v).tmps.getD d undef)=v:=by simp[Act.put,hs.size,hlt]
   grind
  .rw[if_neg h];have:((a.put (some d) v).tmps.getD t undef)=a.tmps.getD t undef:=by simp[Act.put,Array.getElem?_setIfInBounds_ne h]
   rw[this];exact(hs.slots t).ext hx
theorem Dw(hs:fo X nt s a){ops:Array Oper}{o:Oper}{ao:bz}(hgd:gdP ops o.guard=some ao.gd){b:Bool}(hw:jB s.slots ao=some b):Region.wanted o (yielded ops a.tmps)=b:=by unfold jB at hw;unfold Region.wanted;cases hg:o.guard with|none=>grind[jG,gdP]|some jb=>
 obtain⟨j,w⟩:=jb;rw[hg]at hgd;obtain⟨d,hd,hgd⟩:=aN hgd;rw[<-hgd]at hw;simp at hw⊢;have hv:=hs.slots d;have hy:yielded ops a.tmps j=match a.tmps[d]?with|some (.bool b)=>some b|_=>none:=by unfold yielded<;>grind
 rw[hy];split at hw;.rename_i t ht;rw[ht]at hv;have hv:=VR.sc hv;cases h:a.tmps[d]?with|none=>rw[Array.getD_eq_getD_getElem?,h]at hv;cases hv|some v=>simp_all
 .rename_i vs ht;rw[ht]at hv;obtain⟨us,hu,_⟩:=hv;cases hw;cases h:a.tmps[d]?with|none=>rfl|some v=>simp_all
 grind
theorem Mq(cT:cM P call)(jw:∀f T,eB f=some T->kP P f T)(hs:fo X nt s a)(hfr:X.ρ aO=none)(Ay:aO<s.nv)(hdom:∀v,s.nv<=v->X.ρ v=none){ops:Array Oper}{i:Nat}{o:Oper}(hoi:ops[i]?=some o){ao:bz}(hop:Cz P eB o.op=some ao.op)(hd:ao.dst=o.dst)(hgd:gdP ops o.guard=some ao.gd)(hlt:ao.dst.getD 0<nt){r:hU}(hr:ao.step call sh s aO=some r){K:Act->World->Prop}{Q:Exit->Act->World->Prop}(hK:∀Y a',Ext X Y->fo Y nt (s.app ao.dst r) a'->fy X Y aO s.nv (s.app ao.dst r).nv->K a' Y.w):wpOp P ops Q i K a X.w:=by
 unfold wpOp;simp[hoi];unfold bz.step at hr;split at hr;.cases hr
 .rename_i hw;rw[Dw hs hgd hw];refine .inl (ZV (dst:=ao.dst) cT jw hs hfr Ay hdom hop hr K Q λY v hx hv hm hdm=>?_);rw[<-hd];exact hK Y _ hx (hs.put hx hv hm hlt) hdm
 .rename_i hw;rw[Dw hs hgd hw];cases hr;rw[<-hd];exact hK X _ (Ext.refl X) (hs.put (Ext.refl X) nA hs.mem hlt) (fy.refl _ _ _)
structure Ki(P:Program)(eB:Nat->Option TypeId)(nt:Nat)(ops:Array Oper)(all:List bz):Prop where
 len:all.length=ops.size
 at_:∀(i:Nat)(ao:bz),all[i]?=some ao->∃o:Oper,ops[i]?=some o/\Cz P eB o.op=some ao.op/\ao.dst=o.dst/\gdP ops o.guard=some ao.gd/\ao.dst.getD 0<nt
theorem yq{rows:List (Nat×Nat)}{ops:Array Oper}:∀{l:List (Oper×Nat)}{aL:List bz},wP P eB nt rows ops l=some aL->aL.length=l.length/\∀(i:Nat)(ao:bz),aL[i]?=some ao->∃(o:Oper)(b:Nat),l[i]?=some (o,b)/\ao.nh=b/\Cz P eB o.op=some ao.op/\ao.dst=o.dst/\gdP ops o.guard=some ao.gd/\ao.dst.getD 0<nt
 |[],aL,h=>by cases h<;>grind|(o,b)::r,aL,h=>by
  simp[wP]at h;split at h;.rename_i a' as' h1 h2;cases h;obtain⟨h3,h4⟩:=yq h2;refine⟨by simp[h3],λi ao hi=>?_⟩;cases i with
   |zero=>
    cases hi;unfold Xx at h1;split at h1
    .rename_i ap g hap hg;split at h1;.rename_i hlt;cases h1;exact⟨o,b,rfl,rfl,hap,rfl,hg,hlt⟩
     .cases h1
    .cases h1|succ i=>exact h4 i ao (by simpa using hi)
  .cases h
theorem Dx(cT:cM P call)(jw:∀f T,eB f=some T->kP P f T){ops:Array Oper}{all:List bz}(vz:Ki P eB nt ops all){mB:Nat}{Q:Exit->Act->World->Prop}:∀(l:List bz)(i:Nat)(s s':St)(X:Cx)(a:Act),(∀k,l[k]?=all[i+k]?)->kS call sh mB i l s=some s'->fo X nt s a->(∀k,i<=k->k<i+l.length->X.ρ (mB+k)=none)->mB+(i+l.length)<=s.nv->(∀v,s.nv<=v->X.ρ v=none)->(∀Y a',Ext X Y->fo Y nt s' a'->s.nv<=s'.nv->(∀v L,Y.ρ v=some L->X.ρ v=some L\/(mB<=v/\v<s'.nv))->Q .normal a' Y.w)->wpOps P ops Q (List.range' i l.length) a X.w
 |[],i,s,s',X,a,_,h,hs,_,_,_,hQ=>by cases h;exact hQ X a (Ext.refl X) hs (Nat.le_refl _) λ_ _ h=>.inl h|o::r,i,s,s',X,a,hall,h,hs,hfr,Ay,hdom,hQ=>by
  simp[kS]at h;split at h;.cases h
  .rename_i e he;have h0:=hall 0;obtain⟨oc,g1,g2,g3,g4,g5⟩:=vz.at_ i o h0.symm;simp[List.length_cons]at hfr Ay;refine Mq cT jw hs (hfr i (Nat.le_refl _) (by omega)) (by omega) hdom g1 g2 g3 g4 g5 he λY a' hx hs' hd=>?_;obtain⟨d1,d2⟩:=hd;refine Dx cT jw vz r (i+1) _ s' Y a' (λk=>by have:=hall (k+1);rw[List.getElem?_cons_succ]at this;rw[this];congr 1;omega) h hs' (λk h1 h2=>?_) (by omega) (λv hv=>?_) λZ a'' hz ZX hn CN=>?_;.cases hY:Y.ρ (mB+k)with|none=>rfl|some L=>grind
   .cases hY:Y.ρ v with|none=>rfl|some L=>grind
   .refine hQ Z a'' (hx.trans hz) ZX (Nat.le_trans d1 hn) λv L hv=>?_<;>grind
theorem Dy{p q:Nat->Bool}:∀{l:List Nat},(∀x,q x=true->p x=true)->(∃x∈l,p x=true/\q x=false)->l.countP q<l.countP p
 |[],_,⟨x,hx,_⟩=>by cases hx|y::r,h,⟨x,hx,h1,h2⟩=>by
  have mono:r.countP q<=r.countP p:=List.countP_mono_left λx _=>h x;rcases List.mem_cons.1 hx with rfl|hx;.grind
  .have:=Dy h ⟨x,hx,h1,h2⟩<;>grind
theorem AI{nh:List Nat}:∀{l:List Oper}{bs:List Nat}{i:Nat},Da nh i l bs=true->∀k o,l[k]?=some o->∃b,bs[k]?=some b/\E3 nh (i+k) o b=true|[],_,_,_,k,o,h=>by simp at h|o::r,[],i,h,_,_,_=>by simp[Da]at h|o::r,b::bs,i,h,k,o',hk=>by simp[Da,Bool.and_eq_true]at h;cases k with|zero=>grind|succ k=>obtain⟨b',h1,h2⟩:=AI h.2 k o' (by simpa using hk)<;>grind
structure QM(ops:Array Oper)(all:List bz):Prop where
 back:∀(i:Nat)(o:Oper),ops[i]?=some o->∀e∈o.after,Region.binds .any e=true->e.on<i
 nh:∀(i:Nat)(o:Oper)(ao:bz),ops[i]?=some o->all[i]?=some ao->∀k,k<i->ao.nh.testBit k=true->∃e∈o.after,Region.binds .any e=true/\(e.on=k\/(k<e.on/\∀ao',all[e.on]?=some ao'->ao'.nh.testBit k=true))
theorem ZY(cT:cM P call)(jw:∀f T,eB f=some T->kP P f T){ops:Array Oper}{all:List bz}(vz:Ki P eB nt ops all)(QN:QM ops all)(hap:lW [] all=true){mB:Nat}{s0:St}{L:List Fx}(QO:Mp call sh mB all s0 L){Q:Exit->Act->World->Prop}:∀(fuel:Nat)(listed:Array Bool)(X:Cx)(a:Act),listed.size=ops.size->(List.range ops.size).countP (λj=>!listed.getD j false)<=fuel->Ft all (λj=>listed.getD j false)->fo X nt (GH s0 L λj=>listed.getD j false) a->(∀k,k<ops.size->listed.getD k false=false->X.ρ (mB+k)=none)->mB+ops.size<=(GH s0 L λj=>listed.getD j false).nv->(∀v,(GH s0 L λj=>listed.getD j false).nv<=v->X.ρ v=none)->(∀Y a',Ext X Y->fo Y nt (jX s0 L) a'->(GH s0 L λj=>listed.getD j false).nv<=(jX s0 L).nv->(∀v M,Y.ρ v=some M->X.ρ v=some M\/(mB<=v/\v<(jX s0 L).nv))->Q .normal a' Y.w)->wpAny P .any ops Q fuel listed a X.w:=by
 have ZZ:∀(listed:Array Bool)(j:Nat),listed.size=ops.size->j<ops.size->listed.getD j true=listed.getD j false:=λlisted j h hj=>by simp[show j<listed.size by omega]
 have fin:∀(listed:Array Bool)(X:Cx)(a:Act),listed.size=ops.size->Region.ready .any ops listed=[]->fo X nt (GH s0 L λj=>listed.getD j false) a->(∀Y a',Ext X Y->fo Y nt (jX s0 L) a'->(GH s0 L λj=>listed.getD j false).nv<=(jX s0 L).nv->(∀v M,Y.ρ v=some M->X.ρ v=some M\/(mB<=v/\v<(jX s0 L).nv))->Q .normal a' Y.w)->Q .normal a X.w:=by
  intro listed X a hsz hr hs hQ;have hall:∀j,j<ops.size->listed.getD j false=true:=by intro j;induction j using Nat.strongRecOn with|_ j ih=>intro hj;cases hl:listed.getD j false with|true=>rfl|false=>have hm:j∈Region.ready .any ops listed:=mem_ready.2 ⟨by rw[ZZ _ _ hsz hj];exact hl,ops[j],Array.getElem?_eq_getElem hj,λe he hb=>by have:=QN.back j _ (Array.getElem?_eq_getElem hj) e he hb;exact ih _ this (by omega)⟩;rw[hr]at hm;cases hm
  have hst:(GH s0 L λj=>listed.getD j false)=jX s0 L:=by unfold GH;rw[List.filter_eq_self.2 λx hx=>hall x.1 (vz.len▸(QO.dom x.1).2 ⟨x,hx,rfl⟩)]
  rw[hst]at hs hQ;exact hQ X a (Ext.refl X) hs (Nat.le_refl _) λ_ _ h=>.inl h
 intro fuel;induction fuel with|zero=>
  intro listed X a hsz adG hc hs hfr Ay hdom hQ;have hr:Region.ready .any ops listed=[]:=by cases hr:Region.ready .any ops listed with|nil=>rfl|cons j r=>
    have hj:j∈Region.ready .any ops listed:=by rw[hr];exact List.mem_cons_self ..
    obtain⟨h1,o,h2,_⟩:=mem_ready.1 hj;have hlt:j<ops.size:=(Array.getElem?_eq_some_iff.1 h2).1;have:=List.countP_eq_zero.1 (Nat.le_zero.1 adG) j (List.mem_range.2 hlt);rw[ZZ _ _ hsz hlt]at h1;rw[h1]at this;exact absurd rfl this
  exact⟨hr,fin listed X a hsz hr hs hQ⟩|succ fuel ih=>
  intro listed X a hsz adG hc hs hfr Ay hdom hQ;refine⟨λhr=>fin listed X a hsz hr hs hQ,λi hi=>?_⟩;obtain⟨hl,o,ho,Z0⟩:=mem_ready.1 hi;have hlt:i<ops.size:=(Array.getElem?_eq_some_iff.1 ho).1;rw[ZZ _ _ hsz hlt]at hl;obtain⟨ao,hao⟩:∃ao,all[i]?=some ao:=⟨all[i]'(by rw[vz.len];exact hlt),List.getElem?_eq_getElem _⟩;obtain⟨o',g1,g2,g3,g4,g5⟩:=vz.at_ i ao hao;rw[ho]at g1;injection g1 with g1;subst g1;have hb:∀k,k<i->ao.nh.testBit k=true->listed.getD k false=true:=by
   intro k hk QS;obtain⟨e,he,XH,h⟩:=QN.nh i o ao ho hao k hk QS;have hon:=Z0 e he XH;rcases h with h|⟨h1,h2⟩;.rw[<-h];exact hon
   .have hlt':e.on<all.length:=by rw[vz.len];have:=QN.back i o ho e he XH;omega
    exact hc e.on _ (List.getElem?_eq_getElem hlt') hon k h1 (h2 _ (List.getElem?_eq_getElem hlt'))
  obtain⟨x,hx,rfl,hxd,hstep⟩:=QO.any hap hc hao hl hb;have hp':(λj=>(listed.setIfInBounds x.1 true).getD j false)=λj=>listed.getD j false||j==x.1:=by
   funext j;by_cases hj:j=x.1;.subst hj;simp[show x.1<listed.size by omega]
   .rw[getD_set_ne false (Ne.symm hj),show(j==x.1)=false from by simpa using hj,Bool.or_false]
  have hsame:=QO.after hap hc hx hao hxd hl hb;rw[<-hp']at hsame;refine Mq cT jw hs (hfr _ hlt hl) (by omega) hdom ho g2 g3 g4 g5 hstep λY a' hx' hs' hd=>?_;rw[<-hxd]at hs' hd;obtain⟨d1,d2⟩:=hd;rw[<-hsame.nv]at d1 d2;refine ih (listed.setIfInBounds x.1 true) Y a' (by simpa using hsz) ?_ ?_ ⟨λt=>?_,hs'.size,hs'.defers,hs'.mem.congr hsame.mem hsame.aI⟩ (λk hk NZ=>?_) (by omega) (λv hv=>?_) λZ a'' hz ZX hn CN=>?_;.have:=Dy (p:=λj=>!listed.getD j false) (q:=λj=>!(listed.setIfInBounds x.1 true).getD j false) (l:=List.range ops.size) (λj hj=>by have:=congrFun hp' j;rw[this]at hj;simp only[Bool.not_eq_true',Bool.or_eq_false_iff]at hj;simp only[Bool.not_eq_true'];exact hj.1) ⟨x.1,List.mem_range.2 hlt,by simp only[hl,Bool.not_false],by have:=congrFun hp' x.1;simp only[this,beq_self_eq_true,Bool.or_true,Bool.not_true]⟩;omega
  .rw[hp'];intro j oj hoj hj k hk QS;simp only[Bool.or_eq_true,beq_iff_eq]at hj⊢;rcases hj with hj|hj;.exact .inl (hc j oj hoj hj k hk QS)
   .subst hj;rw[hao]at hoj;injection hoj with hoj;subst hoj;exact .inl (hb k hk QS)
  .rw[hsame.slots];exact hs'.slots t
  .have hk':=congrFun hp' k;rw[hk']at NZ;simp only[Bool.or_eq_false_iff,beq_eq_false_iff_ne]at NZ;cases hY:Y.ρ (mB+k)with|none=>rfl|some M=>
    rcases d2 _ _ hY with h|h|h;.rw[hfr k hk NZ.1]at h;cases h
    .omega
    .omega
  .cases hY:Y.ρ v with|none=>rfl|some M=>
    rcases d2 _ _ hY with h|h|h;.rw[hdom v (by omega)]at h;cases h
    .omega
    .omega
  .refine hQ Z a'' (hx'.trans hz) ZX (Nat.le_trans d1 hn) λv M hv=>?_;rcases CN v M hv with h|h
   .rcases d2 v M h with h|h|h;.exact .inl h
    .exact .inr (by omega)
    .exact .inr (by omega)
   .exact .inr h
end
end Go.bJ
