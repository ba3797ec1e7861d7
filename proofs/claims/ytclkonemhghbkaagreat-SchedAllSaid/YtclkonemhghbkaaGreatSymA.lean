/- Parts of the proof. -/
import Derived.Test.YtclkonemhghbkaaGreatEngV
import Derived.ScopeJumps
import Derived.Test.YtclkonemhghbkaaGreatEngF
set_option linter.unusedVariables false
set_option linter.unusedSimpArgs false
set_option linter.defProp false
namespace Go.bK
open Go
abbrev Fx:=Nat×Option Nat×hU
def lE(s:St):List Fx->St|[]=>s|x::r=>lE (s.app x.2.1 x.2.2) r
def AO:∀(l l':List Fx)(s:St),lE s (l++l')=lE (lE s l) l'|[],_,_=>rfl|_::r,l',_=>AO r l' _
structure View(α:Type)where
 rX:St->α
 gJ:Fx->Bool
 good:Fx->Bool:=λ_=>true
 off:∀(s:St)(x:Fx),gJ x=false->rX (s.app x.2.1 x.2.2)=rX s
 on:∀(s s':St)(x:Fx),good x=true->rX s=rX s'->rX (s.app x.2.1 x.2.2)=rX (s'.app x.2.1 x.2.2)
section
variable{α:Type}(V:View α)
theorem View.congr:∀(l:List Fx){s s':St},(∀x∈l,V.good x=true)->V.rX s=V.rX s'->V.rX (lE s l)=V.rX (lE s' l)|[],_,_,_,h=>h|x::r,_,_,hg,h=>View.congr r (λy hy=>hg y (ci _ hy)) (V.on _ _ x (hg x (ca ..)) h)
theorem View.filter:∀(l:List Fx)(s:St),(∀x∈l,V.good x=true)->V.rX (lE s l)=V.rX (lE s (l.filter V.gJ))|[],_,_=>rfl|x::r,s,hg=>by have hr:∀y∈r,V.good y=true:=λy hy=>hg y (ci _ hy);cases h:V.gJ x with|true=>simp only[pD,h,i5,lE];exact View.filter r _ hr|false=>simp only[pD,h,lE,jp,ns];exact(View.congr V r hr (V.off s x h)).trans (View.filter r s hr)
end
def vk(t:Tr AV)(dst:Option Nat)(v:AV)(n:Nat):dV (n9 t dst v) n=if dst=some n then v else dV t n:=by unfold dV n9;cases dst with|none=>simp|some d=>simp[Tr.cK,dT]<;>grind
def qR(s:St)(d:Option Nat)(r:hU):(s.app d r).slots=n9 s.slots d r.val:=by cases r<;>rfl
def PA(t:Nat):View AV where
 rX s:=dV s.slots t;gJ x:=x.2.1==some t;off s x h:=by rw[qR,vk,be (by simpa using h)]
 on s s' x _ h:=by rw[qR,qR,vk,vk,h]
def nu(m:List (Tr bq))(lv sl:Nat)(e:Option bq):(bJ m lv sl e).length=m.length:=by simp[bJ]
def dX:∀(u:List (Nat×Nat×Option bq))(m:List (Tr bq)),(aT m u).length=m.length|[],_=>rfl|(lv,sl,e)::r,m=>(dX r _).trans (nu m lv sl e)
def isAll:hU->Bool|.bT _=>false|.all ..=>true
def whole:hU->Bool|.bT _=>false|.all _ _ _ _ kp kr=>(kp++kr).isEmpty
def arW:View Nat where
 rX s:=s.mem.length;gJ x:=whole x.2.2;off s x h:=by obtain⟨i,d,r⟩:=x;cases r with|bT e=>exact dX _ _|all v m t n kp kr=>refine nN ?_;intro q;simp only[whole,q]at h;cases h
 on s s' x _ h:=by obtain⟨i,d,r⟩:=x;cases r with|bT e=>exact(dX _ _).trans (h.trans (dX _ _).symm)|all v m t n kp kr=>show(back s.mem m (kp++kr)).length=(back s'.mem m (kp++kr)).length;cases kp++kr with|nil=>rfl|cons k r=>exact(nN (kp:=k::r) (by simp)).trans (h.trans (nN (kp:=k::r) (by simp)).symm)
def nvV:View Nat where
 rX s:=s.nv;gJ x:=isAll x.2.2;off s x h:=by obtain⟨i,d,r⟩:=x;cases r with|bT e=>rfl|all=>cases h
 on s s' x _ h:=by obtain⟨i,d,r⟩:=x;cases r with|bT e=>exact h|all=>rfl
def xU{lv sl:Nat}:∀(u:List (Nat×Nat×Option bq))(m m':List (Tr bq)),aH m lv sl=aH m' lv sl->m.length=m'.length->aH (aT m u) lv sl=aH (aT m' u) lv sl|[],_,_,h,_=>h|(a,b,e)::r,m,m',h,hl=>xU r _ _ (by rw[cO,cO,h,hl]) (by grind[aH,bJ])
def xV{lv sl:Nat}:∀(u:List (Nat×Nat×Option bq))(m:List (Tr bq)),bU lv sl∉u.map (λu=>bU u.1 u.2.1)->aH (aT m u) lv sl=aH m lv sl|[],_,_=>rfl|(a,b,e)::r,m,h=>by simp only[f1,dj,sm]at h;rw[aT,xV r _ h.2,cO,be]<;>grind
def xW{v:Nat}:∀(u:List (Nat×Bool))(m m':Tr Unit),m.get? v=m'.get? v->(eV m u).get? v=(eV m' u).get? v|[],_,_,h=>h|(a,b)::r,m,m',h=>xW r _ _ (by rw[Tr.cK,Tr.cK,h])
def xX{v:Nat}:∀(u:List (Nat×Bool))(m:Tr Unit),ku v∉u.map (λu=>ku u.1)->(eV m u).get? v=m.get? v|[],_,_=>rfl|(a,b)::r,m,h=>by simp only[f1,dj,sm]at h;rw[eV,xX r _ h.2,Tr.cK,be]<;>grind
def PB(kp:List (Nat×Nat))(k:Nat×Nat×Nat):Prop:=∃p∈kp,k=bU p.1 p.2
def PB.mem{kp:List (Nat×Nat)}{lv sl:Nat}(h:PB kp (bU lv sl)):(lv,sl)∈kp:=by obtain⟨p,hp,he⟩:=h;obtain⟨rfl,rfl⟩:=tI he;exact hp
def inK(kp:List (Nat×Nat))(k:Nat×Nat×Nat):Bool:=kp.any λp=>k==bU p.1 p.2
def rY{kp:List (Nat×Nat)}{k:Nat×Nat×Nat}:inK kp k=true↔PB kp k:=by
 unfold inK PB;rw[kx];constructor;.rintro⟨p,hp,he⟩;exact⟨p,hp,by simpa using he⟩
 .rintro⟨p,hp,he⟩;exact⟨p,hp,by simpa using he⟩
def ki(k:Nat×Nat×Nat):hU->Bool|.bT e=>decide (k∈e.wr)|.all _ _ _ _ kp kr=>!inK (kp++kr) k
def aau(lv sl:Nat):View (Option bq×Nat)where
 rX s:=(aH s.mem lv sl,s.mem.length);gJ x:=ki (bU lv sl) x.2.2;off s x h:=by obtain⟨i,d,r⟩:=x;cases r with|bT e=>simp only[ki,fD.wr,bj,sm,mt]at h;simp only[St.app,dX,xV _ _ h.1]|all v m t n kp kr=>
  simp only[ki,lj]at h;have hk:=(rY.1 h).mem;have hne:kp++kr≠[]:=by intro q;rw[q]at hk;cases hk
  simp only[St.app,nN hne,tX,be hne,ba hk]
 on s s' x _ h:=by obtain⟨i,d,r⟩:=x;simp only[eJ]at h;cases r with|bT e=>simp only[St.app,dX,xU _ _ _ h.1 h.2,h.2]|all v m t n kp kr=>simp only[St.app];cases kp++kr with|nil=>rfl|cons k r=>
   have hne:k::r≠[]:=by simp
   simp only[nN hne,tX,be hne,h.1,h.2]
def aeJ(v:Nat):View (Option Unit)where
 rX s:=s.aI.get? v;gJ x:=ki (ku v) x.2.2;off s x h:=by obtain⟨i,d,r⟩:=x;cases r with|bT e=>simp only[ki,fD.wr,bj,sm,mt]at h;exact xX _ _ h.2|all v' m t n kp kr=>simp only[ki,lj]at h;obtain⟨p,_,hp⟩:=rY.1 h;exact(dW hp.symm).elim
 on s s' x _ h:=by obtain⟨i,d,r⟩:=x;cases r with|bT e=>exact xW _ _ _ h|all=>rfl
def Clear:hU->hU->Prop|.bT a,.bT b=>(∀k∈a.rd,k∉b.wr)/\(∀k∈a.wr,k∉b.rd)/\∀k∈a.wr,k∉b.wr|.all _ _ _ _ kp kr,.bT b=>(∀k∈b.rd,PB (kp++kr) k)/\∀k∈b.wr,PB kp k|.bT a,.all _ _ _ _ kp kr=>(∀k∈a.rd,PB (kp++kr) k)/\∀k∈a.wr,PB kp k|.all ..,.all ..=>False
def Clear.symm{a b:hU}(h:Clear a b):Clear b a:=by
 cases a<;>cases b;.exact⟨λk hk h'=>h.2.1 k h' hk,λk hk h'=>h.1 k h' hk,λk hk h'=>h.2.2 k h' hk⟩
 .exact h
 .exact h
 .exact h
def wz{a b:List (Nat×Nat×Nat)}(h:meets a b=false):∀k∈a,k∉b:=by intro k hk hb;have:meets a b=true:=kx.2 ⟨k,hk,by simpa using hb⟩;rw[this]at h;cases h
def AP{kp kr:List (Nat×Nat)}{e:fD}(h:within kp kr e=true):(∀k∈e.rd,PB (kp++kr) k)/\∀k∈e.wr,PB kp k:=by unfold within at h;rw[al]at h;exact⟨λk hk=>rY.1 (eQ.1 h.1 k hk),λk hk=>rY.1 (eQ.1 h.2 k hk)⟩
def PB.left{kp kr:List (Nat×Nat)}{k:Nat×Nat×Nat}(h:PB kp k):PB (kp++kr) k:=by obtain⟨p,hp,he⟩:=h;exact⟨p,dk _ hp,he⟩
def ND{a b:hU}(h:tG a b=false):Clear a b:=by
 cases a<;>cases b;.simp only[tG,i9]at h;exact⟨wz h.1.1,wz h.1.2,wz h.2⟩
 .simp only[tG,lj]at h;exact AP h
 .simp only[tG,lj]at h;exact AP h
 .cases h
def Ue{e:fD}(h:xm (.bT e)=true):∃k,k∈e.rd++e.wr:=by
 simp only[xm,d6,Bool.and_eq_false_iff]at h;rcases h with(h|h)|h;.cases hr:e.rd with|nil=>rw[hr]at h;cases h|cons k r=>exact⟨k,by simp⟩
 .cases hr:e.dn with|nil=>rw[hr]at h;cases h|cons k r=>exact⟨bU k.1 k.2.1,by simp[fD.wr,hr]⟩
 .cases hr:e.cR with|nil=>rw[hr]at h;cases h|cons k r=>exact⟨ku k.1,by simp[fD.wr,hr]⟩
def Clear.whole{a b:hU}(h:Clear a b)(ha:whole a=true)(hb:xm b=true):False:=by cases a with|bT=>cases ha|all v m t n kp kr=>have ha:kp++kr=[]:=se.1 ha;cases b with|all=>exact h|bT e=>
 obtain⟨k,hk⟩:=Ue hb;have:PB (kp++kr) k:=by
  rcases bj.1 hk with hk|hk;.exact h.1 k hk
  .exact(h.2 k hk).left
 rw[ha]at this;obtain⟨p,hp,_⟩:=this;cases hp
def Clear.arY{a b:hU}(h:Clear a b)(ha:isAll a=true)(hb:isAll b=true):False:=by cases a with|bT=>cases ha|all=>cases b with|bT=>cases hb|all=>exact h
def Clear.gJ{a b:hU}(h:Clear a b){k:Nat×Nat×Nat}(ha:ki k a=true)(hb:ki k b=true):False:=by
 cases a<;>cases b;.simp only[ki,db]at ha hb;exact h.2.2 k ha hb
 .simp only[ki,db,d6]at ha hb;exact Bool.noConfusion (hb.symm.trans (rY.2 (h.2 k ha).left))
 .simp only[ki,db,d6]at ha hb;exact Bool.noConfusion (ha.symm.trans (rY.2 (h.2 k hb).left))
 .exact h
def Tr.set_set{α:Type}:∀(f g:Nat)(t:Tr α)(n:Nat)(x y:Option α),n<f->n<g->Tr.vE f (Tr.vE g t n x) n y=Tr.vE f t n y|0,_,_,_,_,_,h,_=>by omega|_+1,0,_,_,_,_,_,h=>by omega|f+1,g+1,t,n,x,y,hf,hg=>by cases h0:Nat.beq n 0with|true=>simp only[Tr.vE,h0,Tr.left,Tr.right]|false=>
 have hn:n≠0:=by rintro rfl;cases h0
 cases h1:Nat.beq (n%2) 1with|true=>simp only[Tr.vE,h0,h1,Tr.top,Tr.left,Tr.right];rw[Tr.set_set f g _ _ _ _ (by omega) (by omega)]|false=>simp only[Tr.vE,h0,h1,Tr.top,Tr.left,Tr.right];rw[Tr.set_set f g _ _ _ _ (by omega) (by omega)]
def Tr.set_comm{α:Type}:∀(f g:Nat)(t:Tr α)(n m:Nat)(x y:Option α),n<f->m<g->n≠m->Tr.vE f (Tr.vE g t m y) n x=Tr.vE g (Tr.vE f t n x) m y
 |0,_,_,_,_,_,_,h,_,_=>by omega|_+1,0,_,_,_,_,_,_,h,_=>by omega|f+1,g+1,t,n,m,x,y,hf,hg,hne=>by
  have b:∀k,Nat.beq k 0=true->k=0:=λk h=>am h;have c:∀k,Nat.beq k 0=false->k≠0:=λk h=>by rintro rfl;cases h
  have d:∀k,Nat.beq (k%2) 1=true->k%2=1:=λk h=>am h;have e:∀k,Nat.beq (k%2) 1=false->k%2≠1:=λk h q=>by rw[q]at h;cases h
  simp only[Tr.vE];cases hn:Nat.beq n 0<;>cases hm:Nat.beq m 0<;>cases hn1:Nat.beq (n%2) 1<;>cases y7:Nat.beq (m%2) 1<;>simp only[Tr.top,Tr.left,Tr.right];all_goals first|rfl|(exfalso;have:=b _ hn;have:=b _ hm;omega)|(have h1:=c _ hn;have h2:=c _ hm;first|(have h3:=d _ hn1;have h4:=d _ y7;rw[Tr.set_comm f g _ _ _ _ _ (by omega) (by omega) (by omega)])|(have h3:=e _ hn1;have h4:=e _ y7;rw[Tr.set_comm f g _ _ _ _ _ (by omega) (by omega) (by omega)])|rfl)
def Kl(m:List (Tr bq))(lv sl:Nat)(x y:Option bq):bJ (bJ m lv sl x) lv sl y=bJ m lv sl y:=by unfold bJ;rw[tx];congr 1;funext t;exact Tr.set_set _ _ _ _ _ _ (by omega) (by omega)
def Km(m:List (Tr bq)){lv sl cy cU:Nat}(x y:Option bq)(h:(lv,sl)≠(cy,cU)):bJ (bJ m lv sl x) cy cU y=bJ (bJ m cy cU y) lv sl x:=by
 unfold bJ;by_cases hl:lv=cy;.subst hl;rw[tx,tx];congr 1;funext t;exact Tr.set_comm _ _ _ _ _ _ _ (by omega) (by omega) (λq=>h (by rw[q]))
 .exact List.modify_modify_ne _ _ _ hl
def qS:∀(kp:List (Nat×Nat))(m:List (Tr bq))(lv sl:Nat)(e:Option bq),j8 (bJ m lv sl e) kp=if(lv,sl)∈kp then j8 m kp else bJ (j8 m kp) lv sl e
 |[],m,lv,sl,e=>by simp[j8,aT]|(a,b)::r,m,lv,sl,e=>by
    show j8 (bJ (bJ m lv sl e) a b none) r=_;by_cases hab:(lv,sl)=(a,b);.injection hab with h1 h2;subst h1;subst h2;rw[ba (ca ..),Kl];rfl
    . rw[Km m e none hab,qS r];by_cases hr:(lv,sl)∈r;.rw[ba hr,ba (ci _ hr)];rfl
      . rw[be hr,be];.rfl
        . intro h;rcases dj.1 h with h|h;.exact hab h
          .exact hr h
def AQ{kp:List (Nat×Nat)}:∀(u:List (Nat×Nat×Option bq))(m:List (Tr bq)),(∀x∈u,(x.1,x.2.1)∈kp)->j8 (aT m u) kp=j8 m kp|[],_,_=>rfl|(a,b,e)::r,m,h=>by rw[aT,AQ r _ λx hx=>h x (ci _ hx),qS,ba (h _ (ca ..))]
def Ko{kp:List (Nat×Nat)}:∀(u:List (Nat×Nat×Option bq)){m m':List (Tr bq)},j8 m kp=j8 m' kp->j8 (aT m u) kp=j8 (aT m' u) kp|[],_,_,h=>h|(a,b,e)::r,m,m',h=>by refine Ko r ?_;rw[qS,qS,h]
def Uf{old old' m:List (Tr bq)}(h:old.length=old'.length):fit old m=fit old' m:=by unfold fit;rw[h]
def Gj{m m':List (Tr bq)}{kp:List (Nat×Nat)}(h:j8 m kp=j8 m' kp):∀(l:List (Nat×Nat)){F F':List (Tr bq)},j8 F kp=j8 F' kp->j8 (aT F (l.map λk=>(k.1,k.2,aH m k.1 k.2))) kp=j8 (aT F' (l.map λk=>(k.1,k.2,aH m' k.1 k.2))) kp
 |[],_,_,hF=>hF|(a,b)::r,F,F',hF=>by
  refine Gj h r ?_;rw[qS,qS];by_cases hk:(a,b)∈kp;.rw[ba hk,ba hk,hF]
  .rw[be hk,be hk,hF];have e1:=p7 m kp a b;have e2:=p7 m' kp a b;rw[be hk]at e1 e2;rw[<-e1,<-e2,h]
def aeK(kp:List (Nat×Nat)):View (List (Tr bq)×Tr Unit×Nat)where
 rX s:=(j8 s.mem kp,s.aI,s.nv);gJ x:=match x.2.2with|.bT e=>!(e.dn.all (λu=>decide ((u.1,u.2.1)∈kp))&&e.cR.isEmpty)|.all ..=>true;off s x h:=by obtain⟨i,d,r⟩:=x;cases r with|bT e=>simp only[lj,al,se]at h;simp only[St.app,h.2];rw[AQ e.dn s.mem λu hu=>by simpa using eQ.1 h.1 u hu];rfl|all=>cases h
 on s s' x _ h:=by obtain⟨i,d,r⟩:=x;simp only[eJ]at h;cases r with|bT e=>simp only[St.app,h.2.1,h.2.2,Ko e.dn h.1]|all v m t n kp' kr'=>
  have hl:=Kj h.1;have:j8 (back s.mem m (kp'++kr')) kp=j8 (back s'.mem m (kp'++kr')) kp:=by cases kp'++kr' with|nil=>rfl|cons k r=>unfold back;rw[Uf hl];exact Gj h.1 (k::r) rfl
  simp only[St.app,this]
def C5{l:List Nat}{n:Nat}:M8 l n=true↔n∈l:=by simp_all[M8]
structure Off(x y:bI):Prop where
 xy:∀t,x.dst=some t->t∉y.looks
 yx:∀t,y.dst=some t->t∉x.looks
 ne:∀t,x.dst=some t->y.dst≠some t
def Off.symm{x y:bI}(h:Off x y):Off y x:=⟨h.yx,h.xy,λt h1 h2=>h.ne t h2 h1⟩
def apart_spec{x y:bI}(h:x.apart y=true):Off x y:=by
 simp[bI.apart,al]at h;refine⟨λt ht hm=>?_,λt ht hm=>?_,λt ht h'=>?_⟩;.have:=h.1.1;simp[Cz,ht,C5.2 hm]at this
 .have:=h.1.2;simp[Cz,ht,C5.2 hm]at this
 simp_all[Pk,Cz]
def NF{call:Call}{sh:Nat->Bool}{s s':St}{o:bI}{aP:Nat}{r:hU}(h:o.step call sh s aP=some r)(hs:∀t∈o.looks,dV s'.slots t=dV s.slots t)(hn:C2 s s' r):o.step call sh s' aP=some r:=by
 have hw:js s'.slots o=js s.slots o:=by unfold js;split<;>simp_all[C2,bI.looks,bI.step,Call,dV]
 unfold bI.step at h⊢;rw[hw];split at h;.cases h
 .refine Rl h (λx hx=>?_) hn;cases x with|t n=>exact hs n (by simp only[bI.looks,bj,nl];exact .inl ⟨_,hx,by simp[cu.slot]⟩)|c v=>rfl
 omega
structure PC(call:Call)(sh:Nat->Bool)(mC:Nat)(all:List bI)(s0:St)(L:List Fx):Prop where
 lt:L.Pairwise λx y=>x.1<y.1dom:∀i,i<all.length↔∃x∈L,x.1=i
 step:∀pre x post,L=pre++x::post->∃o,all[x.1]?=some o/\x.2.1=o.dst/\o.step call sh (lE s0 pre) (mC+x.1)=some x.2.2meet:∀x y,x∈L->y∈L->x.1<y.1->∀o,all[y.1]?=some o->o.oS.testBit x.1=true\/Clear x.2.2 y.2.2
def C6{oS:Nat}{e:hU}:∀{eR:List (Nat×hU)},clear oS e eR=true->∀y∈eR,oS.testBit y.1=true\/Clear y.2 e
 |[],_,y,hy=>by cases hy|(i,x)::r,h,y,hy=>by
  simp[clear,al,gc,d6]at h;rcases dj.1 hy with rfl|hy;.exact h.1.imp id ND
  .exact C6 h.2 y hy
def xY{call:Call}{sh:Nat->Bool}{mC:Nat}{all:List bI}:∀(ops:List bI)(i:Nat)(eR:List (Nat×hU))(s s':St),(∀k,ops[k]?=all[i+k]?)->ke call sh mC i ops eR s=some s'->∃L:List Fx,s'=lE s L/\L.map (·.1)=List.range' i ops.length/\(∀pre x post,L=pre++x::post->∃o,all[x.1]?=some o/\x.2.1=o.dst/\o.step call sh (lE s pre) (mC+x.1)=some x.2.2/\(∀y∈pre,o.oS.testBit y.1=true\/Clear y.2.2 x.2.2)/\∀y∈eR,o.oS.testBit y.1=true\/Clear y.2 x.2.2)
 |[],i,eR,s,s',_,h=>by simp[ke,dT]at h;exact⟨[],h.symm,rfl,λpre x post h=>by simp at h⟩|o::r,i,eR,s,s',hall,h=>by
    simp[ke]at h;split at h;.cases h
    . rename_i e he;split at h;.rename_i hc;obtain⟨L,h1,h2,h3⟩:=xY r (i+1) ((i,e)::eR) _ _ (λk=>by have:=hall (k+1);rw[List.getElem?_cons_succ]at this;rw[this];congr 1;omega) h;refine⟨(i,o.dst,e)::L,h1,by simp[h2,List.range'_succ],λpre x post hp=>?_⟩;cases pre with|nil=>cases hp;exact⟨o,by have:=hall 0;simpa using this.symm,rfl,he,⟨λy hy=>absurd hy dC,λy hy=>C6 hc y hy⟩⟩|cons p pre=>
       simp at hp;obtain⟨rfl,hp⟩:=hp;obtain⟨o',g1,g2,g3,g4,g5⟩:=h3 pre x post hp;refine⟨o',g1,g2,g3,λy hy=>?_,λy hy=>g5 y (ci _ hy)⟩;rcases dj.1 hy with rfl|hy;.exact g5 _ (ca ..)
       .exact g4 y hy
      .cases h
def PC.aeL{call:Call}{sh:Nat->Bool}{mC:Nat}{all:List bI}{s s':St}(h:ke call sh mC 0 all [] s=some s'):∃L,s'=lE s L/\PC call sh mC all s L:=by
  obtain⟨L,h1,h2,h3⟩:=xY (all:=all) all 0 [] s s' (λk=>by simp) h;refine⟨L,h1,?_,λi=>?_,λpre x post hp=>?_,λx y hx hy hlt o ho=>?_⟩
  . have:(L.map (·.1)).Pairwise (·<·):=by rw[h2];exact List.pairwise_lt_range'
    exact List.pairwise_map.1 this
  . have:i∈L.map (·.1)↔i<all.length:=by rw[h2,List.mem_range'_1];omega
    rw[<-this,i6]
  .obtain⟨o,g1,g2,g3,_⟩:=h3 pre x post hp;exact⟨o,g1,g2,g3⟩
  . obtain⟨pre,post,rfl⟩:=wa hy;obtain⟨o',g1,g2,g3,g4,_⟩:=h3 pre y post rfl;rw[ho]at g1;cases g1;refine g4 x ?_;have hL:(pre++y::post).Pairwise λx y:Fx=>x.1<y.1:=by
      have:((pre++y::post).map (·.1)).Pairwise (·<·):=by rw[h2];exact List.pairwise_lt_range'
      exact List.pairwise_map.1 this
    rcases bj.1 hx with hx|hx;.exact hx
    . rcases dj.1 hx with rfl|hx;.omega
      .have:=(pb.1 (t7.1 hL).2.1).1 x hx;omega
def xZ{y:bI}:∀{eR:List bI}{i:Nat},B1 y i eR=true->∀k x,eR[k]?=some x->y.oS.testBit (i+k)=true\/Off x y|[],_,_,k,x,hx=>by grind|p::r,i,h,k,x,hx=>by simp[B1,al,gc]at h;cases k with|zero=>cases hx;exact h.1.imp id apart_spec|succ k=>have:=xZ h.2 k x (by simpa using hx);rwa[show i+(k+1)=i+1+k by omega]
def vP:∀{l eR:List bI},nH eR l=true->∀i j x y,(eR++l)[i]?=some x->(eR++l)[j]?=some y->i<j->eR.length<=j->y.oS.testBit i=true\/Off x y
 |[],eR,_,i,j,x,y,_,hy,_,hj=>by grind|o::r,eR,h,i,j,x,y,hx,hy,hij,hj=>by
    simp[nH,al]at h;rcases im eR.length j with hl|hl
    . have e:eR++o::r=eR++[o]++r:=by simp
      rw[e]at hx hy;exact vP h.2 i j x y hx hy hij (by simp;omega)
    . have:j=eR.length:=by omega
      subst this;simp at hy;rw[nz hij]at hx;have:=xZ h.1 i x hx<;>grind
section
variable{call:Call}{sh:Nat->Bool}{mC:Nat}{all:List bI}{s0:St}{L:List Fx}
def JB(s0:St)(L:List Fx)(p:Nat->Bool):St:=lE s0 (L.filter λx=>p x.1)
def Iw(all:List bI)(p:Nat->Bool):Prop:=∀j o,all[j]?=some o->p j=true->∀k,k<j->o.oS.testBit k=true->p k=true
def PC.split(h:PC call sh mC all s0 L){i:Nat}(hi:i<all.length):∃pre x post,L=pre++x::post/\x.1=i/\(∀y∈pre,y.1<i)/\∀y∈post,i<y.1:=by
 obtain⟨x,hx,rfl⟩:=(h.dom i).1 hi;obtain⟨pre,post,rfl⟩:=wa hx;refine⟨pre,x,post,rfl,rfl,λy hy=>?_,λy hy=>?_⟩;.exact(t7.1 h.lt).2.2 y hy x (ca ..)
 .exact(pb.1 (t7.1 h.lt).2.1).1 y hy
def Kp(all:List bI)(i:Nat)(y:Fx):Prop:=(y.1<i->∀o,all[i]?=some o->o.oS.testBit y.1=true)/\(i<y.1->∀o,all[y.1]?=some o->o.oS.testBit i=true)
def part{α:Type}(V:View α){pre post:List Fx}{x:Fx}{p:Nat->Bool}(hg:∀y∈pre++x::post,V.good y=true)(hpre:∀y∈pre,V.gJ y=true->p y.1=true)(hpost:∀y∈post,V.gJ y=true->p y.1=false)(hx:p x.1=false)(s:St):V.rX (lE s ((pre++x::post).filter λx=>p x.1))=V.rX (lE s pre):=by
 rw[V.filter _ _ λy hy=>hg y ((ti.1 hy).1),V.filter pre _ λy hy=>hg y (dk _ hy),rm,vy,pD];simp only[hx,gg,jp,ns];have e1:post.filter (λa=>V.gJ a&&p a.1)=[]:=by refine tb.2 λy hy hb=>?_<;>grind
 have e2:pre.filter (λa=>V.gJ a&&p a.1)=pre.filter V.gJ:=by refine wd λy hy=>?_<;>grind
 grind
def C7{α:Type}(V:View α){p:Nat->Bool}(hc:Iw all p){pre post:List Fx}{x:Fx}(hg:∀y∈pre++x::post,V.good y=true)(hpre:∀y∈pre,y.1<x.1)(hpost:∀y∈post,x.1<y.1)(hi:p x.1=false){o:bI}(ho:all[x.1]?=some o)(hb:∀k,k<x.1->o.oS.testBit k=true->p k=true)(hdom:∀y∈post,∃o',all[y.1]?=some o')(hV:∀y∈pre++post,V.gJ y=true->Kp all x.1 y)(s:St):V.rX (JB s (pre++x::post) p)=V.rX (lE s pre):=by
 refine part V hg (λy hy ht=>?_) (λy hy ht=>?_) hi s;.exact hb _ (hpre y hy) ((hV y (dk _ hy) ht).1 (hpre y hy) o ho)
 .obtain⟨o',ho'⟩:=hdom y hy;cases hp:p y.1with|false=>rfl|true=>have:=hc _ _ ho' hp _ (hpost y hy) ((hV y (dt _ hy) ht).2 (hpost y hy) o' ho')<;>grind
def ajI{α:Type}(V:View α){pre post:List Fx}{x:Fx}{p:Nat->Bool}(hg:∀y∈pre++x::post,V.good y=true)(hpre:∀y∈pre,V.gJ y=true->p y.1=true)(hpost:∀y∈post,V.gJ y=true->p y.1=false)(hx:p x.1=true)(s:St):V.rX (lE s ((pre++x::post).filter λx=>p x.1))=V.rX ((lE s pre).app x.2.1 x.2.2):=by
 have e0:(lE s pre).app x.2.1 x.2.2=lE s (pre++[x]):=by rw[AO];rfl
 rw[e0,V.filter _ _ λy hy=>hg y ((ti.1 hy).1),V.filter (pre++[x]) _ λy hy=>hg y (by rcases bj.1 hy with hy|hy<;>simp_all),rm,vy,vy];have e1:(x::post).filter (λa=>V.gJ a&&p a.1)=[x].filter V.gJ:=by
  have e1:post.filter (λa=>V.gJ a&&p a.1)=[]:=by refine tb.2 λy hy hb=>?_<;>grind
  grind
 have e2:pre.filter (λa=>V.gJ a&&p a.1)=pre.filter V.gJ:=by refine wd λy hy=>?_<;>grind
 grind
def PC.pair(h:PC call sh mC all s0 L)(hap:nH [] all=true){x y:Fx}(hx:x∈L)(hy:y∈L)(hne:y.1≠x.1){o oy:bI}(ho:all[x.1]?=some o)(hoy:all[y.1]?=some oy):Kp all x.1 y\/(Off oy o/\Clear y.2.2 x.2.2):=by
  have key:=λi j a b(ha:all[i]?=some a)(hb:all[j]?=some b)(hij:i<j)=>vP (eR:=[]) hap i j a b (by simpa using ha) (by simpa using hb) hij (t6 _);rcases Nat.lt_or_gt_of_ne hne with hl|hl;.have b:o.oS.testBit y.1=true->Kp all x.1 y:=λhb=>⟨λ_ o' ho'=>by rw[ho]at ho';injection ho' with ho';rw[<-ho'];exact hb,λh=>by omega⟩;rcases h.meet y x hy hx hl o ho with h1|h1<;>grind
  . have b:oy.oS.testBit x.1=true->Kp all x.1 y:=λhb=>⟨λh=>by omega,λ_ o' ho'=>by rw[hoy]at ho';injection ho' with ho';rw[<-ho'];exact hb⟩;rcases h.meet x y hx hy hl oy hoy with h1|h1;.grind
    . rcases key _ _ _ _ ho hoy hl with h2|h2;.exact .inl (b h2)
      .exact .inr ⟨h2.symm,h1.symm⟩
def PC.at(h:PC call sh mC all s0 L){y:Fx}(hy:y∈L):∃o,all[y.1]?=some o/\y.2.1=o.dst:=by obtain⟨pre,post,rfl⟩:=wa hy;obtain⟨o,h1,h2,_⟩:=h.step pre y post rfl<;>grind
def PC.any(h:PC call sh mC all s0 L)(hap:nH [] all=true){p:Nat->Bool}(hc:Iw all p){i:Nat}{o:bI}(ho:all[i]?=some o)(hi:p i=false)(hb:∀k,k<i->o.oS.testBit k=true->p k=true):∃x∈L,x.1=i/\x.2.1=o.dst/\o.step call sh (JB s0 L p) (mC+i)=some x.2.2:=by
 obtain⟨pre,x,post,rfl,rfl,h1,h2⟩:=h.split (cb.1 ho).1;obtain⟨o',g1,g2,g3⟩:=h.step pre x post rfl;rw[ho]at g1;cases g1;have hmem:x∈pre++x::post:=by simp
 refine⟨x,hmem,rfl,g2,?_⟩;have rX:∀{α:Type}(V:View α),(∀y∈pre++x::post,V.good y=true)->(∀y oy,y∈pre++x::post->all[y.1]?=some oy->y.2.1=oy.dst->V.gJ y=true->Off oy o->Clear y.2.2 x.2.2->False)->V.rX (JB s0 (pre++x::post) p)=V.rX (lE s0 pre):=by
    intro α V hg hV;refine C7 V hc hg h1 h2 hi ho hb (λy hy=>?_) (λy hy ht=>?_) s0;.obtain⟨o',h',_⟩:=h.at (y:=y) (by simp[hy]);exact⟨o',h'⟩
    . have hy':y∈pre++x::post:=by rcases bj.1 hy with hy|hy<;>simp[hy]
      have hne:y.1≠x.1:=by grind
      obtain⟨oy,hoy,hd⟩:=h.at hy';rcases h.pair hap hmem hy' hne ho hoy with hh|hh<;>grind
 refine NF g3 (λt ht=>?_) ?_;.refine rX (PA t) (λ_ _=>rfl) λy oy _ _ hd AR hoff _=>?_;simp only[PA,lx]at AR;exact hoff.xy t (hd▸AR) ht
 .cases hr:x.2.2with|bT e=>
      refine⟨λhl=>?_,λk hk=>?_⟩;.refine rX arW (λ_ _=>rfl) λy oy _ _ _ AR _ lu=>?_;rw[hr]at lu;exact lu.whole AR hl
      . have rd:∀{b:hU},ki k b=true->Clear b (.bT e)->False:=by intro b hb lu;cases b with|bT b=>simp only[ki,db]at hb;exact lu.2.1 k hb hk|all=>simp only[ki,d6]at hb;have:=rY.2 (lu.1 k hk);rw[hb]at this;cases this
        obtain⟨k0,k1,k2⟩:=k;unfold kD;by_cases hk0:k0=0;.subst hk0;have:=rX (aau k1 k2) (λ_ _=>rfl) λy oy _ _ _ AR _ lu=>rd (b:=y.2.2) AR (hr▸lu);simp only[aau,eJ]at this;simp only[i5,this.1]
        . simp only[hk0,ns];by_cases hk1:k0=1/\k2=0;.obtain⟨rfl,rfl⟩:=hk1;have:=rX (aeJ k1) (λ_ _=>rfl) λy oy _ _ _ AR _ lu=>rd (b:=y.2.2) AR (hr▸lu);simp only[aeJ]at this;simp only[this]
          .simp only[hk1,ns]|all v m t n kp kr=>
      have:=rX (aeK kp) (λ_ _=>rfl) λy oy _ _ _ AR _ lu=>?_;.simp only[aeK,eJ]at this;exact this
      .rw[hr]at lu;cases hy2:y.2.2with|all=>rw[hy2]at lu;exact lu|bT e=>
          rw[hy2]at lu;simp only[aeK,hy2,d6,Bool.and_eq_false_iff]at AR;rcases AR with AR|AR
          . have:e.dn.all (λu=>decide ((u.1,u.2.1)∈kp))=true:=by refine eQ.2 λu hu=>?_;have:=(lu.2 (bU u.1 u.2.1) (by simp only[fD.wr,bj,i6];exact .inl ⟨u,hu,rfl⟩)).mem;simpa using this
            rw[AR]at this;cases this
          .cases ht:e.cR with|nil=>rw[ht]at AR;cases AR|cons u r=>obtain⟨p,_,hp⟩:=lu.2 (ku u.1) (by simp[fD.wr,ht]);exact dW hp.symm
structure St.ar0(s s':St):Prop where
 slots:∀t,dV s.slots t=dV s'.slots t
 mem:∀lv sl,aH s.mem lv sl=aH s'.mem lv sl
 aI:∀v,s.aI.get? v=s'.aI.get? v
 nv:s.nv=s'.nv
def PC.after(h:PC call sh mC all s0 L)(hap:nH [] all=true){p:Nat->Bool}(hc:Iw all p){x:Fx}(hx:x∈L){o:bI}(ho:all[x.1]?=some o)(hd:x.2.1=o.dst)(hi:p x.1=false)(hb:∀k,k<x.1->o.oS.testBit k=true->p k=true):St.ar0 (JB s0 L λj=>p j||j==x.1) ((JB s0 L p).app x.2.1 x.2.2):=by
 obtain⟨pre,x',post,rfl,hxx,h1,h2⟩:=h.split (cb.1 ho).1;have ar1:x=x':=by grind
 subst ar1;have rX:∀{α:Type}(V:View α),(∀y∈pre++x::post,V.good y=true)->(V.gJ x=true->∀y oy,all[y.1]?=some oy->y.2.1=oy.dst->V.gJ y=true->Off oy o->Clear y.2.2 x.2.2->False)->V.rX (JB s0 (pre++x::post) λj=>p j||j==x.1)=V.rX ((JB s0 (pre++x::post) p).app x.2.1 x.2.2):=by intro α V hg hV;cases ht:V.gJ x with|false=>rw[V.off _ _ ht];unfold JB;rw[V.filter _ _ λy hy=>hg y ((ti.1 hy).1),V.filter (List.filter (λx=>p x.1) _) _ λy hy=>hg y ((ti.1 hy).1),rm,rm];congr 2;refine wd λy hy=>?_<;>grind|true=>
      have hV:=hV ht;have bound:∀y∈pre++post,V.gJ y=true->Kp all x.1 y:=by
        intro y hy ht;have hy':y∈pre++x::post:=by rcases bj.1 hy with hy|hy<;>simp[hy]
        have hne:y.1≠x.1:=by
         rcases bj.1 hy with hy|hy;.exact yr (h1 y hy)
         .exact(yr (h2 y hy)).symm
        obtain⟨oy,hoy,hd⟩:=h.at hy';rcases h.pair hap hx hy' hne ho hoy with hh|hh;.exact hh
        .exact(hV y oy hoy hd ht hh.1 hh.2).elim
      have hdom:∀y∈post,∃o',all[y.1]?=some o':=λy hy=>by obtain⟨o',h',_⟩:=h.at (y:=y) (by simp[hy]);exact⟨o',h'⟩
      rw[V.on _ _ x (hg x hx) (C7 V hc hg h1 h2 hi ho hb hdom bound s0)];refine ajI V (p:=λj=>p j||j==x.1) hg (λy hy ht=>?_) (λy hy ht=>?_) (by simp) s0;.simp[hb _ (h1 y hy) ((bound y (dk _ hy) ht).1 (h1 y hy) o ho)]
      . obtain⟨o',ho'⟩:=hdom y hy;have hne:(y.1==x.1)=false:=by simpa using(yr (h2 y hy)).symm
        rw[hne];cases hp:p y.1with|false=>rfl|true=>have:=hc _ _ ho' hp _ (h2 y hy) ((bound y (dt _ hy) ht).2 (h2 y hy) o' ho');rw[hi]at this;cases this
 have key:∀k,ki k x.2.2=true->∀(y:Fx),ki k y.2.2=true->Clear y.2.2 x.2.2->False:=λk hx y hy lu=>lu.gJ hy hx;refine⟨λt=>rX (PA t) (λ_ _=>rfl) λhxt y oy _ hdy AR hoff _=>?_,λlv sl=>?_,λv=>rX (aeJ v) (λ_ _=>rfl) λhxt y _ _ _ AR _ lu=>key _ hxt y AR lu,rX nvV (λ_ _=>rfl) λhxt y _ _ _ AR _ lu=>lu.arY AR hxt⟩;.simp only[PA,lx]at hxt AR;exact hoff.ne t (hdy▸AR) (hd▸hxt)
 .have:=rX (aau lv sl) (λ_ _=>rfl) λhxt y _ _ _ AR _ lu=>key _ hxt y AR lu;simp only[aau,eJ]at this;exact this.1
end
end Go.bK
namespace Go.bK
open Go Go.RowKit
section
variable{P:Program}{X:Cx}{nt:NT}{s:St}{a:Act}{aP:Nat}{call:Go.bK.Call}{sh:Nat->Bool}{dw:Nat->Option TypeId}
def fI.put{Y:Cx}{dst:Option Nat}{r:hU}{v:Value}(hs:fI X nt s a)(hx:Ext X Y)(hv:VR Y r.val v)(hm:aF Y (s.app dst r).mem (s.app dst r).aI)(hlt:dst.getD 0<nt):fI Y nt (s.app dst r) (a.put dst v):=by cases dst with|none=>refine⟨λt=>?_,hs.size,hs.defers,hm⟩;rw[qR];exact(hs.slots t).ext hx|some d=>
    simp at hlt;refine⟨λt=>?_,by simp[Act.put,hs.size],hs.defers,hm⟩;rw[qR,vk];simp only[dT];by_cases h:d=t
    . subst h;have:((a.put (some d) v).tmps.getD d undef)=v:=by simp[Act.put,hs.size,hlt]
      grind
    . rw[be h];have:((a.put (some d) v).tmps.getD t undef)=a.tmps.getD t undef:=by simp[Act.put,Array.getElem?_setIfInBounds_ne h]
      rw[this];exact(hs.slots t).ext hx
def Gk(hs:fI X nt s a){ops:Array Oper}{o:Oper}{ao:bI}(hgd:gdP ops o.guard=some ao.gd){b:Bool}(hw:js s.slots ao=some b):Region.wanted o (yielded ops a.tmps)=b:=by unfold js at hw;unfold Region.wanted;cases hg:o.guard with|none=>grind[dV,gdP]|some jb=>
 obtain⟨j,w⟩:=jb;rw[hg]at hgd;obtain⟨d,hd,hgd⟩:=aJ hgd;rw[<-hgd]at hw;simp at hw⊢;have hv:=hs.slots d;have hy:yielded ops a.tmps j=match a.tmps[d]?with|some (.bool b)=>some b|_=>none:=by unfold yielded<;>grind
 rw[hy];split at hw;.rename_i t ht;rw[ht]at hv;have hv:=VR.sc hv;cases h:a.tmps[d]?with|none=>rw[kh,h]at hv;cases hv|some v=>simp_all
 .rename_i vs ht;rw[ht]at hv;obtain⟨us,hu,_⟩:=hv;cases hw;cases h:a.tmps[d]?with|none=>rfl|some v=>simp_all
 grind
def PD(cG:cB P call)(ic:∀f T,dw f=some T->kB P f T)(hs:fI X nt s a)(hfr:X.ρ aP=none)(xL:aP<s.nv)(hdom:∀v,s.nv<=v->X.ρ v=none){ops:Array Oper}{i:Nat}{o:Oper}(hoi:ops[i]?=some o){ao:bI}(hop:Fa P dw o.op=some ao.op)(hd:ao.dst=o.dst)(hgd:gdP ops o.guard=some ao.gd)(hlt:ao.dst.getD 0<nt){r:hU}(hr:ao.step call sh s aP=some r){K:Act->World->Prop}{Q:Exit->Act->World->Prop}(hK:∀Y a',Ext X Y->fI Y nt (s.app ao.dst r) a'->fL X Y aP s.nv (s.app ao.dst r).nv->K a' Y.w):wpOp P ops Q i K a X.w:=by
 unfold wpOp;simp[hoi];unfold bI.step at hr;split at hr;.cases hr
 .rename_i hw;rw[Gk hs hgd hw];refine .inl (aeI (dst:=ao.dst) cG ic hs hfr xL hdom hop hr K Q λY v hx hv hm hdm=>?_);rw[<-hd];exact hK Y _ hx (hs.put hx hv hm hlt) hdm
 .rename_i hw;rw[Gk hs hgd hw];cases hr;rw[<-hd];exact hK X _ (Ext.refl X) (hs.put (Ext.refl X) oY hs.mem hlt) (fL.refl _ _ _)
structure NG(P:Program)(dw:Nat->Option TypeId)(nt:Nat)(ops:Array Oper)(all:List bI):Prop where
 len:all.length=ops.size
 at_:∀(i:Nat)(ao:bI),all[i]?=some ao->∃o:Oper,ops[i]?=some o/\Fa P dw o.op=some ao.op/\ao.dst=o.dst/\gdP ops o.guard=some ao.gd/\ao.dst.getD 0<nt
def AS{rows:List (Nat×Nat)}{ops:Array Oper}:∀{l:List (Oper×Nat)}{aK:List bI},zb P dw nt rows ops l=some aK->aK.length=l.length/\∀(i:Nat)(ao:bI),aK[i]?=some ao->∃(o:Oper)(b:Nat),l[i]?=some (o,b)/\ao.oS=b/\Fa P dw o.op=some ao.op/\ao.dst=o.dst/\gdP ops o.guard=some ao.gd/\ao.dst.getD 0<nt
 |[],aK,h=>by cases h<;>grind|(o,b)::r,aK,h=>by
  simp[zb]at h;split at h;.rename_i a' as' h1 h2;cases h;obtain⟨h3,h4⟩:=AS h2;refine⟨by simp[h3],λi ao hi=>?_⟩;cases i with
   |zero=>
        cases hi;unfold acN at h1;split at h1
        . rename_i ap g hap hg;split at h1;.rename_i hlt;cases h1;exact⟨o,b,rfl,rfl,hap,rfl,hg,hlt⟩
          .cases h1
        .cases h1|succ i=>exact h4 i ao (by simpa using hi)
  .cases h
def Gl(cG:cB P call)(ic:∀f T,dw f=some T->kB P f T){ops:Array Oper}{all:List bI}(x8:NG P dw nt ops all){mC:Nat}{Q:Exit->Act->World->Prop}:∀(l:List bI)(i:Nat)(s s':St)(X:Cx)(a:Act),(∀k,l[k]?=all[i+k]?)->jA call sh mC i l s=some s'->fI X nt s a->(∀k,i<=k->k<i+l.length->X.ρ (mC+k)=none)->mC+(i+l.length)<=s.nv->(∀v,s.nv<=v->X.ρ v=none)->(∀Y a',Ext X Y->fI Y nt s' a'->s.nv<=s'.nv->(∀v L,Y.ρ v=some L->X.ρ v=some L\/(mC<=v/\v<s'.nv))->Q .normal a' Y.w)->wpOps P ops Q (List.range' i l.length) a X.w
 |[],i,s,s',X,a,_,h,hs,_,_,_,hQ=>by cases h;exact hQ X a (Ext.refl X) hs (bc _) λ_ _ h=>.inl h|o::r,i,s,s',X,a,hall,h,hs,hfr,xL,hdom,hQ=>by
    simp[jA]at h;split at h;.cases h
    . rename_i e he;have h0:=hall 0;obtain⟨oc,g1,g2,g3,g4,g5⟩:=x8.at_ i o h0.symm;simp[fd]at hfr xL;refine PD cG ic hs (hfr i (bc _) (by omega)) (by omega) hdom g1 g2 g3 g4 g5 he λY a' hx hs' hd=>?_;obtain⟨d1,d2⟩:=hd;refine Gl cG ic x8 r (i+1) _ s' Y a' (λk=>by have:=hall (k+1);rw[List.getElem?_cons_succ]at this;rw[this];congr 1;omega) h hs' (λk h1 h2=>?_) (by omega) (λv hv=>?_) λZ a'' hz aeN hn Fk=>?_;.cases hY:Y.ρ (mC+k)with|none=>rfl|some L=>grind
      .cases hY:Y.ρ v with|none=>rfl|some L=>grind
      .refine hQ Z a'' (hx.trans hz) aeN (nf d1 hn) λv L hv=>?_<;>grind
def Gm{p q:Nat->Bool}:∀{l:List Nat},(∀x,q x=true->p x=true)->(∃x∈l,p x=true/\q x=false)->l.countP q<l.countP p
 |[],_,⟨x,hx,_⟩=>by cases hx|y::r,h,⟨x,hx,h1,h2⟩=>by
  have mono:r.countP q<=r.countP p:=List.countP_mono_left λx _=>h x;rcases dj.1 hx with rfl|hx;.grind
  .have:=Gm h ⟨x,hx,h1,h2⟩<;>grind
def C8{oS:List Nat}:∀{l:List Oper}{bs:List Nat}{i:Nat},FM oS i l bs=true->∀k o,l[k]?=some o->∃b,bs[k]?=some b/\HT oS (i+k) o b=true|[],_,_,_,k,o,h=>by simp at h|o::r,[],i,h,_,_,_=>by simp[FM]at h|o::r,b::bs,i,h,k,o',hk=>by simp[FM,al]at h;cases k with|zero=>grind|succ k=>obtain⟨b',h1,h2⟩:=C8 h.2 k o' (by simpa using hk)<;>grind
structure Ug(ops:Array Oper)(all:List bI):Prop where
 back:∀(i:Nat)(o:Oper),ops[i]?=some o->∀e∈o.after,Region.binds .any e=true->e.on<i
 oS:∀(i:Nat)(o:Oper)(ao:bI),ops[i]?=some o->all[i]?=some ao->∀k,k<i->ao.oS.testBit k=true->∃e∈o.after,Region.binds .any e=true/\(e.on=k\/(k<e.on/\∀ao',all[e.on]?=some ao'->ao'.oS.testBit k=true))
def aeO(cG:cB P call)(ic:∀f T,dw f=some T->kB P f T){ops:Array Oper}{all:List bI}(x8:NG P dw nt ops all)(Uh:Ug ops all)(hap:nH [] all=true){mC:Nat}{s0:St}{L:List Fx}(Ui:PC call sh mC all s0 L){Q:Exit->Act->World->Prop}:∀(fuel:Nat)(listed:Array Bool)(X:Cx)(a:Act),listed.size=ops.size->(List.range ops.size).countP (λj=>!listed.getD j false)<=fuel->Iw all (λj=>listed.getD j false)->fI X nt (JB s0 L λj=>listed.getD j false) a->(∀k,k<ops.size->listed.getD k false=false->X.ρ (mC+k)=none)->mC+ops.size<=(JB s0 L λj=>listed.getD j false).nv->(∀v,(JB s0 L λj=>listed.getD j false).nv<=v->X.ρ v=none)->(∀Y a',Ext X Y->fI Y nt (lE s0 L) a'->(JB s0 L λj=>listed.getD j false).nv<=(lE s0 L).nv->(∀v M,Y.ρ v=some M->X.ρ v=some M\/(mC<=v/\v<(lE s0 L).nv))->Q .normal a' Y.w)->wpAny P .any ops Q fuel listed a X.w:=by
 have aeP:∀(listed:Array Bool)(j:Nat),listed.size=ops.size->j<ops.size->listed.getD j true=listed.getD j false:=λlisted j h hj=>by simp[show j<listed.size by omega]
 have fin:∀(listed:Array Bool)(X:Cx)(a:Act),listed.size=ops.size->Region.ready .any ops listed=[]->fI X nt (JB s0 L λj=>listed.getD j false) a->(∀Y a',Ext X Y->fI Y nt (lE s0 L) a'->(JB s0 L λj=>listed.getD j false).nv<=(lE s0 L).nv->(∀v M,Y.ρ v=some M->X.ρ v=some M\/(mC<=v/\v<(lE s0 L).nv))->Q .normal a' Y.w)->Q .normal a X.w:=by
    intro listed X a hsz hr hs hQ;have hall:∀j,j<ops.size->listed.getD j false=true:=by intro j;induction j using Nat.strongRecOn with|_ j ih=>intro hj;cases hl:listed.getD j false with|true=>rfl|false=>have hm:j∈Region.ready .any ops listed:=mem_ready.2 ⟨by rw[aeP _ _ hsz hj];exact hl,ops[j],pr hj,λe he hb=>by have:=Uh.back j _ (pr hj) e he hb;exact ih _ this (by omega)⟩;rw[hr]at hm;cases hm
    have hst:(JB s0 L λj=>listed.getD j false)=lE s0 L:=by unfold JB;rw[List.filter_eq_self.2 λx hx=>hall x.1 (x8.len▸(Ui.dom x.1).2 ⟨x,hx,rfl⟩)]
    rw[hst]at hs hQ;exact hQ X a (Ext.refl X) hs (bc _) λ_ _ h=>.inl h
 intro fuel;induction fuel with|zero=>
    intro listed X a hsz ajJ hc hs hfr xL hdom hQ;have hr:Region.ready .any ops listed=[]:=by cases hr:Region.ready .any ops listed with|nil=>rfl|cons j r=>
        have hj:j∈Region.ready .any ops listed:=by rw[hr];exact ca ..
        obtain⟨h1,o,h2,_⟩:=mem_ready.1 hj;have hlt:j<ops.size:=(lO.1 h2).1;have:=List.countP_eq_zero.1 (Nat.le_zero.1 ajJ) j (t8.2 hlt);rw[aeP _ _ hsz hlt]at h1;rw[h1]at this;exact absurd rfl this
    exact⟨hr,fin listed X a hsz hr hs hQ⟩|succ fuel ih=>
    intro listed X a hsz ajJ hc hs hfr xL hdom hQ;refine⟨λhr=>fin listed X a hsz hr hs hQ,λi hi=>?_⟩;obtain⟨hl,o,ho,aeQ⟩:=mem_ready.1 hi;have hlt:i<ops.size:=(lO.1 ho).1;rw[aeP _ _ hsz hlt]at hl;obtain⟨ao,hao⟩:∃ao,all[i]?=some ao:=⟨all[i]'(by rw[x8.len];exact hlt),aw _⟩;obtain⟨o',g1,g2,g3,g4,g5⟩:=x8.at_ i ao hao;rw[ho]at g1;injection g1 with g1;subst g1;have hb:∀k,k<i->ao.oS.testBit k=true->listed.getD k false=true:=by
      intro k hk Uj;obtain⟨e,he,acY,h⟩:=Uh.oS i o ao ho hao k hk Uj;have hon:=aeQ e he acY;rcases h with h|⟨h1,h2⟩;.rw[<-h];exact hon
      . have hlt':e.on<all.length:=by rw[x8.len];have:=Uh.back i o ho e he acY;omega
        exact hc e.on _ (aw hlt') hon k h1 (h2 _ (aw hlt'))
    obtain⟨x,hx,rfl,hxd,hstep⟩:=Ui.any hap hc hao hl hb;have B5:(λj=>(listed.setIfInBounds x.1 true).getD j false)=λj=>listed.getD j false||j==x.1:=by
      funext j;by_cases hj:j=x.1;.subst hj;simp[show x.1<listed.size by omega]
      .rw[getD_set_ne false (pv hj),show(j==x.1)=false from by simpa using hj,xr]
    have hsame:=Ui.after hap hc hx hao hxd hl hb;rw[<-B5]at hsame;refine PD cG ic hs (hfr _ hlt hl) (by omega) hdom ho g2 g3 g4 g5 hstep λY a' hx' hs' hd=>?_;rw[<-hxd]at hs' hd;obtain⟨d1,d2⟩:=hd;rw[<-hsame.nv]at d1 d2;refine ih (listed.setIfInBounds x.1 true) Y a' (by simpa using hsz) ?_ ?_ ⟨λt=>?_,hs'.size,hs'.defers,hs'.mem.congr hsame.mem hsame.aI⟩ (λk hk hkl=>?_) (by omega) (λv hv=>?_) λZ a'' hz aeN hn Fk=>?_;.have:=Gm (p:=λj=>!listed.getD j false) (q:=λj=>!(listed.setIfInBounds x.1 true).getD j false) (l:=List.range ops.size) (λj hj=>by have:=congrFun B5 j;rw[this]at hj;simp only[d6,i9]at hj;simp only[d6];exact hj.1) ⟨x.1,t8.2 hlt,by simp only[hl,ge],by have:=congrFun B5 x.1;simp only[this,ll,wl,dl]⟩;omega
    . rw[B5];intro j oj hoj hj k hk Uj;simp only[gc,lx]at hj⊢;rcases hj with hj|hj;.exact .inl (hc j oj hoj hj k hk Uj)
      .subst hj;rw[hao]at hoj;injection hoj with hoj;subst hoj;exact .inl (hb k hk Uj)
    .rw[hsame.slots];exact hs'.slots t
    .have hk':=congrFun B5 k;rw[hk']at hkl;simp only[i9,mi]at hkl;cases hY:Y.ρ (mC+k)with|none=>rfl|some M=>
        rcases d2 _ _ hY with h|h|h;.rw[hfr k hk hkl.1]at h;cases h
        .omega
        .omega
    .cases hY:Y.ρ v with|none=>rfl|some M=>
        rcases d2 _ _ hY with h|h|h;.rw[hdom v (by omega)]at h;cases h
        .omega
        .omega
    . refine hQ Z a'' (hx'.trans hz) aeN (nf d1 hn) λv M hv=>?_;rcases Fk v M hv with h|h
      . rcases d2 v M h with h|h|h;.exact .inl h
        .exact .inr (by omega)
        .exact .inr (by omega)
      .exact .inr h
end
def AX.exit':AX->Exit|.normal=>.normal|.exit id=>if Nat.blt id gb=true then .exit id else .goto ((id-gb)/2)|.ret=>.ret
def ya{id:Nat}(h:Nat.blt id gb=true):(AX.exit id).exit'=.exit id:=by simp[AX.exit',h]
def Gn(l:Nat):(AX.exit (gid l)).exit'=.goto l:=by simp_all[gid,AX.exit']
def Post(X:Cx)(nt:NT)(s:St)(r:AX×St)(Q:Exit->Act->World->Prop):Prop:=∀Y a',Ext X Y->fI Y nt r.2 a'->s.nv<=r.2.nv->(∀v L,Y.ρ v=some L->X.ρ v=some L\/(s.nv<=v/\v<r.2.nv))->Q r.1.exit' a' Y.w
def Post.trans{X Y:Cx}{nt:NT}{s s':St}{r:AX×St}{Q:Exit->Act->World->Prop}(h:Post X nt s r Q)(hx:Ext X Y)(hn:s.nv<=s'.nv)(hd:∀v L,Y.ρ v=some L->X.ρ v=some L\/(s.nv<=v/\v<s'.nv)):Post Y nt s' r Q:=by intro Z a' hz hs hn' hd';refine h Z a' (hx.trans hz) hs (nf hn hn') λv L hv=>?_<;>grind
def Post.now{X:Cx}{nt:NT}{s:St}{a:Act}{x:AX}{Q:Exit->Act->World->Prop}(h:Post X nt s (x,s) Q)(hs:fI X nt s a):Q x.exit' a X.w:=h X a (Ext.refl X) hs (bc _) λ_ _ h=>.inl h
def yb{X Y:Cx}{n m:Nat}(h:∀v,n<=v->X.ρ v=none)(hn:n<=m)(hd:∀v L,Y.ρ v=some L->X.ρ v=some L\/(n<=v/\v<m)):∀v,m<=v->Y.ρ v=none:=by intro v hv;cases hY:Y.ρ v with|none=>rfl|some L=>grind
def Ext.drew(X:Cx):Ext X {X with w:=X.w.drew}:=⟨rfl,(fq.refl _ _).drew,λ_ _ h=>h,λ_ _ _=>rfl,λ_ _ h=>h,λ_ _ h=>.inl h⟩
def fI.drew{X:Cx}{nt:NT}{s:St}{a:Act}(h:fI X nt s a):fI {X with w:=X.w.drew} nt s a:=⟨λt=>(h.slots t).ext (Ext.drew X),h.size,h.defers,h.mem.move (Ext.drew X) (λ_ _ _ _ _ _=>rfl) (λ_ _ _ _ _ _ _ h=>h) h.mem.nG⟩
section
variable{P:Program}{nt:NT}{call:Go.bK.Call}{sh:Nat->Bool}{dw:Nat->Option TypeId}{rows:List (Nat×Nat)}
def Gp{ops:Array Oper}{bs:List Nat}{l:List bI}(hb:bs.length=ops.size)(h:zb P dw nt rows ops (ops.toList.zip bs)=some l):NG P dw nt ops l/\∀(i:Nat)(ao:bI),l[i]?=some ao->bs[i]?=some ao.oS:=by
 obtain⟨h1,h2⟩:=AS h;refine⟨⟨by rw[h1,List.length_zip];simp[hb],λi ao hi=>?_⟩,λi ao hi=>?_⟩;.obtain⟨o,b,g1,_,g2,g3,g4,g5⟩:=h2 i ao hi;have:=(List.getElem?_zip_eq_some.1 g1).1;exact⟨o,by simpa using this,g2,g3,g4,g5⟩
 .obtain⟨o,b,g1,g2,_⟩:=h2 i ao hi;have:=(List.getElem?_zip_eq_some.1 g1).2;rw[g2];exact this
def aax{ops:Array Oper}{bs:List Nat}{l:List bI}(awc:l.length=ops.size)(hl:∀(i:Nat)(ao:bI),l[i]?=some ao->bs[i]?=some ao.oS)(h:FM bs 0 ops.toList bs=true):Ug ops l:=by
 have key:=λi o(ho:ops[i]?=some o)=>C8 h i o (by simpa using ho);refine⟨λi o ho e he hb=>?_,λi o ao ho hao k hk Uj=>?_⟩
 .obtain⟨b,_,h2⟩:=key i o ho;simp only[HT,al,eQ,gc,d6]at h2;rcases h2.1 e (by simpa using he)with h|h;.rw[show Edge.HS e=Region.binds .any e from rfl,hb]at h;cases h
  .rw[jn]at h;exact Nat.blt_eq.mp h
 .obtain⟨b,h1,h2⟩:=key i o ho;simp only[HT,al,eQ,gc,d6,t8]at h2;rcases h2.2 k (by omega)with h|h;.grind
  .obtain⟨e,he,h⟩:=kx.1 h;simp only[al,gc]at h;refine⟨e,by simpa using he,h.1,?_⟩;rcases h.2with h|h;.exact .inl (am h)
   .refine .inr ⟨Nat.blt_eq.mp h.1,λao' ar4=>?_⟩;have:=hl _ _ ar4;rw[da,this]at h;exact h.2
def Rm(hm:P.follows .mixedOrders=true)(cG:cB P call)(ic:∀f T,dw f=some T->kB P f T){X:Cx}{s s':St}{a:Act}{id:Nat}{ops:Array Oper}{draw:Bool}{l:List bI}{dr:Bool}(hp:Z4 P dw nt rows ops draw=some (.region l dr))(hr:gi call sh l dr s=some s')(hs:fI X nt s a)(hdom:∀v,s.nv<=v->X.ρ v=none){Q:Exit->Act->World->Prop}(hQ:Post X nt s (.normal,s') Q):(Code.region id ops draw).wp P Q a X.w:=by
 have hs1:fI X nt {s with nv:=s.nv+l.length} a:=⟨hs.slots,hs.size,hs.defers,hs.mem⟩;unfold Z4 at hp;cases draw with|false=>
  obtain⟨l',hl,hp⟩:=aJ hp;injection hp with h1 h2;subst h1;subst h2;have hz:ops.toList.map (λo=>(o,0))=ops.toList.zip (List.replicate ops.size 0):=by
   apply List.ext_getElem;.simp
   .simp
  rw[hz]at hl;obtain⟨x8,_⟩:=Gp (by simp) hl;refine wp_region ?_;rw[<-x8.len,List.range_eq_range'];refine Gl cG ic x8 l' 0 _ s' X a (λk=>by simp) hr hs1 (λk _ _=>hdom _ (by omega)) (by simp) (λv hv=>hdom v (by simp at hv;omega)) λY a' hx hs' hn hd=>?_;exact hQ Y a' hx hs' (by simp at hn⊢;omega) hd|true=>
  simp at hp;split at hp
  .rename_i l' hb hl;split at hp
   .rename_i hap;injection hp with hp;injection hp with h1 h2;subst h1;subst h2;simp at hb;obtain⟨x8,Nf⟩:=Gp hb.1 hl;have Uh:=aax x8.len Nf hb.2;obtain⟨L,rfl,Ui⟩:=PC.aeL hr;refine wp_region_any hm ?_;have hf:∀j,(Array.replicate ops.size false).getD j false=false:=λj=>by
     rw[kh];rcases im j ops.size with h|h;.simp[h]
     .simp[h]
    have hst:(JB {s with nv:=s.nv+l'.length} L λj=>(Array.replicate ops.size false).getD j false)={s with nv:=s.nv+l'.length}:=by unfold JB;rw[tb.2 λx _=>by show¬(Array.replicate ops.size false).getD x.1 false=true;rw[hf];exact Bool.false_ne_true];rfl
    refine aeO cG ic x8 Uh hap Ui ops.size _ {X with w:=X.w.drew} a (by simp) ?_ (λj o _ hj=>absurd ((hf j).symm.trans hj) (by decide)) ?_ (λk _ _=>hdom _ (by omega)) ?_ ?_ λY a' hx hs' hn hd=>?_;.simp_all
    .rw[hst];exact hs1.drew
    .rw[hst];simp[x8.len]
    .grind
    .rw[hst]at hn;exact hQ Y a' ((Ext.drew X).trans hx) hs' (by simp at hn⊢;omega) hd
   grind
  grind
def rZ(P:Program)(c:Code)(Q:Exit->Act->World->Prop)(a:Act)(w:World):Prop:=∀(b:Frame)(k:List Item)(cs:List Frame),∃e a' w',Q e a' w'/\Arrives P (lone (b.at a (.code c::.inLoop c::k)) cs w) b k cs e a' w'
def rZ.round{c:Code}{Q:Exit->Act->World->Prop}{a:Act}{w:World}(h:c.wp P (Exit.then (rZ P c Q) Q) a w):rZ P c Q a w:=by intro b k cs;obtain⟨e,a₁,w₁,hq,Kq⟩:=h b (.inLoop c::k) cs;cases e with|normal=>obtain⟨e₂,a₂,w₂,hq₂,ajL⟩:=hq b k cs;exact⟨e₂,a₂,w₂,hq₂,.of_steps (Steps.trans Kq (.one step_inLoop)) ajL⟩|exit id=>exact⟨_,a₁,w₁,hq,.pass (x:=.inLoop c) rfl (λ_ _=>.inl (by simp)) Kq⟩|goto l=>exact⟨_,a₁,w₁,hq,.pass (x:=.inLoop c) rfl (λ_ _=>.inl (by simp)) Kq⟩|ret=>exact⟨_,a₁,w₁,hq,.pass (x:=.inLoop c) rfl (λ_ _=>.inl (by simp)) Kq⟩|panic ch=>exact⟨_,a₁,w₁,hq,.pass (x:=.inLoop c) rfl (λ_ _=>.inl (by simp)) Kq⟩|outgrown=>exact⟨_,a₁,w₁,hq,.pass (x:=.inLoop c) rfl (λ_ _=>.inl (by simp)) Kq⟩
def rZ.wp{c:Code}{Q:Exit->Act->World->Prop}{a:Act}{w:World}(h:rZ P c Q a w):(Code.loop c).wp P Q a w:=λb k cs=>let⟨e,a',w',hq,Kq⟩:=h b k cs;⟨e,a',w',hq,.of_steps (.one step_loop) Kq⟩
def jk(n:Nat)(c:AC)(s:St):exec call sh (n+1) c s=match c with
 |.skip=>some (.normal,s)|.region ops draw=>(gi call sh ops draw s).map λs'=>(.normal,s')|.seq a b=>match exec call sh n a s with|some (.normal,s')=>exec call sh n b s'|r=>r
 |.cond c a b=>match jq (c.ev s.slots)with|some true=>exec call sh n a s|some false=>exec call sh n b s|none=>none
 |.block id c=>match exec call sh n c s with
  |some (.exit id',s')=>match Nat.beq id' id with|true=>some (.normal,s')|false=>some (.exit id',s')
  |r=>r
 |.loop c=>match exec call sh n c s with|some (.normal,s')=>exec call sh n (.loop c) s'|r=>r
 |.exit id=>some (.exit id,s)|.ret=>some (.ret,s):=rfl
def Rn:∀(n:Nat)(c:AC)(s:St)(r:AX×St),exec call sh n c s=some r->exec call sh (n+1) c s=some r:=by intro n;induction n with|zero=>simp_all[Call,exec]|succ n ih=>intro c s r h;cases c with
 |skip=>exact h|region ops draw=>exact h|exit id=>exact h|ret=>exact h|seq a b=>
  rw[jk n]at h;rw[jk (n+1)];dsimp at h⊢;split at h;.rename_i s' he;rw[ih _ _ _ he];exact ih _ _ _ h
  .rename_i hne;rw[ih _ _ _ h];obtain⟨x,s'⟩:=r;cases x with|normal=>exact absurd h (hne s')|exit id=>rfl|ret=>rfl
 |cond c a b=>
  rw[jk n]at h;rw[jk (n+1)];dsimp at h⊢;split at h;.exact ih _ _ _ h
  .exact ih _ _ _ h
  .cases h|block id c=>
  rw[jk n]at h;rw[jk (n+1)];dsimp at h⊢;split at h;.rename_i he;rw[ih _ _ _ he];exact h
  .rename_i hne;rw[ih _ _ _ h];obtain⟨x,s'⟩:=r;cases x with|normal=>rfl|exit id=>exact absurd h (hne id s')|ret=>rfl
 |loop c=>
  rw[jk n]at h;rw[jk (n+1)];dsimp at h⊢;split at h;.rename_i s' he;rw[ih _ _ _ he];exact ih _ _ _ h
  .rename_i hne;rw[ih _ _ _ h];obtain⟨x,s'⟩:=r;cases x with|normal=>exact absurd h (hne s')|exit id=>rfl|ret=>rfl
def Ix{n m:Nat}(hle:n<=m){c:AC}{s:St}{r:AX×St}(h:exec call sh n c s=some r):exec call sh m c s=some r:=by induction hle with|refl=>exact h|step _ ih=>exact Rn _ _ _ _ ih
def Gq{p:Nat->Bool}:∀(n:Nat)(c:AC)(s s':St)(id:Nat),leaves p c=true->exec call sh n c s=some (.exit id,s')->p id=true:=by intro n;induction n with|zero=>simp_all[Call,exec,leaves]|succ n ih=>intro c s s' id hl h;cases c with|skip=>simp[exec]at h|region ops draw=>simp_all[exec,leaves,Call]|exit id'=>cases h;exact hl|ret=>simp[exec]at h|seq a b=>simp[leaves,al]at hl;simp[exec]at h<;>grind|cond c a b=>simp[leaves,al]at hl;simp[exec]at h<;>grind|block id' c=>simp[leaves]at hl;simp[exec]at h<;>grind|loop c=>
 simp[leaves]at hl;simp[exec]at h;split at h;.exact ih (.loop c) _ _ _ hl h
 grind
def Kr{n l:Nat}{c:AC}{s:St}{r:AX×St}(h:exec call sh n (.loop (.block (gid l) (.seq c (.exit (BQ l))))) s=some r):∃m x s',m<n/\exec call sh m c s=some (x,s')/\((x=.exit (gid l)/\exec call sh (n-1) (.loop (.block (gid l) (.seq c (.exit (BQ l))))) s'=some r)\/(x=.normal/\r=(.exit (BQ l),s'))\/(x≠.normal/\x≠.exit (gid l)/\r=(x,s'))):=by cases n with|zero=>simp[exec]at h|succ n=>
 have hk:Nat.beq (BQ l) (gid l)=false:=by cases hb:Nat.beq (BQ l) (gid l)with|false=>rfl|true=>simp_all[BQ,gid,exec,Call]
 simp[exec]at h;cases n with|zero=>simp[exec]at h|succ n=>cases n with|zero=>simp[exec]at h|succ n=>cases hc:exec call sh n c s with|none=>simp[exec,hc]at h|some xs=>obtain⟨x,s'⟩:=xs;refine⟨n,x,s',by omega,hc,?_⟩;cases n with|zero=>simp[exec]at hc|succ n=>cases x with
  |normal=>
   have e1:exec call sh (n+1) (.exit (BQ l)) s'=some (.exit (BQ l),s'):=rfl;have e2:exec call sh (n+1+1) (.seq c (.exit (BQ l))) s=some (.exit (BQ l),s'):=by rw[exec];simp[hc,e1]
   have e3:exec call sh (n+1+1+1) (.block (gid l) (.seq c (.exit (BQ l)))) s=some (.exit (BQ l),s'):=by rw[exec];simp[e2,hk]
   rw[e3]at h;simp at h;exact .inr (.inl ⟨rfl,h.symm⟩)|exit id=>
   have e2:exec call sh (n+1+1) (.seq c (.exit (BQ l))) s=some (.exit id,s'):=by rw[exec];simp[hc]
   cases hb:Nat.beq id (gid l)with|true=>
    have e3:exec call sh (n+1+1+1) (.block (gid l) (.seq c (.exit (BQ l)))) s=some (.normal,s'):=by rw[exec];simp[e2,hb]
    rw[e3]at h;exact .inl ⟨by rw[am hb],h⟩|false=>
    have e3:exec call sh (n+1+1+1) (.block (gid l) (.seq c (.exit (BQ l)))) s=some (.exit id,s'):=by rw[exec];simp[e2,hb]
    rw[e3]at h;simp at h;exact .inr (.inr ⟨by simp,λhx=>by injection hx with hx;exact na hb hx,h.symm⟩)
  |ret=>
   have e2:exec call sh (n+1+1) (.seq c (.exit (BQ l))) s=some (.ret,s'):=by rw[exec];simp[hc]
   have e3:exec call sh (n+1+1+1) (.block (gid l) (.seq c (.exit (BQ l)))) s=some (.ret,s'):=by rw[exec];simp[e2]
   rw[e3]at h;simp at h;exact .inr (.inr ⟨by simp,by simp,h.symm⟩)
section
open Classical
def lR(call:Call)(sh:Nat->Bool)(nt:NT)(Q:Exit->Act->World->Prop)(l:Nat)(c:AC)(m:Nat)(a:Act)(w:World):Prop:=∃Y s r,Y.w=w/\fI Y nt s a/\(∀v,s.nv<=v->Y.ρ v=none)/\exec call sh m (.loop (.block (gid l) (.seq c (.exit (BQ l))))) s=some r/\Post Y nt s ((match r.1with|.exit id=>if id=BQ l then .normal else .exit id|x=>x),r.2) Q
def least{p:Nat->Prop}:∀{n:Nat},p n->∃m,p m/\∀k,p k->m<=k:=by intro n;induction n using Nat.strongRecOn with|_ n ih=>grind
noncomputable def rounds(call:Call)(sh:Nat->Bool)(nt:NT)(Q:Exit->Act->World->Prop)(l:Nat)(c:AC)(a:Act)(w:World):Nat:=if h:∃m,lR call sh nt Q l c m a w then Classical.choose (least (p:=λm=>lR call sh nt Q l c m a w) h.choose_spec)else 0
def Gr{Q:Exit->Act->World->Prop}{l:Nat}{c:AC}{m:Nat}{a:Act}{w:World}(h:lR call sh nt Q l c m a w):rounds call sh nt Q l c a w<=m:=by have hh:∃m,lR call sh nt Q l c m a w:=⟨m,h⟩;unfold rounds<;>grind
def Ro{Q:Exit->Act->World->Prop}{l:Nat}{c:AC}{m:Nat}{a:Act}{w:World}(h:lR call sh nt Q l c m a w):lR call sh nt Q l c (rounds call sh nt Q l c a w) a w:=by have hh:∃m,lR call sh nt Q l c m a w:=⟨m,h⟩;unfold rounds;rw[dif_pos hh];exact(Classical.choose_spec (least (p:=λm=>lR call sh nt Q l c m a w) hh.choose_spec)).1
end
def Gs{A:Act->World->Prop}{Q:Exit->Act->World->Prop}{id:Nat}{a:Act}{w:World}(h:Q (AX.exit id).exit' a w):Exit.then A Q (AX.exit id).exit' a w:=by
 unfold AX.exit' at h⊢;simp at h⊢;split;.rename_i hb;rw[ba hb]at h;exact h
 .rename_i hb;rw[be hb]at h;exact h
section
variable{n:Nat}(JC:∀(c:Code)(ac:AC)(X:Cx)(s:St)(a:Act)(r:AX×St)(Q:Exit->Act->World->Prop),eB P dw nt rows c none=some ac->exec call sh n ac s=some r->fI X nt s a->(∀v,s.nv<=v->X.ρ v=none)->Post X nt s r Q->c.wp P Q a X.w)
include JC
theorem C9{c0:Code}{ac:AC}{l m:Nat}{a:Act}{w:World}{Q:Exit->Act->World->Prop}(hc:eB P dw nt rows c0 none=some ac)(hl:leaves (λid=>Nat.blt id gb||Nat.beq id (gid l)) ac=true)(hm:m<=n)(h:lR call sh nt Q l ac m a w):c0.wp P (Exit.jump l (λa' w'=>(∃k,k<=n/\lR call sh nt Q l ac k a' w')/\rounds call sh nt Q l ac a' w'<m) Q) a w:=by
 obtain⟨Y,s,r,rfl,hs,hdom,hex,hpost⟩:=h;obtain⟨m1,x,s',hlt,hx,ajM⟩:=Kr hex;refine JC c0 ac Y s a (x,s') _ hc (Ix (by omega) hx) hs hdom λZ a' hYZ ZP hn hd=>?_;rcases ajM with⟨rfl,h1⟩|⟨rfl,h1⟩|⟨h1,h2,h3⟩;.rw[Gn];have hR:lR call sh nt Q l ac (m-1) a' Z.w:=⟨Z,s',r,rfl,ZP,yb hdom hn hd,h1,hpost.trans hYZ hn hd⟩;have:=Gr hR;exact⟨rfl,⟨m-1,by omega,hR⟩,by omega⟩
 .subst h1;have:=hpost Z a' hYZ ZP hn hd;simp at this;exact this
 .subst h3;cases x with|normal=>grind|exit id=>
  have hb:=Gq _ _ _ _ _ hl hx;have hlt':Nat.blt id gb=true:=by simp_all
  have hk:id≠BQ l:=by have:=fr hlt';simp[BQ];omega
  have:=hpost Z a' hYZ ZP hn hd;simp[be hk]at this;rw[ya hlt']at this⊢;exact this|ret=>exact hpost Z a' hYZ ZP hn hd
theorem AT:∀(c:Code)(ac:AC)(l:Nat),eB P dw nt rows c (some l)=some ac->∃c0 Tn,findLabel c l=some (.seq .skip c0)/\eB P dw nt rows c0 none=some Tn/\leaves (λid=>Nat.blt id gb||Nat.beq id (gid l)) Tn=true/\∀(m:Nat)(X:Cx)(s:St)(a:Act)(r:AX×St)(Q:Exit->Act->World->Prop),m<=n+1->exec call sh m ac s=some r->fI X nt s a->(∀v,s.nv<=v->X.ρ v=none)->Post X nt s r Q->c.wp P (Exit.jump l (λa' w'=>∃k,k<=n/\lR call sh nt Q l Tn k a' w') Q) a X.w
 |.seq x y,ac,l,hc=>by
  rw[eB]at hc;split at hc
  .rename_i l' Uk;have hx:x=.label l':=by cases x<;>simp only[aem]at Uk<;>first|(injection Uk with Uk;rw[Uk])|cases Uk
   subst hx;split at hc
   .rename_i Tn hb hc0;have hl':=am hb;subst hl';unfold TI at hc;split at hc
    .rename_i hl;cases hc;refine⟨y,Tn,by simp[findLabel],hc0,hl,λm X s a r Q hm hex hs hdom hpost=>?_⟩;have key:∃k r',k<=n/\exec call sh k (.loop (.block (gid l') (.seq Tn (.exit (BQ l'))))) s=some r'/\r=((match r'.1with|.exit id=>if id=BQ l' then .normal else .exit id|x=>x),r'.2):=by cases m with|zero=>simp[exec]at hex|succ k=>
       rw[jk k]at hex;dsimp at hex;split at hex
       .rename_i id s' he;refine⟨k,_,by omega,he,?_⟩;split at hex;.simp_all
        .rename_i hid;cases hex;simp[be (na hid)]
       .refine⟨k,_,by omega,hex,?_⟩;obtain⟨z,s'⟩:=r<;>simp_all
     obtain⟨k,r',hk,ar5,rfl⟩:=key;have hp:=C9 JC hc0 hl hk ⟨X,s,r',rfl,hs,hdom,ar5,hpost⟩;have B5:=wp_mono (Q':=Exit.jump l' (λa' w'=>∃k,k<=n/\lR call sh nt Q l' Tn k a' w') Q) hp λe a w h=>by cases e with|goto l=>exact⟨h.1,h.2.1⟩|_=>exact h
     exact wp_seq (wp_label B5)
    grind
   grind
  .split at hc
   .rename_i ax ay hf hx hy;split at hc;.rename_i hlv;cases hc;obtain⟨c0,Tn,h1,h2,h3,h4⟩:=AT y ay l hy;refine⟨c0,Tn,by simp[findLabel,hf,h1],h2,h3,λm X s a r Q hm hex hs hdom hpost=>?_⟩;cases m with|zero=>simp[exec]at hex|succ k=>
      rw[jk k]at hex;dsimp at hex;refine wp_seq ?_;split at hex;.rename_i s' he;refine JC x ax X s a (.normal,s') _ hx (Ix (by omega) he) hs hdom λY a' hx' hs' hn hd=>?_;exact h4 k Y s' a' r Q (by omega) hex hs' (yb hdom hn hd) (hpost.trans hx' hn hd)
      .refine JC x ax X s a r _ hx (Ix (by omega) hex) hs hdom λY a' hx' hs' hn hd=>?_;have:=hpost Y a' hx' hs' hn hd;obtain⟨z,s'⟩:=r;cases z with|normal=>grind|exit id=>have hb:=Gq _ _ _ _ _ hlv hex;rw[ya hb]at this⊢;exact this|ret=>exact this
    grind
   grind|.skip,_,_,hc=>by simp[eB]at hc|.region ..,_,_,hc=>by simp[eB]at hc|.cond ..,_,_,hc=>by simp[eB]at hc|.block ..,_,_,hc=>by simp[eB]at hc|.loop ..,_,_,hc=>by simp[eB]at hc|.exit ..,_,_,hc=>by simp[eB]at hc|.goto ..,_,_,hc=>by simp[eB]at hc|.label ..,_,_,hc=>by simp[eB]at hc|.scope ..,_,_,hc=>by simp[eB]at hc|.ret,_,_,hc=>by simp[eB]at hc|.rangeFunc ..,_,_,hc=>by simp[eB]at hc|.refuse ..,_,_,hc=>by simp[eB]at hc
end
def B6(hm:P.follows .mixedOrders=true)(cG:cB P call)(ic:∀f T,dw f=some T->kB P f T):∀(n:Nat),(∀(c:Code)(ac:AC)(X:Cx)(s:St)(a:Act)(r:AX×St)(Q:Exit->Act->World->Prop),eB P dw nt rows c none=some ac->exec call sh n ac s=some r->fI X nt s a->(∀v,s.nv<=v->X.ρ v=none)->Post X nt s r Q->c.wp P Q a X.w)/\(∀(c:Code)(ac:AC)(X:Cx)(s:St)(a:Act)(r:AX×St)(Q:Exit->Act->World->Prop),eB P dw nt rows c none=some ac->exec call sh n (.loop ac) s=some r->fI X nt s a->(∀v,s.nv<=v->X.ρ v=none)->Post X nt s r Q->rZ P c Q a X.w):=by intro n;induction n with|zero=>simp_all[cB,Call,rZ,Post,exec,eB]|succ n ih=>
 obtain⟨JC,ihB⟩:=ih;have B:∀(c:Code)(ac:AC)(X:Cx)(s:St)(a:Act)(r:AX×St)(Q:Exit->Act->World->Prop),eB P dw nt rows c none=some ac->exec call sh (n+1) (.loop ac) s=some r->fI X nt s a->(∀v,s.nv<=v->X.ρ v=none)->Post X nt s r Q->rZ P c Q a X.w:=by
   intro c ac X s a r Q hc hr hs hdom hQ;simp[exec]at hr;refine rZ.round ?_;split at hr;.rename_i s' he;refine JC c ac X s a (.normal,s') _ hc he hs hdom λY a' hx hs' hn hd=>?_;exact ihB c ac Y s' a' r Q hc hr hs' (yb hdom hn hd) (hQ.trans hx hn hd)
   .rename_i hne;refine JC c ac X s a r _ hc hr hs hdom λY a' hx hs' hn hd=>?_;have:=hQ Y a' hx hs' hn hd;obtain⟨x,s'⟩:=r;cases x with|normal=>exact absurd hr (hne s')|exit id=>exact Gs this|ret=>exact this
 refine⟨λc ac X s a r Q hc hr hs hdom hQ=>?_,B⟩;cases c with
 |skip=>cases hc;cases hr;exact wp_skip (hQ.now hs)|region id ops draw=>
   simp[eB]at hc;have:∃l dr,ac=.region l dr:=by
    unfold Z4 at hc;split at hc;.obtain⟨l,_,rfl⟩:=aJ hc;exact⟨_,_,rfl⟩
    .simp at hc;split at hc
     .split at hc;.injection hc with hc;exact⟨_,_,hc.symm⟩
      .cases hc
     .cases hc
   obtain⟨l,dr,rfl⟩:=this;obtain⟨s',hr',rfl⟩:=aJ hr;exact Rm hm cG ic hc hr' hs hdom hQ|seq x y=>
   simp[eB]at hc;split at hc
   .rename_i ax ay hx hy;cases hc;simp[exec]at hr;refine wp_seq ?_;split at hr;.rename_i s' he;refine JC x ax X s a (.normal,s') _ hx he hs hdom λY a' hx' hs' hn hd=>?_;exact JC y ay Y s' a' r Q hy hr hs' (yb hdom hn hd) (hQ.trans hx' hn hd)
    .rename_i hne;refine JC x ax X s a r _ hx hr hs hdom λY a' hx' hs' hn hd=>?_;have:=hQ Y a' hx' hs' hn hd;obtain⟨z,s'⟩:=r;cases z with|normal=>exact absurd hr (hne s')|exit id=>exact Gs this|ret=>exact this
   .cases hc|cond c x y=>
   simp[eB]at hc;split at hc
   .rename_i c' ax ay E9 hx hy;cases hc;simp[exec]at hr;have hv:=bC hs E9;split at hr;.rename_i hb;exact wp_cond_true (oZ hb hv) (JC x ax X s a r Q hx hr hs hdom hQ)
    .rename_i hb;exact wp_cond_false (oZ hb hv) (JC y ay X s a r Q hy hr hs hdom hQ)
    .cases hr
   .cases hc|block id c=>
   simp[eB]at hc;split at hc
   .rename_i aeR;obtain⟨ac',E9,rfl⟩:=aJ hc;simp[exec]at hr;refine wp_block ?_;split at hr
    .rename_i id' s' he;split at hr;.rename_i hid;cases hr;refine JC c ac' X s a (.exit id',s') _ E9 he hs hdom λY a' hx' hs' hn hd=>?_;have:=hQ Y a' hx' hs' hn hd;have hid:=am hid;subst hid;rw[ya aeR];simp[Exit.inBlock,i5];exact this
     .rename_i hid;cases hr;refine JC c ac' X s a (.exit id',s') _ E9 he hs hdom λY a' hx' hs' hn hd=>?_;have:=hQ Y a' hx' hs' hn hd;simp[AX.exit']at this⊢;split;.rename_i hb;rw[ba hb]at this;simp[Exit.inBlock,na hid,ns];exact this
      .rename_i hb;rw[be hb]at this;exact this
    .rename_i hne;refine JC c ac' X s a r _ E9 hr hs hdom λY a' hx' hs' hn hd=>?_;have:=hQ Y a' hx' hs' hn hd;obtain⟨z,s'⟩:=r;cases z with|normal=>exact this|exit id=>exact absurd hr (hne id s')|ret=>exact this
   .cases hc|loop c=>obtain⟨ac',E9,rfl⟩:=aJ hc;exact(B c ac' X s a r Q E9 hr hs hdom hQ).wp|exit id=>
   simp[eB]at hc;split at hc;.rename_i aeR;cases hc;cases hr;have:=hQ.now hs;rw[ya aeR]at this;exact wp_exit this
   .cases hc|goto l=>cases hc;cases hr;have:=hQ.now hs;rw[Gn]at this;exact wp_goto this|scope c=>
   simp[eB]at hc;split at hc;.rename_i l hl;obtain⟨c0,Tn,h1,h2,h3,h4⟩:=AT JC c ac l hc;refine wp_scope_jumps l (λa w=>∃k,k<=n/\lR call sh nt Q l Tn k a w) (rounds call sh nt Q l Tn) h1 (h4 (n+1) X s a r Q (bc _) hr hs hdom hQ) λa w hJ=>?_;obtain⟨k,hk,hR⟩:=hJ;exact wp_seq (wp_skip (C9 JC h2 h3 (nf (Gr hR) hk) (Ro hR)))
   .cases hc|ret=>cases hc;cases hr;exact wp_ret (hQ.now hs)|_=>simp[eB]at hc
end
end Go.bK
namespace Go.Sym
open Go Go.bK
inductive rJ where|mk(kind:Int)(int:Int)(text:List UInt8)(list:List rJ)(cut:Bool)deriving Inhabited
def rJ.kind:rJ->Int|.mk k _ _ _ _=>k
def rJ.int:rJ->Int|.mk _ i _ _ _=>i
def rJ.text:rJ->List UInt8|.mk _ _ s _ _=>s
def rJ.list:rJ->List rJ|.mk _ _ _ l _=>l
def rJ.cut:rJ->Bool|.mk _ _ _ _ c=>c
inductive Ty where|val|int(k:IntKind)|bool|str|sl(t:Ty)|unit|prod(a b:Ty)|sum(a b:Ty)deriving DecidableEq,Inhabited
@[reducible]def Ty.den:Ty->Type|.val=>rJ|.int _=>Int|.bool=>Bool|.str=>List UInt8|.sl t=>List t.den|.unit=>Unit|.prod a b=>a.den×b.den|.sum a b=>a.den⊕b.den
structure fS where
 t:Ty
 v:t.den
def wA(a b:Ty)(x:a.den):Option b.den:=match decEq a b with|.isTrue h=>some (h▸x)|.isFalse _=>none
def j6(a b:Ty)(x:List a.den):Option (List b.den):=match decEq a b with|.isTrue h=>some (h▸x)|.isFalse _=>none
def Ty.size:Ty->Nat|.val=>5|.int _|.bool|.str|.sl _=>1|.unit=>0|.prod a b=>a.size+b.size|.sum _ _=>0
inductive Ow where|d|full|app(v:Nat)|bG deriving Inhabited
inductive Cell where|int(k:IntKind)(a:Int)|bool(b:Bool)|er(b:Bool)|str(s:List UInt8)|raw(v:Value)|nil(full:Bool)|sl(t:Ty)(l:List t.den)(o:Ow)|ref(lv sl ak:Nat)(t:Ty)|kj(lv sl ak:Nat)(t:Ty)(off len:Nat)|ptr(lv sl ak i off:Nat)|eZ(t:Ty)(x:t.den)(off:Nat)|dx(lv sl ak off n sz:Nat)|mp(lv sl ak:Nat)deriving Inhabited
inductive V2 where|c(x:Cell)|agg(cs:List Cell)|fG(f:Nat)(cap:List Cell)|fk(vs:List (Bool×List Cell))deriving Inhabited
inductive E2 where|row(ak:Nat)(t:Ty)(l:List t.den)|box(ak:Nat)(cs:List Cell)|set(ak:Nat)(l:List (List UInt8))deriving Inhabited
structure S2 where
 slots:Tr V2
 outer:List (Tr V2)mem:List (Tr E2)aI:Tr Unit
 nv:Nat deriving Inhabited
mutual def NH:rJ->List D|.mk k i s l c=>[.sc (.int .u8 k),.sc (.int .i64 i),.sc (.string ⟨s.toArray⟩),.sl (Gt l),.sc (.bool c)]def Gt:List rJ->List (List D)|[]=>[]|v::r=>NH v::Gt r end
def fu:(t:Ty)->t.den->List D|.val,v=>NH v|.int k,a=>[.sc (.int k a)]|.bool,b=>[.sc (.bool b)]|.str,s=>[.sc (.string ⟨s.toArray⟩)]|.sl t,l=>[.sl (List.map (fu t) l)]|.unit,_=>[]|.prod a b,x=>fu a x.1++fu b x.2|.sum _ _,_=>[]
def jD:(t:Ty)->t.den->List Cell|.val,v=>[.int .u8 v.kind,.int .i64 v.int,.str v.text,.sl .val v.list .d,.bool v.cut]|.int k,a=>[.int k a]|.bool,b=>[.bool b]|.str,s=>[.str s]|.sl t,l=>[.sl t l .d]|.unit,_=>[]|.prod a b,x=>jD a x.1++jD b x.2|.sum _ _,_=>[]
def Ks(k:IntKind):List Cell->Option (Int×List Cell)
 |.int k' a::r=>match decEq k k' with|.isTrue _=>some (a,r)|.isFalse _=>none
 |_=>none
def Iy:List Cell->Option (Bool×List Cell)|.bool b::r=>some (b,r)|_=>none
def PE:List Cell->Option (List UInt8×List Cell)|.str s::r=>some (s,r)|_=>none
def aay(t:Ty):List Cell->Option (List t.den×List Cell)
 |.nil _::r=>some ([],r)|.sl t' l _::r=>match j6 t' t l with|some l=>some (l,r)|none=>none
 |_=>none
def acZ(cs:List Cell):Option (rJ×List Cell):=match Ks .u8 cs with
 |some (k,r)=>match Ks .i64 r with
  |some (i,r)=>match PE r with
   |some (s,r)=>match aay .val r with
    |some (l,r)=>match Iy r with|some (c,r)=>some (.mk k i s l c,r)|none=>none
    |none=>none
   |none=>none
  |none=>none
 |none=>none
def AU:(t:Ty)->List Cell->Option (t.den×List Cell)
 |.val,cs=>acZ cs|.int k,cs=>Ks k cs|.bool,cs=>Iy cs|.str,cs=>PE cs|.sl t,cs=>aay t cs|.unit,r=>some ((),r)|.prod a b,r=>match AU a r with
  |some (x,r')=>match AU b r' with|some (y,r'')=>some ((x,y),r'')|none=>none
  |none=>none
 |.sum _ _,_=>none
def AW(t:Ty)(cs:List Cell):Option t.den:=match AU t cs with|some (x,[])=>some x|_=>none
def aeS:Value->Cell|.int k a=>.int k a|.bool b=>.bool b|.string b=>.str b.data.toList|v=>.raw v
def aaz:AV->Option Cell|.d (.sc v)=>some (aeS v)|.own [] .full=>some (.nil true)|_=>none
def Da:List AV->Option (List Cell)|[]=>some []|x::r=>match aaz x,Da r with|some y,some ys=>some (y::ys)|_,_=>none
def aeT:AV->Option V2|.agg cs=>(Da cs).map .agg|.fk []=>some (.fk [])|.fG f []=>some (.fG f [])|x=>(aaz x).map .c
def aaA:D->Option Cell|.sc v=>some (aeS v)|.sl []=>some (.nil false)|_=>none
def ud:List D->Option (List Cell)|[]=>some []|x::r=>match aaA x,ud r with|some y,some ys=>some (y::ys)|_,_=>none
def jY(m:List (Tr E2))(lv sl:Nat):Option E2:=(m[lv]?).bind λt=>t.get? sl
def Db(m:List (Tr E2))(lv sl:Nat)(e:Option E2):List (Tr E2):=m.modify lv λt=>t.set sl e
def gK(m:List (Tr E2)):List (Nat×Nat×Option E2)->List (Tr E2)|[]=>m|(lv,sl,e)::r=>gK (Db m lv sl e) r
structure SL where
 t:Ty
 l:List t.den
def rowOf(m:List (Tr E2))(lv sl ak:Nat):Option SL:=match jY m lv sl with
 |some (.row v t l)=>match Nat.beq v ak with|true=>some ⟨t,l⟩|false=>none
 |_=>none
def PG(m:List (Tr E2))(lv sl ak:Nat):Option (List (List UInt8)):=match jY m lv sl with
 |some (.set v l)=>match Nat.beq v ak with|true=>some l|false=>none
 |_=>none
def NI(m:List (Tr E2)):Cell->Option (Cell×List (Nat×Nat))
 |.int k a=>some (.int k a,[])|.bool b=>some (.bool b,[])|.str s=>some (.str s,[])|.raw v=>some (.raw v,[])|.nil _=>some (.nil false,[])|.sl _ _ .bG=>none|.sl t l _=>some (.sl t l .d,[])|.ref lv sl ak _=>match rowOf m lv sl ak with|some r=>some (.sl r.t r.l .d,[(lv,sl)])|none=>none
 |.kj lv sl ak _ off len=>match rowOf m lv sl ak with|some r=>some (.sl r.t ((r.l.drop off).take len) .d,[(lv,sl)])|none=>none
 |_=>none
def nD(m:List (Tr E2)):List Cell->Option (List Cell×List (Nat×Nat))|[]=>some ([],[])|x::r=>match NI m x,nD m r with|some (y,k),some (ys,ks)=>some (y::ys,k++ks)|_,_=>none
structure Kt where
 val:V2
 dn:List (Nat×Nat×Option E2)cR:List (Nat×Bool)rd:List (Nat×Nat×Nat)deriving Inhabited
inductive iJ where|bT(e:Kt)|all(val:V2)(s:S2)deriving Inhabited
def Kt.wr(e:Kt):List (Nat×Nat×Nat):=e.dn.map (λu=>bU u.1 u.2.1)++e.cR.map λu=>ku u.1
def lS(v:V2):iJ:=.bT {val:=v,dn:=[],cR:=[],rd:=[]}
def eO(c:Cell):iJ:=lS (.c c)
def ue:Cell->List (Nat×Nat×Nat)|.ref lv sl _ _=>[bU lv sl]|.kj lv sl _ _ _ _=>[bU lv sl]|.ptr lv sl _ _ _=>[bU lv sl]|.dx lv sl _ _ _ _=>[bU lv sl]|.mp lv sl _=>[bU lv sl]|_=>[]
def Iz:V2->List (Nat×Nat×Nat)|.c x=>ue x|.agg cs=>cs.flatMap ue|_=>[]
def lT(ks:List (Nat×Nat)):List (Nat×Nat×Option E2):=ks.map λk=>(k.1,k.2,none)
def aaB(s:Tr V2)(dst:Option Nat)(v:V2):Tr V2:=match dst with|some n=>s.set n (some v)|none=>s
def S2.app(s:S2)(dst:Option Nat):iJ->S2|.bT e=>{slots:=aaB s.slots dst e.val,outer:=s.outer,mem:=gK s.mem e.dn,aI:=eV s.aI e.cR,nv:=s.nv}|.all v s'=>{s' with slots:=aaB s'.slots dst v}
def Cell.still:Cell->Bool|.ref ..|.kj ..|.ptr ..|.dx ..|.mp ..=>false|.sl _ _ (.app _)=>false|_=>true
def V2.still:V2->Bool|.c x=>x.still|.agg cs=>cs.all Cell.still|.fG _ cs=>cs.all Cell.still|.fk vs=>vs.all λv=>v.2.all Cell.still
def loose:Tr V2->Tr V2|.lf=>.lf|.nd v l r=>.nd (match v with|none=>none|some x=>match x.still with|true=>none|false=>some x) (loose l) (loose r)
def merge:Tr V2->Tr V2->Tr V2|.lf,_=>.lf|.nd v l r,b=>.nd (match v with|none=>none|some x=>match x.still with|true=>some x|false=>b.top) (merge l b.left) (merge r b.right)
def jR(s:S2):cu->Option V2|.t n=>s.slots.get? n|.c v=>aeT v
def IA(s:S2):List cu->Option (List V2)|[]=>some []|x::r=>match jR s x,IA s r with|some y,some ys=>some (y::ys)|_,_=>none
def V2.cells?:V2->Option (List Cell)|.c x=>some [x]|.agg cs=>some cs|_=>none
def Dc(agg:Bool)(cs:List Cell):Option V2:=match agg with|true=>some (.agg cs)|false=>match cs with|[x]=>some (.c x)|_=>none
section
variable{α:Type}
def aL(b:Bool)(k:Option α):Option α:=cond b k none
def idx{β:Type}(l:List β)(i:Int):Option β:=cond (decide (0<=i)) (l[i.toNat]?) none
def Rp:Nat->Nat->(Nat->Option α)->Option α|0,_,_=>none|n+1,k,F=>cond (Nat.beq k n) (F n) (Rp n k F)
def gB(i:Int)(n:Nat):Bool:=decide (0<=i)&&decide (i.toNat<n)
def room(n b:Nat):Bool:=decide (n<=eU)&&decide (n*b<=jz)
def Dd{β:Type}(news l:List β):List β:=news.take (min news.length l.length)++l.drop (news.take (min news.length l.length)).length
def bN(s:List UInt8):List Int:=s.map λc=>(c.toNat:Int)
def jE(v:Option V2)(k:Cell->Option α):Option α:=match v with|some (.c x)=>k x|_=>none
def Rq(v:Option V2)(k:Int->Option α):Option α:=match v with|some (.c (.int _ n))=>k n|_=>none
def IB(v:Option V2)(k:Nat->Option α):Option α:=Rq v λn=>aL (decide (0<=n)) (k n.toNat)
def yc(v:Option V2)(k:Bool->Option α):Option α:=match v with|some (.c (.bool b))=>k b|_=>none
def cH{β:Type}(o:Option β)(k:β->Option α):Option α:=match o with|some x=>k x|none=>none
def azK:Value->Option Cell|.int k a=>some (.int k a)|.bool b=>some (.bool b)|_=>none
def aeU(op:BinOp)(k:IntKind)(a:Int)(k':IntKind)(b:Int)(K:Cell->Option α):Option α:=match op with|.shl=>aL (!decide (b<0)) (K (.int k (k.wrap (a*2^min b.toNat k.bits))))|.shr=>aL (!decide (b<0)) (K (.int k (a.fdiv (2^min b.toNat k.bits))))|op=>match decEq k k' with|.isFalse _=>none|.isTrue _=>match op with|.add=>K (.int k (k.wrap (a+b)))|.sub=>K (.int k (k.wrap (a-b)))|.mul=>K (.int k (k.wrap (a*b)))|.quo=>aL (!decide (b=0)) (K (.int k (k.wrap (a.tdiv b))))|.rem=>aL (!decide (b=0)) (K (.int k (a.tmod b)))|.and=>K (.int k (k.wrap (BitVec.ofInt k.bits a&&&BitVec.ofInt k.bits b).toNat))|.or=>K (.int k (k.wrap (BitVec.ofInt k.bits a|||BitVec.ofInt k.bits b).toNat))|.xor=>K (.int k (k.wrap (BitVec.ofInt k.bits a^^^BitVec.ofInt k.bits b).toNat))|.andNot=>K (.int k (k.wrap (BitVec.ofInt k.bits a&&&~~~(BitVec.ofInt k.bits b)).toNat))|.eql=>K (.bool (a==b))|.neq=>K (.bool (a !=b))|.lss=>K (.bool (decide (a<b)))|.leq=>K (.bool (decide (a<=b)))|.gtr=>K (.bool (decide (a>b)))|.geq=>K (.bool (decide (a>=b)))|_=>none
def aeV(op:BinOp)(x y:List UInt8)(K:Cell->Option α):Option α:=match op with|.add=>aL (!decide (((x.length+y.length:Nat):Int)>IntKind.i64.max)) (K (.str (x++y)))|.eql=>K (.bool (x==y))|.neq=>K (.bool !(x==y))|.lss=>K (.bool (Op.bytesLess x y))|.leq=>K (.bool (Op.bytesLess x y||x==y))|.gtr=>K (.bool !(Op.bytesLess x y||x==y))|.geq=>K (.bool !(Op.bytesLess x y))|_=>none
def aeW(op:BinOp)(x y:Cell)(K:Cell->Option α):Option α:=match x,y with|.int k a,.int k' b=>aeU op k a k' b K|.str a,.str b=>aeV op a b K|_,_=>none
def Ul(kd:Nat):Cell->Cell->Option Bool
 |.bool a,.bool b=>match kd with|0=>some (a==b)|_=>none
 |.int k a,.int k' b=>match kd with
  |1=>match decEq k k' with|.isTrue _=>some (a==b)|.isFalse _=>none
  |_=>none
 |.str a,.str b=>match kd with|0=>none|1=>none|_=>some (a==b)
 |_,_=>none
def IC(xs ys:List Cell):List (Nat×Nat)->Option Bool|[]=>some true|o::r=>match xs[o.1]?,ys[o.1]?,IC xs ys r with|some x,some y,some b'=>(Ul o.2 x y).map λb=>b&&b'|_,_,_=>none
def unK(op:UnOp)(x:Cell)(K:Cell->Option α):Option α:=match x with
 |.bool b=>match op with|.not=>K (.bool !b)|_=>none
 |.int k n=>match op with|.neg=>K (.int k (k.wrap (0-n)))|.xor=>K (.int k (k.wrap (BitVec.ofInt k.bits (if k.signed then-1 else k.max)^^^BitVec.ofInt k.bits n).toNat))|_=>none
 |_=>none
def p8(m:List (Tr E2))(x:Cell)(e:Option Ty)(K:SL->Option α):Option α:=match x with|.sl t l _=>K ⟨t,l⟩|.nil _=>cH e λt=>K ⟨t,[]⟩|.ref lv sl ak _=>cH (rowOf m lv sl ak) K|.kj lv sl ak _ off len=>cH (rowOf m lv sl ak) λr=>aL (decide (off+len<=r.l.length)) (K ⟨r.t,(r.l.drop off).take len⟩)|.str s=>K ⟨.int .u8,bN s⟩|_=>none
def Gu(s:S2):List Cell->List (Nat×Nat×cu)->Option (List Cell)|cs,[]=>some cs|cs,(off,sz,x)::r=>match(jR s x).bind V2.cells? with
 |some new=>match Nat.beq new.length sz&&Nat.ble (off+sz) cs.length with|true=>Gu s (bK.splice cs off new) r|false=>none
 |none=>none
def De(s:S2)(sz:Nat):List (List Cell)->List (Nat×cu)->Option (List (List Cell)×List (Nat×Nat))|els,[]=>some (els,[])|els,(i,x)::r=>match((jR s x).bind V2.cells?).bind (nD s.mem)with
 |some (e,ks)=>match Nat.beq e.length sz&&Nat.blt i els.length with
  |true=>match De s sz (els.set i e) r with|some (els',ks')=>some (els',ks++ks')|none=>none
  |false=>none
 |none=>none
def Df(t:Ty):List (List Cell)->Option (List t.den)|[]=>some []|e::r=>match AW t e,Df t r with|some x,some xs=>some (x::xs)|_,_=>none
def Dg:List V2->Option (List Cell)|[]=>some []|.c x::r=>(Dg r).map (x::·)|_=>none
def PI(m:List (Tr E2))(sz:Nat)(p:Cell)(K:List Cell->Option α):Option α:=match p with
 |.ptr lv sl ak i off=>match jY m lv sl with
  |some (.box v cs)=>match Nat.beq v ak&&Nat.beq i 0&&Nat.ble (off+sz) cs.length with|true=>K ((cs.drop off).take sz)|false=>none
  |some (.row v t l)=>match Nat.beq v ak&&Nat.ble (off+sz) t.size with|true=>Option.bind l[i]? λx=>K (((jD t x).drop off).take sz)|false=>none
  |some (.set _ _)=>none|none=>none
 |.eZ t x off=>match Nat.ble (off+sz) t.size with|true=>K (((jD t x).drop off).take sz)|false=>none
 |_=>none
def Dh(ks:List (Nat×Nat))(lv sl:Nat):Bool:=ks.any λk=>Nat.beq k.1 lv&&Nat.beq k.2 sl
def NJ(m:List (Tr E2))(sz:Nat)(p:Cell)(new:List Cell)(K:iJ->Option α):Option α:=match p,Nat.beq new.length sz with
 |.ptr lv sl ak i off,true=>match jY m lv sl with
  |some (.box v cs)=>match Nat.beq v ak&&Nat.beq i 0&&Nat.ble (off+sz) cs.length with|true=>K (.bT {val:=.fk [],dn:=[(lv,sl,some (.box v (bK.splice cs off new)))],cR:=[],rd:=[bU lv sl]})|false=>none
  |some (.row v t l)=>match Nat.beq v ak&&Nat.ble (off+sz) t.size,nD m new with
   |true,some (new,ks)=>match Dh ks lv sl with|true=>none|false=>Option.bind l[i]? λx=>cH (AW t (bK.splice (jD t x) off new)) λy=>K (.bT {val:=.fk [],dn:=lT ks++[(lv,sl,some (.row v t (l.set i y)))],cR:=[],rd:=bU lv sl::jy ks})
   |_,_=>none
  |some (.set _ _)=>none|none=>none
 |_,_=>none
def Rr(s:S2)(row:Bool)(lv sl aP sz bytes:Nat)(x y:Cell)(e:Option Ty)(K:iJ->Option α):Option α:=match x with
 |.nil true=>p8 s.mem y e λn=>match Nat.beq n.t.size sz with|true=>aL (room n.l.length bytes) (match row with|false=>K (.bT {val:=.c (.sl n.t n.l (.app aP)),dn:=[],cR:=[(aP,true)],rd:=ue y})|true=>K (.bT {val:=.c (.ref lv sl aP n.t),dn:=[(lv,sl,some (.row aP n.t n.l))],cR:=[],rd:=ue y}))|false=>none
 |.sl t l .full=>p8 s.mem y (some t) λn=>match Nat.beq t.size sz,j6 n.t t n.l with|true,some news=>aL (room (l.length+news.length) bytes) (match row with|false=>K (.bT {val:=.c (.sl t (l++news) (.app aP)),dn:=[],cR:=[(aP,true)],rd:=ue y})|true=>aL (l.isEmpty||!news.isEmpty) (K (.bT {val:=.c (.ref lv sl aP t),dn:=[(lv,sl,some (.row aP t (l++news)))],cR:=[],rd:=ue y})))|_,_=>none
 |.sl t l (.app v)=>p8 s.mem y (some t) λn=>match Nat.beq t.size sz,j6 n.t t n.l,row,s.aI.get? v with|true,some news,false,some ()=>aL (room (l.length+news.length) bytes) (K (.bT {val:=.c (.sl t (l++news) (.app aP)),dn:=[],cR:=[(v,false),(aP,true)],rd:=ku v::ue y}))|_,_,_,_=>none
 |.ref cy cU ak t=>cH (rowOf s.mem cy cU ak) λr=>p8 s.mem y (some t) λn=>match Nat.beq t.size sz,j6 r.t t r.l,j6 n.t t n.l with|true,some l,some news=>aL (room (l.length+news.length) bytes) (K (.bT {val:=.c (.ref cy cU aP t),dn:=[(cy,cU,some (.row aP t (l++news)))],cR:=[],rd:=bU cy cU::ue y}))|_,_,_=>none
 |.kj cy cU ak t off len=>cH (rowOf s.mem cy cU ak) λr=>p8 s.mem y (some t) λn=>match Nat.beq t.size sz,j6 r.t t r.l,j6 n.t t n.l with|true,some l,some news=>aL (decide (off+len<=l.length)&&room (len+news.length) bytes) (K (.bT {val:=.c (.ref cy cU aP t),dn:=[(cy,cU,some (.row aP t ((l.drop off).take len++news)))],cR:=[],rd:=bU cy cU::ue y}))|_,_,_=>none
 |_=>none
def wB(x:Option cu)(s:S2)(K:Option Nat->Option α):Option α:=match x with|none=>K none|some o=>IB (jR s o) λn=>K (some n)
def p9{β:Type}(l:List β)(lo hi:Option Nat):List β:=match lo,hi with|none,none=>l|some a,none=>l.drop a|none,some b=>l.take b|some a,some b=>(l.drop a).take (b-a)
def oh(n:Nat)(lo hi:Option Nat):Bool:=match lo,hi with|none,none=>true|some a,none=>decide (a<=n)|none,some b=>decide (b<=n)|some a,some b=>decide (a<=b)&&decide (b<=n)
def BV(lo:Option Nat):Nat:=lo.getD 0
def Cell.ot:Cell->Bool|.ref ..=>true|.kj ..=>true|_=>false
def V2.ot:V2->Bool|.c x=>x.ot|_=>false
def aeX(m:List (Tr E2))(sz aP:Nat)(x:Cell)(lo hi:Option Nat)(K:iJ->Option α):Option α:=match x with
 |.ref lv sl ak t=>cH (rowOf m lv sl ak) λr=>match Nat.beq t.size sz,j6 r.t t r.l with|true,some l=>aL (oh l.length lo hi) (K (.bT {val:=.c (.ref lv sl aP t),dn:=[(lv,sl,some (.row aP t (p9 l lo hi)))],cR:=[],rd:=[bU lv sl]}))|_,_=>none
 |_=>none
def NK(m:List (Tr E2))(sz:Nat)(x:Cell)(lo hi mx:Option Nat)(K:Cell->Option α):Option α:=match x with
 |.sl t l o=>match Nat.beq t.size sz with
  |true=>match mx with|none=>aL (oh l.length lo hi) (match o with
   |.bG=>K (.sl t (p9 l lo hi) .bG)|.full=>match hi with|none=>K (.sl t (p9 l lo hi) .full)|some _=>K (.sl t (p9 l lo hi) .d)
   |_=>K (.sl t (p9 l lo hi) .d))|some m=>match o,hi with|.bG,_=>none|_,none=>none|_,some h=>aL (oh l.length lo hi&&Nat.beq h m) (K (.sl t (p9 l lo hi) .full))
  |false=>none
 |.nil f=>match mx with|none=>aL (oh 0 lo hi) (K (.nil f))|some _=>none
 |.ref lv sl ak t=>match Nat.beq t.size sz,mx with|true,none=>cH (rowOf m lv sl ak) λr=>aL (oh r.l.length lo hi) (K (.kj lv sl ak t (BV lo) (hi.getD r.l.length-BV lo)))|_,_=>none
 |.kj lv sl ak t off len=>match Nat.beq t.size sz,mx with|true,none=>aL (oh len lo hi) (K (.kj lv sl ak t (off+BV lo) (hi.getD len-BV lo)))|_,_=>none
 |_=>none
end
inductive ig where|int(k:IntKind)|bool|er|str|sl(t:Ty)(o:Ow)|nil(full:Bool)|ref(lv sl ak:Nat)(t:Ty)|ptr(lv sl ak i off:Nat)|eZ(t:Ty)(off:Nat)|mp(lv sl ak:Nat)deriving Inhabited
inductive tA where|c(x:ig)|agg(l:List ig)|fG(f:Nat)(l:List ig)deriving Inhabited
inductive PJ where|row(ak:Nat)(t:Ty)|box(ak:Nat)(l:List ig)|set(ak:Nat)deriving Inhabited
@[reducible]def sY:List Ty->Ty|[]=>.unit|[a]=>a|a::b::r=>.prod a (sY (b::r))
def unpack:(ts:List Ty)->(sY ts).den->List fS|[],_=>[]|[a],x=>[⟨a,x⟩]|a::b::r,x=>⟨a,x.1⟩::unpack (b::r) x.2
def pack:(ts:List Ty)->List fS->Option (sY ts).den
 |[],[]=>some ()|[a],[d]=>wA d.t a d.v|a::b::r,d::ds=>match wA d.t a d.v,pack (b::r) ds with|some x,some y=>some (x,y)|_,_=>none
 |_,_=>none
def ig.fill:ig->List fS->Option (Cell×List fS)|.int _,⟨.int k,a⟩::r=>some (.int k a,r)|.bool,⟨.bool,b⟩::r=>some (.bool b,r)|.er,⟨.bool,b⟩::r=>some (.er b,r)|.str,⟨.str,s⟩::r=>some (.str s,r)|.sl _ o,⟨.sl t,l⟩::r=>some (.sl t l o,r)|.nil f,r=>some (.nil f,r)|.ref lv sq ak t,r=>some (.ref lv sq ak t,r)|.ptr lv sq ak i off,r=>some (.ptr lv sq ak i off,r)|.eZ _ off,⟨t,x⟩::r=>some (.eZ t x off,r)|.mp lv sq ak,r=>some (.mp lv sq ak,r)|_,_=>none
def dH:List ig->List fS->Option (List Cell×List fS)|[],r=>some ([],r)|c::cs,r=>match c.fill r with
 |some (x,r')=>match dH cs r' with|some (xs,r'')=>some (x::xs,r'')|none=>none
 |none=>none
def tA.fill:tA->List fS->Option (V2×List fS)
 |.c x,r=>match x.fill r with|some (y,r')=>some (.c y,r')|none=>none
 |.agg l,r=>match dH l r with|some (y,r')=>some (.agg y,r')|none=>none
 |.fG f l,r=>match dH l r with|some (y,r')=>some (.fG f y,r')|none=>none
def PJ.fill:PJ->List fS->Option (E2×List fS)
 |.row ak _,⟨.sl t,l⟩::r=>some (.row ak t l,r)|.box ak l,r=>match dH l r with|some (y,r')=>some (.box ak y,r')|none=>none
 |.set ak,⟨.sl .str,l⟩::r=>some (.set ak l,r)|_,_=>none
abbrev Ren:=List (Nat×Option Nat)
def ig.get:ig->Cell->Option (List fS×Ren)
 |.int k,.int k' a=>match decEq k k' with|.isTrue _=>some ([⟨.int k',a⟩],[])|.isFalse _=>none
 |.bool,.bool b=>some ([⟨.bool,b⟩],[])|.er,.er b=>some ([⟨.bool,b⟩],[])|.str,.str s=>some ([⟨.str,s⟩],[])|.sl t o,.nil f=>match o,f with|.d,_=>some ([⟨.sl t,[]⟩],[])|.bG,_=>some ([⟨.sl t,[]⟩],[])|.full,true=>some ([⟨.sl t,[]⟩],[])|.app v,true=>some ([⟨.sl t,[]⟩],[(v,none)])|_,_=>none
 |.sl _ o,.sl t' l o'=>match o,o' with|.bG,_=>some ([⟨.sl t',l⟩],[])|.d,.bG=>none|.d,_=>some ([⟨.sl t',l⟩],[])|.full,.full=>some ([⟨.sl t',l⟩],[])|.app v,.full=>some ([⟨.sl t',l⟩],[(v,none)])|.app v,.app v'=>some ([⟨.sl t',l⟩],[(v,some v')])|_,_=>none
 |.nil true,.nil true=>some ([],[])|.nil false,.nil _=>some ([],[])|.ref lv sq ak t,.ref cy sq' gA t'=>match Nat.beq lv cy&&Nat.beq sq sq',decEq t t' with|true,.isTrue _=>some ([],[(ak,some gA)])|_,_=>none
 |.ptr lv sq ak i off,.ptr cy sq' gA i' off'=>match Nat.beq lv cy&&Nat.beq sq sq'&&Nat.beq i i'&&Nat.beq off off' with|true=>some ([],[(ak,some gA)])|false=>none
 |.eZ _ off,.eZ t' x off'=>match Nat.beq off off' with|true=>some ([⟨t',x⟩],[])|false=>none
 |.mp lv sq ak,.mp cy sq' gA=>match Nat.beq lv cy&&Nat.beq sq sq' with|true=>some ([],[(ak,some gA)])|false=>none
 |_,_=>none
def AY:List ig->List Cell->Option (List fS×Ren)
 |[],[]=>some ([],[])|c::cs,x::xs=>match c.get x,AY cs xs with|some (d,r),some (ds,rs)=>some (d++ds,r++rs)|_,_=>none
 |_,_=>none
def tA.get:tA->V2->Option (List fS×Ren)
 |.c x,.c y=>x.get y|.agg l,.agg cs=>AY l cs|.fG f l,.fG f' cs=>match Nat.beq f f' with|true=>AY l cs|false=>none
 |_,_=>none
def PJ.get:PJ->E2->Option (List fS×Ren)
 |.row ak _,.row gA t' l=>some ([⟨.sl t',l⟩],[(ak,some gA)])|.box ak l,.box gA cs=>match AY l cs with|some (d,r)=>some (d,(ak,some gA)::r)|none=>none
 |.set ak,.set gA l=>some ([⟨.sl .str,l⟩],[(ak,some gA)])|_,_=>none
structure bw where
 slots:List (Nat×tA)outer:List (List (Nat×tA))mem:List (Nat×Nat×PJ)lvs:Nat
 aI:List Nat
 nv:Nat
 tys:List Ty deriving Inhabited
def oN:List (Nat×tA)->List fS->Tr V2->Option (Tr V2×List fS)|[],r,t=>some (t,r)|(k,v)::l,r,t=>match v.fill r with|some (x,r')=>oN l r' (t.set k (some x))|none=>none
def vl:List (List (Nat×tA))->List fS->Option (List (Tr V2)×List fS)|[],r=>some ([],r)|x::l,r=>match oN x r .lf with
 |some (t,r')=>match vl l r' with|some (ts,r'')=>some (t::ts,r'')|none=>none
 |none=>none
def yd:List (Nat×Nat×PJ)->List fS->List (Tr E2)->Option (List (Tr E2)×List fS)|[],r,m=>some (m,r)|(lv,sl,e)::l,r,m=>match e.fill r with|some (x,r')=>yd l r' (Db m lv sl (some x))|none=>none
def ID:List Nat->Tr Unit->Tr Unit|[],t=>t|v::r,t=>ID r (t.set v (some ()))
def bw.st(T:bw)(ds:List fS):Option S2:=match oN T.slots ds .lf with
 |some (sl,r)=>match vl T.outer r with
  |some (os,r)=>match yd T.mem r (List.replicate T.lvs .lf)with|some (m,[])=>some {slots:=sl,outer:=os,mem:=m,aI:=ID T.aI .lf,nv:=T.nv}|_=>none
  |none=>none
 |none=>none
def qT(s:Tr V2):List (Nat×tA)->Option (List fS×Ren)|[]=>some ([],[])|(k,v)::l=>match(s.get? k).bind v.get,qT s l with|some (d,r),some (ds,rs)=>some (d++ds,r++rs)|_,_=>none
def qU:List (Tr V2)->List (List (Nat×tA))->Option (List fS×Ren)
 |[],[]=>some ([],[])|t::ts,x::xs=>match qT t x,qU ts xs with|some (d,r),some (ds,rs)=>some (d++ds,r++rs)|_,_=>none
 |_,_=>none
def Di(m:List (Tr E2)):List (Nat×Nat×PJ)->Option (List fS×Ren)|[]=>some ([],[])|(lv,sl,e)::l=>match(jY m lv sl).bind e.get,Di m l with|some (d,r),some (ds,rs)=>some (d++ds,r++rs)|_,_=>none
def vQ:Ren->Nat->Option Nat|[],_=>none|(a,w)::r,v=>match Nat.beq a v with|true=>w|false=>vQ r v
def oeq:Option Nat->Option Nat->Bool|none,none=>true|some a,some b=>Nat.beq a b|_,_=>false
def Um(nv snv:Nat)(σ:Ren):Bool:=σ.all λp=>Nat.blt p.1 nv&&oeq (vQ σ p.1) p.2&&(match p.2with|none=>true|some w=>Nat.blt w snv&&σ.all λq=>Nat.beq q.1 p.1||!oeq q.2 p.2)
def IE(nv:Nat)(σ:Ren)(t:Tr Unit):List Nat->Bool|[]=>true|v::r=>Nat.blt v nv&&(match vQ σ v with|none=>true|some w=>(t.get? w).isSome)&&IE nv σ t r
def bw.get(T:bw)(s:S2):Option (List fS):=match qT s.slots T.slots,qU s.outer T.outer,Di s.mem T.mem with
 |some (d,r),some (ds',rs'),some (ds,rs)=>match Nat.beq T.lvs s.mem.length&&Um T.nv s.nv (r++(rs'++rs))&&IE T.nv (r++(rs'++rs)) s.aI T.aI with|true=>some (d++(ds'++ds))|false=>none
 |_,_,_=>none
inductive vm where|c(x:ig)|agg(l:List ig)|fG(f:Nat)|box(l:List ig)deriving Inhabited
abbrev Ty.I:Ty:=.int .i64
abbrev ig.I:ig:=.int .i64
abbrev Ty.U:Ty:=.int .u64
abbrev ig.U:ig:=.int .u64
abbrev Ty.B:Ty:=.int .u8
abbrev ig.B:ig:=.int .u8
abbrev ig.D(t:Ty):ig:=.sl t .d
abbrev ig.A(t:Ty)(n:Nat):ig:=.sl t (.app n)
abbrev ig.P(a b c:Nat):ig:=.ptr a b c 0 0
abbrev tA.I:tA:=.c .I
abbrev tA.U:tA:=.c .U
abbrev tA.B:tA:=.c .B
abbrev tA.Q:tA:=.c .bool
abbrev tA.N:tA:=.c (.nil true)
abbrev tA.T:tA:=.c .str
abbrev tA.S(t:Ty):tA:=.c (.sl t .bG)
abbrev tA.D(t:Ty):tA:=.c (.D t)
abbrev tA.A(t:Ty)(n:Nat):tA:=.c (.A t n)
abbrev tA.P(a b c:Nat):tA:=.c (.P a b c)
abbrev tA.R(a b c:Nat)(t:Ty):tA:=.c (.ref a b c t)
abbrev vm.I:vm:=.c .I
abbrev vm.U:vm:=.c .U
abbrev vm.B:vm:=.c .B
abbrev vm.Q:vm:=.c .bool
abbrev vm.N:vm:=.c (.nil true)
abbrev vm.T:vm:=.c .str
abbrev vm.S(t:Ty):vm:=.c (.sl t .bG)
abbrev vm.D(t:Ty):vm:=.c (.D t)
abbrev vm.A(t:Ty)(n:Nat):vm:=.c (.A t n)
abbrev vm.P(a b c:Nat):vm:=.c (.P a b c)
abbrev vm.R(a b c:Nat)(t:Ty):vm:=.c (.ref a b c t)
structure Callee where
 args:List vm
 ta:List Ty
 res:List (Bool×List ig)tr:List Ty
 rk:Nat
 F:(sY ta).den->Option (sY tr).den
abbrev bt:=List (AX×bw)
@[reducible]def qa:bt->Ty|[]=>.unit|[x]=>sY x.2.tys|x::y::r=>.sum (sY x.2.tys) (qa (y::r))
structure Ku where
 T:bw
 outs:bt
 F:(sY T.tys).den->Option (qa outs).den
structure ah where
 fns:Nat->Option qu
 ye:Nat->Option Callee
 loops:Nat->Nat->AC->Option Ku
 Kv:Nat->Nat->Option bt
 Un:Nat->Nat->Option bt
 NL:Nat->Nat->Option (Nat×Ty)unr:Nat->Nat->Bool
 PK:Nat->Nat->Option Ty
def ah.sh(E:ah)(g:Nat):Bool:=((E.fns g).map (·.sh)).getD false
def ig.arg(m:List (Tr E2))(agg:Bool):ig->Cell->Option (List fS×List (Nat×Nat)×List Bool)
 |.int k,.int k' a=>match decEq k k' with|.isTrue _=>some ([⟨.int k',a⟩],[],[])|.isFalse _=>none
 |.bool,.bool b=>some ([⟨.bool,b⟩],[],[])|.str,.str s=>some ([⟨.str,s⟩],[],[])|.sl t o,.nil _=>match o with|.d=>some ([⟨.sl t,[]⟩],[],[])|.bG=>some ([⟨.sl t,[]⟩],[],[])|_=>none
 |.sl _ o,.sl t' l o'=>match o,o' with|.bG,_=>some ([⟨.sl t',l⟩],[],[])|.d,.bG=>none|.d,_=>some ([⟨.sl t',l⟩],[],[])|_,_=>none
 |.sl _ o,.ref lv sq ak _=>match rowOf m lv sq ak,o,agg with|some r,.bG,false=>some ([⟨.sl r.t,r.l⟩],[],[])|some r,.bG,true=>some ([⟨.sl r.t,r.l⟩],[(lv,sq)],[])|some r,.d,true=>some ([⟨.sl r.t,r.l⟩],[(lv,sq)],[])|_,_,_=>none
 |.sl _ o,.kj lv sq ak _ off len=>match rowOf m lv sq ak,o,agg with|some r,.bG,false=>some ([⟨.sl r.t,(r.l.drop off).take len⟩],[],[decide (off+len<=r.l.length)])|_,_,_=>none
 |_,_=>none
def Dj(m:List (Tr E2)):List ig->List Cell->Option (List fS×List (Nat×Nat)×List Bool)
 |[],[]=>some ([],[],[])|c::cs,x::xs=>match c.arg m true x,Dj m cs xs with|some (d,k,b),some (ds,ks,bs)=>some (d++ds,k++ks,b++bs)|_,_=>none
 |_,_=>none
def vm.arg(m:List (Tr E2)):vm->V2->Option (List fS×List (Nat×Nat)×List Bool)
 |.c x,.c y=>x.arg m false y|.agg l,.agg cs=>Dj m l cs|.fG f,.fG f' []=>match Nat.beq f f' with|true=>some ([],[],[])|false=>none
 |_,_=>none
def Gv(m:List (Tr E2)):List vm->List V2->Option (List fS×List (Nat×Nat)×List Bool)
 |[],[]=>some ([],[],[])|p::ps,x::xs=>match p.arg m x,Gv m ps xs with|some (d,k,b),some (ds,ks,bs)=>some (d++ds,k++ks,b++bs)|_,_=>none
 |_,_=>none
def wC{α:Type}(l:List Bool)(k:Option α):Option α:=match l with|[]=>k|b::r=>aL b (wC r k)
def aeY(m:List (Tr E2)):Cell->Option Cell
 |.int k a=>some (.int k a)|.bool b=>some (.bool b)|.str s=>some (.str s)|.raw v=>some (.raw v)|.nil _=>some (.nil false)|.sl t l _=>some (.sl t l .d)|.ref lv sl ak _=>match rowOf m lv sl ak with|some r=>some (.sl r.t r.l .d)|none=>none
 |.kj lv sl ak _ off len=>match rowOf m lv sl ak with|some r=>some (.sl r.t ((r.l.drop off).take len) .d)|none=>none
 |_=>none
def aaC(m:List (Tr E2)):List Cell->Option (List Cell)|[]=>some []|x::r=>match aeY m x,aaC m r with|some y,some ys=>some (y::ys)|_,_=>none
def Cell.nb:Cell->Bool|.dx ..=>false|_=>true
def ig.kz(m:List (Tr E2))(agg:Bool):ig->Cell->Option (List fS×List Bool)
 |.int k,.int k' a=>match decEq k k' with|.isTrue _=>some ([⟨.int k',a⟩],[])|.isFalse _=>none
 |.bool,.bool b=>some ([⟨.bool,b⟩],[])|.str,.str s=>some ([⟨.str,s⟩],[])|.sl t o,.nil _=>match o with|.d=>some ([⟨.sl t,[]⟩],[])|.bG=>some ([⟨.sl t,[]⟩],[])|_=>none
 |.sl _ o,.sl t' l _=>match o with|.d=>some ([⟨.sl t',l⟩],[])|.bG=>some ([⟨.sl t',l⟩],[])|_=>none
 |.sl _ o,.ref lv sq ak _=>match rowOf m lv sq ak,o with|some r,.d=>some ([⟨.sl r.t,r.l⟩],[])|some r,.bG=>some ([⟨.sl r.t,r.l⟩],[])|_,_=>none
 |.sl _ o,.kj lv sq ak _ off len=>match rowOf m lv sq ak,o with|some r,.d=>some ([⟨.sl r.t,(r.l.drop off).take len⟩],[decide (off+len<=r.l.length)])|some r,.bG=>some ([⟨.sl r.t,(r.l.drop off).take len⟩],[decide (off+len<=r.l.length)])|_,_=>none
 |.sl t o,.dx lv sq ak off n sz=>match agg,jY m lv sq with
  |false,some (.box v cs)=>match Nat.beq v ak&&(Nat.ble (off+n*sz) cs.length&&cs.all Cell.nb),(aaC m ((cs.drop off).take (n*sz))).bind λds=>Df t (bK.chunk sz n ds)with
   |true,some l=>match o with|.d=>some ([⟨.sl t,l⟩],[])|.bG=>some ([⟨.sl t,l⟩],[])|_=>none
   |_,_=>none
  |_,_=>none
 |_,_=>none
def zn(m:List (Tr E2)):List ig->List Cell->Option (List fS×List Bool)
 |[],[]=>some ([],[])|c::cs,x::xs=>match c.kz m true x,zn m cs xs with|some (d,b),some (ds,bs)=>some (d++ds,b++bs)|_,_=>none
 |_,_=>none
def vm.kz(m:List (Tr E2)):vm->V2->Option (List fS×List Bool)
 |.c x,.c y=>x.kz m false y|.agg l,.agg cs=>zn m l cs|.fG f,.fG f' []=>match Nat.beq f f' with|true=>some ([],[])|false=>none
 |_,_=>none
def zo(m:List (Tr E2)):List vm->List V2->Option (List fS×List Bool)
 |[],[]=>some ([],[])|p::ps,x::xs=>match p.kz m x,zo m ps xs with|some (d,b),some (ds,bs)=>some (d++ds,b++bs)|_,_=>none
 |_,_=>none
def AZ(m:List (Tr E2)):V2->List (Nat×Nat×Nat)|.c (.dx lv sl _ _ _ _)=>bU lv sl::(match jY m lv sl with|some (.box _ cs)=>cs.flatMap ue|_=>[])|v=>Iz v
def ig.flat:ig->Bool|.int _|.bool|.str=>true|_=>false
def B7(res:List (Bool×List ig)):Bool:=res.all λr=>r.2.all ig.flat
def dQ:List vm->List fS->Option (List V2×List fS)|[],r=>some ([],r)|p::ps,r=>match(match p with|.c x=>tA.fill (.c x) r|.agg l=>tA.fill (.agg l) r|.fG f=>some (.fG f [],r)|.box _=>none)with
 |some (x,r')=>match dQ ps r' with|some (xs,r'')=>some (x::xs,r'')|none=>none
 |none=>none
def nR:List (Bool×List ig)->List fS->Option (List (Bool×List Cell)×List fS)|[],r=>some ([],r)|(a,l)::ps,r=>match dH l r with
 |some (x,r')=>match nR ps r' with|some (xs,r'')=>some ((a,x)::xs,r'')|none=>none
 |none=>none
def qC:List (Bool×List Cell)->Option V2|[(a,cs)]=>Dc a cs|vs=>some (.fk vs)
def lB:Nat->List V2->Tr V2->Tr V2|_,[],t=>t|i,x::r,t=>lB (i+1) r (t.set i (some x))
def vn:ig->Cell->Option (List fS)
 |.int k,.int k' a=>match decEq k k' with|.isTrue _=>some [⟨.int k',a⟩]|.isFalse _=>none
 |.bool,.bool b=>some [⟨.bool,b⟩]|.str,.str s=>some [⟨.str,s⟩]|.sl t .d,.nil _=>some [⟨.sl t,[]⟩]|.sl _ .d,.sl t' l _=>some [⟨.sl t',l⟩]|_,_=>none
def gL:List ig->List Cell->Option (List fS)
 |[],[]=>some []|c::cs,x::xs=>match vn c x,gL cs xs with|some d,some ds=>some (d++ds)|_,_=>none
 |_,_=>none
def hiC(top:Nat):Cell->Bool|.ref lv _ _ _=>Nat.ble top lv|.kj lv _ _ _ _ _=>Nat.ble top lv|_=>true
def hiR(top:Nat)(vs:List (Bool×List Cell)):Bool:=vs.all λv=>v.2.all (hiC top)
def NM(m:List (Tr E2))(rk k:Nat):Cell->Bool|.ref lv sl ak t=>Nat.beq k rk&&(match rowOf m lv sl ak with|some r=>Nat.beq r.t.size t.size|none=>false)|.nil true=>true|.kj ..=>false|_=>!Nat.beq k rk
def aaE(m:List (Tr E2))(rk:Nat):Nat->List Cell->Bool|_,[]=>true|k,c::r=>NM m rk k c&&aaE m rk (k+1) r
def Gw(m:List (Tr E2))(rk:Nat):Nat->List (Bool×List Cell)->Bool|_,[]=>true|k,(_,cs)::r=>aaE m rk k cs&&Gw m rk (k+64) r
def aeZ(m:List (Tr E2))(rk:Nat)(vs:List (Bool×List Cell)):Bool:=match Nat.beq rk 0with|true=>true|false=>Gw m rk 1 vs
def Gx(rk lv sl ak k:Nat)(c:Cell):Option (Cell×List SL):=match Nat.beq k rk with
 |true=>match c with|.sl t l _=>some (.ref lv sl ak t,[⟨t,l⟩])|_=>none
 |false=>some (c,[])
def uf(rk lv sl ak:Nat):Nat->List Cell->Option (List Cell×List SL)|_,[]=>some ([],[])|k,c::r=>match Gx rk lv sl ak k c,uf rk lv sl ak (k+1) r with|some (x,u),some (xs,us)=>some (x::xs,u++us)|_,_=>none
def Gy(rk lv sl ak:Nat):Nat->List (Bool×List Cell)->Option (List (Bool×List Cell)×List SL)|_,[]=>some ([],[])|k,(a,cs)::r=>match uf rk lv sl ak k cs,Gy rk lv sl ak (k+64) r with|some (xs,us),some (ys,vs)=>some ((a,xs)::ys,us++vs)|_,_=>none
section
variable{α:Type}
def ae0(s:S2)(r:BN)(K:Bool->List Cell->Option α):Option α:=match r with
 |.t n=>match s.slots.get? n with|some (.c x)=>K false [x]|some (.agg cs)=>K true cs|_=>none
 |.cell n sz agg=>jE (s.slots.get? n) λp=>PI s.mem sz p λcs=>match agg,cs with|true,cs=>K true cs|false,[x]=>K false [x]|_,_=>none
def GA(s:S2):List BN->(List (Bool×List Cell)->Option α)->Option α|[],K=>K []|r::rs,K=>ae0 s r λa cs=>GA s rs λl=>K ((a,cs)::l)
end
def mH(m:List (Tr E2)):List (Bool×List ig)->List (Bool×List Cell)->Option (List fS)
 |[],[]=>some []|(a,l)::ps,(b,cs)::vs=>match a==b,nD m cs,mH m ps vs with|true,some (cs,_),some ds=>(gL l cs).map (·++ds)|_,_,_=>none
 |_,_=>none
def Uo(m:List (Tr E2))(top:Nat):Cell->Option Cell
 |.int k a=>some (.int k a)|.bool b=>some (.bool b)|.str s=>some (.str s)|.raw v=>some (.raw v)|.nil _=>some (.nil false)|.sl _ _ .bG=>none|.sl t l _=>some (.sl t l .d)|.ref lv sl ak t=>match Nat.ble top lv with|false=>some (.ref lv sl ak t)|true=>match rowOf m lv sl ak with|some r=>some (.sl r.t r.l .d)|none=>none
 |.kj lv sl ak t off len=>match Nat.ble top lv with|false=>some (.kj lv sl ak t off len)|true=>match rowOf m lv sl ak with|some r=>some (.sl r.t ((r.l.drop off).take len) .d)|none=>none
 |.ptr lv sl ak i off=>match Nat.ble top lv with|false=>some (.ptr lv sl ak i off)|true=>none
 |_=>none
def Dk(m:List (Tr E2))(top:Nat):List Cell->Option (List Cell)|[]=>some []|x::r=>match Uo m top x,Dk m top r with|some y,some ys=>some (y::ys)|_,_=>none
def A0(m:List (Tr E2))(top:Nat):List (Bool×List Cell)->Option (List (Bool×List Cell))|[]=>some []|(a,x)::r=>match Dk m top x,A0 m top r with|some y,some ys=>some ((a,y)::ys)|_,_=>none
def ac1(top:Nat):Cell->Bool|.ref lv _ _ _=>Nat.ble top lv|.kj lv _ _ _ _ _=>Nat.ble top lv|_=>false
def ae1(m:List (Tr E2))(top:Nat)(c:Cell):Option Cell:=match c with
 |.nil b=>match Nat.beq top 0with|true=>some (.nil false)|false=>some (.nil b)
 |.sl t l (.app v)=>match Nat.beq top 0with|true=>some (.sl t l .d)|false=>some (.sl t l (.app v))
 |.sl t l .full=>match Nat.beq top 0with|true=>some (.sl t l .d)|false=>some (.sl t l .full)
 |c=>Uo m top c
def Up(m:List (Tr E2))(top rk lv sl ak:Nat)(e:Option Ty)(k:Nat)(c:Cell):Option (Cell×List SL):=match Nat.beq k rk with
 |true=>match c with
  |.nil true=>e.map λt=>(.ref lv sl ak t,[⟨t,[]⟩])|.ref cy cU gA t=>match Nat.ble top cy,rowOf m cy cU gA with
   |true,some r=>match Nat.beq r.t.size t.size with|true=>some (.ref lv sl ak r.t,[⟨r.t,r.l⟩])|false=>none
   |_,_=>none
  |.kj cy cU gA t off len=>match Nat.ble top cy,rowOf m cy cU gA with
   |true,some r=>match Nat.beq r.t.size t.size with|true=>some (.ref lv sl ak r.t,[⟨r.t,(r.l.drop off).take len⟩])|false=>none
   |_,_=>none
  |_=>none
 |false=>match ac1 top c with|true=>none|false=>(ae1 m top c).map λy=>(y,[])
def GB(m:List (Tr E2))(top rk lv sl ak:Nat)(e:Option Ty):Nat->List Cell->Option (List Cell×List SL)|_,[]=>some ([],[])|k,x::r=>match Up m top rk lv sl ak e k x,GB m top rk lv sl ak e (k+1) r with|some (y,u),some (ys,us)=>some (y::ys,u++us)|_,_=>none
def Dl(m:List (Tr E2))(top rk lv sl ak:Nat)(e:Option Ty):Nat->List (Bool×List Cell)->Option (List (Bool×List Cell)×List SL)|_,[]=>some ([],[])|k,(a,x)::r=>match GB m top rk lv sl ak e k x,Dl m top rk lv sl ak e (k+64) r with|some (y,u),some (ys,us)=>some ((a,y)::ys,u++us)|_,_=>none
section
variable{α:Type}
def aaF:AX->AX->Bool|.normal,.normal=>true|.exit a,.exit b=>Nat.beq a b|.ret,.ret=>true|_,_=>false
def qV:(os:bt)->(qa os).den->(AX->S2->Option α)->Option α|[],_,_=>none|[x],y,K=>cH (x.2.st (unpack x.2.tys y)) λs=>K x.1 s|x::z::r,y,K=>match y with|.inl a=>cH (x.2.st (unpack x.2.tys a)) λs=>K x.1 s|.inr b=>qV (z::r) b K
def ov:(os:bt)->AX->S2->Option (qa os).den
 |[],_,_=>none|[x],ax,s=>match aaF x.1 ax with|true=>cH (x.2.get s) λds=>pack x.2.tys ds|false=>none
 |x::z::r,ax,s=>match aaF x.1 ax with|true=>cH ((x.2.get s).bind (pack x.2.tys)) λy=>some (.inl y)|false=>cH (ov (z::r) ax s) λy=>some (.inr y)
end
abbrev Wk:=∀(α:Type),Nat->Nat->AC->S2->(AX->S2->Option α)->Option α
def ac2(ctx d:Nat):Nat:=(ctx+1)*1000000+d*1000
section
variable{α:Type}
def V2.ac3:V2->Bool|.fk _=>false|_=>true
def Uq(E:ah)(s:S2)(row d nx f:Nat)(args:List V2)(K:iJ->Option α):Option α:=cH (E.ye f) λc=>cH (Gv s.mem c.args args) λ(ds,ks,bs)=>cH (pack c.ta ds) λx=>wC bs<|Option.bind (c.F x) λy=>match nR c.res (unpack c.tr y)with
 |some (vs,[])=>match Nat.beq row 0with
  |true=>match Nat.beq c.rk 65535with|true=>none|false=>cH (qC vs) λv=>K (.bT {val:=v,dn:=lT ks,cR:=[],rd:=args.flatMap Iz})
  |false=>match Nat.beq (row%65536) c.rk&&!Nat.beq c.rk 0&&!Nat.beq (row/65536) 0,Gy c.rk (gZ s.mem.length d) d nx 1 vs with
   |true,some (vs,[])=>cH (qC vs) λv=>K (.bT {val:=v,dn:=lT ks,cR:=[],rd:=args.flatMap Iz})|true,some (vs,[u])=>match Nat.beq (row/65536) u.t.size with|true=>cH (qC vs) λv=>K (.bT {val:=v,dn:=lT ks++[(gZ s.mem.length d,d,some (.row nx u.t u.l))],cR:=[],rd:=args.flatMap Iz})|false=>none
   |_,_=>none
 |_=>none
def vm.ajQ(m:List (Tr E2)):vm->V2->Option (List fS×List (Nat×Nat)×List Bool)|.c x,.c y=>x.arg m true y|.agg l,.agg cs=>Dj m l cs|_,_=>none
def GC(m:List (Tr E2)):List vm->List V2->Option (List fS×List (Nat×Nat)×List Bool)
 |[],[]=>some ([],[],[])|p::ps,x::xs=>match p.ajQ m x,GC m ps xs with|some (d,k,b),some (ds,ks,bs)=>some (d++ds,k++ks,b++bs)|_,_=>none
 |_,_=>none
def ac4(E:ah)(s:S2)(f:Nat)(args:List V2)(K:iJ->Option α):Option α:=cH (E.ye f) λc=>match !Nat.beq c.rk 65535with
 |true=>cH (GC s.mem c.args args) λ(ds,ks,bs)=>cH (pack c.ta ds) λx=>wC bs<|Option.bind (c.F x) λy=>match nR c.res (unpack c.tr y)with|some (vs,[])=>cH (qC vs) λv=>K (.bT {val:=v,dn:=lT ks,cR:=[],rd:=args.flatMap Iz})|_=>none
 |false=>none
def zp(m:List (Tr E2)):List ig->List Cell->Option (List fS×List Bool)
 |[],[]=>some ([],[])|c::cs,x::xs=>match c.arg m false x,zp m cs xs with|some (d,[],b),some (ds,bs)=>some (d++ds,b++bs)|_,_=>none
 |_,_=>none
def vm.ajR(m:List (Tr E2)):vm->V2->Option (List fS×List Bool)
 |.c x,.c y=>match x.arg m false y with|some (d,[],b)=>some (d,b)|_=>none
 |.agg l,.agg cs=>zp m l cs|_,_=>none
def GD(m:List (Tr E2)):List vm->List V2->Option (List fS×List Bool)
 |[],[]=>some ([],[])|p::ps,x::xs=>match p.ajR m x,GD m ps xs with|some (d,b),some (ds,bs)=>some (d++ds,b++bs)|_,_=>none
 |_,_=>none
def ac5(E:ah)(s:S2)(f:Nat)(args:List V2)(K:iJ->Option α):Option α:=cH (E.ye f) λc=>match !Nat.beq c.rk 65535with
 |true=>cH (GD s.mem c.args args) λ(ds,bs)=>cH (pack c.ta ds) λx=>wC bs<|Option.bind (c.F x) λy=>match nR c.res (unpack c.tr y)with|some (vs,[])=>cH (qC vs) λv=>K (.bT {val:=v,dn:=[],cR:=[],rd:=args.flatMap Iz})|_=>none
 |false=>none
def Kw(E:ah)(wk:Wk)(ctx:Nat)(s:S2)(row d nx f:Nat)(args:List V2)(K:iJ->Option α):Option α:=match E.fns f with
 |some fn=>match fn.sh with|false=>Uq E s row d nx f args K|true=>match Nat.beq args.length fn.np&&args.all V2.ac3 with
  |false=>none|true=>let st:S2:={slots:=lB 0 args .lf,outer:=loose s.slots::s.outer,mem:=s.mem++[.lf],aI:=s.aI,nv:=nx};let back:S2->Option α:=λs'=>match s'.outer with
    |o::os=>GA s' fn.res λvs=>match Nat.beq row 0with|true=>cH (A0 s'.mem s.mem.length vs) λvs=>cH (qC vs) λv=>K (.all v {slots:=merge s.slots o,outer:=os,mem:=s'.mem.take s.mem.length,aI:=s'.aI,nv:=s'.nv})|false=>match !Nat.beq (row%65536) 0&&!Nat.beq (row/65536) 0,Dl s'.mem s.mem.length (row%65536) (gZ s.mem.length d) d s'.nv (E.PK ctx d) 1 vs with
     |true,some (vs,[u])=>match Nat.beq (row/65536) u.t.size with|true=>cH (qC vs) λv=>K (.all v {slots:=merge s.slots o,outer:=os,mem:=gK (s'.mem.take s.mem.length) [(gZ s.mem.length d,d,some (.row s'.nv u.t u.l))],aI:=s'.aI,nv:=s'.nv+1})|false=>none
     |true,some (vs,[])=>cH (qC vs) λv=>K (.all v {slots:=merge s.slots o,outer:=os,mem:=s'.mem.take s.mem.length,aI:=s'.aI,nv:=s'.nv+1})|_,_=>none
    |[]=>none;match E.Un ctx d with
   |none=>wk α (ac2 ctx d) 0 fn.body st λax s'=>match ax with|.exit _=>none|_=>back s'
   |some os=>Option.bind (wk (qa os).den (ac2 ctx d) 0 fn.body st λax s'=>match ax with|.exit _=>none|_=>ov os .ret s') λy=>qV os y λ_ s'=>back s'
 |none=>Uq E s row d nx f args K
def Ur(E:ah)(s:S2)(f:Nat)(args:List V2)(K:iJ->Option α):Option α:=cH (E.ye f) λc=>match B7 c.res&&!Nat.beq c.rk 65535with
 |true=>cH (zo s.mem c.args args) λ(ds,bs)=>cH (pack c.ta ds) λx=>wC bs<|Option.bind (c.F x) λy=>match nR c.res (unpack c.tr y)with|some (vs,[])=>cH (qC vs) λv=>K (.bT {val:=v,dn:=[],cR:=[],rd:=args.flatMap (AZ s.mem)})|_=>none
 |false=>none
def dm(E:ah)(wk:Wk)(ctx:Nat)(s:S2)(row dst aP:Nat)(op:cF)(K:iJ->Option α):Option α:=match op with
 |.JI x=>cH (jR s x) λv=>match Nat.beq (row%65536) 6&&v.ot with
  |true=>match v with|.c (.ref lv sl ak t)=>cH (rowOf s.mem lv sl ak) λr=>cH (j6 r.t t r.l) λl=>K (.bT {val:=.c (.ref (gZ s.mem.length dst) dst aP t),dn:=[(lv,sl,none),(gZ s.mem.length dst,dst,some (.row aP t l))],cR:=[],rd:=[bU lv sl]})|_=>none
  |false=>match TC row with|false=>K (lS v)|true=>match v with
   |.c (.nil true)=>cH (E.PK ctx dst) λt=>match Nat.beq t.size (row/65536)with|true=>K (.bT {val:=.c (.ref (gZ s.mem.length dst) dst aP t),dn:=[(gZ s.mem.length dst,dst,some (.row aP t []))],cR:=[],rd:=[]})|false=>none
   |.c (.nil _)=>none|.c (.sl ..)=>none|v=>K (lS v)
 |.pick c a b=>yc (jR s c) λt=>match jR s a,jR s b with|some (.c (.bool x)),some (.c (.bool y))=>K (eO (.bool (cond t x y)))|some x,some y=>cond t (K (lS x)) (K (lS y))|some x,none=>aL t (K (lS x))|none,some y=>aL (!t) (K (lS y))|none,none=>none
 |.alloc z=>cH (Da z) λcs=>K (.bT {val:=.c (.ptr (gZ s.mem.length dst) dst aP 0 0),dn:=[(gZ s.mem.length dst,dst,some (.box aP cs))],cR:=[],rd:=[]})|.box x=>cH ((jR s x).bind V2.cells?) λcs=>match Nat.beq row 14with|true=>K (.bT {val:=.c (.ptr (s.mem.length-2) (1048576+dst) aP 0 0),dn:=[(s.mem.length-2,1048576+dst,some (.box aP cs))],cR:=[],rd:=[]})|false=>match Nat.beq row 13with|true=>none|false=>K (.bT {val:=.c (.ptr (gZ s.mem.length dst) dst aP 0 0),dn:=[(gZ s.mem.length dst,dst,some (.box aP cs))],cR:=[],rd:=[]})
 |.build z ps=>cH ((Da z).bind λcs=>Gu s cs ps) λcs=>K (lS (.agg cs))|.buildSlice sz n z ps=>match Nat.beq row 2with
  |true=>match Nat.beq n 0with|true=>none|false=>cH ((ud z).bind λzc=>Gu s (List.replicate n zc).flatten (ps.map λp=>(p.1*sz,sz,p.2))) λcs=>K (.bT {val:=.c (.dx (gZ s.mem.length dst) dst aP 0 n sz),dn:=[(gZ s.mem.length dst,dst,some (.box aP cs))],cR:=[],rd:=[]})
  |false=>cH (E.PK ctx dst) λt=>cH (ud z) λzc=>cH (De s sz (List.replicate n zc) ps) λ(els,ks)=>match Nat.beq t.size sz,Df t els with
  |true,some l=>match Nat.beq row 0with|true=>K (.bT {val:=.c (.sl t l .full),dn:=lT ks,cR:=[],rd:=jy ks})|false=>match Dh ks (gZ s.mem.length dst) dst with|true=>none|false=>K (.bT {val:=.c (.ref (gZ s.mem.length dst) dst aP t),dn:=lT ks++[(gZ s.mem.length dst,dst,some (.row aP t l))],cR:=[],rd:=jy ks})
  |_,_=>none
 |.load sz agg x=>jE (jR s x) λp=>PI s.mem sz p λcs=>cH (Dc agg cs) λv=>K (.bT {val:=v,dn:=[],cR:=[],rd:=ue p})|.store sz x v=>jE (jR s x) λp=>cH ((jR s v).bind V2.cells?) λnew=>NJ s.mem sz p new K|.nilCheck x=>cH (jR s x) λv=>match v with|.c (.ptr lv sl ak i off)=>K (eO (.ptr lv sl ak i off))|.c (.eZ t e off)=>K (eO (.eZ t e off))|.fG f cs=>K (lS (.fG f cs))|_=>none
 |.bin op x y=>jE (jR s x) λa=>jE (jR s y) λb=>aeW op a b λc=>K (eO c)|.ZZ neg x y=>yc (jR s x) λa=>yc (jR s y) λb=>K (eO (.bool (match neg with|true=>!(a==b)|false=>a==b)))|.Aq neg x=>match jR s x with
  |some (.c (.er b))=>match neg with|true=>K (eO (.bool b))|false=>K (eO (.bool (!b)))
  |_=>none
 |.tC lo n sz x=>match jR s x with
  |some (.c (.ptr lv sl ak i off))=>match Nat.beq i 0&&Nat.blt lo n with|true=>K (eO (.dx lv sl ak (off+lo*sz) (n-lo) sz))|false=>none
  |_=>none
 |.QV neg sz cells x y=>match jR s x,jR s y with
  |some (.agg xs),some (.agg ys)=>match Nat.beq xs.length sz&&Nat.beq ys.length sz,IC xs ys cells with|true,some b=>K (eO (.bool (match neg with|true=>!b|false=>b)))|_,_=>none
  |_,_=>none
 |.un op x=>jE (jR s x) λa=>unK op a λc=>K (eO c)|.conv k x=>Rq (jR s x) λn=>K (eO (.int k (k.wrap n)))|.field off sz agg x=>match jR s x with
  |some (.agg cs)=>match Nat.ble (off+sz) cs.length,Dc agg ((cs.drop off).take sz)with|true,some v=>K (lS v)|_,_=>none
  |_=>none
 |.fieldAddr off x=>match jR s x with|some (.c (.ptr lv sl ak i o))=>K (eO (.ptr lv sl ak i (o+off)))|some (.c (.eZ t e o))=>K (eO (.eZ t e (o+off)))|_=>none
 |.indexAddr sz x i=>Rq (jR s i) λn=>match jR s x with
  |some (.c (.sl t l _))=>match Nat.beq t.size sz with|true=>Option.bind (idx l n) λe=>K (eO (.eZ t e 0))|false=>none
  |some (.c (.ref lv sl ak t))=>match Nat.beq t.size sz with|true=>cH (rowOf s.mem lv sl ak) λr=>aL (gB n r.l.length) (K (eO (.ptr lv sl ak n.toNat 0)))|false=>none
  |some (.c (.kj lv sl ak t off len))=>match Nat.beq t.size sz with|true=>aL (gB n len) (K (eO (.ptr lv sl ak (off+n.toNat) 0)))|false=>none
  |_=>none
 |.lG n sz x i=>IB (jR s i) λk=>match jR s x with|some (.c (.ptr lv sl ak j o))=>Rp n k λk=>K (eO (.ptr lv sl ak j (o+k*sz)))|some (.c (.eZ t e o))=>Rp n k λk=>K (eO (.eZ t e (o+k*sz)))|_=>none
 |.rK n sz agg x i=>IB (jR s i) λk=>match jR s x with
  |some (.agg cs)=>Rp n k λk=>match Nat.ble (k*sz+sz) cs.length,Dc agg ((cs.drop (k*sz)).take sz)with|true,some v=>K (lS v)|_,_=>none
  |_=>none
 |.rL x i=>Rq (jR s i) λn=>match jR s x with|some (.c (.str b))=>Option.bind (idx b n) λc=>K (eO (.int .u8 c.toNat))|_=>none
 |.slice sz x lo hi mx=>jE (jR s x) λc=>wB lo s λl=>wB hi s λh=>wB mx s λk=>match Nat.beq row 3&&(mx.isNone&&c.ot)with|true=>aeX s.mem sz aP c l h K|false=>NK s.mem sz c l h k λv=>K (eO v)
 |.rM x lo hi=>match jR s x with|some (.c (.str b))=>wB lo s λlo=>wB hi s λhi=>aL (oh b.length lo hi) (K (eO (.str (p9 b lo hi))))|_=>none
 |.extract x i=>match jR s x with
  |some (.fk vs)=>match vs[i]?with|some (a,cs)=>cH (Dc a cs) λv=>K (lS v)|none=>none
  |_=>none
 |.len x=>jE (jR s x) λc=>match c with|.sl _ l _=>K (eO (.int .i64 l.length))|.nil _=>K (eO (.int .i64 0))|.ref lv sl ak _=>cH (rowOf s.mem lv sl ak) λr=>K (eO (.int .i64 r.l.length))|.kj _ _ _ _ _ len=>K (eO (.int .i64 len))|_=>none
 |.JJ x=>jE (jR s x) λc=>match c with|.nil true=>K (eO (.int .i64 0))|.sl _ l .full=>K (eO (.int .i64 l.length))|_=>none
 |.HK x=>match jR s x with|some (.c (.str b))=>K (eO (.int .i64 b.length))|_=>none
 |.Fg n=>K (eO (.int .i64 n))|.s2b x=>match jR s x with|some (.c (.str b))=>K (eO (.sl (.int .u8) (bN b) .d))|_=>none
 |.b2s x=>jE (jR s x) λc=>match c with|.str _=>none|c=>p8 s.mem c (some (.int .u8)) λn=>cH (j6 n.t (.int .u8) n.l) λl=>K (.bT {val:=.c (.str (l.map λn=>UInt8.ofNat n.toNat)),dn:=[],cR:=[],rd:=ue c})
 |.mkSet=>K (.bT {val:=.c (.mp (gZ s.mem.length dst) dst aP),dn:=[(gZ s.mem.length dst,dst,some (.set aP []))],cR:=[],rd:=[]})|.JK m k=>match jR s m,jR s k with|some (.c (.mp lv sl ak)),some (.c (.str b))=>cH (PG s.mem lv sl ak) λl=>K (.bT {val:=.c (.bool (hasB l b)),dn:=[],cR:=[],rd:=[bU lv sl]})|_,_=>none
 |.JL m k=>match jR s m,jR s k with|some (.c (.mp lv sl ak)),some (.c (.str b))=>cH (PG s.mem lv sl ak) λl=>K (.bT {val:=.fk [],dn:=[(lv,sl,some (.set ak (tD l b)))],cR:=[],rd:=[bU lv sl]})|_,_=>none
 |.HL x y=>match jR s x,jR s y with
  |some (.c (.int k a)),some (.c (.int k' b))=>match decEq k k' with|.isTrue _=>K (eO (.int k (min a b)))|.isFalse _=>none
  |_,_=>none
 |.HM x y=>match jR s x,jR s y with
  |some (.c (.int k a)),some (.c (.int k' b))=>match decEq k k' with|.isTrue _=>K (eO (.int k (max a b)))|.isFalse _=>none
  |_,_=>none
 |.append sz bytes x y=>match Nat.beq row 11with|true=>none|false=>jE (jR s x) λa=>jE (jR s y) λb=>Rr s (!Nat.beq row 0) (vV row (gZ s.mem.length dst) dst).1 (vV row (gZ s.mem.length dst) dst).2 aP sz bytes a b (E.PK ctx dst) K
 |.clone sz bytes x=>match Nat.beq row 11with|true=>none|false=>jE (jR s x) λb=>match b with|.str _=>none|b=>Rr s (!Nat.beq row 0) (gZ s.mem.length dst) dst aP sz bytes (.nil true) b (E.PK ctx dst) K
 |.copy sz x y=>jE (jR s x) λa=>jE (jR s y) λb=>match a with
  |.ref lv sl ak t=>cH (rowOf s.mem lv sl ak) λr=>p8 s.mem b (some t) λn=>match Nat.beq t.size sz,j6 r.t t r.l,j6 n.t t n.l with|true,some l,some news=>K (.bT {val:=.c (.int .i64 ((min news.length l.length:Nat):Int)),dn:=[(lv,sl,some (.row ak t (Dd news l)))],cR:=[],rd:=bU lv sl::ue b})|_,_,_=>none
  |.kj lv sl ak t off len=>cH (rowOf s.mem lv sl ak) λr=>p8 s.mem b (some t) λn=>match Nat.beq t.size sz,j6 r.t t r.l,j6 n.t t n.l with|true,some l,some news=>aL (decide (off+len<=l.length)) (K (.bT {val:=.c (.int .i64 ((min news.length len:Nat):Int)),dn:=[(lv,sl,some (.row ak t (l.take off++(news.take (min news.length len)++l.drop (off+(news.take (min news.length len)).length)))))],cR:=[],rd:=bU lv sl::ue b}))|_,_,_=>none
  |.dx lv sl ak off n sz'=>match jY s.mem lv sl with
   |some (.box v cs)=>p8 s.mem b none λnw=>match Nat.beq v ak&&Nat.beq sz' sz&&Nat.ble (off+n*sz) cs.length&&Nat.beq nw.t.size sz with|true=>K (.bT {val:=.c (.int .i64 ((min nw.l.length n:Nat):Int)),dn:=[(lv,sl,some (.box ak (bK.splice cs off ((nw.l.take (min nw.l.length n)).flatMap (jD nw.t)))))],cR:=[],rd:=bU lv sl::ue b})|false=>none
   |_=>none
  |_=>none
 |.pZ sz bytes z x n=>jE (jR s x) λa=>IB (jR s n) λk=>cH (E.PK ctx dst) λt=>cH ((ud z).bind (AW t)) λz'=>match Nat.beq t.size sz&&Nat.beq z.length sz with|true=>aL (room k bytes) (Rr s (!Nat.beq row 0) (gZ s.mem.length dst) dst aP sz bytes a (.sl t (List.replicate k z') .d) (some t) K)|false=>none
 |.makeSlice sz bytes z l c=>IB (jR s l) λl=>IB (jR s c) λc=>cH (E.PK ctx dst) λt=>cH ((ud z).bind (AW t)) λz'=>match Nat.beq t.size sz&&Nat.beq z.length sz with|true=>aL (decide (l<=c)&&room c bytes) (K (.bT {val:=.c (.ref (gZ s.mem.length dst) dst aP t),dn:=[(gZ s.mem.length dst,dst,some (.row aP t (List.replicate l z')))],cR:=[],rd:=[]}))|false=>none
 |.sliceB n sz x=>jE (jR s x) λc=>match c with
  |.ptr lv sl ak i off=>match Nat.beq i 0with|true=>K (eO (.dx lv sl ak off n sz))|false=>none
  |_=>none
 |.makeFunc f cap=>cH ((IA s cap).bind Dg) λcs=>K (lS (.fG f cs))|.clear sz z x=>jE (jR s x) λa=>match a with
  |.ref lv sl ak t=>cH (rowOf s.mem lv sl ak) λr=>cH ((ud z).bind (AW t)) λz'=>match Nat.beq t.size sz&&Nat.beq z.length sz,j6 r.t t r.l with|true,some l=>K (.bT {val:=.fk [],dn:=[(lv,sl,some (.row ak t (List.replicate l.length z')))],cR:=[],rd:=[bU lv sl]})|_,_=>none
  |.kj lv sl ak t off len=>cH (rowOf s.mem lv sl ak) λr=>cH ((ud z).bind (AW t)) λz'=>match Nat.beq t.size sz&&Nat.beq z.length sz,j6 r.t t r.l with|true,some l=>aL (decide (off+len<=l.length)) (K (.bT {val:=.fk [],dn:=[(lv,sl,some (.row ak t (l.take off++List.replicate len z'++l.drop (off+len))))],cR:=[],rd:=[bU lv sl]}))|_,_=>none
  |_=>none
 |.compact x=>jE (jR s x) λa=>match a with
  |.nil true=>K (eO (.nil true))|.ref lv sl ak t=>cH (rowOf s.mem lv sl ak) λr=>match Nat.beq t.size 1,j6 r.t (.int .i64) r.l with|true,some l=>aL (decide (l.length<4611686018427387904)) (K (.bT {val:=.c (.ref lv sl aP (.int .i64)),dn:=[(lv,sl,some (.row aP (.int .i64) (j5 l)))],cR:=[],rd:=[bU lv sl]}))|_,_=>none
  |_=>none
 |.sort x=>jE (jR s x) λa=>match a with
  |.nil true=>K (.bT {val:=.fk [],dn:=[],cR:=[],rd:=[]})|.ref lv sl ak t=>cH (rowOf s.mem lv sl ak) λr=>match Nat.beq t.size 1,j6 r.t (.int .i64) r.l with|true,some l=>aL (decide (l.length<4611686018427387904)) (K (.bT {val:=.fk [],dn:=[(lv,sl,some (.row ak (.int .i64) (j4 l)))],cR:=[],rd:=[bU lv sl]}))|_,_=>none
  |_=>none
 |.grow sz x n=>jE (jR s x) λa=>IB (jR s n) λ_=>match a,E.PK ctx dst with
  |.nil true,some t=>match Nat.beq t.size sz with|true=>K (.bT {val:=.c (.sl t [] (.app aP)),dn:=[],cR:=[(aP,true)],rd:=[]})|false=>none
  |_,_=>none
 |.call f args=>match Nat.beq row 7,Nat.beq row 8,Nat.beq row 9,Nat.beq row 10with|false,false,false,false=>cH (IA s args) λaK=>Kw E wk ctx s row dst aP f aK K|false,false,true,_=>cH (IA s args) λaK=>ac4 E s f aK K|false,false,false,true=>cH (IA s args) λaK=>ac5 E s f aK K|_,_,_,_=>none
 |.xk f args=>cH (IA s args) λaK=>match E.sh f with|true=>Kw E wk ctx s row dst aP f aK K|false=>Ur E s f aK K
 |.Ar x args=>match jR s x with|some (.fG f cap)=>cH (IA s args) λaK=>Kw E wk ctx s row dst aP f (aK++cap.map .c) K|_=>none
 |_=>none
def PL(E:ah)(wk:Wk)(ctx:Nat)(s:S2)(aP:Nat)(o:bI)(K:S2->iJ->Option α):Option α:=match Nat.ble 4294967296 o.row with|true=>none|false=>match o.gd with|none=>dm E wk ctx s o.row (o.dst.getD 0) aP o.op (K s)|some (g,b)=>match s.slots.get? g with|some (.c (.bool t))=>cond t (let s':={s with slots:=s.slots.set g (some (.c (.bool true)))};match b with|true=>dm E wk ctx s' o.row (o.dst.getD 0) aP o.op (K s')|false=>K s' (lS (.fk []))) (let s':={s with slots:=s.slots.set g (some (.c (.bool false)))};match b with|true=>K s' (lS (.fk []))|false=>dm E wk ctx s' o.row (o.dst.getD 0) aP o.op (K s'))|some (.fk _)=>K s (lS (.fk []))|_=>none
def B8(E:ah)(wk:Wk)(ctx:Nat):Nat->List bI->S2->(S2->Option α)->Option α|_,[],s,K=>K s|nx,o::r,s,K=>PL E wk ctx s nx o λs e=>match e with|.bT e=>B8 E wk ctx (nx+1) r (s.app o.dst (.bT e)) K|.all v s'=>B8 E wk ctx s'.nv r {s'.app o.dst (.all v s')with nv:=s'.nv+r.length} K
def keq(a b:Nat×Nat×Nat):Bool:=Nat.beq a.1 b.1&&Nat.beq a.2.1 b.2.1&&Nat.beq a.2.2 b.2.2
def zq(a b:List (Nat×Nat×Nat)):Bool:=a.any λk=>b.any (keq k)
def qW:iJ->Bool|.bT e=>!(e.rd.isEmpty&&e.dn.isEmpty&&e.cR.isEmpty)|.all ..=>true
def zu:iJ->iJ->Bool|.bT a,.bT b=>zq a.rd b.wr||zq a.wr b.rd||zq a.wr b.wr|a,b=>qW a&&qW b
def IF(oS:Nat)(e:iJ):List (Nat×iJ)->Bool|[]=>true|(i,x)::r=>(oS.testBit i||!zu x e)&&IF oS e r
def A1(l:List (Nat×iJ)):List (Nat×iJ):=l.map λx=>(x.1,match qW x.2with|true=>.all (.fk []) default|false=>x.2)
def B9(E:ah)(wk:Wk)(ctx:Nat):Nat->Nat->List bI->List (Nat×iJ)->S2->(S2->Option α)->Option α|_,_,[],_,s,K=>K s|i,nx,o::r,eR,s,K=>PL E wk ctx s nx o λs e=>match IF o.oS e eR with
 |true=>match e with|.bT e=>B9 E wk ctx (i+1) (nx+1) r ((i,.bT e)::eR) (s.app o.dst (.bT e)) K|.all v s'=>B9 E wk ctx (i+1) s'.nv r ((i,.all (.fk []) default)::A1 eR) {s'.app o.dst (.all v s')with nv:=s'.nv+r.length} K
 |false=>none
def wD:AC->Nat|.seq a b=>wD a+wD b|.cond _ a b=>wD a+wD b+1|.block _ c=>wD c+1|.loop c=>wD c+1|.region ..=>1|_=>0
end
def aaG{α:Type}(E:ah)(wk:Wk)(ctx:Nat)(ops:List bI)(draw:Bool)(s:S2)(K:S2->Option α):Option α:=match draw with|false=>B8 E wk ctx s.nv ops {s with nv:=s.nv+ops.length} K|true=>B9 E wk ctx 0 s.nv ops [] {s with nv:=s.nv+ops.length} K
def Us(sh:Nat->Bool):cF->Bool|.JI _|.pick ..|.nilCheck _|.bin ..|.ZZ ..|.QV ..|.un ..|.conv ..|.field ..|.fieldAddr ..|.indexAddr ..|.lG ..|.rK ..|.rL ..|.load ..|.slice ..|.rM ..|.extract ..|.len _|.HK _|.Fg _|.HL ..|.HM ..=>true|.xk f _=>!sh f|_=>false
def GF(sh:Nat->Bool)(o:bI):Bool:=Nat.beq o.row 0&&Us sh o.op
def ug(sh:Nat->Bool):AC->Bool|.skip=>true|.region ops _=>ops.all (GF sh)|.seq a b=>ug sh a&&ug sh b|.cond _ a b=>ug sh a&&ug sh b|_=>false
def qX:AC->List Nat|.region ops _=>ops.flatMap λo=>o.dst.toList|.seq a b=>qX a++qX b|.cond _ a b=>qX a++qX b|_=>[]
def Kx:List Nat->Tr V2->Tr V2|[],t=>t|n::r,t=>Kx r (t.set n none)
def IG(t:Ty)(c:Cell):Option t.den:=match t,c with
 |.int k,.int k' a=>match decEq k k' with|.isTrue _=>some a|.isFalse _=>none
 |.bool,.bool b=>some b|.str,.str s=>some s|_,_=>none
def NN:(t:Ty)->t.den->Option Cell|.int k,a=>some (.int k a)|.bool,b=>some (.bool b)|.str,s=>some (.str s)|_,_=>none
def Ky(t:Ty)(n:Nat)(ax:AX)(s:S2):Option t.den:=match ax with
 |.normal=>match s.slots.get? n with|some (.c c)=>IG t c|_=>none
 |_=>none
def wE(s:S2)(c:cu)(b:Bool):S2:=match c with|.t n=>{s with slots:=s.slots.set n (some (.c (.bool b)))}|.c _=>s
def ajS(i:Nat):Nat:=match Nat.blt i 100000with|true=>i+100000|false=>i
def ajT(o:Option (List fS))(i:Nat):Nat:=match o with|some _=>i|none=>i+200000
def walk(E:ah):Nat->Wk|0=>λ_ _ _ _ _ _=>none|n+1=>λα ctx i c s K=>match c with
 |.skip=>K .normal s|.region ops draw=>match E.NL ctx i with
  |some m=>match ops.all (GF E.sh)with|true=>Option.bind (aaG E (walk E n) ctx ops draw s (Ky m.2 m.1 .normal)) λy=>cH (NN m.2 y) λy=>K .normal {s with slots:=(Kx (qX (.region ops draw)) s.slots).set m.1 (some (.c y))}|false=>none
  |none=>match E.Kv ctx i with|none=>aaG E (walk E n) ctx ops draw s λs'=>K .normal s'|some os=>Option.bind (aaG E (walk E n) ctx ops draw s (ov os .normal)) λy=>qV os y K
 |.seq a b=>walk E n α ctx i a s λax s'=>match ax with|.normal=>walk E n α ctx (i+wD a) b s' K|ax=>K ax s'
 |.cond c a b=>match E.NL ctx i with
  |some m=>match ug E.sh a&&ug E.sh b with|true=>Option.bind (yc (jR s c) λt=>cond t (walk E n m.2.den ctx (i+1) a (wE s c true) (Ky m.2 m.1)) (walk E n m.2.den ctx (i+1+wD a) b (wE s c false) (Ky m.2 m.1))) λy=>cH (NN m.2 y) λy=>K .normal {s with slots:=(Kx (qX a++qX b) s.slots).set m.1 (some (.c y))}|false=>none
  |none=>match E.Kv ctx i with|none=>yc (jR s c) λt=>cond t (walk E n α ctx (i+1) a (wE s c true) K) (walk E n α ctx (i+1+wD a) b (wE s c false) K)|some os=>Option.bind (yc (jR s c) λt=>cond t (walk E n (qa os).den ctx (i+1) a (wE s c true) (ov os)) (walk E n (qa os).den ctx (i+1+wD a) b (wE s c false) (ov os))) λy=>qV os y K
 |.block id c=>match E.Kv ctx i with
  |none=>walk E n α ctx (i+1) c s λax s'=>match ax with
   |.exit id'=>match Nat.beq id' id with|true=>K .normal s'|false=>K (.exit id') s'
   |ax=>K ax s'
  |some os=>Option.bind (walk E n (qa os).den ctx (i+1) c s λax s'=>match ax with
   |.exit id'=>match Nat.beq id' id with|true=>ov os .normal s'|false=>ov os (.exit id') s'
   |ax=>ov os ax s') λy=>qV os y K
 |.loop c=>match E.unr ctx i with
  |true=>walk E n α ctx (i+1) c s λax s'=>match ax with|.normal=>walk E n α ctx (ajS i) (.loop c) s' K|ax=>K ax s'
  |false=>cH (E.loops ctx (ajT ((E.loops ctx i c).bind λL=>L.T.get s) i) c) λL=>cH (L.T.get s) λds=>cH (pack L.T.tys ds) λx=>Option.bind (L.F x) λy=>qV L.outs y K
 |.exit id=>K (.exit id) s|.ret=>K .ret s
def Dm(E:ah)(N ctx i:Nat)(body:AC)(T:bw)(outs:bt)(rec:(sY T.tys).den->Option (qa outs).den)(x:(sY T.tys).den):Option (qa outs).den:=cH (T.st (unpack T.tys x)) λs=>walk E N (qa outs).den ctx (i+1) body s λax s'=>match ax with|.normal=>cH (T.get s') λds=>cH (pack T.tys ds) λy=>rec y|ax=>ov outs ax s'
def PM{α β:Type}(step:(α->Option β)->α->Option β):Nat->α->Option β|0,_=>none|n+1,x=>step (PM step n) x
def ac6(E:ah)(N:Nat)(f:Nat)(args:List vm)(ta:List Ty)(res:List (Bool×List ig))(tr:List Ty)(rk:Nat)(x:(sY ta).den):Option (sY tr).den:=cH (E.fns f) λfn=>match dQ args (unpack ta x)with
 |some (vs,[])=>match Nat.beq vs.length fn.np with
  |true=>walk E N _ 0 0 fn.body {slots:=lB 0 vs .lf,outer:=[],mem:=[.lf],aI:=.lf,nv:=0} λax s=>match ax with|.exit _=>none|_=>GA s fn.res λvs=>match aeZ s.mem rk vs&&!Nat.beq rk 65535with|true=>cH (mH s.mem res vs) λds=>pack tr ds|false=>none
  |false=>none
 |_=>none
end Go.Sym
