/- Parts of the proof. -/
import Derived.Test.YtgdkmdochlhhlaaGreatEngX
import Derived.ScopeJumps
import Derived.Test.YtgdkmdochlhhlaaGreatEngF
import Derived.Defers
set_option linter.unusedVariables false
set_option linter.unusedSimpArgs false
set_option linter.defProp false
namespace Go.bL
open Go Go.RowKit
section
variable{P:Program}{X:Cx}{nt:NT}{s:St}{a:Act}{aR:Nat}{call:Go.bL.Call}{sh:Nat->Bool}{dy:Nat->Option TypeId}
def fM.put{Y:Cx}{dst:Option Nat}{r:iu}{v:Value}(hs:fM X nt s a)(hx:Ext X Y)(hv:VR Y r.val v)(hm:aH Y (s.app dst r).mem (s.app dst r).aI)(hlt:dst.getD 0<nt):fM Y nt (s.app dst r) (a.put dst v):=by cases dst with|none=>refine⟨λt=>?_,hs.size,hs.defers,hm⟩;rw[qY];exact(hs.slots t).ext hx|some d=>
  simp at hlt;refine⟨λt=>?_,by simp[Act.put,hs.size],hs.defers,hm⟩;rw[qY,vm];simp only[fw];by_cases h:d=t
  .subst h;have:((a.put (some d) v).tmps.getD d undef)=v:=by simp[Act.put,hs.size,hlt]
   grind
  .rw[bi h];have:((a.put (some d) v).tmps.getD t undef)=a.tmps.getD t undef:=by simp[Act.put,Array.getElem?_setIfInBounds_ne h]
   rw[this];exact(hs.slots t).ext hx
def Gw(hs:fM X nt s a){ops:Array Oper}{o:Oper}{ao:bI}(hgd:gdP ops o.guard=some ao.gd){b:Bool}(hw:ju s.slots ao=some b):Region.wanted o (yielded ops a.tmps)=b:=by unfold ju at hw;unfold Region.wanted;cases hg:o.guard with|none=>grind[dW,gdP]|some jb=>
 obtain⟨j,w⟩:=jb;rw[hg]at hgd;obtain⟨d,hd,hgd⟩:=aJ hgd;rw[<-hgd]at hw;simp at hw⊢;have hv:=hs.slots d;have hy:yielded ops a.tmps j=match a.tmps[d]?with|some (.bool b)=>some b|_=>none:=by unfold yielded<;>grind
 rw[hy];split at hw;.rename_i t ht;rw[ht]at hv;have hv:=VR.sc hv;cases h:a.tmps[d]?with|none=>rw[kh,h]at hv;cases hv|some v=>simp_all
 .rename_i vs ht;rw[ht]at hv;obtain⟨us,hu,_⟩:=hv;cases hw;cases h:a.tmps[d]?with|none=>rfl|some v=>simp_all
 grind
def PZ(cH:cD P call)(iy:∀f T,dy f=some T->kA P f T)(hs:fM X nt s a)(hfr:X.ρ aR=none)(xR:aR<s.nv)(hdom:∀v,s.nv<=v->X.ρ v=none){ops:Array Oper}{i:Nat}{o:Oper}(hoi:ops[i]?=some o){ao:bI}(hop:Fk P dy o.op=some ao.op)(hd:ao.dst=o.dst)(hgd:gdP ops o.guard=some ao.gd)(hlt:ao.dst.getD 0<nt){r:iu}(hr:ao.step call sh s aR=some r){K:Act->World->Prop}{Q:Exit->Act->World->Prop}(hK:∀Y a',Ext X Y->fM Y nt (s.app ao.dst r) a'->fP X Y aR s.nv (s.app ao.dst r).nv->K a' Y.w):wpOp P ops Q i K a X.w:=by
 unfold wpOp;simp[hoi];unfold bI.step at hr;split at hr;.cases hr
 .rename_i hw;rw[Gw hs hgd hw];refine .inl (ae7 (dst:=ao.dst) cH iy hs hfr xR hdom hop hr K Q λY v hx hv hm hdm=>?_);rw[<-hd];exact hK Y _ hx (hs.put hx hv hm hlt) hdm
 .rename_i hw;rw[Gw hs hgd hw];cases hr;rw[<-hd];exact hK X _ (Ext.refl X) (hs.put (Ext.refl X) o6 hs.mem hlt) (fP.refl _ _ _)
structure NW(P:Program)(dy:Nat->Option TypeId)(nt:Nat)(ops:Array Oper)(all:List bI):Prop where
 len:all.length=ops.size
 at_:∀(i:Nat)(ao:bI),all[i]?=some ao->∃o:Oper,ops[i]?=some o/\Fk P dy o.op=some ao.op/\ao.dst=o.dst/\gdP ops o.guard=some ao.gd/\ao.dst.getD 0<nt
def A0{rows:List (Nat×Nat)}{ops:Array Oper}:∀{l:List (Oper×Nat)}{aL:List bI},zj P dy nt rows ops l=some aL->aL.length=l.length/\∀(i:Nat)(ao:bI),aL[i]?=some ao->∃(o:Oper)(b:Nat),l[i]?=some (o,b)/\ao.oV=b/\Fk P dy o.op=some ao.op/\ao.dst=o.dst/\gdP ops o.guard=some ao.gd/\ao.dst.getD 0<nt
 |[],aL,h=>by cases h<;>grind|(o,b)::r,aL,h=>by
  simp[zj]at h;split at h;.rename_i a' as' h1 h2;cases h;obtain⟨h3,h4⟩:=A0 h2;refine⟨by simp[h3],λi ao hi=>?_⟩;cases i with
   |zero=>
    cases hi;unfold adh at h1;split at h1
    .rename_i ap g hap hg;split at h1;.rename_i hlt;cases h1;exact⟨o,b,rfl,rfl,hap,rfl,hg,hlt⟩
     .cases h1
    .cases h1|succ i=>exact h4 i ao (by simpa using hi)
  .cases h
def Gx(cH:cD P call)(iy:∀f T,dy f=some T->kA P f T){ops:Array Oper}{all:List bI}(yg:NW P dy nt ops all){mE:Nat}{Q:Exit->Act->World->Prop}:∀(l:List bI)(i:Nat)(s s':St)(X:Cx)(a:Act),(∀k,l[k]?=all[i+k]?)->jB call sh mE i l s=some s'->fM X nt s a->(∀k,i<=k->k<i+l.length->X.ρ (mE+k)=none)->mE+(i+l.length)<=s.nv->(∀v,s.nv<=v->X.ρ v=none)->(∀Y a',Ext X Y->fM Y nt s' a'->s.nv<=s'.nv->(∀v L,Y.ρ v=some L->X.ρ v=some L\/(mE<=v/\v<s'.nv))->Q .normal a' Y.w)->wpOps P ops Q (List.range' i l.length) a X.w
 |[],i,s,s',X,a,_,h,hs,_,_,_,hQ=>by cases h;exact hQ X a (Ext.refl X) hs (bc _) λ_ _ h=>.inl h|o::r,i,s,s',X,a,hall,h,hs,hfr,xR,hdom,hQ=>by
  simp[jB]at h;split at h;.cases h
  .rename_i e he;have h0:=hall 0;obtain⟨oc,g1,g2,g3,g4,g5⟩:=yg.at_ i o h0.symm;simp[fa]at hfr xR;refine PZ cH iy hs (hfr i (bc _) (by omega)) (by omega) hdom g1 g2 g3 g4 g5 he λY a' hx hs' hd=>?_;obtain⟨d1,d2⟩:=hd;refine Gx cH iy yg r (i+1) _ s' Y a' (λk=>by have:=hall (k+1);rw[List.getElem?_cons_succ]at this;rw[this];congr 1;omega) h hs' (λk h1 h2=>?_) (by omega) (λv hv=>?_) λZ a'' hz afc hn Fy=>?_;.cases hY:Y.ρ (mE+k)with|none=>rfl|some L=>grind
   .cases hY:Y.ρ v with|none=>rfl|some L=>grind
   .refine hQ Z a'' (hx.trans hz) afc (m9 d1 hn) λv L hv=>?_<;>grind
def Gy{p q:Nat->Bool}:∀{l:List Nat},(∀x,q x=true->p x=true)->(∃x∈l,p x=true/\q x=false)->l.countP q<l.countP p
 |[],_,⟨x,hx,_⟩=>by cases hx|y::r,h,⟨x,hx,h1,h2⟩=>by
  have mono:r.countP q<=r.countP p:=List.countP_mono_left λx _=>h x;rcases dl.1 hx with rfl|hx;.grind
  .have:=Gy h ⟨x,hx,h1,h2⟩<;>grind
def Dc{oV:List Nat}:∀{l:List Oper}{bs:List Nat}{i:Nat},FU oV i l bs=true->∀k o,l[k]?=some o->∃b,bs[k]?=some b/\Ia oV (i+k) o b=true|[],_,_,_,k,o,h=>by simp at h|o::r,[],i,h,_,_,_=>by simp[FU]at h|o::r,b::bs,i,h,k,o',hk=>by simp[FU,al]at h;cases k with|zero=>grind|succ k=>obtain⟨b',h1,h2⟩:=Dc h.2 k o' (by simpa using hk)<;>grind
structure Ux(ops:Array Oper)(all:List bI):Prop where
 back:∀(i:Nat)(o:Oper),ops[i]?=some o->∀e∈o.after,Region.binds .any e=true->e.on<i
 oV:∀(i:Nat)(o:Oper)(ao:bI),ops[i]?=some o->all[i]?=some ao->∀k,k<i->ao.oV.testBit k=true->∃e∈o.after,Region.binds .any e=true/\(e.on=k\/(k<e.on/\∀ao',all[e.on]?=some ao'->ao'.oV.testBit k=true))
def afd(cH:cD P call)(iy:∀f T,dy f=some T->kA P f T){ops:Array Oper}{all:List bI}(yg:NW P dy nt ops all)(Uy:Ux ops all)(hap:nG [] all=true){mE:Nat}{s0:St}{L:List Fx}(Uz:PY call sh mE all s0 L){Q:Exit->Act->World->Prop}:∀(fuel:Nat)(listed:Array Bool)(X:Cx)(a:Act),listed.size=ops.size->(List.range ops.size).countP (λj=>!listed.getD j false)<=fuel->IE all (λj=>listed.getD j false)->fM X nt (JL s0 L λj=>listed.getD j false) a->(∀k,k<ops.size->listed.getD k false=false->X.ρ (mE+k)=none)->mE+ops.size<=(JL s0 L λj=>listed.getD j false).nv->(∀v,(JL s0 L λj=>listed.getD j false).nv<=v->X.ρ v=none)->(∀Y a',Ext X Y->fM Y nt (lF s0 L) a'->(JL s0 L λj=>listed.getD j false).nv<=(lF s0 L).nv->(∀v M,Y.ρ v=some M->X.ρ v=some M\/(mE<=v/\v<(lF s0 L).nv))->Q .normal a' Y.w)->wpAny P .any ops Q fuel listed a X.w:=by
 have afe:∀(listed:Array Bool)(j:Nat),listed.size=ops.size->j<ops.size->listed.getD j true=listed.getD j false:=λlisted j h hj=>by simp[show j<listed.size by omega]
 have fin:∀(listed:Array Bool)(X:Cx)(a:Act),listed.size=ops.size->Region.ready .any ops listed=[]->fM X nt (JL s0 L λj=>listed.getD j false) a->(∀Y a',Ext X Y->fM Y nt (lF s0 L) a'->(JL s0 L λj=>listed.getD j false).nv<=(lF s0 L).nv->(∀v M,Y.ρ v=some M->X.ρ v=some M\/(mE<=v/\v<(lF s0 L).nv))->Q .normal a' Y.w)->Q .normal a X.w:=by
  intro listed X a hsz hr hs hQ;have hall:∀j,j<ops.size->listed.getD j false=true:=by intro j;induction j using Nat.strongRecOn with|_ j ih=>intro hj;cases hl:listed.getD j false with|true=>rfl|false=>have hm:j∈Region.ready .any ops listed:=mem_ready.2 ⟨by rw[afe _ _ hsz hj];exact hl,ops[j],pt hj,λe he hb=>by have:=Uy.back j _ (pt hj) e he hb;exact ih _ this (by omega)⟩;rw[hr]at hm;cases hm
  have hst:(JL s0 L λj=>listed.getD j false)=lF s0 L:=by unfold JL;rw[List.filter_eq_self.2 λx hx=>hall x.1 (yg.len▸(Uz.dom x.1).2 ⟨x,hx,rfl⟩)]
  rw[hst]at hs hQ;exact hQ X a (Ext.refl X) hs (bc _) λ_ _ h=>.inl h
 intro fuel;induction fuel with|zero=>
  intro listed X a hsz akm hc hs hfr xR hdom hQ;have hr:Region.ready .any ops listed=[]:=by cases hr:Region.ready .any ops listed with|nil=>rfl|cons j r=>
    have hj:j∈Region.ready .any ops listed:=by rw[hr];exact cb ..
    obtain⟨h1,o,h2,_⟩:=mem_ready.1 hj;have hlt:j<ops.size:=(lL.1 h2).1;have:=List.countP_eq_zero.1 (Nat.le_zero.1 akm) j (ul.2 hlt);rw[afe _ _ hsz hlt]at h1;rw[h1]at this;exact absurd rfl this
  exact⟨hr,fin listed X a hsz hr hs hQ⟩|succ fuel ih=>
  intro listed X a hsz akm hc hs hfr xR hdom hQ;refine⟨λhr=>fin listed X a hsz hr hs hQ,λi hi=>?_⟩;obtain⟨hl,o,ho,aff⟩:=mem_ready.1 hi;have hlt:i<ops.size:=(lL.1 ho).1;rw[afe _ _ hsz hlt]at hl;obtain⟨ao,hao⟩:∃ao,all[i]?=some ao:=⟨all[i]'(by rw[yg.len];exact hlt),aw _⟩;obtain⟨o',g1,g2,g3,g4,g5⟩:=yg.at_ i ao hao;rw[ho]at g1;injection g1 with g1;subst g1;have hb:∀k,k<i->ao.oV.testBit k=true->listed.getD k false=true:=by
   intro k hk UA;obtain⟨e,he,adt,h⟩:=Uy.oV i o ao ho hao k hk UA;have hon:=aff e he adt;rcases h with h|⟨h1,h2⟩;.rw[<-h];exact hon
   .have hlt':e.on<all.length:=by rw[yg.len];have:=Uy.back i o ho e he adt;omega
    exact hc e.on _ (aw hlt') hon k h1 (h2 _ (aw hlt'))
  obtain⟨x,hx,rfl,hxd,hstep⟩:=Uz.any hap hc hao hl hb;have Ca:(λj=>(listed.setIfInBounds x.1 true).getD j false)=λj=>listed.getD j false||j==x.1:=by
   funext j;by_cases hj:j=x.1;.subst hj;simp[show x.1<listed.size by omega]
   .rw[getD_set_ne false (pw hj),show(j==x.1)=false from by simpa using hj,xi]
  have hsame:=Uz.after hap hc hx hao hxd hl hb;rw[<-Ca]at hsame;refine PZ cH iy hs (hfr _ hlt hl) (by omega) hdom ho g2 g3 g4 g5 hstep λY a' hx' hs' hd=>?_;rw[<-hxd]at hs' hd;obtain⟨d1,d2⟩:=hd;rw[<-hsame.nv]at d1 d2;refine ih (listed.setIfInBounds x.1 true) Y a' (by simpa using hsz) ?_ ?_ ⟨λt=>?_,hs'.size,hs'.defers,hs'.mem.congr hsame.mem hsame.aI⟩ (λk hk hkl=>?_) (by omega) (λv hv=>?_) λZ a'' hz afc hn Fy=>?_;.have:=Gy (p:=λj=>!listed.getD j false) (q:=λj=>!(listed.setIfInBounds x.1 true).getD j false) (l:=List.range ops.size) (λj hj=>by have:=congrFun Ca j;rw[this]at hj;simp only[d7,jp]at hj;simp only[d7];exact hj.1) ⟨x.1,ul.2 hlt,by simp only[hl,fj],by have:=congrFun Ca x.1;simp only[this,ib,pB,dj]⟩;omega
  .rw[Ca];intro j oj hoj hj k hk UA;simp only[ge,lw]at hj⊢;rcases hj with hj|hj;.exact .inl (hc j oj hoj hj k hk UA)
   .subst hj;rw[hao]at hoj;injection hoj with hoj;subst hoj;exact .inl (hb k hk UA)
  .rw[hsame.slots];exact hs'.slots t
  .have hk':=congrFun Ca k;rw[hk']at hkl;simp only[jp,ma]at hkl;cases hY:Y.ρ (mE+k)with|none=>rfl|some M=>
    rcases d2 _ _ hY with h|h|h;.rw[hfr k hk hkl.1]at h;cases h
    .omega
    .omega
  .cases hY:Y.ρ v with|none=>rfl|some M=>
    rcases d2 _ _ hY with h|h|h;.rw[hdom v (by omega)]at h;cases h
    .omega
    .omega
  .refine hQ Z a'' (hx'.trans hz) afc (m9 d1 hn) λv M hv=>?_;rcases Fy v M hv with h|h
   .rcases d2 v M h with h|h|h;.exact .inl h
    .exact .inr (by omega)
    .exact .inr (by omega)
   .exact .inr h
end
def AX.exit':AX->Exit|.normal=>.normal|.exit id=>if Nat.blt id gb=true then .exit id else .goto ((id-gb)/2)|.ret=>.ret
def yh{id:Nat}(h:Nat.blt id gb=true):(AX.exit id).exit'=.exit id:=by simp[AX.exit',h]
def GA(l:Nat):(AX.exit (gid l)).exit'=.goto l:=by simp_all[gid,AX.exit']
def Post(X:Cx)(nt:NT)(s:St)(r:AX×St)(Q:Exit->Act->World->Prop):Prop:=∀Y a',Ext X Y->fM Y nt r.2 a'->s.nv<=r.2.nv->(∀v L,Y.ρ v=some L->X.ρ v=some L\/(s.nv<=v/\v<r.2.nv))->Q r.1.exit' a' Y.w
def Post.trans{X Y:Cx}{nt:NT}{s s':St}{r:AX×St}{Q:Exit->Act->World->Prop}(h:Post X nt s r Q)(hx:Ext X Y)(hn:s.nv<=s'.nv)(hd:∀v L,Y.ρ v=some L->X.ρ v=some L\/(s.nv<=v/\v<s'.nv)):Post Y nt s' r Q:=by intro Z a' hz hs hn' hd';refine h Z a' (hx.trans hz) hs (m9 hn hn') λv L hv=>?_<;>grind
def Post.now{X:Cx}{nt:NT}{s:St}{a:Act}{x:AX}{Q:Exit->Act->World->Prop}(h:Post X nt s (x,s) Q)(hs:fM X nt s a):Q x.exit' a X.w:=h X a (Ext.refl X) hs (bc _) λ_ _ h=>.inl h
def yj{X Y:Cx}{n m:Nat}(h:∀v,n<=v->X.ρ v=none)(hn:n<=m)(hd:∀v L,Y.ρ v=some L->X.ρ v=some L\/(n<=v/\v<m)):∀v,m<=v->Y.ρ v=none:=by intro v hv;cases hY:Y.ρ v with|none=>rfl|some L=>grind
def Ext.drew(X:Cx):Ext X {X with w:=X.w.drew}:=⟨rfl,(fC.refl _ _).drew,λ_ _ h=>h,λ_ _ _=>rfl,λ_ _ h=>h,λ_ _ h=>.inl h⟩
def fM.drew{X:Cx}{nt:NT}{s:St}{a:Act}(h:fM X nt s a):fM {X with w:=X.w.drew} nt s a:=⟨λt=>(h.slots t).ext (Ext.drew X),h.size,h.defers,h.mem.move (Ext.drew X) (λ_ _ _ _ _ _=>rfl) (λ_ _ _ _ _ _ _ h=>h) h.mem.nH⟩
section
variable{P:Program}{nt:NT}{call:Go.bL.Call}{sh:Nat->Bool}{dy:Nat->Option TypeId}{rows:List (Nat×Nat)}
def GB{ops:Array Oper}{bs:List Nat}{l:List bI}(hb:bs.length=ops.size)(h:zj P dy nt rows ops (ops.toList.zip bs)=some l):NW P dy nt ops l/\∀(i:Nat)(ao:bI),l[i]?=some ao->bs[i]?=some ao.oV:=by
 obtain⟨h1,h2⟩:=A0 h;refine⟨⟨by rw[h1,List.length_zip];simp[hb],λi ao hi=>?_⟩,λi ao hi=>?_⟩;.obtain⟨o,b,g1,_,g2,g3,g4,g5⟩:=h2 i ao hi;have:=(List.getElem?_zip_eq_some.1 g1).1;exact⟨o,by simpa using this,g2,g3,g4,g5⟩
 .obtain⟨o,b,g1,g2,_⟩:=h2 i ao hi;have:=(List.getElem?_zip_eq_some.1 g1).2;rw[g2];exact this
def aaZ{ops:Array Oper}{bs:List Nat}{l:List bI}(awW:l.length=ops.size)(hl:∀(i:Nat)(ao:bI),l[i]?=some ao->bs[i]?=some ao.oV)(h:FU bs 0 ops.toList bs=true):Ux ops l:=by
 have key:=λi o(ho:ops[i]?=some o)=>Dc h i o (by simpa using ho);refine⟨λi o ho e he hb=>?_,λi o ao ho hao k hk UA=>?_⟩
 .obtain⟨b,_,h2⟩:=key i o ho;simp only[Ia,al,fr,ge,d7]at h2;rcases h2.1 e (by simpa using he)with h|h;.rw[show Edge.H9 e=Region.binds .any e from rfl,hb]at h;cases h
  .rw[kb]at h;exact Nat.blt_eq.mp h
 .obtain⟨b,h1,h2⟩:=key i o ho;simp only[Ia,al,fr,ge,d7,ul]at h2;rcases h2.2 k (by omega)with h|h;.grind
  .obtain⟨e,he,h⟩:=ml.1 h;simp only[al,ge]at h;refine⟨e,by simpa using he,h.1,?_⟩;rcases h.2with h|h;.exact .inl (am h)
   .refine .inr ⟨Nat.blt_eq.mp h.1,λao' asP=>?_⟩;have:=hl _ _ asP;rw[da,this]at h;exact h.2
def Rz(hm:P.follows .mixedOrders=true)(cH:cD P call)(iy:∀f T,dy f=some T->kA P f T){X:Cx}{s s':St}{a:Act}{id:Nat}{ops:Array Oper}{draw:Bool}{l:List bI}{dr:Bool}(hp:aau P dy nt rows ops draw=some (.region l dr))(hr:gF call sh l dr s=some s')(hs:fM X nt s a)(hdom:∀v,s.nv<=v->X.ρ v=none){Q:Exit->Act->World->Prop}(hQ:Post X nt s (.normal,s') Q):(Code.region id ops draw).wp P Q a X.w:=by
 have hs1:fM X nt {s with nv:=s.nv+l.length} a:=⟨hs.slots,hs.size,hs.defers,hs.mem⟩;unfold aau at hp;cases draw with|false=>
  obtain⟨l',hl,hp⟩:=aJ hp;injection hp with h1 h2;subst h1;subst h2;have hz:ops.toList.map (λo=>(o,0))=ops.toList.zip (List.replicate ops.size 0):=by
   apply List.ext_getElem;.simp
   .simp
  rw[hz]at hl;obtain⟨yg,_⟩:=GB (by simp) hl;refine wp_region ?_;rw[<-yg.len,List.range_eq_range'];refine Gx cH iy yg l' 0 _ s' X a (λk=>by simp) hr hs1 (λk _ _=>hdom _ (by omega)) (by simp) (λv hv=>hdom v (by simp at hv;omega)) λY a' hx hs' hn hd=>?_;exact hQ Y a' hx hs' (by simp at hn⊢;omega) hd|true=>
  simp at hp;split at hp
  .rename_i l' hb hl;split at hp
   .rename_i hap;injection hp with hp;injection hp with h1 h2;subst h1;subst h2;simp at hb;obtain⟨yg,Ny⟩:=GB hb.1 hl;have Uy:=aaZ yg.len Ny hb.2;obtain⟨L,rfl,Uz⟩:=PY.afa hr;refine wp_region_any hm ?_;have hf:∀j,(Array.replicate ops.size false).getD j false=false:=λj=>by
     rw[kh];rcases ii j ops.size with h|h;.simp[h]
     .simp[h]
    have hst:(JL {s with nv:=s.nv+l'.length} L λj=>(Array.replicate ops.size false).getD j false)={s with nv:=s.nv+l'.length}:=by unfold JL;rw[tl.2 λx _=>by show¬(Array.replicate ops.size false).getD x.1 false=true;rw[hf];exact Bool.false_ne_true];rfl
    refine afd cH iy yg Uy hap Uz ops.size _ {X with w:=X.w.drew} a (by simp) ?_ (λj o _ hj=>absurd ((hf j).symm.trans hj) (by decide)) ?_ (λk _ _=>hdom _ (by omega)) ?_ ?_ λY a' hx hs' hn hd=>?_;.simp_all
    .rw[hst];exact hs1.drew
    .rw[hst];simp[yg.len]
    .grind
    .rw[hst]at hn;exact hQ Y a' ((Ext.drew X).trans hx) hs' (by simp at hn⊢;omega) hd
   grind
  grind
def sj(P:Program)(c:Code)(Q:Exit->Act->World->Prop)(a:Act)(w:World):Prop:=∀(b:Frame)(k:List Item)(cs:List Frame),∃e a' w',Q e a' w'/\Arrives P (lone (b.at a (.code c::.inLoop c::k)) cs w) b k cs e a' w'
def sj.round{c:Code}{Q:Exit->Act->World->Prop}{a:Act}{w:World}(h:c.wp P (Exit.then (sj P c Q) Q) a w):sj P c Q a w:=by intro b k cs;obtain⟨e,a₁,w₁,hq,KB⟩:=h b (.inLoop c::k) cs;cases e with|normal=>obtain⟨e₂,a₂,w₂,hq₂,ako⟩:=hq b k cs;exact⟨e₂,a₂,w₂,hq₂,.of_steps (Steps.trans KB (.one step_inLoop)) ako⟩|exit id=>exact⟨_,a₁,w₁,hq,.pass (x:=.inLoop c) rfl (λ_ _=>.inl (by simp)) KB⟩|goto l=>exact⟨_,a₁,w₁,hq,.pass (x:=.inLoop c) rfl (λ_ _=>.inl (by simp)) KB⟩|ret=>exact⟨_,a₁,w₁,hq,.pass (x:=.inLoop c) rfl (λ_ _=>.inl (by simp)) KB⟩|panic ch=>exact⟨_,a₁,w₁,hq,.pass (x:=.inLoop c) rfl (λ_ _=>.inl (by simp)) KB⟩|outgrown=>exact⟨_,a₁,w₁,hq,.pass (x:=.inLoop c) rfl (λ_ _=>.inl (by simp)) KB⟩
def sj.wp{c:Code}{Q:Exit->Act->World->Prop}{a:Act}{w:World}(h:sj P c Q a w):(Code.loop c).wp P Q a w:=λb k cs=>let⟨e,a',w',hq,KB⟩:=h b k cs;⟨e,a',w',hq,.of_steps (.one step_loop) KB⟩
def jm(n:Nat)(c:AC)(s:St):exec call sh (n+1) c s=match c with
 |.skip=>some (.normal,s)|.region ops draw=>(gF call sh ops draw s).map λs'=>(.normal,s')|.seq a b=>match exec call sh n a s with|some (.normal,s')=>exec call sh n b s'|r=>r
 |.cond c a b=>match jS (c.ev s.slots)with|some true=>exec call sh n a s|some false=>exec call sh n b s|none=>none
 |.block id c=>match exec call sh n c s with
  |some (.exit id',s')=>match Nat.beq id' id with|true=>some (.normal,s')|false=>some (.exit id',s')
  |r=>r
 |.loop c=>match exec call sh n c s with|some (.normal,s')=>exec call sh n (.loop c) s'|r=>r
 |.exit id=>some (.exit id,s)|.ret=>some (.ret,s):=rfl
def RA:∀(n:Nat)(c:AC)(s:St)(r:AX×St),exec call sh n c s=some r->exec call sh (n+1) c s=some r:=by intro n;induction n with|zero=>simp_all[Call,exec]|succ n ih=>intro c s r h;cases c with
 |skip=>exact h|region ops draw=>exact h|exit id=>exact h|ret=>exact h|seq a b=>
  rw[jm n]at h;rw[jm (n+1)];dsimp at h⊢;split at h;.rename_i s' he;rw[ih _ _ _ he];exact ih _ _ _ h
  .rename_i hne;rw[ih _ _ _ h];obtain⟨x,s'⟩:=r;cases x with|normal=>exact absurd h (hne s')|exit id=>rfl|ret=>rfl
 |cond c a b=>
  rw[jm n]at h;rw[jm (n+1)];dsimp at h⊢;split at h;.exact ih _ _ _ h
  .exact ih _ _ _ h
  .cases h|block id c=>
  rw[jm n]at h;rw[jm (n+1)];dsimp at h⊢;split at h;.rename_i he;rw[ih _ _ _ he];exact h
  .rename_i hne;rw[ih _ _ _ h];obtain⟨x,s'⟩:=r;cases x with|normal=>rfl|exit id=>exact absurd h (hne id s')|ret=>rfl
 |loop c=>
  rw[jm n]at h;rw[jm (n+1)];dsimp at h⊢;split at h;.rename_i s' he;rw[ih _ _ _ he];exact ih _ _ _ h
  .rename_i hne;rw[ih _ _ _ h];obtain⟨x,s'⟩:=r;cases x with|normal=>exact absurd h (hne s')|exit id=>rfl|ret=>rfl
def IF{n m:Nat}(hle:n<=m){c:AC}{s:St}{r:AX×St}(h:exec call sh n c s=some r):exec call sh m c s=some r:=by induction hle with|refl=>exact h|step _ ih=>exact RA _ _ _ _ ih
def GC{p:Nat->Bool}:∀(n:Nat)(c:AC)(s s':St)(id:Nat),leaves p c=true->exec call sh n c s=some (.exit id,s')->p id=true:=by intro n;induction n with|zero=>simp_all[Call,exec,leaves]|succ n ih=>intro c s s' id hl h;cases c with|skip=>simp[exec]at h|region ops draw=>simp_all[exec,leaves,Call]|exit id'=>cases h;exact hl|ret=>simp[exec]at h|seq a b=>simp[leaves,al]at hl;simp[exec]at h<;>grind|cond c a b=>simp[leaves,al]at hl;simp[exec]at h<;>grind|block id' c=>simp[leaves]at hl;simp[exec]at h<;>grind|loop c=>
 simp[leaves]at hl;simp[exec]at h;split at h;.exact ih (.loop c) _ _ _ hl h
 grind
def KC{n l:Nat}{c:AC}{s:St}{r:AX×St}(h:exec call sh n (.loop (.block (gid l) (.seq c (.exit (BU l))))) s=some r):∃m x s',m<n/\exec call sh m c s=some (x,s')/\((x=.exit (gid l)/\exec call sh (n-1) (.loop (.block (gid l) (.seq c (.exit (BU l))))) s'=some r)\/(x=.normal/\r=(.exit (BU l),s'))\/(x≠.normal/\x≠.exit (gid l)/\r=(x,s'))):=by cases n with|zero=>simp[exec]at h|succ n=>
 have hk:Nat.beq (BU l) (gid l)=false:=by cases hb:Nat.beq (BU l) (gid l)with|false=>rfl|true=>simp_all[BU,gid,exec,Call]
 simp[exec]at h;cases n with|zero=>simp[exec]at h|succ n=>cases n with|zero=>simp[exec]at h|succ n=>cases hc:exec call sh n c s with|none=>simp[exec,hc]at h|some xs=>obtain⟨x,s'⟩:=xs;refine⟨n,x,s',by omega,hc,?_⟩;cases n with|zero=>simp[exec]at hc|succ n=>cases x with
  |normal=>
   have e1:exec call sh (n+1) (.exit (BU l)) s'=some (.exit (BU l),s'):=rfl;have e2:exec call sh (n+1+1) (.seq c (.exit (BU l))) s=some (.exit (BU l),s'):=by rw[exec];simp[hc,e1]
   have e3:exec call sh (n+1+1+1) (.block (gid l) (.seq c (.exit (BU l)))) s=some (.exit (BU l),s'):=by rw[exec];simp[e2,hk]
   rw[e3]at h;simp at h;exact .inr (.inl ⟨rfl,h.symm⟩)|exit id=>
   have e2:exec call sh (n+1+1) (.seq c (.exit (BU l))) s=some (.exit id,s'):=by rw[exec];simp[hc]
   cases hb:Nat.beq id (gid l)with|true=>
    have e3:exec call sh (n+1+1+1) (.block (gid l) (.seq c (.exit (BU l)))) s=some (.normal,s'):=by rw[exec];simp[e2,hb]
    rw[e3]at h;exact .inl ⟨by rw[am hb],h⟩|false=>
    have e3:exec call sh (n+1+1+1) (.block (gid l) (.seq c (.exit (BU l)))) s=some (.exit id,s'):=by rw[exec];simp[e2,hb]
    rw[e3]at h;simp at h;exact .inr (.inr ⟨by simp,λhx=>by injection hx with hx;exact m8 hb hx,h.symm⟩)
  |ret=>
   have e2:exec call sh (n+1+1) (.seq c (.exit (BU l))) s=some (.ret,s'):=by rw[exec];simp[hc]
   have e3:exec call sh (n+1+1+1) (.block (gid l) (.seq c (.exit (BU l)))) s=some (.ret,s'):=by rw[exec];simp[e2]
   rw[e3]at h;simp at h;exact .inr (.inr ⟨by simp,by simp,h.symm⟩)
section
open Classical
def lS(call:Call)(sh:Nat->Bool)(nt:NT)(Q:Exit->Act->World->Prop)(l:Nat)(c:AC)(m:Nat)(a:Act)(w:World):Prop:=∃Y s r,Y.w=w/\fM Y nt s a/\(∀v,s.nv<=v->Y.ρ v=none)/\exec call sh m (.loop (.block (gid l) (.seq c (.exit (BU l))))) s=some r/\Post Y nt s ((match r.1with|.exit id=>if id=BU l then .normal else .exit id|x=>x),r.2) Q
def least{p:Nat->Prop}:∀{n:Nat},p n->∃m,p m/\∀k,p k->m<=k:=by intro n;induction n using Nat.strongRecOn with|_ n ih=>grind
noncomputable def rounds(call:Call)(sh:Nat->Bool)(nt:NT)(Q:Exit->Act->World->Prop)(l:Nat)(c:AC)(a:Act)(w:World):Nat:=if h:∃m,lS call sh nt Q l c m a w then Classical.choose (least (p:=λm=>lS call sh nt Q l c m a w) h.choose_spec)else 0
def GD{Q:Exit->Act->World->Prop}{l:Nat}{c:AC}{m:Nat}{a:Act}{w:World}(h:lS call sh nt Q l c m a w):rounds call sh nt Q l c a w<=m:=by have hh:∃m,lS call sh nt Q l c m a w:=⟨m,h⟩;unfold rounds<;>grind
def RB{Q:Exit->Act->World->Prop}{l:Nat}{c:AC}{m:Nat}{a:Act}{w:World}(h:lS call sh nt Q l c m a w):lS call sh nt Q l c (rounds call sh nt Q l c a w) a w:=by have hh:∃m,lS call sh nt Q l c m a w:=⟨m,h⟩;unfold rounds;rw[dif_pos hh];exact(Classical.choose_spec (least (p:=λm=>lS call sh nt Q l c m a w) hh.choose_spec)).1
end
def GF{A:Act->World->Prop}{Q:Exit->Act->World->Prop}{id:Nat}{a:Act}{w:World}(h:Q (AX.exit id).exit' a w):Exit.then A Q (AX.exit id).exit' a w:=by
 unfold AX.exit' at h⊢;simp at h⊢;split;.rename_i hb;rw[ba hb]at h;exact h
 .rename_i hb;rw[bi hb]at h;exact h
section
variable{n:Nat}(JM:∀(c:Code)(ac:AC)(X:Cx)(s:St)(a:Act)(r:AX×St)(Q:Exit->Act->World->Prop),eB P dy nt rows c none=some ac->exec call sh n ac s=some r->fM X nt s a->(∀v,s.nv<=v->X.ρ v=none)->Post X nt s r Q->c.wp P Q a X.w)
include JM
theorem Dd{c0:Code}{ac:AC}{l m:Nat}{a:Act}{w:World}{Q:Exit->Act->World->Prop}(hc:eB P dy nt rows c0 none=some ac)(hl:leaves (λid=>Nat.blt id gb||Nat.beq id (gid l)) ac=true)(hm:m<=n)(h:lS call sh nt Q l ac m a w):c0.wp P (Exit.jump l (λa' w'=>(∃k,k<=n/\lS call sh nt Q l ac k a' w')/\rounds call sh nt Q l ac a' w'<m) Q) a w:=by
 obtain⟨Y,s,r,rfl,hs,hdom,hex,hpost⟩:=h;obtain⟨m1,x,s',hlt,hx,akp⟩:=KC hex;refine JM c0 ac Y s a (x,s') _ hc (IF (by omega) hx) hs hdom λZ a' hYZ hsZ hn hd=>?_;rcases akp with⟨rfl,h1⟩|⟨rfl,h1⟩|⟨h1,h2,h3⟩;.rw[GA];have hR:lS call sh nt Q l ac (m-1) a' Z.w:=⟨Z,s',r,rfl,hsZ,yj hdom hn hd,h1,hpost.trans hYZ hn hd⟩;have:=GD hR;exact⟨rfl,⟨m-1,by omega,hR⟩,by omega⟩
 .subst h1;have:=hpost Z a' hYZ hsZ hn hd;simp at this;exact this
 .subst h3;cases x with|normal=>grind|exit id=>
  have hb:=GC _ _ _ _ _ hl hx;have hlt':Nat.blt id gb=true:=by simp_all
  have hk:id≠BU l:=by have:=ft hlt';simp[BU];omega
  have:=hpost Z a' hYZ hsZ hn hd;simp[bi hk]at this;rw[yh hlt']at this⊢;exact this|ret=>exact hpost Z a' hYZ hsZ hn hd
theorem A1:∀(c:Code)(ac:AC)(l:Nat),eB P dy nt rows c (some l)=some ac->∃c0 TH,findLabel c l=some (.seq .skip c0)/\eB P dy nt rows c0 none=some TH/\leaves (λid=>Nat.blt id gb||Nat.beq id (gid l)) TH=true/\∀(m:Nat)(X:Cx)(s:St)(a:Act)(r:AX×St)(Q:Exit->Act->World->Prop),m<=n+1->exec call sh m ac s=some r->fM X nt s a->(∀v,s.nv<=v->X.ρ v=none)->Post X nt s r Q->c.wp P (Exit.jump l (λa' w'=>∃k,k<=n/\lS call sh nt Q l TH k a' w') Q) a X.w
 |.seq x y,ac,l,hc=>by
  rw[eB]at hc;split at hc
  .rename_i l' UB;have hx:x=.label l':=by cases x<;>simp only[aeL]at UB<;>first|(injection UB with UB;rw[UB])|cases UB
   subst hx;split at hc
   .rename_i TH hb hc0;have hl':=am hb;subst hl';unfold T0 at hc;split at hc
    .rename_i hl;cases hc;refine⟨y,TH,by simp[findLabel],hc0,hl,λm X s a r Q hm hex hs hdom hpost=>?_⟩;have key:∃k r',k<=n/\exec call sh k (.loop (.block (gid l') (.seq TH (.exit (BU l'))))) s=some r'/\r=((match r'.1with|.exit id=>if id=BU l' then .normal else .exit id|x=>x),r'.2):=by cases m with|zero=>simp[exec]at hex|succ k=>
       rw[jm k]at hex;dsimp at hex;split at hex
       .rename_i id s' he;refine⟨k,_,by omega,he,?_⟩;split at hex;.simp_all
        .rename_i hid;cases hex;simp[bi (m8 hid)]
       .refine⟨k,_,by omega,hex,?_⟩;obtain⟨z,s'⟩:=r<;>simp_all
     obtain⟨k,r',hk,asQ,rfl⟩:=key;have hp:=Dd JM hc0 hl hk ⟨X,s,r',rfl,hs,hdom,asQ,hpost⟩;have Ca:=wp_mono (Q':=Exit.jump l' (λa' w'=>∃k,k<=n/\lS call sh nt Q l' TH k a' w') Q) hp λe a w h=>by cases e with|goto l=>exact⟨h.1,h.2.1⟩|_=>exact h
     exact wp_seq (wp_label Ca)
    grind
   grind
  .split at hc
   .rename_i ax ay hf hx hy;split at hc;.rename_i hlv;cases hc;obtain⟨c0,TH,h1,h2,h3,h4⟩:=A1 y ay l hy;refine⟨c0,TH,by simp[findLabel,hf,h1],h2,h3,λm X s a r Q hm hex hs hdom hpost=>?_⟩;cases m with|zero=>simp[exec]at hex|succ k=>
      rw[jm k]at hex;dsimp at hex;refine wp_seq ?_;split at hex;.rename_i s' he;refine JM x ax X s a (.normal,s') _ hx (IF (by omega) he) hs hdom λY a' hx' hs' hn hd=>?_;exact h4 k Y s' a' r Q (by omega) hex hs' (yj hdom hn hd) (hpost.trans hx' hn hd)
      .refine JM x ax X s a r _ hx (IF (by omega) hex) hs hdom λY a' hx' hs' hn hd=>?_;have:=hpost Y a' hx' hs' hn hd;obtain⟨z,s'⟩:=r;cases z with|normal=>grind|exit id=>have hb:=GC _ _ _ _ _ hlv hex;rw[yh hb]at this⊢;exact this|ret=>exact this
    grind
   grind|.skip,_,_,hc=>by simp[eB]at hc|.region ..,_,_,hc=>by simp[eB]at hc|.cond ..,_,_,hc=>by simp[eB]at hc|.block ..,_,_,hc=>by simp[eB]at hc|.loop ..,_,_,hc=>by simp[eB]at hc|.exit ..,_,_,hc=>by simp[eB]at hc|.goto ..,_,_,hc=>by simp[eB]at hc|.label ..,_,_,hc=>by simp[eB]at hc|.scope ..,_,_,hc=>by simp[eB]at hc|.ret,_,_,hc=>by simp[eB]at hc|.rangeFunc ..,_,_,hc=>by simp[eB]at hc|.refuse ..,_,_,hc=>by simp[eB]at hc
end
def Cb(hm:P.follows .mixedOrders=true)(cH:cD P call)(iy:∀f T,dy f=some T->kA P f T):∀(n:Nat),(∀(c:Code)(ac:AC)(X:Cx)(s:St)(a:Act)(r:AX×St)(Q:Exit->Act->World->Prop),eB P dy nt rows c none=some ac->exec call sh n ac s=some r->fM X nt s a->(∀v,s.nv<=v->X.ρ v=none)->Post X nt s r Q->c.wp P Q a X.w)/\(∀(c:Code)(ac:AC)(X:Cx)(s:St)(a:Act)(r:AX×St)(Q:Exit->Act->World->Prop),eB P dy nt rows c none=some ac->exec call sh n (.loop ac) s=some r->fM X nt s a->(∀v,s.nv<=v->X.ρ v=none)->Post X nt s r Q->sj P c Q a X.w):=by intro n;induction n with|zero=>simp_all[cD,Call,sj,Post,exec,eB]|succ n ih=>
 obtain⟨JM,ihB⟩:=ih;have B:∀(c:Code)(ac:AC)(X:Cx)(s:St)(a:Act)(r:AX×St)(Q:Exit->Act->World->Prop),eB P dy nt rows c none=some ac->exec call sh (n+1) (.loop ac) s=some r->fM X nt s a->(∀v,s.nv<=v->X.ρ v=none)->Post X nt s r Q->sj P c Q a X.w:=by
   intro c ac X s a r Q hc hr hs hdom hQ;simp[exec]at hr;refine sj.round ?_;split at hr;.rename_i s' he;refine JM c ac X s a (.normal,s') _ hc he hs hdom λY a' hx hs' hn hd=>?_;exact ihB c ac Y s' a' r Q hc hr hs' (yj hdom hn hd) (hQ.trans hx hn hd)
   .rename_i hne;refine JM c ac X s a r _ hc hr hs hdom λY a' hx hs' hn hd=>?_;have:=hQ Y a' hx hs' hn hd;obtain⟨x,s'⟩:=r;cases x with|normal=>exact absurd hr (hne s')|exit id=>exact GF this|ret=>exact this
 refine⟨λc ac X s a r Q hc hr hs hdom hQ=>?_,B⟩;cases c with
 |skip=>cases hc;cases hr;exact wp_skip (hQ.now hs)|region id ops draw=>
   simp[eB]at hc;have:∃l dr,ac=.region l dr:=by
    unfold aau at hc;split at hc;.obtain⟨l,_,rfl⟩:=aJ hc;exact⟨_,_,rfl⟩
    .simp at hc;split at hc
     .split at hc;.injection hc with hc;exact⟨_,_,hc.symm⟩
      .cases hc
     .cases hc
   obtain⟨l,dr,rfl⟩:=this;obtain⟨s',hr',rfl⟩:=aJ hr;exact Rz hm cH iy hc hr' hs hdom hQ|seq x y=>
   simp[eB]at hc;split at hc
   .rename_i ax ay hx hy;cases hc;simp[exec]at hr;refine wp_seq ?_;split at hr;.rename_i s' he;refine JM x ax X s a (.normal,s') _ hx he hs hdom λY a' hx' hs' hn hd=>?_;exact JM y ay Y s' a' r Q hy hr hs' (yj hdom hn hd) (hQ.trans hx' hn hd)
    .rename_i hne;refine JM x ax X s a r _ hx hr hs hdom λY a' hx' hs' hn hd=>?_;have:=hQ Y a' hx' hs' hn hd;obtain⟨z,s'⟩:=r;cases z with|normal=>exact absurd hr (hne s')|exit id=>exact GF this|ret=>exact this
   .cases hc|cond c x y=>
   simp[eB]at hc;split at hc
   .rename_i c' ax ay Fl hx hy;cases hc;simp[exec]at hr;have hv:=bE hs Fl;split at hr;.rename_i hb;exact wp_cond_true (o7 hb hv) (JM x ax X s a r Q hx hr hs hdom hQ)
    .rename_i hb;exact wp_cond_false (o7 hb hv) (JM y ay X s a r Q hy hr hs hdom hQ)
    .cases hr
   .cases hc|block id c=>
   simp[eB]at hc;split at hc
   .rename_i afg;obtain⟨ac',Fl,rfl⟩:=aJ hc;simp[exec]at hr;refine wp_block ?_;split at hr
    .rename_i id' s' he;split at hr;.rename_i hid;cases hr;refine JM c ac' X s a (.exit id',s') _ Fl he hs hdom λY a' hx' hs' hn hd=>?_;have:=hQ Y a' hx' hs' hn hd;have hid:=am hid;subst hid;rw[yh afg];simp[Exit.inBlock,jn];exact this
     .rename_i hid;cases hr;refine JM c ac' X s a (.exit id',s') _ Fl he hs hdom λY a' hx' hs' hn hd=>?_;have:=hQ Y a' hx' hs' hn hd;simp[AX.exit']at this⊢;split;.rename_i hb;rw[ba hb]at this;simp[Exit.inBlock,m8 hid,n3];exact this
      .rename_i hb;rw[bi hb]at this;exact this
    .rename_i hne;refine JM c ac' X s a r _ Fl hr hs hdom λY a' hx' hs' hn hd=>?_;have:=hQ Y a' hx' hs' hn hd;obtain⟨z,s'⟩:=r;cases z with|normal=>exact this|exit id=>exact absurd hr (hne id s')|ret=>exact this
   .cases hc|loop c=>obtain⟨ac',Fl,rfl⟩:=aJ hc;exact(B c ac' X s a r Q Fl hr hs hdom hQ).wp|exit id=>
   simp[eB]at hc;split at hc;.rename_i afg;cases hc;cases hr;have:=hQ.now hs;rw[yh afg]at this;exact wp_exit this
   .cases hc|goto l=>cases hc;cases hr;have:=hQ.now hs;rw[GA]at this;exact wp_goto this|scope c=>
   simp[eB]at hc;split at hc;.rename_i l hl;obtain⟨c0,TH,h1,h2,h3,h4⟩:=A1 JM c ac l hc;refine wp_scope_jumps l (λa w=>∃k,k<=n/\lS call sh nt Q l TH k a w) (rounds call sh nt Q l TH) h1 (h4 (n+1) X s a r Q (bc _) hr hs hdom hQ) λa w hJ=>?_;obtain⟨k,hk,hR⟩:=hJ;exact wp_seq (wp_skip (Dd JM h2 h3 (m9 (GD hR) hk) (RB hR)))
   .cases hc|ret=>cases hc;cases hr;exact wp_ret (hQ.now hs)|_=>simp[eB]at hc
end
section
variable{P:Program}{X:Cx}{nt:NT}{s:St}{a:Act}
def GG(a:Act):ResultVar->Sem Value|.tmp t=>pure (a.tmps.getD t undef)|.cell c t=>do loadVar t (<-asAddr (a.tmps.getD c undef))
def aa0(hs:fM X nt s a){rv:ResultVar}{ar:BR}{v:AV}(hp:aeM P rv=some ar)(hr:JZ s ar=some v):∃u,(GG a rv).run P X.w=.ok u X.w/\V1 X v u:=by cases rv with
 |tmp t=>
  cases hp;simp[JZ]at hr;split at hr;.rename_i hn;cases hr;exact⟨_,rfl,V1.Gn hn (hs.slots t)⟩
  grind|cell c t=>
  simp[aeM]at hp;split at hp
  .rename_i sz agg hsz AE;split at hp;.rename_i h1;cases hp;obtain⟨cs,hcs,hw⟩:=aV hr;obtain⟨b,off,vs,hv,hc,h2,hlen⟩:=J0 hs.mem (hs.slots c) hcs;obtain⟨u,hrun,hV⟩:=CJ (P:=P) hsz AE h1 hc h2 hlen hw;exact⟨u,by simp only[GG,hv];simp[asAddr,hrun],hV⟩
   grind
  grind
def zx(hs:fM X nt s a):∀{l:List ResultVar}{rs:List BR}{vs:List AV},FV P l=some rs->ke s rs=some vs->∃us,(l.mapM (GG a)).run P X.w=.ok us X.w/\aD (V1 X) vs us
 |[],rs,vs,hp,hr=>by simp_all[ke,FV,V1,aD,GG]|rv::r,rs,vs,hp,hr=>by
  simp[FV]at hp;split at hp
  .rename_i y ys h1 h2;cases hp;simp[ke]at hr;split at hr;.rename_i v vs' h3 h4;cases hr;obtain⟨u,g1,g2⟩:=aa0 hs h1 h3;obtain⟨us,g3,g4⟩:=zx hs h2 h4;refine⟨u::us,?_,g2,g4⟩<;>simp_all
   grind
  grind
def sk:∀(l:List AV)(i:Nat)(t:Tr AV)(k:Nat),dW (eA i l t) k=if h:i<=k/\k<i+l.length then l[k-i]'(by omega)else dW t k
 |[],i,t,k=>by grind[eA,dW]|x::r,i,t,k=>by
  rw[eA,sk r (i+1)];by_cases h1:i+1<=k/\k<i+1+r.length;.grind
  .rw[xc h1];by_cases h2:k=i;.subst h2;simp[dW,Tr.cL]
   .rw[xc (by simp;omega)];unfold dW;rw[Tr.cL,bi (pw h2)]
def P0{args:List AV}{bV:Array Value}(h:aD (V1 X) args bV.toList)(n:Nat)(t:Nat):VR X (dW (eA 0 args .lf) t) ((bV++Array.replicate n undef).getD t undef):=by
 rw[sk];have hl:=h.length;simp at hl;by_cases ht:0<=t/\t<0+args.length
 .rw[dif_pos ht];obtain⟨b,hb,hr⟩:=h.get t args[t] (aw (by omega));have:(bV++Array.replicate n undef).getD t undef=b:=by rw[kh,rx (by omega)]<;>grind
  rw[this];exact .vM hr
 .rw[xc ht];have:(bV++Array.replicate n undef).getD t undef=undef:=by rw[kh,Array.getElem?_append_right (by omega),Array.getElem?_replicate]<;>grind
  rw[this];exact o6
def UC{vs:List AV}{us:List Value}(h:aD (V1 X) vs us):VR X (jv vs) (if h:us.toArray.size=1then us.toArray[0]else .tuple us.toArray):=by match vs,us,h with|[],[],_=>grind[V1,aD,jv,VR]|[v],[u],h=>exact .vM h.1|v::w::r,u::x::q,h=>grind[V1,aD,jv,VR]
def yl(call:Go.bL.Call)(Fs:Nat->Option qA)(n:Nat):Go.bL.Call:=λf args mem aI nv=>match Fs f with|none=>none|some fn=>match Nat.beq args.length fn.np with|false=>none|true=>match exec call (λg=>((Fs g).map (·.sh)).getD false) n fn.body {slots:=eA 0 args .lf,mem,aI,nv}with|some (.normal,s)|some (.ret,s)=>(ke s fn.res).map λvs=>(jv vs,s.mem,s.aI,s.nv)|_=>none
def De{call:Go.bL.Call}(cH:cD P call){dy:Nat->Option TypeId}{md:Nat->Mode}{Fs:Nat->Option qA}(hm:P.follows .mixedOrders=true)(iy:∀f T,dy f=some T->kA P f T)(n:Nat){f:Nat}(FB:∀fn,Fs f=some fn->Q9 P dy md f=some fn){args:List AV}{mem:List (Tr bu)}{aI:Tr Unit}{nv:Nat}{r:AV}{mem':List (Tr bu)}{kB:Tr Unit}{BX:Nat}(h:yl call Fs n f args mem aI nv=some (r,mem',kB,BX))(X:Cx)(bV:Array Value)(hmem:aH X mem aI)(hdom:∀v,nv<=v->X.ρ v=none)(hargs:aD (V1 X) args bV.toList):∃pf c,P.funcs[f]?=some pf/\pf.body=some c/\(pf.name== "runtime.NumGoroutine")=false/\c.wp P (bodyPost P pf (λe w'=>∃Y v,e=.returned v/\Y.w=w'/\Ext X Y/\VR Y r v/\aH Y mem' kB/\nv<=BX/\∀u L,Y.ρ u=some L->X.ρ u=some L\/(nv<=u/\u<BX))) {tmps:=bV++Array.replicate (pf.ntmps-bV.size) undef,defers:=[]} X.w:=by
  simp only[yl]at h;split at h;.cases h
  .rename_i fn hfn;split at h;.cases h
   .rename_i hnp;have hnp:=am hnp;have hf:=FB fn hfn;unfold Q9 at hf;split at hf;.cases hf
    .rename_i pf hpf;split at hf;.cases hf
     .rename_i c hbody;split at hf;.cases hf
      .rename_i hname;split at hf
       .rename_i b rs hc TF;simp only at hf;split at hf
        .rename_i hle;injection hf with hf;subst hf;refine⟨pf,c,hpf,hbody,by simpa using hname,?_⟩;have hlen:=hargs.length;simp only[f9]at hlen;simp only at hnp h;have start:fM X ⟨pf.ntmps,[]⟩ {slots:=eA 0 args .lf,mem,aI,nv} {tmps:=bV++Array.replicate (pf.ntmps-bV.size) undef,defers:=[]}:=⟨λt=>P0 hargs _ t,by simp;omega,rfl,hmem⟩;have fin:∀(x:AX)(s:St),(ke s rs).map (λvs=>(jv vs,s.mem,s.aI,s.nv))=some (r,mem',kB,BX)->∀(Y:Cx)(a':Act),Ext X Y->fM Y ⟨pf.ntmps,[]⟩ s a'->nv<=s.nv->(∀v L,Y.ρ v=some L->X.ρ v=some L\/(nv<=v/\v<s.nv))->a'.defers=[]/\∃v,(results pf a'.tmps).run P Y.w=.ok v Y.w/\∃Z u,Ending.returned v=.returned u/\Z.w=Y.w/\Ext X Z/\VR Z r u/\aH Z mem' kB/\nv<=BX/\∀u L,Z.ρ u=some L->X.ρ u=some L\/(nv<=u/\u<BX):=by
          intro x s hres Y a' hx hs' hn hd;obtain⟨vs,hvs,he⟩:=aJ hres;simp only[eK]at he;obtain⟨rfl,rfl,rfl,rfl⟩:=he;obtain⟨us,g1,g2⟩:=zx hs' TF hvs;refine⟨hs'.defers,_,?_,Y,_,rfl,rfl,hx,UC g2,hs'.mem,hn,hd⟩;have e:results pf a'.tmps=(do let vs<-pf.results.mapM (GG a')pure (if h:vs.size=1then vs[0]else .tuple vs)):=by unfold results;congr 1
          rw[e,<-Array.toArray_toList (xs:=pf.results),List.mapM_toArray];simp[g1]
         split at h;.rename_i s he;refine(Cb (nt:=⟨pf.ntmps,[]⟩) hm cH iy n).1 c b X _ _ (.normal,s) _ hc he start hdom λY a' hx hs' hn hd=>?_;exact fin .normal s h Y a' hx hs' hn hd
         .rename_i s he;refine(Cb (nt:=⟨pf.ntmps,[]⟩) hm cH iy n).1 c b X _ _ (.ret,s) _ hc he start hdom λY a' hx hs' hn hd=>?_;exact fin .ret s h Y a' hx hs' hn hd
         .cases h
        .cases hf
       .cases hf
def UD{call:Go.bL.Call}(cH:cD P call){dy:Nat->Option TypeId}{md:Nat->Mode}{Fs:Nat->Option qA}(hm:P.follows .mixedOrders=true)(iy:∀f T,dy f=some T->kA P f T)(FB:∀f fn,Fs f=some fn->Q9 P dy md f=some fn)(n:Nat):cD P (yl call Fs n):=by intro f args mem aI nv r mem' kB BX h X bV hmem hdom hargs;obtain⟨pf,c,h1,h2,h3,h4⟩:=De cH hm iy n (FB f) h X bV hmem hdom hargs;exact⟨⟨pf,h1,by rw[h2];rfl,h3⟩,calls_of_wp h1 h2 h4⟩
def P3{dy:Nat->Option TypeId}{md:Nat->Mode}{Fs:Nat->Option qA}(hm:P.follows .mixedOrders=true)(iy:∀f T,dy f=some T->kA P f T)(FB:∀f fn,Fs f=some fn->Q9 P dy md f=some fn):∀n,cD P (aat Fs n)|0=>λ_ _ _ _ _ _ _ _ _ h=>by simp[aat]at h|n+1=>UD (P3 hm iy FB n) hm iy FB n
end
end Go.bL
namespace Go.bL
open Go
structure DFn where
 np:Nat
 nt:Nat
 pre:AC
 g:Nat
 caps:List Nat
 dst:Nat
 body:AC
 res:List BR
 sh:Bool deriving Inhabited
def tmpsOf:List Operand->Option (List Nat)|[]=>some []|.tmp t::r=>(tmpsOf r).map (t::·)|_=>none
def NX:Code->Option (Code×Nat×List Nat×Nat×Code)
 |.seq r1 (.seq (.region _ ⟨[o1,o2]⟩ false) rest)=>match o1.op,o1.dst,o1.guard,o2.op,o2.dst,o2.guard with
  |.makeFunc (.func g) ⟨[]⟩ ⟨cap⟩,some d,none,.defer c,none,none=>match c.callee,c.args with
   |.value (.tmp d'),⟨[]⟩=>match Nat.beq d' d,tmpsOf cap with|true,some l=>some (r1,g,l,d,rest)|_,_=>none
   |_,_=>none
  |_,_,_,_,_,_=>none
 |_=>none
def KD(P:Program)(dy:Nat->Option TypeId)(md:Nat->Mode)(f:Nat):Option DFn:=match P.funcs[f]?with|none=>none|some fn=>match fn.body with|none=>none|some c=>if fn.name== "runtime.NumGoroutine"then none else match NX c,FV P fn.results.toList with
 |some (r1,g,caps,d,rest),some rs=>match T1 P dy fn.ntmps (md f).rows r1,T1 P dy fn.ntmps (md f).rows rest with|some pre,some body=>if fn.params.size+fn.nfree<=fn.ntmps/\d<fn.ntmps then some {np:=fn.params.size+fn.nfree,nt:=fn.ntmps,pre,g,caps,dst:=d,body,res:=rs,sh:=(md f).sh}else none|_,_=>none
 |_,_=>none
def pF(id:Nat):AC->AC|.seq a b=>.seq (pF id a) (pF id b)|.cond c a b=>.cond c (pF id a) (pF id b)|.block i c=>.block i (pF id c)|.loop c=>.loop (pF id c)|.ret=>.exit id|c=>c
def tw(id:Nat):AC->Bool|.seq a b=>tw id a&&tw id b|.cond _ a b=>tw id a&&tw id b|.block i c=>!Nat.beq i id&&tw id c|.loop c=>tw id c|.exit i=>!Nat.beq i id|_=>true
def vS(t:Nat):AC->Bool
 |.region ops _=>ops.all λo=>match o.dst with|some d=>!Nat.beq d t|none=>true
 |.seq a b=>vS t a&&vS t b|.cond _ a b=>vS t a&&vS t b|.block _ c=>vS t c|.loop c=>vS t c|_=>true
def gdf:Nat:=1099511627776
def adu:AC->Bool|.region _ _=>true|_=>false
def mkD(d:DFn):qA:={np:=d.np,nt:=d.nt,res:=d.res,sh:=d.sh,body:=.seq d.pre (.seq (.region [⟨some d.dst,.makeFunc d.g (d.caps.map .t),none,0,0⟩] false) (.seq (.block gdf (pF gdf d.body)) (.region [⟨none,.AA (.t d.dst) [],none,0,0⟩] false)))}
def afh(d:DFn):Bool:=adu d.pre&&tw gdf d.body&&vS d.dst d.body
def akq(P:Program)(dy:Nat->Option TypeId)(md:Nat->Mode)(f:Nat):Option qA:=match KD P dy md f with|none=>none|some d=>match afh d,Q9 P dy md d.g with
 |true,some g=>match g.sh&&g.res.isEmpty with|true=>some (mkD d)|false=>none
 |_,_=>none
def Fp(P:Program)(dy:Nat->Option TypeId)(md:Nat->Mode)(f:Nat):Option qA:=match Q9 P dy md f with|some x=>some x|none=>akq P dy md f
end Go.bL
namespace Go.bL
open Go Go.RowKit
section
variable{P:Program}{X:Cx}
def A2:∀{l:List Operand}{ts:List Nat},tmpsOf l=some ts->jy l=some (ts.map .t)|[],ts,h=>by cases h;rfl|.tmp t::r,ts,h=>by obtain⟨ys,h1,rfl⟩:=aJ h;simp[jy,dH,A2 h1,f2]|.const _::_,_,h=>by simp[tmpsOf]at h|.global _::_,_,h=>by simp[tmpsOf]at h|.func _::_,_,h=>by simp[tmpsOf]at h
def CF.V1{x:AV}{v:Value}(h:CF X x v):Go.bL.V1 X x v:=by cases x<;>first|exact h|exact h.elim
structure akr(c r1 rest:Code)(g:Nat)(caps:List Nat)(d:Nat):Prop where code:∃id o1 o2 cap ym,c=.seq r1 (.seq (.region id #[o1,o2] false) rest)/\o1.op=.makeFunc (.func g) #[] cap/\o1.dst=some d/\o1.guard=none/\o2.op=.defer ym/\o2.dst=none/\o2.guard=none/\ym.callee=.value (.tmp d)/\ym.args=#[]/\jy cap.toList=some (caps.map .t)
def KE{c r1 rest:Code}{g d:Nat}{caps:List Nat}(h:NX c=some (r1,g,caps,d,rest)):akr c r1 rest g caps d:=by
 unfold NX at h;split at h;case h_2=>cases h
 rename_i r1' id o1 o2 rest';split at h;case h_2=>cases h
 rename_i g' cap d' ym h1 h2 h3 h4 h5 h6;split at h;case h_2=>cases h
 rename_i d'' h7 h8;split at h;case h_2=>cases h
 rename_i l hb hl;have hb:=am hb;subst hb;cases h;exact⟨⟨id,o1,o2,⟨cap⟩,ym,rfl,h1,h2,h3,h4,h5,h6,h7,h8,A2 hl⟩⟩
end
def KF(id:Nat):AX->AX|.ret=>.exit id|x=>x
section
variable{call:Go.bL.Call}{sh:Nat->Bool}{id:Nat}
def UE{a b:Nat}(h:Nat.beq a b=false):a≠b:=m8 h
def iK:∀(n:Nat)(c:AC)(s:St),tw id c=true->exec call sh n (pF id c) s=(exec call sh n c s).map λr=>(KF id r.1,r.2)
 |0,_,_,_=>rfl|n+1,.skip,s,_=>rfl|n+1,.region ops draw,s,_=>by simp[pF,exec];cases gF call sh ops draw s<;>rfl|n+1,.seq a b,s,h=>by simp[tw,al]at h;simp[pF,exec,iK n a s h.1];cases exec call sh n a s with|none=>rfl|some r=>obtain⟨x,s'⟩:=r;cases x<;>simp[KF,iK n b s' h.2]
 |n+1,.cond c a b,s,h=>by simp[tw,al]at h;simp only[pF,exec,iK n a s h.1,iK n b s h.2]<;>grind|n+1,.block i c,s,h=>by simp[tw,al,d7]at h;simp[pF,exec,iK n c s h.2];cases exec call sh n c s with|none=>rfl|some r=>
  obtain⟨x,s'⟩:=r
  cases x with|normal=>rfl|ret=>
   have:Nat.beq id i=false:=by have:=UE h.1;cases hq:Nat.beq id i with|false=>rfl|true=>simp_all
   simp[KF,this]|exit j=>simp only[KF,cf]<;>grind
 |n+1,.loop c,s,h=>by simp[pF,exec,iK n c s h];cases exec call sh n c s with|none=>rfl|some r=>obtain⟨x,s'⟩:=r;cases x with|normal=>exact iK n (.loop c) s' h|ret=>rfl|exit j=>rfl
 |n+1,.exit i,s,h=>rfl|n+1,.ret,s,_=>rfl
def lz:∀(n:Nat)(c:AC)(s s':St),tw id c=true->exec call sh n c s=some (.exit id,s')->False
 |0,_,_,_,_,h=>by cases h|n+1,.skip,s,_,_,h=>by simp[exec]at h|n+1,.region ops draw,s,_,_,h=>by simp[exec]at h|n+1,.seq a b,s,s',h0,h=>by
  simp[tw,al]at h0;simp[exec]at h;split at h;.exact lz n b _ _ h0.2 h
  .exact lz n a _ _ h0.1 h|n+1,.cond c a b,s,s',h0,h=>by
  simp[tw,al]at h0;simp[exec]at h;split at h;.exact lz n a _ _ h0.1 h
  .exact lz n b _ _ h0.2 h
  grind|n+1,.block i c,s,s',h0,h=>by
  simp[tw,al]at h0;simp[exec]at h;split at h
  .rename_i j s2 he;split at h;.simp at h
   .cases h;exact lz n c _ _ h0.2 he
  grind|n+1,.loop c,s,s',h0,h=>by
  have h1:=h0;simp[exec]at h;split at h;.exact lz n (.loop c) _ _ h1 h
  .exact lz n c _ _ h0 h|n+1,.exit i,s,s',h0,h=>by simp_all[exec,tw,Call]|n+1,.ret,s,_,_,h=>by simp[exec]at h
def KG{s:St}{dst:Option Nat}{e:iu}{t:Nat}(h:(match dst with|some d=>!Nat.beq d t|none=>true)=true):dW (s.app dst e).slots t=dW s.slots t:=by
 have:∀v,dW (n9 s.slots dst v) t=dW s.slots t:=λv=>by cases dst with|none=>rfl|some d=>simp only[d7]at h;have:=UE h;simp[dW,n9,Tr.cL,this]
 cases e<;>exact this _
def KH{mE t:Nat}:∀{l:List bI}{i:Nat}{s s':St},(l.all λo=>match o.dst with|some d=>!Nat.beq d t|none=>true)=true->jB call sh mE i l s=some s'->dW s'.slots t=dW s.slots t
 |[],_,_,_,_,h=>by cases h;rfl|o::r,i,s,s',h0,h=>by
  simp only[dC,al]at h0;simp[jB]at h;split at h;.cases h
  .rw[KH h0.2 h];exact KG h0.1
def KI{mE t:Nat}:∀{l:List bI}{i:Nat}{eT:List (Nat×iu)}{s s':St},(l.all λo=>match o.dst with|some d=>!Nat.beq d t|none=>true)=true->j9 call sh mE i l eT s=some s'->dW s'.slots t=dW s.slots t
 |[],_,_,_,_,_,h=>by cases h;rfl|o::r,i,eT,s,s',h0,h=>by
  simp only[dC,al]at h0;simp[j9]at h;split at h;.cases h
  .split at h;.rw[KI h0.2 h];exact KG h0.1
   grind
def gG{t:Nat}:∀(n:Nat)(c:AC)(s:St)(x:AX)(s':St),vS t c=true->exec call sh n c s=some (x,s')->dW s'.slots t=dW s.slots t
 |0,_,_,_,_,_,h=>by cases h|n+1,.skip,s,_,_,_,h=>by cases h;rfl|n+1,.region ops draw,s,x,s',h0,h=>by simp only[exec,fg]at h;obtain⟨s2,h1,h2⟩:=h;cases h2;cases draw with|false=>exact KH (s:={s with nv:=s.nv+ops.length}) h0 h1|true=>exact KI (s:={s with nv:=s.nv+ops.length}) h0 h1
 |n+1,.seq a b,s,x,s',h0,h=>by
  simp[vS,al]at h0;simp[exec]at h;split at h;.rename_i s2 he;rw[gG n b _ _ _ h0.2 h,gG n a _ _ _ h0.1 he]
  .exact gG n a _ _ _ h0.1 h|n+1,.cond c a b,s,x,s',h0,h=>by
  simp[vS,al]at h0;simp[exec]at h;split at h;.exact gG n a _ _ _ h0.1 h
  .exact gG n b _ _ _ h0.2 h
  grind|n+1,.block i c,s,x,s',h0,h=>by
  simp[exec]at h;split at h
  .rename_i j s2 he;split at h;.cases h;exact gG n c _ _ _ h0 he
   .cases h;exact gG n c _ _ _ h0 he
  .exact gG n c _ _ _ h0 h|n+1,.loop c,s,x,s',h0,h=>by
  have h1:=h0;simp[exec]at h;split at h;.rename_i s2 he;rw[gG n (.loop c) _ _ _ h1 h,gG n c _ _ _ h0 he]
  .exact gG n c _ _ _ h0 h|n+1,.exit i,s,x,s',_,h=>by cases h;rfl|n+1,.ret,s,x,s',_,h=>by cases h;rfl
end
section
variable{P:Program}{X:Cx}{call:Go.bL.Call}{sh:Nat->Bool}
def Df{n:Nat}{a b:AC}{s:St}{r:AX×St}(h:exec call sh n (.seq a b) s=some r):∃m,n=m+1/\((∃s1,exec call sh m a s=some (.normal,s1)/\exec call sh m b s1=some r)\/(exec call sh m a s=some r/\r.1≠.normal)):=by cases n with|zero=>cases h|succ m=>refine⟨m,rfl,?_⟩;simp only[exec]at h<;>grind
def IG{n:Nat}{c:AC}{s s2:St}(hc:tw gdf c=true)(h:exec call sh n (.block gdf (pF gdf c)) s=some (.normal,s2)):∃m ax,exec call sh m c s=some (ax,s2)/\(ax=.normal\/ax=.ret):=by cases n with|zero=>cases h|succ m=>simp[exec,iK m c s hc]at h;cases he:exec call sh m c s with|none=>grind|some r=>obtain⟨ax,s3⟩:=r;rw[he]at h;cases ax with|normal=>grind|ret=>grind|exit j=>
 simp[KF,cf]at h;split at h;.rename_i hb;cases am hb;exact(lz m c s s3 hc he).elim
 grind
def RD{n:Nat}{c:AC}{s s2:St}(hc:tw gdf c=true):exec call sh n (.block gdf (pF gdf c)) s≠some (.ret,s2):=by intro h;cases n with|zero=>cases h|succ m=>simp[exec,iK m c s hc]at h;cases he:exec call sh m c s with|none=>grind|some r=>obtain⟨ax,s3⟩:=r;rw[he]at h;cases ax with|normal=>simp[KF]at h|ret=>simp[KF]at h|exit j=>simp only[KF,cf]at h<;>grind
end
section
variable{P:Program}{X:Cx}{call:Go.bL.Call}{sh:Nat->Bool}
def P4{n:Nat}{c:AC}{s s':St}{ax:AX}(hr:adu c=true)(h:exec call sh n c s=some (ax,s')):ax=.normal:=by cases n with|zero=>cases h|succ m=>
 cases c<;>first|cases hr|skip
 simp_all[exec,Call]
def aa2{n:Nat}{d:DFn}{s0 s3:St}{ax:AX}(hk:afh d=true)(hsh:sh d.g=true)(h:exec call sh n (mkD d).body s0=some (ax,s3))(UF:ax=.normal\/ax=.ret):∃n1 s1 n2 s2 ax2 rg cm ts nv3,exec call sh n1 d.pre s0=some (.normal,s1)/\(d.caps.map (dW s1.slots)).all jT=true/\exec call sh n2 d.body {s1 with slots:=n9 s1.slots (some d.dst) (.fK d.g (d.caps.map (dW s1.slots))),nv:=s1.nv+1}=some (ax2,s2)/\(ax2=.normal\/ax2=.ret)/\call d.g (d.caps.map (dW s1.slots)) (s2.mem++[.lf]) s2.aI (s2.nv+1)=some (rg,cm,ts,nv3)/\(rg=.fu []->s3={slots:=s2.slots,mem:=cm.take s2.mem.length,aI:=ts,nv:=nv3}):=by
 simp[afh,al]at hk;obtain⟨⟨asR,hne⟩,hkeep⟩:=hk;obtain⟨m,e1,g1⟩:=Df h;rcases g1 with⟨s1,h1,h⟩|⟨h1,hn⟩;case inr=>exact absurd (P4 asR h1) hn
 obtain⟨m2,e2,g2⟩:=Df h;rcases g2 with⟨s1',h2,h⟩|⟨h2,hn⟩;case inr=>exact absurd (P4 rfl h2) hn
 obtain⟨m3,e3,g3⟩:=Df h;clear h;subst e3;rcases g3 with⟨s2,h3,h⟩|⟨h3,hn⟩;case inr=>
  rcases UF with rfl|rfl;.exact absurd rfl hn
  .exact absurd h3 (RD hne)
 obtain⟨m4,ax2,h5,afj⟩:=IG hne h3;have qP:∀(t:Tr AV),AB t (d.caps.map .t)=d.caps.map (dW t):=λt=>by unfold AB;rw[py];rfl
 have q:(d.caps.map (dW s1.slots)).all jT=true/\s1'={s1 with slots:=n9 s1.slots (some d.dst) (.fK d.g (d.caps.map (dW s1.slots))),nv:=s1.nv+1}:=by
  simp only[exec,fg]at h2;obtain⟨s4,h6,h7⟩:=h2;cases h7;simp only[gF,jB,bI.step,ju,cG.run,qP]at h6;by_cases hc:(d.caps.map (dW s1.slots)).all jT=true;.rw[ba hc]at h6;simp[fy.pure,fw]at h6;exact⟨hc,h6.symm⟩
  grind
 obtain⟨hc,rfl⟩:=q;have asS:dW s2.slots d.dst=.fK d.g (d.caps.map (dW s1.slots)):=by rw[gG m4 d.body _ _ _ hkeep h5];simp[dW,n9,Tr.cL]
 cases m3 with|zero=>cases h|succ m5=>
 simp only[exec,fg]at h;obtain⟨s4,h6,h7⟩:=h;cases h7;simp[gF,jB,bI.step,ju,cG.run,cx.ev,asS,hsh,AB,lx,i6,gZ]at h6;split at h6;.cases h6
 rename_i e he;split at he;.cases he
 split at he;.cases he
 rename_i rg cm ts nv3 cH;refine⟨_,s1,_,s2,ax2,rg,cm,ts,nv3,h1,hc,h5,afj,cH,?_⟩;rintro rfl;have hi:∀k row lv sl aR,gY cm k row lv sl aR (.fu [])=some (.fu [],[]):=λ_ _ _ _ _=>rfl;cases he;cases h6;rfl
def UG(cH:cD P call){dy:Nat->Option TypeId}{md:Nat->Mode}{Fs:Nat->Option qA}(hm:P.follows .mixedOrders=true)(iy:∀f T,dy f=some T->kA P f T)(hgo:∀g gf,Q9 P dy md g=some gf->Fs g=some gf->∀args mem aI nv x,call g args mem aI nv=some x->∃call' n',cD P call'/\yl call' Fs n' g args mem aI nv=some x)(FB:∀f fn,Fs f=some fn->Fp P dy md f=some fn)(hgs:∀f d,(Fs f).isSome=true->KD P dy md f=some d->(Fs d.g).isSome=true)(n:Nat):cD P (yl call Fs n):=by intro f args mem aI nv r mem' kB BX h X bV hmem hdom hargs;cases hfp:Q9 P dy md f with|some fp=>obtain⟨pf,c,h1,h2,h3,h4⟩:=De (md:=md) cH hm iy n (λfn hfn=>by have:=FB f fn hfn;simp only[Fp,hfp]at this;rw[hfp];exact this) h X bV hmem hdom hargs;exact⟨⟨pf,h1,by rw[h2];rfl,h3⟩,calls_of_wp h1 h2 h4⟩|none=>
 have h0:=h;simp only[yl]at h;split at h;.cases h
 rename_i fn hfn;have hq:=FB f fn hfn;simp only[Fp,hfp,akq]at hq;split at hq;.cases hq
 rename_i d hdf;split at hq;case h_2=>cases hq
 rename_i gf hok hgf;split at hq;case h_2=>cases hq
 rename_i hgk;injection hq with hq;subst hq;rw[al]at hgk;obtain⟨asU,aks⟩:=hgk;have hFg:Fs d.g=some gf:=by have:=hgs f d (by rw[hfn];rfl) hdf;cases hg:Fs d.g with|none=>rw[hg]at this;cases this|some gf'=>have:=FB d.g gf' hg;simp only[Fp,hgf]at this;rw[this]
 split at h;.cases h
 rename_i hnp;have hnp:=am hnp;have hrun:∃ax s3,exec call (λg=>((Fs g).map (·.sh)).getD false) n (mkD d).body {slots:=eA 0 args .lf,mem,aI,nv}=some (ax,s3)/\(ax=.normal\/ax=.ret)/\(ke s3 d.res).map (λvs=>(jv vs,s3.mem,s3.aI,s3.nv))=some (r,mem',kB,BX):=by
  split at h;.rename_i s3 he;exact⟨_,s3,he,.inl rfl,h⟩
  .rename_i s3 he;exact⟨_,s3,he,.inr rfl,h⟩
  .cases h
 clear h;obtain⟨ax,s3,he,UF,hres⟩:=hrun;obtain⟨n1,s1,n2,s2,ax2,rg,cm,ts,nv3,he1,hcell,he2,afj,hcg,afk⟩:=aa2 hok (by simp[hFg,asU]) he UF;obtain⟨call',n',afl,hg⟩:=hgo d.g gf hgf hFg _ _ _ _ _ hcg;have hrg:rg=.fu []:=by
  have hg2:=hg;simp only[yl,hFg]at hg2;split at hg2;.cases hg2
  have BW:gf.res=[]:=sm.1 aks;split at hg2;.simp only[BW,ke,jv,cf,fw,eK]at hg2;exact hg2.1.symm
  .simp only[BW,ke,jv,cf,fw,eK]at hg2;exact hg2.1.symm
  .cases hg2
 have afk:=afk hrg;subst afk;unfold KD at hdf;split at hdf;.cases hdf
 rename_i pf hpf;split at hdf;.cases hdf
 rename_i c hbody;split at hdf;.cases hdf
 rename_i hname;split at hdf;case h_2=>cases hdf
 rename_i r1 g caps dd rest rs akt TF;split at hdf;case h_2=>cases hdf
 rename_i pre body hpre Dg;split at hdf;case isFalse=>cases hdf
 rename_i hle;injection hdf with hdf;subst hdf;simp only[mkD]at hnp he1 he2 hcell hres hg hgf hFg;obtain⟨⟨id,o1,o2,cap,ym,rfl,ho1,hd1,hg1,ho2,Im,hg2,hc1,ov,hcap⟩⟩:=KE akt;refine⟨⟨pf,hpf,by rw[hbody];rfl,by simpa using hname⟩,?_⟩;have hlen:=hargs.length;simp only[f9]at hlen;have start:fM X ⟨pf.ntmps,[]⟩ {slots:=eA 0 args .lf,mem,aI,nv} {tmps:=bV++Array.replicate (pf.ntmps-bV.size) undef,defers:=[]}:=⟨λt=>P0 hargs _ t,by simp;omega,rfl,hmem⟩;refine calls_of_wp_defers hpf hbody (wp_seq ?_);refine(Cb (nt:=⟨pf.ntmps,[]⟩) hm cH iy n1).1 r1 pre X _ _ (.normal,s1) _ hpre he1 start hdom λY a1 hxY hsY hnY hdY=>?_;show Code.wp P _ _ _ _;refine wp_seq (wp_region ?_);show wpOps P #[o1,o2] _ [0,1] _ _;have adw:AB s1.slots (caps.map .t)=caps.map (dW s1.slots):=by unfold AB;rw[py];rfl
 obtain⟨fv,aku,hfv⟩:=AG (P:=P) hsY ho1 hcap (by rw[adw];exact hcell);rw[adw]at hfv;refine ef (o:=o1) rfl hg1 (kf aku ?_);rw[hd1];have asW:=hfv;obtain⟨vs,rfl,hvs⟩:=hfv;let dfd:Deferred:={target:=.fn (.func g) vs,args:=#[]};have TI:a1.tmps.size=pf.ntmps:=hsY.size;have hle2:=hle.2;have qP:(a1.put (some dd) (.func (.func g) #[] vs)).eval (.tmp dd)=.func (.func g) #[] vs:=by simp[Act.eval,Act.put];intro h;omega
 have akv:(execOp (a1.put (some dd) (.func (.func g) #[] vs)).eval o2).run P Y.w=.ok (.defer dfd) Y.w:=by simp[execOp,ho2,resolve,hc1,ov,qP,Deferred.ofValue,dfd]
 refine ef (o:=o2) rfl hg2 ?_;unfold Oper.wp;rw[akv];rw[Oper.upon_defer,Im];show Code.wp P _ _ _ _;let a2:Act:={(a1.put (some dd) (.func (.func g) #[] vs))with defers:=[dfd]};have ha2:({(a1.put (some dd) (.func (.func g) #[] vs))with defers:=dfd::(a1.put (some dd) (.func (.func g) #[] vs)).defers}:Act).put none undef=a2:=by have:a1.defers=[]:=hsY.defers;simp only[Act.put,this,a2]
 rw[ha2];let s1':St:={s1 with slots:=n9 s1.slots (some dd) (.fK g (caps.map (dW s1.slots))),nv:=s1.nv+1};have asX:fM Y ⟨pf.ntmps,[dfd]⟩ s1' a2:=by
  refine⟨λt=>?_,?_,rfl,hsY.mem⟩
  .show VR Y (dW (n9 s1.slots (some dd) _) t) ((a1.tmps.setIfInBounds dd _).getD t undef);have hz:=hsY.size;simp only at hz;by_cases htd:t=dd
   .subst htd;have e1:dW (n9 s1.slots (some t) (.fK g (caps.map (dW s1.slots)))) t=.fK g (caps.map (dW s1.slots)):=by simp[dW,n9,Tr.cL]
    rw[e1,kh,Array.getElem?_setIfInBounds_self_of_lt (by omega)];exact asW
   .have e1:dW (n9 s1.slots (some dd) (.fK g (caps.map (dW s1.slots)))) t=dW s1.slots t:=by unfold dW n9;simp only;rw[Tr.cL,bi (λq=>htd q.symm)]
    rw[e1,kh,Array.getElem?_setIfInBounds_ne (λq=>htd q.symm),<-kh];exact hsY.slots t
  .show(a1.tmps.setIfInBounds dd _).size=_;rw[Array.size_setIfInBounds];exact hsY.size
 have adx:∀v,s1.nv+1<=v->Y.ρ v=none:=λv hv=>by cases hz:Y.ρ v with|none=>rfl|some L=>
   rcases hdY v L hz with h|h;.rw[hdom v (by simp at hnY;omega)]at h;cases h
   .simp at h;omega
 refine(Cb (nt:=⟨pf.ntmps,[dfd]⟩) hm cH iy n2).1 rest body Y s1' a2 (ax2,s2) _ Dg he2 asX adx λZ a3 It hsZ hnZ hdZ=>?_;have fin:Leaves P pf a3.tmps (λe w'=>∃Y v,e=.returned v/\Y.w=w'/\Ext X Y/\VR Y r v/\aH Y mem' kB/\nv<=BX/\∀u L,Y.ρ u=some L->X.ρ u=some L\/(nv<=u/\u<BX)) a3.defers .returning Z.w:=by
  obtain⟨ws,yo,he⟩:=aJ hres;simp only[eK]at he;obtain⟨rfl,rfl,rfl,rfl⟩:=he;have aAP:s1.nv+1<=s2.nv:=hnZ;have akw:∀v,s2.nv+1<=v->Z.ρ v=none:=λv hv=>by cases hz:Z.ρ v with|none=>rfl|some L=>
    rcases hdZ v L hz with h|h;.rw[adx v (by omega)]at h;cases h
    .simp at h;omega
  have hm0:aH Z (s2.mem++[.lf]) s2.aI:=hsZ.mem.congr (λlv sl=>mG _ _ _) λ_=>rfl;have asZ:aD (V1 Z) (caps.map (dW s1.slots)) vs.toList:=hvs.mono λ_ _ h=>((h.ext It).V1);obtain⟨pg,cg,g1,g2,g3,g4⟩:=De afl hm iy n' (λfn hfn=>by rw[hFg]at hfn;injection hfn with hfn;rw[<-hfn];exact hgf) hg Z vs hm0 akw asZ;rw[hsZ.defers];have hinv:(invoke (.fn (.func g) vs) #[]).run P Z.w=.ok (.enter g vs) Z.w:=by have:=pz (P:=P) (args:=vs) (w:=Z.w) g1 (by rw[g2];rfl) g3;simpa[invoke]using this
  refine leaves_cons (λh=>by cases h) hinv ((callsD_of_wp g1 g2 g4).mono ?_);rintro e u' w'⟨rfl,V,v,rfl,rfl,hxV,hvV,hmV,hnV,hdV⟩;have hxX:Ext X V:=(hxY.trans It).trans hxV;have CL:aH V (cm.take s2.mem.length) ts:=hmV.less (λlv sl e he=>by
   rw[nN]at he;split at he;.exact he
   .cases he) λ_ h=>h;have hs3:fM V ⟨pf.ntmps,[dfd]⟩ {slots:=s2.slots,mem:=cm.take s2.mem.length,aI:=ts,nv:=nv3} a3:=⟨λt=>(hsZ.slots t).ext hxV,hsZ.size,hsZ.defers,CL⟩;obtain⟨us,q1,q2⟩:=zx hs3 TF yo;refine⟨_,?_,V,_,rfl,rfl,hxX,UC q2,CL,by simp at hnY;omega,λu L hu=>?_⟩
  .have e:results pf a3.tmps=(do let vs<-pf.results.mapM (GG a3)pure (if h:vs.size=1then vs[0]else .tuple vs)):=by unfold results;congr 1
   rw[e,<-Array.toArray_toList (xs:=pf.results),List.mapM_toArray];simp[q1]
  .rcases hdV u L hu with h|h
   .rcases hdZ u L h with h|h
    .rcases hdY u L h with h|h;.exact .inl h
     .right;simp at h;omega
    .right;have:s1.nv+1<=u/\u<s2.nv:=h;simp at hnY;omega
   .right;simp at hnY;omega
 rcases afj with rfl|rfl;.exact fin
 .exact fin
end
end Go.bL
namespace Go.bL
open Go
def mH(a b:Call):Prop:=∀f x m t n r,a f x m t n=some r->b f x m t n=some r
variable{call call':Call}{sh:Nat->Bool}
def uh(hc:mH call call'){b:Bool}{row:Nat}{s:St}{lv sl aR f:Nat}{args:List AV}{r:iu}(h:gZ call b row s lv sl aR f args=some r):gZ call' b row s lv sl aR f args=some r:=by
 unfold gZ at h⊢;cases b with|false=>
  simp at h⊢;split at h;.cases h
  .split at h;.cases h
   .rename_i r' cm ts n he;rw[hc _ _ _ _ _ _ he]<;>omega|true=>
  simp at h⊢;split at h;.cases h
  .split at h;.cases h
   .rename_i r' cm ts n he;rw[hc _ _ _ _ _ _ he]<;>omega
def A3(hc:mH call call'){s:St}{f:Nat}{args:List AV}{r:iu}(h:lK call s f args=some r):lK call' s f args=some r:=by
 unfold lK at h⊢;split at h;.cases h
 .split at h;.cases h
  .rename_i r' cm ts n he;rw[hc _ _ _ _ _ _ he]<;>omega
def KJ(hc:mH call call'){s:St}{f:Nat}{args:List AV}{r:iu}(h:rU call s f args=some r):rU call' s f args=some r:=by
 unfold rU at h⊢;split at h;.cases h
 .split at h;.cases h
  .rename_i r' cm ts n he;rw[hc _ _ _ _ _ _ he]<;>omega
def KK(hc:mH call call'){s:St}{aR f:Nat}{args:List AV}{r:iu}(h:oW call s aR f args=some r):oW call' s aR f args=some r:=by
 unfold oW at h⊢;split at h;.cases h
 .split at h;.cases h
  .rename_i r' cm ts n he;rw[hc _ _ _ _ _ _ he]<;>omega
def KL(hc:mH call call'){s:St}{aR f:Nat}{args:List AV}{r:iu}(h:oX call s aR f args=some r):oX call' s aR f args=some r:=by
 unfold oX at h⊢;split at h;.cases h
 .split at h;.cases h
  .rename_i r' cm ts n he;rw[hc _ _ _ _ _ _ he];exact h
def A4(hc:mH call call'){row:Nat}{kp kr:List (Nat×Nat)}{s:St}{lv sl aR f:Nat}{args:List AV}{r:iu}(h:qC call row kp kr s lv sl aR f args=some r):qC call' row kp kr s lv sl aR f args=some r:=by
 unfold qC at h⊢;split at h;.cases h
 .split at h;.cases h
  .rename_i r' cm ts n he;rw[hc _ _ _ _ _ _ he];exact h
def UH(hc:mH call call'){s:St}{row dst aR:Nat}{o:cG}{r:iu}(h:o.run call sh s row dst aR=some r):o.run call' sh s row dst aR=some r:=by cases o with
 |call f args=>
  simp[cG.run]at h⊢;split at h;.exact A4 hc h
  split at h;.exact A3 hc h
  .split at h;.exact KJ hc h
   .split at h;.exact KK hc h
    split at h;.exact KL hc h
    .exact uh hc h|xu f args=>
  simp[cG.run]at h⊢;split at h;.exact A4 hc h
  split at h;.exact uh hc h
  .exact A3 hc h|AA x args=>
  simp[cG.run]at h⊢;split at h;.exact uh hc h
  .cases h|_=>exact h
def GH(hc:mH call call'){s:St}{aR:Nat}{o:bI}{r:iu}(h:o.step call sh s aR=some r):o.step call' sh s aR=some r:=by
 unfold bI.step at h⊢;split at h;.cases h
 .exact UH hc h
 .exact h
def A5(hc:mH call call'){mE:Nat}:∀{l:List bI}{i:Nat}{s r:St},jB call sh mE i l s=some r->jB call' sh mE i l s=some r
 |[],_,_,_,h=>h|o::l,i,s,r,h=>by
  unfold jB at h⊢;split at h;.cases h
  .rename_i e he;rw[GH hc he];exact A5 hc h
def A6(hc:mH call call'){mE:Nat}:∀{l:List bI}{i:Nat}{p:List (Nat×iu)}{s r:St},j9 call sh mE i l p s=some r->j9 call' sh mE i l p s=some r
 |[],_,_,_,_,h=>h|o::l,i,p,s,r,h=>by
  unfold j9 at h⊢;split at h;.cases h
  .rename_i e he;rw[GH hc he];simp;split at h;.exact A6 hc h
   omega
def Dh(hc:mH call call'){l:List bI}{d:Bool}{s r:St}(h:gF call sh l d s=some r):gF call' sh l d s=some r:=by cases d with|false=>exact A5 hc h|true=>exact A6 hc h
def yp(hc:mH call call'):∀(n m:Nat)(c:AC)(s:St)(r:AX×St),n<=m->exec call sh n c s=some r->exec call' sh m c s=some r|0,_,_,_,_,_,h=>by cases h|n+1,0,_,_,_,hn,_=>by omega|n+1,m+1,c,s,r,hn,h=>by have ih:=yp hc n m;unfold exec at h⊢;cases c with
 |skip=>exact h|region ops d=>simp at h⊢;cases hr:gF call sh ops d s with|none=>grind|some s'=>rw[hr]at h;rw[Dh hc hr];exact h
 |seq a b=>grind|cond c a b=>grind|block id c=>grind|loop c=>grind|exit id=>exact h|ret=>exact h
end Go.bL
namespace Go.bL
open Go Go.RowKit
structure Tb where
 fs:Nat->Option qA
 O:Go.bL.Call
instance:CoeFun Tb λ_=>Nat->Option qA:=⟨Tb.fs⟩
instance:Coe Tb (Nat->Option qA):=⟨Tb.fs⟩
def NY:Go.bL.Call:=λ_ _ _ _ _=>none
def ga(T:Tb):Nat->Go.bL.Call|0,_,_,_,_,_=>none|n+1,f,args,mem,aI,nv=>match T.fs f with|none=>T.O f args mem aI nv|some fn=>match Nat.beq args.length fn.np with|false=>none|true=>match exec (ga T n) (λg=>((T.fs g).map (·.sh)).getD false) n fn.body {slots:=eA 0 args .lf,mem,aI,nv}with|some (.normal,s)|some (.ret,s)=>(ke s fn.res).map λvs=>(jv vs,s.mem,s.aI,s.nv)|_=>none
def RF{P:Program}:cD P NY:=λ_ _ _ _ _ _ _ _ _ h=>by cases h
def RG(P:Program)(dy:Nat->Option TypeId)(md:Nat->Mode)(Fs:Nat->Option qA):Prop:=(∀f fn,Fs f=some fn->Fp P dy md f=some fn)/\∀f d,(Fs f).isSome=true->KD P dy md f=some d->(Fs d.g).isSome=true
def lT{P:Program}{T:Tb}(hO:cD P T.O){dy:Nat->Option TypeId}{md:Nat->Mode}(hm:P.follows .mixedOrders=true)(iy:∀f T,dy f=some T->kA P f T)(FB:RG P dy md T.fs):∀n,cD P (ga T n)|0=>λ_ _ _ _ _ _ _ _ _ h=>by cases h|n+1=>by intro f args mem aI nv r mem' kB BX h;cases hf:T.fs f with|none=>simp[ga,hf]at h;exact hO f args mem aI nv r mem' kB BX h|some fn=>
 refine UG (lT hO hm iy FB n) hm iy (λg gf _ hFg args mem aI nv x hx=>?_) FB.1 FB.2 n f args mem aI nv r mem' kB BX ?_;.match n,hx with|0,hx=>cases hx|m+1,hx=>refine⟨ga T m,m,lT hO hm iy FB m,?_⟩;simp only[ga,hFg]at hx;simp only[yl,hFg];exact hx
 simp[ga,hf]at h;simp[yl,hf];exact h
def II{T:Tb}:∀(n m:Nat),n<=m->mH (ga T n) (ga T m)
 |0,_,_=>λ_ _ _ _ _ _ h=>by cases h|n+1,0,hn=>by omega|n+1,m+1,hn=>λf x mm t nv r h=>by
  have ih:=II (T:=T) n m (by omega);unfold ga at h⊢;split at h;.exact h
  .rename_i fn hf;split at h;.cases h
   .cases he:exec (ga T n) (λg=>((T.fs g).map (·.sh)).getD false) n fn.body {slots:=eA 0 x .lf,mem:=mm,aI:=t,nv}with|none=>grind|some y=>rw[yp ih n m fn.body _ y (by omega) he]<;>grind
end Go.bL
namespace Go.Sym
open Go Go.bL
inductive rP where|mk(kind:Int)(int:Int)(text:List UInt8)(list:List rP)(cut:Bool)deriving Inhabited
def rP.kind:rP->Int|.mk k _ _ _ _=>k
def rP.int:rP->Int|.mk _ i _ _ _=>i
def rP.text:rP->List UInt8|.mk _ _ s _ _=>s
def rP.list:rP->List rP|.mk _ _ _ l _=>l
def rP.cut:rP->Bool|.mk _ _ _ _ c=>c
inductive Ty where|val|int(k:IntKind)|bool|str|sl(t:Ty)|unit|prod(a b:Ty)|sum(a b:Ty)deriving DecidableEq,Inhabited
@[reducible]def Ty.den:Ty->Type|.val=>rP|.int _=>Int|.bool=>Bool|.str=>List UInt8|.sl t=>List t.den|.unit=>Unit|.prod a b=>a.den×b.den|.sum a b=>a.den⊕b.den
structure fW where
 t:Ty
 v:t.den
def wD(a b:Ty)(x:a.den):Option b.den:=match decEq a b with|.isTrue h=>some (h▸x)|.isFalse _=>none
def j6(a b:Ty)(x:List a.den):Option (List b.den):=match decEq a b with|.isTrue h=>some (h▸x)|.isFalse _=>none
def Ty.size:Ty->Nat|.val=>5|.int _|.bool|.str|.sl _=>1|.unit=>0|.prod a b=>a.size+b.size|.sum _ _=>0
inductive Ow where|d|full|app(v:Nat)|bD deriving Inhabited
inductive Cell where|int(k:IntKind)(a:Int)|bool(b:Bool)|er(b:Bool)|str(s:List UInt8)|raw(v:Value)|nil(full:Bool)|sl(t:Ty)(l:List t.den)(o:Ow)|ref(lv sl aq:Nat)(t:Ty)|ki(lv sl aq:Nat)(t:Ty)(off len:Nat)|ptr(lv sl aq i off:Nat)|e9(t:Ty)(x:t.den)(off:Nat)|dz(lv sl aq off n sz:Nat)|mp(lv sl aq:Nat)deriving Inhabited
inductive V2 where|c(x:Cell)|agg(cs:List Cell)|fK(f:Nat)(cap:List Cell)|fu(vs:List (Bool×List Cell))deriving Inhabited
inductive E2 where|row(aq:Nat)(t:Ty)(l:List t.den)|box(aq:Nat)(cs:List Cell)|set(aq:Nat)(l:List (List UInt8))deriving Inhabited
structure S2 where
 slots:Tr V2
 outer:List (Tr V2)mem:List (Tr E2)aI:Tr Unit
 nv:Nat deriving Inhabited
mutual def NZ:rP->List D|.mk k i s l c=>[.sc (.int .u8 k),.sc (.int .i64 i),.sc (.string ⟨s.toArray⟩),.sl (GI l),.sc (.bool c)]def GI:List rP->List (List D)|[]=>[]|v::r=>NZ v::GI r end
def fm:(t:Ty)->t.den->List D|.val,v=>NZ v|.int k,a=>[.sc (.int k a)]|.bool,b=>[.sc (.bool b)]|.str,s=>[.sc (.string ⟨s.toArray⟩)]|.sl t,l=>[.sl (List.map (fm t) l)]|.unit,_=>[]|.prod a b,x=>fm a x.1++fm b x.2|.sum _ _,_=>[]
def jE:(t:Ty)->t.den->List Cell|.val,v=>[.int .u8 v.kind,.int .i64 v.int,.str v.text,.sl .val v.list .d,.bool v.cut]|.int k,a=>[.int k a]|.bool,b=>[.bool b]|.str,s=>[.str s]|.sl t,l=>[.sl t l .d]|.unit,_=>[]|.prod a b,x=>jE a x.1++jE b x.2|.sum _ _,_=>[]
def KM(k:IntKind):List Cell->Option (Int×List Cell)
 |.int k' a::r=>match decEq k k' with|.isTrue _=>some (a,r)|.isFalse _=>none
 |_=>none
def IJ:List Cell->Option (Bool×List Cell)|.bool b::r=>some (b,r)|_=>none
def P5:List Cell->Option (List UInt8×List Cell)|.str s::r=>some (s,r)|_=>none
def aa3(t:Ty):List Cell->Option (List t.den×List Cell)
 |.nil _::r=>some ([],r)|.sl t' l _::r=>match j6 t' t l with|some l=>some (l,r)|none=>none
 |_=>none
def ady(cs:List Cell):Option (rP×List Cell):=match KM .u8 cs with
 |some (k,r)=>match KM .i64 r with
  |some (i,r)=>match P5 r with
   |some (s,r)=>match aa3 .val r with
    |some (l,r)=>match IJ r with|some (c,r)=>some (.mk k i s l c,r)|none=>none
    |none=>none
   |none=>none
  |none=>none
 |none=>none
def A7:(t:Ty)->List Cell->Option (t.den×List Cell)
 |.val,cs=>ady cs|.int k,cs=>KM k cs|.bool,cs=>IJ cs|.str,cs=>P5 cs|.sl t,cs=>aa3 t cs|.unit,r=>some ((),r)|.prod a b,r=>match A7 a r with
  |some (x,r')=>match A7 b r' with|some (y,r'')=>some ((x,y),r'')|none=>none
  |none=>none
 |.sum _ _,_=>none
def A8(t:Ty)(cs:List Cell):Option t.den:=match A7 t cs with|some (x,[])=>some x|_=>none
def afo:Value->Cell|.int k a=>.int k a|.bool b=>.bool b|.string b=>.str b.data.toList|v=>.raw v
def aa4:AV->Option Cell|.d (.sc v)=>some (afo v)|.own [] .full=>some (.nil true)|_=>none
def Di:List AV->Option (List Cell)|[]=>some []|x::r=>match aa4 x,Di r with|some y,some ys=>some (y::ys)|_,_=>none
def afp:AV->Option V2|.agg cs=>(Di cs).map .agg|.fu []=>some (.fu [])|.fK f []=>some (.fK f [])|x=>(aa4 x).map .c
def aa5:D->Option Cell|.sc v=>some (afo v)|.sl []=>some (.nil false)|_=>none
def uj:List D->Option (List Cell)|[]=>some []|x::r=>match aa5 x,uj r with|some y,some ys=>some (y::ys)|_,_=>none
def jZ(m:List (Tr E2))(lv sl:Nat):Option E2:=(m[lv]?).bind λt=>t.get? sl
def Dj(m:List (Tr E2))(lv sl:Nat)(e:Option E2):List (Tr E2):=m.modify lv λt=>t.set sl e
def gN(m:List (Tr E2)):List (Nat×Nat×Option E2)->List (Tr E2)|[]=>m|(lv,sl,e)::r=>gN (Dj m lv sl e) r
structure SL where
 t:Ty
 l:List t.den
def rowOf(m:List (Tr E2))(lv sl aq:Nat):Option SL:=match jZ m lv sl with
 |some (.row v t l)=>match Nat.beq v aq with|true=>some ⟨t,l⟩|false=>none
 |_=>none
def P6(m:List (Tr E2))(lv sl aq:Nat):Option (List (List UInt8)):=match jZ m lv sl with
 |some (.set v l)=>match Nat.beq v aq with|true=>some l|false=>none
 |_=>none
def N0(m:List (Tr E2)):Cell->Option (Cell×List (Nat×Nat))
 |.int k a=>some (.int k a,[])|.bool b=>some (.bool b,[])|.str s=>some (.str s,[])|.raw v=>some (.raw v,[])|.nil _=>some (.nil false,[])|.sl _ _ .bD=>none|.sl t l _=>some (.sl t l .d,[])|.ref lv sl aq _=>match rowOf m lv sl aq with|some r=>some (.sl r.t r.l .d,[(lv,sl)])|none=>none
 |.ki lv sl aq _ off len=>match rowOf m lv sl aq with|some r=>some (.sl r.t ((r.l.drop off).take len) .d,[(lv,sl)])|none=>none
 |_=>none
def nD(m:List (Tr E2)):List Cell->Option (List Cell×List (Nat×Nat))|[]=>some ([],[])|x::r=>match N0 m x,nD m r with|some (y,k),some (ys,ks)=>some (y::ys,k++ks)|_,_=>none
structure KN where
 val:V2
 dx:List (Nat×Nat×Option E2)cU:List (Nat×Bool)rd:List (Nat×Nat×Nat)deriving Inhabited
inductive iL where|bZ(e:KN)|all(val:V2)(s:S2)deriving Inhabited
def KN.wr(e:KN):List (Nat×Nat×Nat):=e.dx.map (λu=>bX u.1 u.2.1)++e.cU.map λu=>kq u.1
def lU(v:V2):iL:=.bZ {val:=v,dx:=[],cU:=[],rd:=[]}
def eS(c:Cell):iL:=lU (.c c)
def uk:Cell->List (Nat×Nat×Nat)|.ref lv sl _ _=>[bX lv sl]|.ki lv sl _ _ _ _=>[bX lv sl]|.ptr lv sl _ _ _=>[bX lv sl]|.dz lv sl _ _ _ _=>[bX lv sl]|.mp lv sl _=>[bX lv sl]|_=>[]
def IK:V2->List (Nat×Nat×Nat)|.c x=>uk x|.agg cs=>cs.flatMap uk|_=>[]
def lV(ks:List (Nat×Nat)):List (Nat×Nat×Option E2):=ks.map λk=>(k.1,k.2,none)
def aa6(s:Tr V2)(dst:Option Nat)(v:V2):Tr V2:=match dst with|some n=>s.set n (some v)|none=>s
def S2.app(s:S2)(dst:Option Nat):iL->S2|.bZ e=>{slots:=aa6 s.slots dst e.val,outer:=s.outer,mem:=gN s.mem e.dx,aI:=eX s.aI e.cU,nv:=s.nv}|.all v s'=>{s' with slots:=aa6 s'.slots dst v}
def Cell.still:Cell->Bool|.ref ..|.ki ..|.ptr ..|.dz ..|.mp ..=>false|.sl _ _ (.app _)=>false|_=>true
def V2.still:V2->Bool|.c x=>x.still|.agg cs=>cs.all Cell.still|.fK _ cs=>cs.all Cell.still|.fu vs=>vs.all λv=>v.2.all Cell.still
def loose:Tr V2->Tr V2|.lf=>.lf|.nd v l r=>.nd (match v with|none=>none|some x=>match x.still with|true=>none|false=>some x) (loose l) (loose r)
def merge:Tr V2->Tr V2->Tr V2|.lf,_=>.lf|.nd v l r,b=>.nd (match v with|none=>none|some x=>match x.still with|true=>some x|false=>b.top) (merge l b.left) (merge r b.right)
def jR(s:S2):cx->Option V2|.t n=>s.slots.get? n|.c v=>afp v
def IL(s:S2):List cx->Option (List V2)|[]=>some []|x::r=>match jR s x,IL s r with|some y,some ys=>some (y::ys)|_,_=>none
def V2.cells?:V2->Option (List Cell)|.c x=>some [x]|.agg cs=>some cs|_=>none
def Dk(agg:Bool)(cs:List Cell):Option V2:=match agg with|true=>some (.agg cs)|false=>match cs with|[x]=>some (.c x)|_=>none
section
variable{α:Type}
def aK(b:Bool)(k:Option α):Option α:=cond b k none
def idx{β:Type}(l:List β)(i:Int):Option β:=cond (decide (0<=i)) (l[i.toNat]?) none
def RH:Nat->Nat->(Nat->Option α)->Option α|0,_,_=>none|n+1,k,F=>cond (Nat.beq k n) (F n) (RH n k F)
def gB(i:Int)(n:Nat):Bool:=decide (0<=i)&&decide (i.toNat<n)
def room(n b:Nat):Bool:=decide (n<=eW)&&decide (n*b<=jA)
def Dl{β:Type}(news l:List β):List β:=news.take (min news.length l.length)++l.drop (news.take (min news.length l.length)).length
def bP(s:List UInt8):List Int:=s.map λc=>(c.toNat:Int)
def jF(v:Option V2)(k:Cell->Option α):Option α:=match v with|some (.c x)=>k x|_=>none
def RJ(v:Option V2)(k:Int->Option α):Option α:=match v with|some (.c (.int _ n))=>k n|_=>none
def IM(v:Option V2)(k:Nat->Option α):Option α:=RJ v λn=>aK (decide (0<=n)) (k n.toNat)
def yq(v:Option V2)(k:Bool->Option α):Option α:=match v with|some (.c (.bool b))=>k b|_=>none
def cI{β:Type}(o:Option β)(k:β->Option α):Option α:=match o with|some x=>k x|none=>none
def aAT:Value->Option Cell|.int k a=>some (.int k a)|.bool b=>some (.bool b)|_=>none
def afq(op:BinOp)(k:IntKind)(a:Int)(k':IntKind)(b:Int)(K:Cell->Option α):Option α:=match op with|.shl=>aK (!decide (b<0)) (K (.int k (k.wrap (a*2^min b.toNat k.bits))))|.shr=>aK (!decide (b<0)) (K (.int k (a.fdiv (2^min b.toNat k.bits))))|op=>match decEq k k' with|.isFalse _=>none|.isTrue _=>match op with|.add=>K (.int k (k.wrap (a+b)))|.sub=>K (.int k (k.wrap (a-b)))|.mul=>K (.int k (k.wrap (a*b)))|.quo=>aK (!decide (b=0)) (K (.int k (k.wrap (a.tdiv b))))|.rem=>aK (!decide (b=0)) (K (.int k (a.tmod b)))|.and=>K (.int k (k.wrap (BitVec.ofInt k.bits a&&&BitVec.ofInt k.bits b).toNat))|.or=>K (.int k (k.wrap (BitVec.ofInt k.bits a|||BitVec.ofInt k.bits b).toNat))|.xor=>K (.int k (k.wrap (BitVec.ofInt k.bits a^^^BitVec.ofInt k.bits b).toNat))|.andNot=>K (.int k (k.wrap (BitVec.ofInt k.bits a&&&~~~(BitVec.ofInt k.bits b)).toNat))|.eql=>K (.bool (a==b))|.neq=>K (.bool (a !=b))|.lss=>K (.bool (decide (a<b)))|.leq=>K (.bool (decide (a<=b)))|.gtr=>K (.bool (decide (a>b)))|.geq=>K (.bool (decide (a>=b)))|_=>none
def afr(op:BinOp)(x y:List UInt8)(K:Cell->Option α):Option α:=match op with|.add=>aK (!decide (((x.length+y.length:Nat):Int)>IntKind.i64.max)) (K (.str (x++y)))|.eql=>K (.bool (x==y))|.neq=>K (.bool !(x==y))|.lss=>K (.bool (Op.bytesLess x y))|.leq=>K (.bool (Op.bytesLess x y||x==y))|.gtr=>K (.bool !(Op.bytesLess x y||x==y))|.geq=>K (.bool !(Op.bytesLess x y))|_=>none
def afs(op:BinOp)(x y:Cell)(K:Cell->Option α):Option α:=match x,y with|.int k a,.int k' b=>afq op k a k' b K|.str a,.str b=>afr op a b K|_,_=>none
def UI(kd:Nat):Cell->Cell->Option Bool
 |.bool a,.bool b=>match kd with|0=>some (a==b)|_=>none
 |.int k a,.int k' b=>match kd with
  |1=>match decEq k k' with|.isTrue _=>some (a==b)|.isFalse _=>none
  |_=>none
 |.str a,.str b=>match kd with|0=>none|1=>none|_=>some (a==b)
 |_,_=>none
def IN(xs ys:List Cell):List (Nat×Nat)->Option Bool|[]=>some true|o::r=>match xs[o.1]?,ys[o.1]?,IN xs ys r with|some x,some y,some b'=>(UI o.2 x y).map λb=>b&&b'|_,_,_=>none
def unK(op:UnOp)(x:Cell)(K:Cell->Option α):Option α:=match x with
 |.bool b=>match op with|.not=>K (.bool !b)|_=>none
 |.int k n=>match op with|.neg=>K (.int k (k.wrap (0-n)))|.xor=>K (.int k (k.wrap (BitVec.ofInt k.bits (if k.signed then-1 else k.max)^^^BitVec.ofInt k.bits n).toNat))|_=>none
 |_=>none
def qe(m:List (Tr E2))(x:Cell)(e:Option Ty)(K:SL->Option α):Option α:=match x with|.sl t l _=>K ⟨t,l⟩|.nil _=>cI e λt=>K ⟨t,[]⟩|.ref lv sl aq _=>cI (rowOf m lv sl aq) K|.ki lv sl aq _ off len=>cI (rowOf m lv sl aq) λr=>aK (decide (off+len<=r.l.length)) (K ⟨r.t,(r.l.drop off).take len⟩)|.str s=>K ⟨.int .u8,bP s⟩|_=>none
def GJ(s:S2):List Cell->List (Nat×Nat×cx)->Option (List Cell)|cs,[]=>some cs|cs,(off,sz,x)::r=>match(jR s x).bind V2.cells? with
 |some new=>match Nat.beq new.length sz&&Nat.ble (off+sz) cs.length with|true=>GJ s (bL.splice cs off new) r|false=>none
 |none=>none
def Dm(s:S2)(sz:Nat):List (List Cell)->List (Nat×cx)->Option (List (List Cell)×List (Nat×Nat))|els,[]=>some (els,[])|els,(i,x)::r=>match((jR s x).bind V2.cells?).bind (nD s.mem)with
 |some (e,ks)=>match Nat.beq e.length sz&&Nat.blt i els.length with
  |true=>match Dm s sz (els.set i e) r with|some (els',ks')=>some (els',ks++ks')|none=>none
  |false=>none
 |none=>none
def Dn(t:Ty):List (List Cell)->Option (List t.den)|[]=>some []|e::r=>match A8 t e,Dn t r with|some x,some xs=>some (x::xs)|_,_=>none
def Dp:List V2->Option (List Cell)|[]=>some []|.c x::r=>(Dp r).map (x::·)|_=>none
def P7(m:List (Tr E2))(sz:Nat)(p:Cell)(K:List Cell->Option α):Option α:=match p with
 |.ptr lv sl aq i off=>match jZ m lv sl with
  |some (.box v cs)=>match Nat.beq v aq&&Nat.beq i 0&&Nat.ble (off+sz) cs.length with|true=>K ((cs.drop off).take sz)|false=>none
  |some (.row v t l)=>match Nat.beq v aq&&Nat.ble (off+sz) t.size with|true=>Option.bind l[i]? λx=>K (((jE t x).drop off).take sz)|false=>none
  |some (.set _ _)=>none|none=>none
 |.e9 t x off=>match Nat.ble (off+sz) t.size with|true=>K (((jE t x).drop off).take sz)|false=>none
 |_=>none
def Dq(ks:List (Nat×Nat))(lv sl:Nat):Bool:=ks.any λk=>Nat.beq k.1 lv&&Nat.beq k.2 sl
def N1(m:List (Tr E2))(sz:Nat)(p:Cell)(new:List Cell)(K:iL->Option α):Option α:=match p,Nat.beq new.length sz with
 |.ptr lv sl aq i off,true=>match jZ m lv sl with
  |some (.box v cs)=>match Nat.beq v aq&&Nat.beq i 0&&Nat.ble (off+sz) cs.length with|true=>K (.bZ {val:=.fu [],dx:=[(lv,sl,some (.box v (bL.splice cs off new)))],cU:=[],rd:=[bX lv sl]})|false=>none
  |some (.row v t l)=>match Nat.beq v aq&&Nat.ble (off+sz) t.size,nD m new with
   |true,some (new,ks)=>match Dq ks lv sl with|true=>none|false=>Option.bind l[i]? λx=>cI (A8 t (bL.splice (jE t x) off new)) λy=>K (.bZ {val:=.fu [],dx:=lV ks++[(lv,sl,some (.row v t (l.set i y)))],cU:=[],rd:=bX lv sl::jz ks})
   |_,_=>none
  |some (.set _ _)=>none|none=>none
 |_,_=>none
def RK(s:S2)(row:Bool)(lv sl aR sz bytes:Nat)(x y:Cell)(e:Option Ty)(K:iL->Option α):Option α:=match x with
 |.nil true=>qe s.mem y e λn=>match Nat.beq n.t.size sz with|true=>aK (room n.l.length bytes) (match row with|false=>K (.bZ {val:=.c (.sl n.t n.l (.app aR)),dx:=[],cU:=[(aR,true)],rd:=uk y})|true=>K (.bZ {val:=.c (.ref lv sl aR n.t),dx:=[(lv,sl,some (.row aR n.t n.l))],cU:=[],rd:=uk y}))|false=>none
 |.sl t l .full=>qe s.mem y (some t) λn=>match Nat.beq t.size sz,j6 n.t t n.l with|true,some news=>aK (room (l.length+news.length) bytes) (match row with|false=>K (.bZ {val:=.c (.sl t (l++news) (.app aR)),dx:=[],cU:=[(aR,true)],rd:=uk y})|true=>aK (l.isEmpty||!news.isEmpty) (K (.bZ {val:=.c (.ref lv sl aR t),dx:=[(lv,sl,some (.row aR t (l++news)))],cU:=[],rd:=uk y})))|_,_=>none
 |.sl t l (.app v)=>qe s.mem y (some t) λn=>match Nat.beq t.size sz,j6 n.t t n.l,row,s.aI.get? v with|true,some news,false,some ()=>aK (room (l.length+news.length) bytes) (K (.bZ {val:=.c (.sl t (l++news) (.app aR)),dx:=[],cU:=[(v,false),(aR,true)],rd:=kq v::uk y}))|_,_,_,_=>none
 |.ref cC cW aq t=>cI (rowOf s.mem cC cW aq) λr=>qe s.mem y (some t) λn=>match Nat.beq t.size sz,j6 r.t t r.l,j6 n.t t n.l with|true,some l,some news=>aK (room (l.length+news.length) bytes) (K (.bZ {val:=.c (.ref cC cW aR t),dx:=[(cC,cW,some (.row aR t (l++news)))],cU:=[],rd:=bX cC cW::uk y}))|_,_,_=>none
 |.ki cC cW aq t off len=>cI (rowOf s.mem cC cW aq) λr=>qe s.mem y (some t) λn=>match Nat.beq t.size sz,j6 r.t t r.l,j6 n.t t n.l with|true,some l,some news=>aK (decide (off+len<=l.length)&&room (len+news.length) bytes) (K (.bZ {val:=.c (.ref cC cW aR t),dx:=[(cC,cW,some (.row aR t ((l.drop off).take len++news)))],cU:=[],rd:=bX cC cW::uk y}))|_,_,_=>none
 |_=>none
def wE(x:Option cx)(s:S2)(K:Option Nat->Option α):Option α:=match x with|none=>K none|some o=>IM (jR s o) λn=>K (some n)
def qf{β:Type}(l:List β)(lo hi:Option Nat):List β:=match lo,hi with|none,none=>l|some a,none=>l.drop a|none,some b=>l.take b|some a,some b=>(l.drop a).take (b-a)
def oh(n:Nat)(lo hi:Option Nat):Bool:=match lo,hi with|none,none=>true|some a,none=>decide (a<=n)|none,some b=>decide (b<=n)|some a,some b=>decide (a<=b)&&decide (b<=n)
def BZ(lo:Option Nat):Nat:=lo.getD 0
def Cell.ot:Cell->Bool|.ref ..=>true|.ki ..=>true|_=>false
def V2.ot:V2->Bool|.c x=>x.ot|_=>false
def afu(m:List (Tr E2))(sz aR:Nat)(x:Cell)(lo hi:Option Nat)(K:iL->Option α):Option α:=match x with
 |.ref lv sl aq t=>cI (rowOf m lv sl aq) λr=>match Nat.beq t.size sz,j6 r.t t r.l with|true,some l=>aK (oh l.length lo hi) (K (.bZ {val:=.c (.ref lv sl aR t),dx:=[(lv,sl,some (.row aR t (qf l lo hi)))],cU:=[],rd:=[bX lv sl]}))|_,_=>none
 |_=>none
def N2(m:List (Tr E2))(sz:Nat)(x:Cell)(lo hi mx:Option Nat)(K:Cell->Option α):Option α:=match x with
 |.sl t l o=>match Nat.beq t.size sz with
  |true=>match mx with|none=>aK (oh l.length lo hi) (match o with
   |.bD=>K (.sl t (qf l lo hi) .bD)|.full=>match hi with|none=>K (.sl t (qf l lo hi) .full)|some _=>K (.sl t (qf l lo hi) .d)
   |_=>K (.sl t (qf l lo hi) .d))|some m=>match o,hi with|.bD,_=>none|_,none=>none|_,some h=>aK (oh l.length lo hi&&Nat.beq h m) (K (.sl t (qf l lo hi) .full))
  |false=>none
 |.nil f=>match mx with|none=>aK (oh 0 lo hi) (K (.nil f))|some _=>none
 |.ref lv sl aq t=>match Nat.beq t.size sz,mx with|true,none=>cI (rowOf m lv sl aq) λr=>aK (oh r.l.length lo hi) (K (.ki lv sl aq t (BZ lo) (hi.getD r.l.length-BZ lo)))|_,_=>none
 |.ki lv sl aq t off len=>match Nat.beq t.size sz,mx with|true,none=>aK (oh len lo hi) (K (.ki lv sl aq t (off+BZ lo) (hi.getD len-BZ lo)))|_,_=>none
 |_=>none
end
inductive ia where|int(k:IntKind)|bool|er|str|sl(t:Ty)(o:Ow)|nil(full:Bool)|ref(lv sl aq:Nat)(t:Ty)|ptr(lv sl aq i off:Nat)|e9(t:Ty)(off:Nat)|mp(lv sl aq:Nat)deriving Inhabited
inductive tF where|c(x:ia)|agg(l:List ia)|fK(f:Nat)(l:List ia)deriving Inhabited
inductive P8 where|row(aq:Nat)(t:Ty)|box(aq:Nat)(l:List ia)|set(aq:Nat)deriving Inhabited
@[reducible]def td:List Ty->Ty|[]=>.unit|[a]=>a|a::b::r=>.prod a (td (b::r))
def unpack:(ts:List Ty)->(td ts).den->List fW|[],_=>[]|[a],x=>[⟨a,x⟩]|a::b::r,x=>⟨a,x.1⟩::unpack (b::r) x.2
def pack:(ts:List Ty)->List fW->Option (td ts).den
 |[],[]=>some ()|[a],[d]=>wD d.t a d.v|a::b::r,d::ds=>match wD d.t a d.v,pack (b::r) ds with|some x,some y=>some (x,y)|_,_=>none
 |_,_=>none
def ia.fill:ia->List fW->Option (Cell×List fW)|.int _,⟨.int k,a⟩::r=>some (.int k a,r)|.bool,⟨.bool,b⟩::r=>some (.bool b,r)|.er,⟨.bool,b⟩::r=>some (.er b,r)|.str,⟨.str,s⟩::r=>some (.str s,r)|.sl _ o,⟨.sl t,l⟩::r=>some (.sl t l o,r)|.nil f,r=>some (.nil f,r)|.ref lv sq aq t,r=>some (.ref lv sq aq t,r)|.ptr lv sq aq i off,r=>some (.ptr lv sq aq i off,r)|.e9 _ off,⟨t,x⟩::r=>some (.e9 t x off,r)|.mp lv sq aq,r=>some (.mp lv sq aq,r)|_,_=>none
def dF:List ia->List fW->Option (List Cell×List fW)|[],r=>some ([],r)|c::cs,r=>match c.fill r with
 |some (x,r')=>match dF cs r' with|some (xs,r'')=>some (x::xs,r'')|none=>none
 |none=>none
def tF.fill:tF->List fW->Option (V2×List fW)
 |.c x,r=>match x.fill r with|some (y,r')=>some (.c y,r')|none=>none
 |.agg l,r=>match dF l r with|some (y,r')=>some (.agg y,r')|none=>none
 |.fK f l,r=>match dF l r with|some (y,r')=>some (.fK f y,r')|none=>none
def P8.fill:P8->List fW->Option (E2×List fW)
 |.row aq _,⟨.sl t,l⟩::r=>some (.row aq t l,r)|.box aq l,r=>match dF l r with|some (y,r')=>some (.box aq y,r')|none=>none
 |.set aq,⟨.sl .str,l⟩::r=>some (.set aq l,r)|_,_=>none
abbrev Ren:=List (Nat×Option Nat)
def ia.get:ia->Cell->Option (List fW×Ren)
 |.int k,.int k' a=>match decEq k k' with|.isTrue _=>some ([⟨.int k',a⟩],[])|.isFalse _=>none
 |.bool,.bool b=>some ([⟨.bool,b⟩],[])|.er,.er b=>some ([⟨.bool,b⟩],[])|.str,.str s=>some ([⟨.str,s⟩],[])|.sl t o,.nil f=>match o,f with|.d,_=>some ([⟨.sl t,[]⟩],[])|.bD,_=>some ([⟨.sl t,[]⟩],[])|.full,true=>some ([⟨.sl t,[]⟩],[])|.app v,true=>some ([⟨.sl t,[]⟩],[(v,none)])|_,_=>none
 |.sl _ o,.sl t' l o'=>match o,o' with|.bD,_=>some ([⟨.sl t',l⟩],[])|.d,.bD=>none|.d,_=>some ([⟨.sl t',l⟩],[])|.full,.full=>some ([⟨.sl t',l⟩],[])|.app v,.full=>some ([⟨.sl t',l⟩],[(v,none)])|.app v,.app v'=>some ([⟨.sl t',l⟩],[(v,some v')])|_,_=>none
 |.nil true,.nil true=>some ([],[])|.nil false,.nil _=>some ([],[])|.ref lv sq aq t,.ref cC sq' gD t'=>match Nat.beq lv cC&&Nat.beq sq sq',decEq t t' with|true,.isTrue _=>some ([],[(aq,some gD)])|_,_=>none
 |.ptr lv sq aq i off,.ptr cC sq' gD i' off'=>match Nat.beq lv cC&&Nat.beq sq sq'&&Nat.beq i i'&&Nat.beq off off' with|true=>some ([],[(aq,some gD)])|false=>none
 |.e9 _ off,.e9 t' x off'=>match Nat.beq off off' with|true=>some ([⟨t',x⟩],[])|false=>none
 |.mp lv sq aq,.mp cC sq' gD=>match Nat.beq lv cC&&Nat.beq sq sq' with|true=>some ([],[(aq,some gD)])|false=>none
 |_,_=>none
def A9:List ia->List Cell->Option (List fW×Ren)
 |[],[]=>some ([],[])|c::cs,x::xs=>match c.get x,A9 cs xs with|some (d,r),some (ds,rs)=>some (d++ds,r++rs)|_,_=>none
 |_,_=>none
def tF.get:tF->V2->Option (List fW×Ren)
 |.c x,.c y=>x.get y|.agg l,.agg cs=>A9 l cs|.fK f l,.fK f' cs=>match Nat.beq f f' with|true=>A9 l cs|false=>none
 |_,_=>none
def P8.get:P8->E2->Option (List fW×Ren)
 |.row aq _,.row gD t' l=>some ([⟨.sl t',l⟩],[(aq,some gD)])|.box aq l,.box gD cs=>match A9 l cs with|some (d,r)=>some (d,(aq,some gD)::r)|none=>none
 |.set aq,.set gD l=>some ([⟨.sl .str,l⟩],[(aq,some gD)])|_,_=>none
structure bt where
 slots:List (Nat×tF)outer:List (List (Nat×tF))mem:List (Nat×Nat×P8)lvs:Nat
 aI:List Nat
 nv:Nat
 tys:List Ty deriving Inhabited
def oR:List (Nat×tF)->List fW->Tr V2->Option (Tr V2×List fW)|[],r,t=>some (t,r)|(k,v)::l,r,t=>match v.fill r with|some (x,r')=>oR l r' (t.set k (some x))|none=>none
def vn:List (List (Nat×tF))->List fW->Option (List (Tr V2)×List fW)|[],r=>some ([],r)|x::l,r=>match oR x r .lf with
 |some (t,r')=>match vn l r' with|some (ts,r'')=>some (t::ts,r'')|none=>none
 |none=>none
def yt:List (Nat×Nat×P8)->List fW->List (Tr E2)->Option (List (Tr E2)×List fW)|[],r,m=>some (m,r)|(lv,sl,e)::l,r,m=>match e.fill r with|some (x,r')=>yt l r' (Dj m lv sl (some x))|none=>none
def IP:List Nat->Tr Unit->Tr Unit|[],t=>t|v::r,t=>IP r (t.set v (some ()))
def bt.st(T:bt)(ds:List fW):Option S2:=match oR T.slots ds .lf with
 |some (sl,r)=>match vn T.outer r with
  |some (os,r)=>match yt T.mem r (List.replicate T.lvs .lf)with|some (m,[])=>some {slots:=sl,outer:=os,mem:=m,aI:=IP T.aI .lf,nv:=T.nv}|_=>none
  |none=>none
 |none=>none
def q8(s:Tr V2):List (Nat×tF)->Option (List fW×Ren)|[]=>some ([],[])|(k,v)::l=>match(s.get? k).bind v.get,q8 s l with|some (d,r),some (ds,rs)=>some (d++ds,r++rs)|_,_=>none
def q9:List (Tr V2)->List (List (Nat×tF))->Option (List fW×Ren)
 |[],[]=>some ([],[])|t::ts,x::xs=>match q8 t x,q9 ts xs with|some (d,r),some (ds,rs)=>some (d++ds,r++rs)|_,_=>none
 |_,_=>none
def Dr(m:List (Tr E2)):List (Nat×Nat×P8)->Option (List fW×Ren)|[]=>some ([],[])|(lv,sl,e)::l=>match(jZ m lv sl).bind e.get,Dr m l with|some (d,r),some (ds,rs)=>some (d++ds,r++rs)|_,_=>none
def vT:Ren->Nat->Option Nat|[],_=>none|(a,w)::r,v=>match Nat.beq a v with|true=>w|false=>vT r v
def oeq:Option Nat->Option Nat->Bool|none,none=>true|some a,some b=>Nat.beq a b|_,_=>false
def UJ(nv snv:Nat)(σ:Ren):Bool:=σ.all λp=>Nat.blt p.1 nv&&oeq (vT σ p.1) p.2&&(match p.2with|none=>true|some w=>Nat.blt w snv&&σ.all λq=>Nat.beq q.1 p.1||!oeq q.2 p.2)
def IQ(nv:Nat)(σ:Ren)(t:Tr Unit):List Nat->Bool|[]=>true|v::r=>Nat.blt v nv&&(match vT σ v with|none=>true|some w=>(t.get? w).isSome)&&IQ nv σ t r
def bt.get(T:bt)(s:S2):Option (List fW):=match q8 s.slots T.slots,q9 s.outer T.outer,Dr s.mem T.mem with
 |some (d,r),some (ds',rs'),some (ds,rs)=>match Nat.beq T.lvs s.mem.length&&UJ T.nv s.nv (r++(rs'++rs))&&IQ T.nv (r++(rs'++rs)) s.aI T.aI with|true=>some (d++(ds'++ds))|false=>none
 |_,_,_=>none
inductive vo where|c(x:ia)|agg(l:List ia)|fK(f:Nat)|box(l:List ia)deriving Inhabited
abbrev Ty.I:Ty:=.int .i64
abbrev ia.I:ia:=.int .i64
abbrev Ty.U:Ty:=.int .u64
abbrev ia.U:ia:=.int .u64
abbrev Ty.B:Ty:=.int .u8
abbrev ia.B:ia:=.int .u8
abbrev ia.D(t:Ty):ia:=.sl t .d
abbrev ia.A(t:Ty)(n:Nat):ia:=.sl t (.app n)
abbrev ia.P(a b c:Nat):ia:=.ptr a b c 0 0
abbrev tF.I:tF:=.c .I
abbrev tF.U:tF:=.c .U
abbrev tF.B:tF:=.c .B
abbrev tF.Q:tF:=.c .bool
abbrev tF.N:tF:=.c (.nil true)
abbrev tF.T:tF:=.c .str
abbrev tF.S(t:Ty):tF:=.c (.sl t .bD)
abbrev tF.D(t:Ty):tF:=.c (.D t)
abbrev tF.A(t:Ty)(n:Nat):tF:=.c (.A t n)
abbrev tF.P(a b c:Nat):tF:=.c (.P a b c)
abbrev tF.R(a b c:Nat)(t:Ty):tF:=.c (.ref a b c t)
abbrev vo.I:vo:=.c .I
abbrev vo.U:vo:=.c .U
abbrev vo.B:vo:=.c .B
abbrev vo.Q:vo:=.c .bool
abbrev vo.N:vo:=.c (.nil true)
abbrev vo.T:vo:=.c .str
abbrev vo.S(t:Ty):vo:=.c (.sl t .bD)
abbrev vo.D(t:Ty):vo:=.c (.D t)
abbrev vo.A(t:Ty)(n:Nat):vo:=.c (.A t n)
abbrev vo.P(a b c:Nat):vo:=.c (.P a b c)
abbrev vo.R(a b c:Nat)(t:Ty):vo:=.c (.ref a b c t)
structure Callee where
 args:List vo
 ta:List Ty
 res:List (Bool×List ia)tr:List Ty
 rk:Nat
 F:(td ta).den->Option (td tr).den
abbrev bn:=List (AX×bt)
@[reducible]def qg:bn->Ty|[]=>.unit|[x]=>td x.2.tys|x::y::r=>.sum (td x.2.tys) (qg (y::r))
structure KO where
 T:bt
 outs:bn
 F:(td T.tys).den->Option (qg outs).den
structure ah where
 fns:Nat->Option qA
 ym:Nat->Option Callee
 loops:Nat->Nat->AC->Option KO
 KP:Nat->Nat->Option bn
 UK:Nat->Nat->Option bn
 N3:Nat->Nat->Option (Nat×Ty)unr:Nat->Nat->Bool
 P9:Nat->Nat->Option Ty
def ah.sh(E:ah)(g:Nat):Bool:=((E.fns g).map (·.sh)).getD false
def ia.arg(m:List (Tr E2))(agg:Bool):ia->Cell->Option (List fW×List (Nat×Nat)×List Bool)
 |.int k,.int k' a=>match decEq k k' with|.isTrue _=>some ([⟨.int k',a⟩],[],[])|.isFalse _=>none
 |.bool,.bool b=>some ([⟨.bool,b⟩],[],[])|.str,.str s=>some ([⟨.str,s⟩],[],[])|.sl t o,.nil _=>match o with|.d=>some ([⟨.sl t,[]⟩],[],[])|.bD=>some ([⟨.sl t,[]⟩],[],[])|_=>none
 |.sl _ o,.sl t' l o'=>match o,o' with|.bD,_=>some ([⟨.sl t',l⟩],[],[])|.d,.bD=>none|.d,_=>some ([⟨.sl t',l⟩],[],[])|_,_=>none
 |.sl _ o,.ref lv sq aq _=>match rowOf m lv sq aq,o,agg with|some r,.bD,false=>some ([⟨.sl r.t,r.l⟩],[],[])|some r,.bD,true=>some ([⟨.sl r.t,r.l⟩],[(lv,sq)],[])|some r,.d,true=>some ([⟨.sl r.t,r.l⟩],[(lv,sq)],[])|_,_,_=>none
 |.sl _ o,.ki lv sq aq _ off len=>match rowOf m lv sq aq,o,agg with|some r,.bD,false=>some ([⟨.sl r.t,(r.l.drop off).take len⟩],[],[decide (off+len<=r.l.length)])|_,_,_=>none
 |_,_=>none
def Ds(m:List (Tr E2)):List ia->List Cell->Option (List fW×List (Nat×Nat)×List Bool)
 |[],[]=>some ([],[],[])|c::cs,x::xs=>match c.arg m true x,Ds m cs xs with|some (d,k,b),some (ds,ks,bs)=>some (d++ds,k++ks,b++bs)|_,_=>none
 |_,_=>none
def vo.arg(m:List (Tr E2)):vo->V2->Option (List fW×List (Nat×Nat)×List Bool)
 |.c x,.c y=>x.arg m false y|.agg l,.agg cs=>Ds m l cs|.fK f,.fK f' []=>match Nat.beq f f' with|true=>some ([],[],[])|false=>none
 |_,_=>none
def GK(m:List (Tr E2)):List vo->List V2->Option (List fW×List (Nat×Nat)×List Bool)
 |[],[]=>some ([],[],[])|p::ps,x::xs=>match p.arg m x,GK m ps xs with|some (d,k,b),some (ds,ks,bs)=>some (d++ds,k++ks,b++bs)|_,_=>none
 |_,_=>none
def wG{α:Type}(l:List Bool)(k:Option α):Option α:=match l with|[]=>k|b::r=>aK b (wG r k)
def afv(m:List (Tr E2)):Cell->Option Cell
 |.int k a=>some (.int k a)|.bool b=>some (.bool b)|.str s=>some (.str s)|.raw v=>some (.raw v)|.nil _=>some (.nil false)|.sl t l _=>some (.sl t l .d)|.ref lv sl aq _=>match rowOf m lv sl aq with|some r=>some (.sl r.t r.l .d)|none=>none
 |.ki lv sl aq _ off len=>match rowOf m lv sl aq with|some r=>some (.sl r.t ((r.l.drop off).take len) .d)|none=>none
 |_=>none
def aa7(m:List (Tr E2)):List Cell->Option (List Cell)|[]=>some []|x::r=>match afv m x,aa7 m r with|some y,some ys=>some (y::ys)|_,_=>none
def Cell.nb:Cell->Bool|.dz ..=>false|_=>true
def ia.ku(m:List (Tr E2))(agg:Bool):ia->Cell->Option (List fW×List Bool)
 |.int k,.int k' a=>match decEq k k' with|.isTrue _=>some ([⟨.int k',a⟩],[])|.isFalse _=>none
 |.bool,.bool b=>some ([⟨.bool,b⟩],[])|.str,.str s=>some ([⟨.str,s⟩],[])|.sl t o,.nil _=>match o with|.d=>some ([⟨.sl t,[]⟩],[])|.bD=>some ([⟨.sl t,[]⟩],[])|_=>none
 |.sl _ o,.sl t' l _=>match o with|.d=>some ([⟨.sl t',l⟩],[])|.bD=>some ([⟨.sl t',l⟩],[])|_=>none
 |.sl _ o,.ref lv sq aq _=>match rowOf m lv sq aq,o with|some r,.d=>some ([⟨.sl r.t,r.l⟩],[])|some r,.bD=>some ([⟨.sl r.t,r.l⟩],[])|_,_=>none
 |.sl _ o,.ki lv sq aq _ off len=>match rowOf m lv sq aq,o with|some r,.d=>some ([⟨.sl r.t,(r.l.drop off).take len⟩],[decide (off+len<=r.l.length)])|some r,.bD=>some ([⟨.sl r.t,(r.l.drop off).take len⟩],[decide (off+len<=r.l.length)])|_,_=>none
 |.sl t o,.dz lv sq aq off n sz=>match agg,jZ m lv sq with
  |false,some (.box v cs)=>match Nat.beq v aq&&(Nat.ble (off+n*sz) cs.length&&cs.all Cell.nb),(aa7 m ((cs.drop off).take (n*sz))).bind λds=>Dn t (bL.chunk sz n ds)with
   |true,some l=>match o with|.d=>some ([⟨.sl t,l⟩],[])|.bD=>some ([⟨.sl t,l⟩],[])|_=>none
   |_,_=>none
  |_,_=>none
 |_,_=>none
def zy(m:List (Tr E2)):List ia->List Cell->Option (List fW×List Bool)
 |[],[]=>some ([],[])|c::cs,x::xs=>match c.ku m true x,zy m cs xs with|some (d,b),some (ds,bs)=>some (d++ds,b++bs)|_,_=>none
 |_,_=>none
def vo.ku(m:List (Tr E2)):vo->V2->Option (List fW×List Bool)
 |.c x,.c y=>x.ku m false y|.agg l,.agg cs=>zy m l cs|.fK f,.fK f' []=>match Nat.beq f f' with|true=>some ([],[])|false=>none
 |_,_=>none
def zz(m:List (Tr E2)):List vo->List V2->Option (List fW×List Bool)
 |[],[]=>some ([],[])|p::ps,x::xs=>match p.ku m x,zz m ps xs with|some (d,b),some (ds,bs)=>some (d++ds,b++bs)|_,_=>none
 |_,_=>none
def Ba(m:List (Tr E2)):V2->List (Nat×Nat×Nat)|.c (.dz lv sl _ _ _ _)=>bX lv sl::(match jZ m lv sl with|some (.box _ cs)=>cs.flatMap uk|_=>[])|v=>IK v
def ia.flat:ia->Bool|.int _|.bool|.str=>true|_=>false
def Cc(res:List (Bool×List ia)):Bool:=res.all λr=>r.2.all ia.flat
def dO:List vo->List fW->Option (List V2×List fW)|[],r=>some ([],r)|p::ps,r=>match(match p with|.c x=>tF.fill (.c x) r|.agg l=>tF.fill (.agg l) r|.fK f=>some (.fK f [],r)|.box _=>none)with
 |some (x,r')=>match dO ps r' with|some (xs,r'')=>some (x::xs,r'')|none=>none
 |none=>none
def nS:List (Bool×List ia)->List fW->Option (List (Bool×List Cell)×List fW)|[],r=>some ([],r)|(a,l)::ps,r=>match dF l r with
 |some (x,r')=>match nS ps r' with|some (xs,r'')=>some ((a,x)::xs,r'')|none=>none
 |none=>none
def qI:List (Bool×List Cell)->Option V2|[(a,cs)]=>Dk a cs|vs=>some (.fu vs)
def lB:Nat->List V2->Tr V2->Tr V2|_,[],t=>t|i,x::r,t=>lB (i+1) r (t.set i (some x))
def vp:ia->Cell->Option (List fW)
 |.int k,.int k' a=>match decEq k k' with|.isTrue _=>some [⟨.int k',a⟩]|.isFalse _=>none
 |.bool,.bool b=>some [⟨.bool,b⟩]|.str,.str s=>some [⟨.str,s⟩]|.sl t .d,.nil _=>some [⟨.sl t,[]⟩]|.sl _ .d,.sl t' l _=>some [⟨.sl t',l⟩]|_,_=>none
def gO:List ia->List Cell->Option (List fW)
 |[],[]=>some []|c::cs,x::xs=>match vp c x,gO cs xs with|some d,some ds=>some (d++ds)|_,_=>none
 |_,_=>none
def hiC(top:Nat):Cell->Bool|.ref lv _ _ _=>Nat.ble top lv|.ki lv _ _ _ _ _=>Nat.ble top lv|_=>true
def hiR(top:Nat)(vs:List (Bool×List Cell)):Bool:=vs.all λv=>v.2.all (hiC top)
def N4(m:List (Tr E2))(rk k:Nat):Cell->Bool|.ref lv sl aq t=>Nat.beq k rk&&(match rowOf m lv sl aq with|some r=>Nat.beq r.t.size t.size|none=>false)|.nil true=>true|.ki ..=>false|_=>!Nat.beq k rk
def aa9(m:List (Tr E2))(rk:Nat):Nat->List Cell->Bool|_,[]=>true|k,c::r=>N4 m rk k c&&aa9 m rk (k+1) r
def GL(m:List (Tr E2))(rk:Nat):Nat->List (Bool×List Cell)->Bool|_,[]=>true|k,(_,cs)::r=>aa9 m rk k cs&&GL m rk (k+64) r
def afw(m:List (Tr E2))(rk:Nat)(vs:List (Bool×List Cell)):Bool:=match Nat.beq rk 0with|true=>true|false=>GL m rk 1 vs
def GM(rk lv sl aq k:Nat)(c:Cell):Option (Cell×List SL):=match Nat.beq k rk with
 |true=>match c with|.sl t l _=>some (.ref lv sl aq t,[⟨t,l⟩])|_=>none
 |false=>some (c,[])
def um(rk lv sl aq:Nat):Nat->List Cell->Option (List Cell×List SL)|_,[]=>some ([],[])|k,c::r=>match GM rk lv sl aq k c,um rk lv sl aq (k+1) r with|some (x,u),some (xs,us)=>some (x::xs,u++us)|_,_=>none
def GN(rk lv sl aq:Nat):Nat->List (Bool×List Cell)->Option (List (Bool×List Cell)×List SL)|_,[]=>some ([],[])|k,(a,cs)::r=>match um rk lv sl aq k cs,GN rk lv sl aq (k+64) r with|some (xs,us),some (ys,vs)=>some ((a,xs)::ys,us++vs)|_,_=>none
section
variable{α:Type}
def afx(s:S2)(r:BR)(K:Bool->List Cell->Option α):Option α:=match r with
 |.t n=>match s.slots.get? n with|some (.c x)=>K false [x]|some (.agg cs)=>K true cs|_=>none
 |.cell n sz agg=>jF (s.slots.get? n) λp=>P7 s.mem sz p λcs=>match agg,cs with|true,cs=>K true cs|false,[x]=>K false [x]|_,_=>none
def GO(s:S2):List BR->(List (Bool×List Cell)->Option α)->Option α|[],K=>K []|r::rs,K=>afx s r λa cs=>GO s rs λl=>K ((a,cs)::l)
end
def mI(m:List (Tr E2)):List (Bool×List ia)->List (Bool×List Cell)->Option (List fW)
 |[],[]=>some []|(a,l)::ps,(b,cs)::vs=>match a==b,nD m cs,mI m ps vs with|true,some (cs,_),some ds=>(gO l cs).map (·++ds)|_,_,_=>none
 |_,_=>none
def UL(m:List (Tr E2))(top:Nat):Cell->Option Cell
 |.int k a=>some (.int k a)|.bool b=>some (.bool b)|.str s=>some (.str s)|.raw v=>some (.raw v)|.nil _=>some (.nil false)|.sl _ _ .bD=>none|.sl t l _=>some (.sl t l .d)|.ref lv sl aq t=>match Nat.ble top lv with|false=>some (.ref lv sl aq t)|true=>match rowOf m lv sl aq with|some r=>some (.sl r.t r.l .d)|none=>none
 |.ki lv sl aq t off len=>match Nat.ble top lv with|false=>some (.ki lv sl aq t off len)|true=>match rowOf m lv sl aq with|some r=>some (.sl r.t ((r.l.drop off).take len) .d)|none=>none
 |.ptr lv sl aq i off=>match Nat.ble top lv with|false=>some (.ptr lv sl aq i off)|true=>none
 |_=>none
def Dt(m:List (Tr E2))(top:Nat):List Cell->Option (List Cell)|[]=>some []|x::r=>match UL m top x,Dt m top r with|some y,some ys=>some (y::ys)|_,_=>none
def Bb(m:List (Tr E2))(top:Nat):List (Bool×List Cell)->Option (List (Bool×List Cell))|[]=>some []|(a,x)::r=>match Dt m top x,Bb m top r with|some y,some ys=>some ((a,y)::ys)|_,_=>none
def adz(top:Nat):Cell->Bool|.ref lv _ _ _=>Nat.ble top lv|.ki lv _ _ _ _ _=>Nat.ble top lv|_=>false
def afy(m:List (Tr E2))(top:Nat)(c:Cell):Option Cell:=match c with
 |.nil b=>match Nat.beq top 0with|true=>some (.nil false)|false=>some (.nil b)
 |.sl t l (.app v)=>match Nat.beq top 0with|true=>some (.sl t l .d)|false=>some (.sl t l (.app v))
 |.sl t l .full=>match Nat.beq top 0with|true=>some (.sl t l .d)|false=>some (.sl t l .full)
 |c=>UL m top c
def UM(m:List (Tr E2))(top rk lv sl aq:Nat)(e:Option Ty)(k:Nat)(c:Cell):Option (Cell×List SL):=match Nat.beq k rk with
 |true=>match c with
  |.nil true=>e.map λt=>(.ref lv sl aq t,[⟨t,[]⟩])|.ref cC cW gD t=>match Nat.ble top cC,rowOf m cC cW gD with
   |true,some r=>match Nat.beq r.t.size t.size with|true=>some (.ref lv sl aq r.t,[⟨r.t,r.l⟩])|false=>none
   |_,_=>none
  |.ki cC cW gD t off len=>match Nat.ble top cC,rowOf m cC cW gD with
   |true,some r=>match Nat.beq r.t.size t.size with|true=>some (.ref lv sl aq r.t,[⟨r.t,(r.l.drop off).take len⟩])|false=>none
   |_,_=>none
  |_=>none
 |false=>match adz top c with|true=>none|false=>(afy m top c).map λy=>(y,[])
def GP(m:List (Tr E2))(top rk lv sl aq:Nat)(e:Option Ty):Nat->List Cell->Option (List Cell×List SL)|_,[]=>some ([],[])|k,x::r=>match UM m top rk lv sl aq e k x,GP m top rk lv sl aq e (k+1) r with|some (y,u),some (ys,us)=>some (y::ys,u++us)|_,_=>none
def Du(m:List (Tr E2))(top rk lv sl aq:Nat)(e:Option Ty):Nat->List (Bool×List Cell)->Option (List (Bool×List Cell)×List SL)|_,[]=>some ([],[])|k,(a,x)::r=>match GP m top rk lv sl aq e k x,Du m top rk lv sl aq e (k+64) r with|some (y,u),some (ys,us)=>some ((a,y)::ys,u++us)|_,_=>none
section
variable{α:Type}
def aba:AX->AX->Bool|.normal,.normal=>true|.exit a,.exit b=>Nat.beq a b|.ret,.ret=>true|_,_=>false
def ri:(os:bn)->(qg os).den->(AX->S2->Option α)->Option α|[],_,_=>none|[x],y,K=>cI (x.2.st (unpack x.2.tys y)) λs=>K x.1 s|x::z::r,y,K=>match y with|.inl a=>cI (x.2.st (unpack x.2.tys a)) λs=>K x.1 s|.inr b=>ri (z::r) b K
def oA:(os:bn)->AX->S2->Option (qg os).den
 |[],_,_=>none|[x],ax,s=>match aba x.1 ax with|true=>cI (x.2.get s) λds=>pack x.2.tys ds|false=>none
 |x::z::r,ax,s=>match aba x.1 ax with|true=>cI ((x.2.get s).bind (pack x.2.tys)) λy=>some (.inl y)|false=>cI (oA (z::r) ax s) λy=>some (.inr y)
end
abbrev Wk:=∀(α:Type),Nat->Nat->AC->S2->(AX->S2->Option α)->Option α
def adA(ctx d:Nat):Nat:=(ctx+1)*1000000+d*1000
section
variable{α:Type}
def V2.adB:V2->Bool|.fu _=>false|_=>true
def UN(E:ah)(s:S2)(row d nx f:Nat)(args:List V2)(K:iL->Option α):Option α:=cI (E.ym f) λc=>cI (GK s.mem c.args args) λ(ds,ks,bs)=>cI (pack c.ta ds) λx=>wG bs<|Option.bind (c.F x) λy=>match nS c.res (unpack c.tr y)with
 |some (vs,[])=>match Nat.beq row 0with
  |true=>match Nat.beq c.rk 65535with|true=>none|false=>cI (qI vs) λv=>K (.bZ {val:=v,dx:=lV ks,cU:=[],rd:=args.flatMap IK})
  |false=>match Nat.beq (row%65536) c.rk&&!Nat.beq c.rk 0&&!Nat.beq (row/65536) 0,GN c.rk (ij s.mem.length d) d nx 1 vs with
   |true,some (vs,[])=>cI (qI vs) λv=>K (.bZ {val:=v,dx:=lV ks,cU:=[],rd:=args.flatMap IK})|true,some (vs,[u])=>match Nat.beq (row/65536) u.t.size with|true=>cI (qI vs) λv=>K (.bZ {val:=v,dx:=lV ks++[(ij s.mem.length d,d,some (.row nx u.t u.l))],cU:=[],rd:=args.flatMap IK})|false=>none
   |_,_=>none
 |_=>none
def vo.akA(m:List (Tr E2)):vo->V2->Option (List fW×List (Nat×Nat)×List Bool)|.c x,.c y=>x.arg m true y|.agg l,.agg cs=>Ds m l cs|_,_=>none
def GQ(m:List (Tr E2)):List vo->List V2->Option (List fW×List (Nat×Nat)×List Bool)
 |[],[]=>some ([],[],[])|p::ps,x::xs=>match p.akA m x,GQ m ps xs with|some (d,k,b),some (ds,ks,bs)=>some (d++ds,k++ks,b++bs)|_,_=>none
 |_,_=>none
def adC(E:ah)(s:S2)(f:Nat)(args:List V2)(K:iL->Option α):Option α:=cI (E.ym f) λc=>match !Nat.beq c.rk 65535with
 |true=>cI (GQ s.mem c.args args) λ(ds,ks,bs)=>cI (pack c.ta ds) λx=>wG bs<|Option.bind (c.F x) λy=>match nS c.res (unpack c.tr y)with|some (vs,[])=>cI (qI vs) λv=>K (.bZ {val:=v,dx:=lV ks,cU:=[],rd:=args.flatMap IK})|_=>none
 |false=>none
def zA(m:List (Tr E2)):List ia->List Cell->Option (List fW×List Bool)
 |[],[]=>some ([],[])|c::cs,x::xs=>match c.arg m false x,zA m cs xs with|some (d,[],b),some (ds,bs)=>some (d++ds,b++bs)|_,_=>none
 |_,_=>none
def vo.akB(m:List (Tr E2)):vo->V2->Option (List fW×List Bool)
 |.c x,.c y=>match x.arg m false y with|some (d,[],b)=>some (d,b)|_=>none
 |.agg l,.agg cs=>zA m l cs|_,_=>none
def GR(m:List (Tr E2)):List vo->List V2->Option (List fW×List Bool)
 |[],[]=>some ([],[])|p::ps,x::xs=>match p.akB m x,GR m ps xs with|some (d,b),some (ds,bs)=>some (d++ds,b++bs)|_,_=>none
 |_,_=>none
def adD(E:ah)(s:S2)(f:Nat)(args:List V2)(K:iL->Option α):Option α:=cI (E.ym f) λc=>match !Nat.beq c.rk 65535with
 |true=>cI (GR s.mem c.args args) λ(ds,bs)=>cI (pack c.ta ds) λx=>wG bs<|Option.bind (c.F x) λy=>match nS c.res (unpack c.tr y)with|some (vs,[])=>cI (qI vs) λv=>K (.bZ {val:=v,dx:=[],cU:=[],rd:=args.flatMap IK})|_=>none
 |false=>none
def KQ(E:ah)(wk:Wk)(ctx:Nat)(s:S2)(row d nx f:Nat)(args:List V2)(K:iL->Option α):Option α:=match E.fns f with
 |some fn=>match fn.sh with|false=>UN E s row d nx f args K|true=>match Nat.beq args.length fn.np&&args.all V2.adB with
  |false=>none|true=>let st:S2:={slots:=lB 0 args .lf,outer:=loose s.slots::s.outer,mem:=s.mem++[.lf],aI:=s.aI,nv:=nx};let back:S2->Option α:=λs'=>match s'.outer with
    |o::os=>GO s' fn.res λvs=>match Nat.beq row 0with|true=>cI (Bb s'.mem s.mem.length vs) λvs=>cI (qI vs) λv=>K (.all v {slots:=merge s.slots o,outer:=os,mem:=s'.mem.take s.mem.length,aI:=s'.aI,nv:=s'.nv})|false=>match !Nat.beq (row%65536) 0&&!Nat.beq (row/65536) 0,Du s'.mem s.mem.length (row%65536) (ij s.mem.length d) d s'.nv (E.P9 ctx d) 1 vs with
     |true,some (vs,[u])=>match Nat.beq (row/65536) u.t.size with|true=>cI (qI vs) λv=>K (.all v {slots:=merge s.slots o,outer:=os,mem:=gN (s'.mem.take s.mem.length) [(ij s.mem.length d,d,some (.row s'.nv u.t u.l))],aI:=s'.aI,nv:=s'.nv+1})|false=>none
     |true,some (vs,[])=>cI (qI vs) λv=>K (.all v {slots:=merge s.slots o,outer:=os,mem:=s'.mem.take s.mem.length,aI:=s'.aI,nv:=s'.nv+1})|_,_=>none
    |[]=>none;match E.UK ctx d with
   |none=>wk α (adA ctx d) 0 fn.body st λax s'=>match ax with|.exit _=>none|_=>back s'
   |some os=>Option.bind (wk (qg os).den (adA ctx d) 0 fn.body st λax s'=>match ax with|.exit _=>none|_=>oA os .ret s') λy=>ri os y λ_ s'=>back s'
 |none=>UN E s row d nx f args K
def UO(E:ah)(s:S2)(f:Nat)(args:List V2)(K:iL->Option α):Option α:=cI (E.ym f) λc=>match Cc c.res&&!Nat.beq c.rk 65535with
 |true=>cI (zz s.mem c.args args) λ(ds,bs)=>cI (pack c.ta ds) λx=>wG bs<|Option.bind (c.F x) λy=>match nS c.res (unpack c.tr y)with|some (vs,[])=>cI (qI vs) λv=>K (.bZ {val:=v,dx:=[],cU:=[],rd:=args.flatMap (Ba s.mem)})|_=>none
 |false=>none
def dw(E:ah)(wk:Wk)(ctx:Nat)(s:S2)(row dst aR:Nat)(op:cG)(K:iL->Option α):Option α:=match op with
 |.JS x=>cI (jR s x) λv=>match Nat.beq (row%65536) 6&&v.ot with
  |true=>match v with|.c (.ref lv sl aq t)=>cI (rowOf s.mem lv sl aq) λr=>cI (j6 r.t t r.l) λl=>K (.bZ {val:=.c (.ref (ij s.mem.length dst) dst aR t),dx:=[(lv,sl,none),(ij s.mem.length dst,dst,some (.row aR t l))],cU:=[],rd:=[bX lv sl]})|_=>none
  |false=>match TX row with|false=>K (lU v)|true=>match v with
   |.c (.nil true)=>cI (E.P9 ctx dst) λt=>match Nat.beq t.size (row/65536)with|true=>K (.bZ {val:=.c (.ref (ij s.mem.length dst) dst aR t),dx:=[(ij s.mem.length dst,dst,some (.row aR t []))],cU:=[],rd:=[]})|false=>none
   |.c (.nil _)=>none|.c (.sl ..)=>none|v=>K (lU v)
 |.pick c a b=>yq (jR s c) λt=>match jR s a,jR s b with|some (.c (.bool x)),some (.c (.bool y))=>K (eS (.bool (cond t x y)))|some x,some y=>cond t (K (lU x)) (K (lU y))|some x,none=>aK t (K (lU x))|none,some y=>aK (!t) (K (lU y))|none,none=>none
 |.alloc z=>cI (Di z) λcs=>K (.bZ {val:=.c (.ptr (ij s.mem.length dst) dst aR 0 0),dx:=[(ij s.mem.length dst,dst,some (.box aR cs))],cU:=[],rd:=[]})|.box x=>cI ((jR s x).bind V2.cells?) λcs=>match Nat.beq row 14with|true=>K (.bZ {val:=.c (.ptr (s.mem.length-2) (1048576+dst) aR 0 0),dx:=[(s.mem.length-2,1048576+dst,some (.box aR cs))],cU:=[],rd:=[]})|false=>match Nat.beq row 13with|true=>none|false=>K (.bZ {val:=.c (.ptr (ij s.mem.length dst) dst aR 0 0),dx:=[(ij s.mem.length dst,dst,some (.box aR cs))],cU:=[],rd:=[]})
 |.build z ps=>cI ((Di z).bind λcs=>GJ s cs ps) λcs=>K (lU (.agg cs))|.buildSlice sz n z ps=>match Nat.beq row 2with
  |true=>match Nat.beq n 0with|true=>none|false=>cI ((uj z).bind λzc=>GJ s (List.replicate n zc).flatten (ps.map λp=>(p.1*sz,sz,p.2))) λcs=>K (.bZ {val:=.c (.dz (ij s.mem.length dst) dst aR 0 n sz),dx:=[(ij s.mem.length dst,dst,some (.box aR cs))],cU:=[],rd:=[]})
  |false=>cI (E.P9 ctx dst) λt=>cI (uj z) λzc=>cI (Dm s sz (List.replicate n zc) ps) λ(els,ks)=>match Nat.beq t.size sz,Dn t els with
  |true,some l=>match Nat.beq row 0with|true=>K (.bZ {val:=.c (.sl t l .full),dx:=lV ks,cU:=[],rd:=jz ks})|false=>match Dq ks (ij s.mem.length dst) dst with|true=>none|false=>K (.bZ {val:=.c (.ref (ij s.mem.length dst) dst aR t),dx:=lV ks++[(ij s.mem.length dst,dst,some (.row aR t l))],cU:=[],rd:=jz ks})
  |_,_=>none
 |.load sz agg x=>jF (jR s x) λp=>P7 s.mem sz p λcs=>cI (Dk agg cs) λv=>K (.bZ {val:=v,dx:=[],cU:=[],rd:=uk p})|.store sz x v=>jF (jR s x) λp=>cI ((jR s v).bind V2.cells?) λnew=>N1 s.mem sz p new K|.nilCheck x=>cI (jR s x) λv=>match v with|.c (.ptr lv sl aq i off)=>K (eS (.ptr lv sl aq i off))|.c (.e9 t e off)=>K (eS (.e9 t e off))|.fK f cs=>K (lU (.fK f cs))|_=>none
 |.bin op x y=>jF (jR s x) λa=>jF (jR s y) λb=>afs op a b λc=>K (eS c)|.eqb neg x y=>yq (jR s x) λa=>yq (jR s y) λb=>K (eS (.bool (match neg with|true=>!(a==b)|false=>a==b)))|.Az neg x=>match jR s x with
  |some (.c (.er b))=>match neg with|true=>K (eS (.bool b))|false=>K (eS (.bool (!b)))
  |_=>none
 |.tH lo n sz x=>match jR s x with
  |some (.c (.ptr lv sl aq i off))=>match Nat.beq i 0&&Nat.blt lo n with|true=>K (eS (.dz lv sl aq (off+lo*sz) (n-lo) sz))|false=>none
  |_=>none
 |.Q8 neg sz cells x y=>match jR s x,jR s y with
  |some (.agg xs),some (.agg ys)=>match Nat.beq xs.length sz&&Nat.beq ys.length sz,IN xs ys cells with|true,some b=>K (eS (.bool (match neg with|true=>!b|false=>b)))|_,_=>none
  |_,_=>none
 |.un op x=>jF (jR s x) λa=>unK op a λc=>K (eS c)|.conv k x=>RJ (jR s x) λn=>K (eS (.int k (k.wrap n)))|.field off sz agg x=>match jR s x with
  |some (.agg cs)=>match Nat.ble (off+sz) cs.length,Dk agg ((cs.drop off).take sz)with|true,some v=>K (lU v)|_,_=>none
  |_=>none
 |.fieldAddr off x=>match jR s x with|some (.c (.ptr lv sl aq i o))=>K (eS (.ptr lv sl aq i (o+off)))|some (.c (.e9 t e o))=>K (eS (.e9 t e (o+off)))|_=>none
 |.indexAddr sz x i=>RJ (jR s i) λn=>match jR s x with
  |some (.c (.sl t l _))=>match Nat.beq t.size sz with|true=>Option.bind (idx l n) λe=>K (eS (.e9 t e 0))|false=>none
  |some (.c (.ref lv sl aq t))=>match Nat.beq t.size sz with|true=>cI (rowOf s.mem lv sl aq) λr=>aK (gB n r.l.length) (K (eS (.ptr lv sl aq n.toNat 0)))|false=>none
  |some (.c (.ki lv sl aq t off len))=>match Nat.beq t.size sz with|true=>aK (gB n len) (K (eS (.ptr lv sl aq (off+n.toNat) 0)))|false=>none
  |_=>none
 |.lG n sz x i=>IM (jR s i) λk=>match jR s x with|some (.c (.ptr lv sl aq j o))=>RH n k λk=>K (eS (.ptr lv sl aq j (o+k*sz)))|some (.c (.e9 t e o))=>RH n k λk=>K (eS (.e9 t e (o+k*sz)))|_=>none
 |.rQ n sz agg x i=>IM (jR s i) λk=>match jR s x with
  |some (.agg cs)=>RH n k λk=>match Nat.ble (k*sz+sz) cs.length,Dk agg ((cs.drop (k*sz)).take sz)with|true,some v=>K (lU v)|_,_=>none
  |_=>none
 |.rR x i=>RJ (jR s i) λn=>match jR s x with|some (.c (.str b))=>Option.bind (idx b n) λc=>K (eS (.int .u8 c.toNat))|_=>none
 |.slice sz x lo hi mx=>jF (jR s x) λc=>wE lo s λl=>wE hi s λh=>wE mx s λk=>match Nat.beq row 3&&(mx.isNone&&c.ot)with|true=>afu s.mem sz aR c l h K|false=>N2 s.mem sz c l h k λv=>K (eS v)
 |.rS x lo hi=>match jR s x with|some (.c (.str b))=>wE lo s λlo=>wE hi s λhi=>aK (oh b.length lo hi) (K (eS (.str (qf b lo hi))))|_=>none
 |.extract x i=>match jR s x with
  |some (.fu vs)=>match vs[i]?with|some (a,cs)=>cI (Dk a cs) λv=>K (lU v)|none=>none
  |_=>none
 |.len x=>jF (jR s x) λc=>match c with|.sl _ l _=>K (eS (.int .i64 l.length))|.nil _=>K (eS (.int .i64 0))|.ref lv sl aq _=>cI (rowOf s.mem lv sl aq) λr=>K (eS (.int .i64 r.l.length))|.ki _ _ _ _ _ len=>K (eS (.int .i64 len))|_=>none
 |.JT x=>jF (jR s x) λc=>match c with|.nil true=>K (eS (.int .i64 0))|.sl _ l .full=>K (eS (.int .i64 l.length))|_=>none
 |.HW x=>match jR s x with|some (.c (.str b))=>K (eS (.int .i64 b.length))|_=>none
 |.Ft n=>K (eS (.int .i64 n))|.s2b x=>match jR s x with|some (.c (.str b))=>K (eS (.sl (.int .u8) (bP b) .d))|_=>none
 |.b2s x=>jF (jR s x) λc=>match c with|.str _=>none|c=>qe s.mem c (some (.int .u8)) λn=>cI (j6 n.t (.int .u8) n.l) λl=>K (.bZ {val:=.c (.str (l.map λn=>UInt8.ofNat n.toNat)),dx:=[],cU:=[],rd:=uk c})
 |.mkSet=>K (.bZ {val:=.c (.mp (ij s.mem.length dst) dst aR),dx:=[(ij s.mem.length dst,dst,some (.set aR []))],cU:=[],rd:=[]})|.JU m k=>match jR s m,jR s k with|some (.c (.mp lv sl aq)),some (.c (.str b))=>cI (P6 s.mem lv sl aq) λl=>K (.bZ {val:=.c (.bool (hasB l b)),dx:=[],cU:=[],rd:=[bX lv sl]})|_,_=>none
 |.JV m k=>match jR s m,jR s k with|some (.c (.mp lv sl aq)),some (.c (.str b))=>cI (P6 s.mem lv sl aq) λl=>K (.bZ {val:=.fu [],dx:=[(lv,sl,some (.set aq (tI l b)))],cU:=[],rd:=[bX lv sl]})|_,_=>none
 |.HX x y=>match jR s x,jR s y with
  |some (.c (.int k a)),some (.c (.int k' b))=>match decEq k k' with|.isTrue _=>K (eS (.int k (min a b)))|.isFalse _=>none
  |_,_=>none
 |.HY x y=>match jR s x,jR s y with
  |some (.c (.int k a)),some (.c (.int k' b))=>match decEq k k' with|.isTrue _=>K (eS (.int k (max a b)))|.isFalse _=>none
  |_,_=>none
 |.append sz bytes x y=>match Nat.beq row 11with|true=>none|false=>jF (jR s x) λa=>jF (jR s y) λb=>RK s (!Nat.beq row 0) (we row (ij s.mem.length dst) dst).1 (we row (ij s.mem.length dst) dst).2 aR sz bytes a b (E.P9 ctx dst) K
 |.clone sz bytes x=>match Nat.beq row 11with|true=>none|false=>jF (jR s x) λb=>match b with|.str _=>none|b=>RK s (!Nat.beq row 0) (ij s.mem.length dst) dst aR sz bytes (.nil true) b (E.P9 ctx dst) K
 |.copy sz x y=>jF (jR s x) λa=>jF (jR s y) λb=>match a with
  |.ref lv sl aq t=>cI (rowOf s.mem lv sl aq) λr=>qe s.mem b (some t) λn=>match Nat.beq t.size sz,j6 r.t t r.l,j6 n.t t n.l with|true,some l,some news=>K (.bZ {val:=.c (.int .i64 ((min news.length l.length:Nat):Int)),dx:=[(lv,sl,some (.row aq t (Dl news l)))],cU:=[],rd:=bX lv sl::uk b})|_,_,_=>none
  |.ki lv sl aq t off len=>cI (rowOf s.mem lv sl aq) λr=>qe s.mem b (some t) λn=>match Nat.beq t.size sz,j6 r.t t r.l,j6 n.t t n.l with|true,some l,some news=>aK (decide (off+len<=l.length)) (K (.bZ {val:=.c (.int .i64 ((min news.length len:Nat):Int)),dx:=[(lv,sl,some (.row aq t (l.take off++(news.take (min news.length len)++l.drop (off+(news.take (min news.length len)).length)))))],cU:=[],rd:=bX lv sl::uk b}))|_,_,_=>none
  |.dz lv sl aq off n sz'=>match jZ s.mem lv sl with
   |some (.box v cs)=>qe s.mem b none λnw=>match Nat.beq v aq&&Nat.beq sz' sz&&Nat.ble (off+n*sz) cs.length&&Nat.beq nw.t.size sz with|true=>K (.bZ {val:=.c (.int .i64 ((min nw.l.length n:Nat):Int)),dx:=[(lv,sl,some (.box aq (bL.splice cs off ((nw.l.take (min nw.l.length n)).flatMap (jE nw.t)))))],cU:=[],rd:=bX lv sl::uk b})|false=>none
   |_=>none
  |_=>none
 |.qa sz bytes z x n=>jF (jR s x) λa=>IM (jR s n) λk=>cI (E.P9 ctx dst) λt=>cI ((uj z).bind (A8 t)) λz'=>match Nat.beq t.size sz&&Nat.beq z.length sz with|true=>aK (room k bytes) (RK s (!Nat.beq row 0) (ij s.mem.length dst) dst aR sz bytes a (.sl t (List.replicate k z') .d) (some t) K)|false=>none
 |.makeSlice sz bytes z l c=>IM (jR s l) λl=>IM (jR s c) λc=>cI (E.P9 ctx dst) λt=>cI ((uj z).bind (A8 t)) λz'=>match Nat.beq t.size sz&&Nat.beq z.length sz with|true=>aK (decide (l<=c)&&room c bytes) (K (.bZ {val:=.c (.ref (ij s.mem.length dst) dst aR t),dx:=[(ij s.mem.length dst,dst,some (.row aR t (List.replicate l z')))],cU:=[],rd:=[]}))|false=>none
 |.sliceB n sz x=>jF (jR s x) λc=>match c with
  |.ptr lv sl aq i off=>match Nat.beq i 0with|true=>K (eS (.dz lv sl aq off n sz))|false=>none
  |_=>none
 |.makeFunc f cap=>cI ((IL s cap).bind Dp) λcs=>K (lU (.fK f cs))|.clear sz z x=>jF (jR s x) λa=>match a with
  |.ref lv sl aq t=>cI (rowOf s.mem lv sl aq) λr=>cI ((uj z).bind (A8 t)) λz'=>match Nat.beq t.size sz&&Nat.beq z.length sz,j6 r.t t r.l with|true,some l=>K (.bZ {val:=.fu [],dx:=[(lv,sl,some (.row aq t (List.replicate l.length z')))],cU:=[],rd:=[bX lv sl]})|_,_=>none
  |.ki lv sl aq t off len=>cI (rowOf s.mem lv sl aq) λr=>cI ((uj z).bind (A8 t)) λz'=>match Nat.beq t.size sz&&Nat.beq z.length sz,j6 r.t t r.l with|true,some l=>aK (decide (off+len<=l.length)) (K (.bZ {val:=.fu [],dx:=[(lv,sl,some (.row aq t (l.take off++List.replicate len z'++l.drop (off+len))))],cU:=[],rd:=[bX lv sl]}))|_,_=>none
  |_=>none
 |.compact x=>jF (jR s x) λa=>match a with
  |.nil true=>K (eS (.nil true))|.ref lv sl aq t=>cI (rowOf s.mem lv sl aq) λr=>match Nat.beq t.size 1,j6 r.t (.int .i64) r.l with|true,some l=>aK (decide (l.length<4611686018427387904)) (K (.bZ {val:=.c (.ref lv sl aR (.int .i64)),dx:=[(lv,sl,some (.row aR (.int .i64) (j5 l)))],cU:=[],rd:=[bX lv sl]}))|_,_=>none
  |_=>none
 |.sort x=>jF (jR s x) λa=>match a with
  |.nil true=>K (.bZ {val:=.fu [],dx:=[],cU:=[],rd:=[]})|.ref lv sl aq t=>cI (rowOf s.mem lv sl aq) λr=>match Nat.beq t.size 1,j6 r.t (.int .i64) r.l with|true,some l=>aK (decide (l.length<4611686018427387904)) (K (.bZ {val:=.fu [],dx:=[(lv,sl,some (.row aq (.int .i64) (j4 l)))],cU:=[],rd:=[bX lv sl]}))|_,_=>none
  |_=>none
 |.grow sz x n=>jF (jR s x) λa=>IM (jR s n) λ_=>match a,E.P9 ctx dst with
  |.nil true,some t=>match Nat.beq t.size sz with|true=>K (.bZ {val:=.c (.sl t [] (.app aR)),dx:=[],cU:=[(aR,true)],rd:=[]})|false=>none
  |_,_=>none
 |.call f args=>match Nat.beq row 7,Nat.beq row 8,Nat.beq row 9,Nat.beq row 10with|false,false,false,false=>cI (IL s args) λaL=>KQ E wk ctx s row dst aR f aL K|false,false,true,_=>cI (IL s args) λaL=>adC E s f aL K|false,false,false,true=>cI (IL s args) λaL=>adD E s f aL K|_,_,_,_=>none
 |.xu f args=>cI (IL s args) λaL=>match E.sh f with|true=>KQ E wk ctx s row dst aR f aL K|false=>UO E s f aL K
 |.AA x args=>match jR s x with|some (.fK f cap)=>cI (IL s args) λaL=>KQ E wk ctx s row dst aR f (aL++cap.map .c) K|_=>none
 |_=>none
def Qa(E:ah)(wk:Wk)(ctx:Nat)(s:S2)(aR:Nat)(o:bI)(K:S2->iL->Option α):Option α:=match Nat.ble 4294967296 o.row with|true=>none|false=>match o.gd with|none=>dw E wk ctx s o.row (o.dst.getD 0) aR o.op (K s)|some (g,b)=>match s.slots.get? g with|some (.c (.bool t))=>cond t (let s':={s with slots:=s.slots.set g (some (.c (.bool true)))};match b with|true=>dw E wk ctx s' o.row (o.dst.getD 0) aR o.op (K s')|false=>K s' (lU (.fu []))) (let s':={s with slots:=s.slots.set g (some (.c (.bool false)))};match b with|true=>K s' (lU (.fu []))|false=>dw E wk ctx s' o.row (o.dst.getD 0) aR o.op (K s'))|some (.fu _)=>K s (lU (.fu []))|_=>none
def Cd(E:ah)(wk:Wk)(ctx:Nat):Nat->List bI->S2->(S2->Option α)->Option α|_,[],s,K=>K s|nx,o::r,s,K=>Qa E wk ctx s nx o λs e=>match e with|.bZ e=>Cd E wk ctx (nx+1) r (s.app o.dst (.bZ e)) K|.all v s'=>Cd E wk ctx s'.nv r {s'.app o.dst (.all v s')with nv:=s'.nv+r.length} K
def keq(a b:Nat×Nat×Nat):Bool:=Nat.beq a.1 b.1&&Nat.beq a.2.1 b.2.1&&Nat.beq a.2.2 b.2.2
def zB(a b:List (Nat×Nat×Nat)):Bool:=a.any λk=>b.any (keq k)
def rj:iL->Bool|.bZ e=>!(e.rd.isEmpty&&e.dx.isEmpty&&e.cU.isEmpty)|.all ..=>true
def zC:iL->iL->Bool|.bZ a,.bZ b=>zB a.rd b.wr||zB a.wr b.rd||zB a.wr b.wr|a,b=>rj a&&rj b
def IS(oV:Nat)(e:iL):List (Nat×iL)->Bool|[]=>true|(i,x)::r=>(oV.testBit i||!zC x e)&&IS oV e r
def Bc(l:List (Nat×iL)):List (Nat×iL):=l.map λx=>(x.1,match rj x.2with|true=>.all (.fu []) default|false=>x.2)
def Ce(E:ah)(wk:Wk)(ctx:Nat):Nat->Nat->List bI->List (Nat×iL)->S2->(S2->Option α)->Option α|_,_,[],_,s,K=>K s|i,nx,o::r,eT,s,K=>Qa E wk ctx s nx o λs e=>match IS o.oV e eT with
 |true=>match e with|.bZ e=>Ce E wk ctx (i+1) (nx+1) r ((i,.bZ e)::eT) (s.app o.dst (.bZ e)) K|.all v s'=>Ce E wk ctx (i+1) s'.nv r ((i,.all (.fu []) default)::Bc eT) {s'.app o.dst (.all v s')with nv:=s'.nv+r.length} K
 |false=>none
def wH:AC->Nat|.seq a b=>wH a+wH b|.cond _ a b=>wH a+wH b+1|.block _ c=>wH c+1|.loop c=>wH c+1|.region ..=>1|_=>0
end
def abb{α:Type}(E:ah)(wk:Wk)(ctx:Nat)(ops:List bI)(draw:Bool)(s:S2)(K:S2->Option α):Option α:=match draw with|false=>Cd E wk ctx s.nv ops {s with nv:=s.nv+ops.length} K|true=>Ce E wk ctx 0 s.nv ops [] {s with nv:=s.nv+ops.length} K
def UP(sh:Nat->Bool):cG->Bool|.JS _|.pick ..|.nilCheck _|.bin ..|.eqb ..|.Q8 ..|.un ..|.conv ..|.field ..|.fieldAddr ..|.indexAddr ..|.lG ..|.rQ ..|.rR ..|.load ..|.slice ..|.rS ..|.extract ..|.len _|.HW _|.Ft _|.HX ..|.HY ..=>true|.xu f _=>!sh f|_=>false
def GS(sh:Nat->Bool)(o:bI):Bool:=Nat.beq o.row 0&&UP sh o.op
def uo(sh:Nat->Bool):AC->Bool|.skip=>true|.region ops _=>ops.all (GS sh)|.seq a b=>uo sh a&&uo sh b|.cond _ a b=>uo sh a&&uo sh b|_=>false
def rq:AC->List Nat|.region ops _=>ops.flatMap λo=>o.dst.toList|.seq a b=>rq a++rq b|.cond _ a b=>rq a++rq b|_=>[]
def KS:List Nat->Tr V2->Tr V2|[],t=>t|n::r,t=>KS r (t.set n none)
def IT(t:Ty)(c:Cell):Option t.den:=match t,c with
 |.int k,.int k' a=>match decEq k k' with|.isTrue _=>some a|.isFalse _=>none
 |.bool,.bool b=>some b|.str,.str s=>some s|_,_=>none
def N5:(t:Ty)->t.den->Option Cell|.int k,a=>some (.int k a)|.bool,b=>some (.bool b)|.str,s=>some (.str s)|_,_=>none
def KT(t:Ty)(n:Nat)(ax:AX)(s:S2):Option t.den:=match ax with
 |.normal=>match s.slots.get? n with|some (.c c)=>IT t c|_=>none
 |_=>none
def wI(s:S2)(c:cx)(b:Bool):S2:=match c with|.t n=>{s with slots:=s.slots.set n (some (.c (.bool b)))}|.c _=>s
def akC(i:Nat):Nat:=match Nat.blt i 100000with|true=>i+100000|false=>i
def akD(o:Option (List fW))(i:Nat):Nat:=match o with|some _=>i|none=>i+200000
def walk(E:ah):Nat->Wk|0=>λ_ _ _ _ _ _=>none|n+1=>λα ctx i c s K=>match c with
 |.skip=>K .normal s|.region ops draw=>match E.N3 ctx i with
  |some m=>match ops.all (GS E.sh)with|true=>Option.bind (abb E (walk E n) ctx ops draw s (KT m.2 m.1 .normal)) λy=>cI (N5 m.2 y) λy=>K .normal {s with slots:=(KS (rq (.region ops draw)) s.slots).set m.1 (some (.c y))}|false=>none
  |none=>match E.KP ctx i with|none=>abb E (walk E n) ctx ops draw s λs'=>K .normal s'|some os=>Option.bind (abb E (walk E n) ctx ops draw s (oA os .normal)) λy=>ri os y K
 |.seq a b=>walk E n α ctx i a s λax s'=>match ax with|.normal=>walk E n α ctx (i+wH a) b s' K|ax=>K ax s'
 |.cond c a b=>match E.N3 ctx i with
  |some m=>match uo E.sh a&&uo E.sh b with|true=>Option.bind (yq (jR s c) λt=>cond t (walk E n m.2.den ctx (i+1) a (wI s c true) (KT m.2 m.1)) (walk E n m.2.den ctx (i+1+wH a) b (wI s c false) (KT m.2 m.1))) λy=>cI (N5 m.2 y) λy=>K .normal {s with slots:=(KS (rq a++rq b) s.slots).set m.1 (some (.c y))}|false=>none
  |none=>match E.KP ctx i with|none=>yq (jR s c) λt=>cond t (walk E n α ctx (i+1) a (wI s c true) K) (walk E n α ctx (i+1+wH a) b (wI s c false) K)|some os=>Option.bind (yq (jR s c) λt=>cond t (walk E n (qg os).den ctx (i+1) a (wI s c true) (oA os)) (walk E n (qg os).den ctx (i+1+wH a) b (wI s c false) (oA os))) λy=>ri os y K
 |.block id c=>match E.KP ctx i with
  |none=>walk E n α ctx (i+1) c s λax s'=>match ax with
   |.exit id'=>match Nat.beq id' id with|true=>K .normal s'|false=>K (.exit id') s'
   |ax=>K ax s'
  |some os=>Option.bind (walk E n (qg os).den ctx (i+1) c s λax s'=>match ax with
   |.exit id'=>match Nat.beq id' id with|true=>oA os .normal s'|false=>oA os (.exit id') s'
   |ax=>oA os ax s') λy=>ri os y K
 |.loop c=>match E.unr ctx i with
  |true=>walk E n α ctx (i+1) c s λax s'=>match ax with|.normal=>walk E n α ctx (akC i) (.loop c) s' K|ax=>K ax s'
  |false=>cI (E.loops ctx (akD ((E.loops ctx i c).bind λL=>L.T.get s) i) c) λL=>cI (L.T.get s) λds=>cI (pack L.T.tys ds) λx=>Option.bind (L.F x) λy=>ri L.outs y K
 |.exit id=>K (.exit id) s|.ret=>K .ret s
def Dv(E:ah)(N ctx i:Nat)(body:AC)(T:bt)(outs:bn)(rec:(td T.tys).den->Option (qg outs).den)(x:(td T.tys).den):Option (qg outs).den:=cI (T.st (unpack T.tys x)) λs=>walk E N (qg outs).den ctx (i+1) body s λax s'=>match ax with|.normal=>cI (T.get s') λds=>cI (pack T.tys ds) λy=>rec y|ax=>oA outs ax s'
def Qb{α β:Type}(step:(α->Option β)->α->Option β):Nat->α->Option β|0,_=>none|n+1,x=>step (Qb step n) x
def adE(E:ah)(N:Nat)(f:Nat)(args:List vo)(ta:List Ty)(res:List (Bool×List ia))(tr:List Ty)(rk:Nat)(x:(td ta).den):Option (td tr).den:=cI (E.fns f) λfn=>match dO args (unpack ta x)with
 |some (vs,[])=>match Nat.beq vs.length fn.np with
  |true=>walk E N _ 0 0 fn.body {slots:=lB 0 vs .lf,outer:=[],mem:=[.lf],aI:=.lf,nv:=0} λax s=>match ax with|.exit _=>none|_=>GO s fn.res λvs=>match afw s.mem rk vs&&!Nat.beq rk 65535with|true=>cI (mI s.mem res vs) λds=>pack tr ds|false=>none
  |false=>none
 |_=>none
abbrev bH:=Nat->Option Nat
def bF(t:Ty)(l:List t.den):List (List D):=l.map (fm t)
def RC(ρ:bH)(B:Nat)(m:List (Tr E2)):Cell->AV->Prop|.int k a,x=>x=.d (.sc (.int k a))|.bool b,x=>x=.d (.sc (.bool b))|.er b,x=>x=.d (match b with|true=>.er|false=>.sc .nilIface)|.str s,x=>x=.d (.sc (.string ⟨s.toArray⟩))|.raw v,x=>x=.d (.sc v)|.nil true,x=>x=.own [] .full|.nil false,x=>x=.d (.sl [])\/∃o,o≠.bD/\x=.own [] o|.sl t l .d,x=>x=.d (.sl (bF t l))\/∃o,o≠.bD/\x=.own (bF t l) o|.sl t l .bD,x=>x=.d (.sl (bF t l))\/∃o,x=.own (bF t l) o|.sl t l .full,x=>x=.own (bF t l) .full|.sl t l (.app v),x=>v<B/\((ρ v=none/\x=.own (bF t l) .full)\/∃u,ρ v=some u/\x=.own (bF t l) (.cU u t.size))|.ref lv sl aq t,x=>aq<B/\∃u n,ρ aq=some u/\x=.ref lv sl u 0 n t.size/\∀r,rowOf m lv sl aq=some r->n=r.l.length|.ki lv sl aq t off len,x=>aq<B/\∃u,ρ aq=some u/\x=.ref lv sl u off len t.size/\∀r,rowOf m lv sl aq=some r->off+len<=r.l.length|.ptr lv sl aq i off,x=>aq<B/\∃u,ρ aq=some u/\x=.ptr lv sl u i off|.e9 t e off,x=>x=.e9 (fm t e) off|.dz lv sl aq off n sz,x=>aq<B/\∃u,ρ aq=some u/\x=.dz lv sl u off n sz|.mp lv sl aq,x=>aq<B/\∃u,ρ aq=some u/\x=.mp lv sl u
def R1(ρ:bH)(B:Nat)(m:List (Tr E2)):Bool×List Cell->AV->Prop|(true,cs),a=>∃aL,a=.agg aL/\aD (RC ρ B m) cs aL|(false,cs),a=>∃c,cs=[c]/\RC ρ B m c a
def RV(ρ:bH)(B:Nat)(m:List (Tr E2)):V2->AV->Prop|.c x,a=>RC ρ B m x a|.agg cs,a=>∃aL,a=.agg aL/\aD (RC ρ B m) cs aL|.fK f cs,a=>∃aL,a=.fK f aL/\aD (RC ρ B m) cs aL|.fu vs,a=>∃aL,a=.fu aL/\aD (R1 ρ B m) vs aL
def RE(ρ:bH)(B:Nat)(m:List (Tr E2)):E2->bu->Prop|.row aq t l,e=>aq<B/\∃u,ρ aq=some u/\e=.row u (bF t l)|.box aq cs,e=>aq<B/\∃u aL,ρ aq=some u/\e=.box u aL/\aD (RC ρ B m) cs aL|.set aq l,e=>aq<B/\∃u,ρ aq=some u/\e=.mp u l
structure MR(ρ:bH)(B:Nat)(m2:List (Tr E2))(m:List (Tr bu)):Prop where
 len:m2.length=m.length
 fI:∀lv sl e2,jZ m2 lv sl=some e2->∃e,aG m lv sl=some e/\RE ρ B m2 e2 e
def TR(ρ:bH)(B:Nat)(t2 t:Tr Unit):Prop:=∀v,t2.get? v=some ()->v<B/\∀u,ρ v=some u->t.get? u=some ()
structure VOK(ρ:bH)(n2 n:Nat):Prop where
 low:∀v u,v<n2->ρ v=some u->u<n
 high:∀v,n2<=v->ρ v=some (n+(v-n2))inj:∀v v' u,ρ v=some u->ρ v'=some u->v=v'
def wJ(ρ:bH)(B:Nat)(m:List (Tr E2))(t:Tr V2)(o:Tr AV):Prop:=∀k v,t.get? k=some v->RV ρ B m v (dW o k)
structure SR(ρ:bH)(B:Nat)(os:List (Tr AV))(s2:S2)(s:St):Prop where
 slots:wJ ρ B s2.mem s2.slots s.slots
 outer:aD (wJ ρ B s2.mem) s2.outer os
 mem:MR ρ B s2.mem s.mem
 aI:TR ρ B s2.aI s.aI
 aq:VOK ρ s2.nv s.nv
 le:B<=s2.nv
def gh(B:Nat)(m m':List (Tr E2)):Prop:=∀lv sl aq r',aq<B->rowOf m' lv sl aq=some r'->∃r,rowOf m lv sl aq=some r/\r.l.length=r'.l.length
def gh.refl(B:Nat)(m:List (Tr E2)):gh B m m:=λ_ _ _ r _ h=>⟨r,h,rfl⟩
def gh.trans{B:Nat}{m m' m'':List (Tr E2)}(h:gh B m m')(k:gh B m' m''):gh B m m'':=by grind[gh]
def RC.move{ρ ρ':bH}{B B':Nat}{m m':List (Tr E2)}(hs:gh B m m')(hB:B<=B')(hρ:∀v,v<B->ρ' v=ρ v):∀{c:Cell}{x:AV},RC ρ B m c x->RC ρ' B' m' c x:=by intro c x h;cases c with
 |nil f=>cases f<;>exact h|sl t l o=>cases o with|app v=>obtain⟨hv,h⟩:=h;refine⟨by omega,?_⟩<;>grind|d=>exact h|full=>exact h|bD=>exact h
 |ref lv sl aq t=>obtain⟨hv,u,n,hu,hx,hr⟩:=h;refine⟨by omega,u,n,by rw[hρ aq hv];exact hu,hx,λr' hr'=>?_⟩;obtain⟨r,h1,h2⟩:=hs _ _ _ _ hv hr'<;>grind|ki lv sl aq t off len=>obtain⟨hv,u,hu,hx,hr⟩:=h;refine⟨by omega,u,by rw[hρ aq hv];exact hu,hx,λr' hr'=>?_⟩;obtain⟨r,h1,h2⟩:=hs _ _ _ _ hv hr'<;>grind|ptr lv sl aq i off=>obtain⟨hv,u,hu,hx⟩:=h;exact⟨by omega,u,by rw[hρ aq hv];exact hu,hx⟩|dz lv sl aq off n sz=>obtain⟨hv,u,hu,hx⟩:=h;exact⟨by omega,u,by rw[hρ aq hv];exact hu,hx⟩|mp lv sl aq=>obtain⟨hv,u,hu,hx⟩:=h;exact⟨by omega,u,by rw[hρ aq hv];exact hu,hx⟩|_=>exact h
def R1.mono{ρ ρ':bH}{B B':Nat}{m m':List (Tr E2)}(hc:∀c x,RC ρ B m c x->RC ρ' B' m' c x):∀{v:Bool×List Cell}{x:AV},R1 ρ B m v x->R1 ρ' B' m' v x|(true,_),_,⟨aL,h1,h2⟩=>⟨aL,h1,h2.mono hc⟩|(false,_),_,⟨c,h1,h2⟩=>⟨c,h1,hc _ _ h2⟩
def RV.mono{ρ ρ':bH}{B B':Nat}{m m':List (Tr E2)}(hc:∀c x,RC ρ B m c x->RC ρ' B' m' c x):∀{v:V2}{x:AV},RV ρ B m v x->RV ρ' B' m' v x:=by intro v x h;cases v with|c c=>exact hc _ _ h|agg cs=>obtain⟨aL,h1,h2⟩:=h;exact⟨aL,h1,h2.mono hc⟩|fK f cs=>obtain⟨aL,h1,h2⟩:=h;exact⟨aL,h1,h2.mono hc⟩|fu vs=>obtain⟨aL,h1,h2⟩:=h;exact⟨aL,h1,h2.mono λ_ _=>R1.mono hc⟩
def RE.mono{ρ ρ':bH}{B B':Nat}{m m':List (Tr E2)}(hB:B<=B')(hρ:∀v,v<B->ρ' v=ρ v)(hc:∀c x,RC ρ B m c x->RC ρ' B' m' c x):∀{e2:E2}{e:bu},RE ρ B m e2 e->RE ρ' B' m' e2 e:=by intro e2 e h;cases e2 with|row aq t l=>obtain⟨hv,u,h1,h2⟩:=h;exact⟨by omega,u,by rw[hρ aq hv];exact h1,h2⟩|box aq cs=>obtain⟨hv,u,aL,h1,h2,h3⟩:=h;exact⟨by omega,u,aL,by rw[hρ aq hv];exact h1,h2,h3.mono hc⟩|set aq l=>obtain⟨hv,u,h1,h2⟩:=h;exact⟨by omega,u,by rw[hρ aq hv];exact h1,h2⟩
def wJ.mono{ρ ρ':bH}{B B':Nat}{m m':List (Tr E2)}(hc:∀c x,RC ρ B m c x->RC ρ' B' m' c x){t:Tr V2}{o:Tr AV}(h:wJ ρ B m t o):wJ ρ' B' m' t o:=λk v hk=>RV.mono hc (h k v hk)
def RV.move{ρ ρ':bH}{B B':Nat}{m m':List (Tr E2)}(hs:gh B m m')(hB:B<=B')(hρ:∀v,v<B->ρ' v=ρ v){v:V2}{x:AV}(h:RV ρ B m v x):RV ρ' B' m' v x:=RV.mono (λ_ _=>RC.move hs hB hρ) h
def wJ.move{ρ ρ':bH}{B B':Nat}{m m':List (Tr E2)}(hs:gh B m m')(hB:B<=B')(hρ:∀v,v<B->ρ' v=ρ v){t:Tr V2}{o:Tr AV}(h:wJ ρ B m t o):wJ ρ' B' m' t o:=wJ.mono (λ_ _=>RC.move hs hB hρ) h
def ru:∀l:List rP,GI l=l.map NZ|[]=>by simp[GI]|v::r=>by simp[GI,ru r]
def fD:∀(t:Ty)(x:t.den),(fm t x).length=t.size|.val,v=>by cases v;simp[fm,NZ,Ty.size]|.int _,_=>rfl|.bool,_=>rfl|.str,_=>rfl|.sl _,_=>rfl|.unit,_=>rfl|.prod a b,x=>by simp[fm,Ty.size,fD a,fD b]|.sum _ _,_=>rfl
def mJ{ρ:bH}{B:Nat}{m:List (Tr E2)}:∀(t:Ty)(x:t.den),aD (RC ρ B m) (jE t x) ((fm t x).map .d)|.val,v=>by cases v;refine⟨rfl,rfl,rfl,.inl ?_,rfl,trivial⟩;simp[bF,rP.list,ru,fm]|.int _,_=>⟨rfl,trivial⟩|.bool,_=>⟨rfl,trivial⟩|.str,_=>⟨rfl,trivial⟩|.sl _,_=>⟨.inl rfl,trivial⟩|.unit,_=>trivial|.prod a b,x=>by simp[jE,fm,gc];exact(mJ a x.1).append (mJ b x.2)|.sum _ _,_=>trivial
def Dw{a b:Ty}{l:List a.den}{l':List b.den}(h:j6 a b l=some l'):∃e:a=b,l'=e▸l:=by unfold j6 at h;split at h<;>grind
def RL{a b:Ty}{l:a.den}{l':b.den}(h:wD a b l=some l'):∃e:a=b,l'=e▸l:=by unfold wD at h;split at h<;>grind
def pG:Cell->Option D|.int k a=>some (.sc (.int k a))|.bool b=>some (.sc (.bool b))|.str s=>some (.sc (.string ⟨s.toArray⟩))|.raw v=>some (.sc v)|.nil _=>some (.sl [])|.sl t l _=>some (.sl (bF t l))|_=>none
def cJ:List Cell->Option (List D)|[]=>some []|c::r=>match pG c,cJ r with|some x,some xs=>some (x::xs)|_,_=>none
def ny:∀{l l':List Cell}{ds ds':List D},cJ l=some ds->cJ l'=some ds'->cJ (l++l')=some (ds++ds')
 |[],_,_,_,h,h'=>by cases h<;>grind|c::r,l',ds,ds',h,h'=>by
  simp[cJ]at h;split at h;.rename_i x xs h1 h2;cases h;simp[nf,cJ,h1,ny h2 h']
  grind
def iH{c:Cell}{r:List Cell}{ds:List D}(h:cJ (c::r)=some ds):∃x xs,pG c=some x/\cJ r=some xs/\ds=x::xs:=by grind[cJ,pG]
def Dx{k:IntKind}{cs r:List Cell}{x:Int}{ds:List D}(h:KM k cs=some (x,r))(hd:cJ cs=some ds):∃ds',ds=.sc (.int k x)::ds'/\cJ r=some ds':=by
 unfold KM at h;split at h
 .split at h;.obtain⟨y,ys,h1,h2,rfl⟩:=iH hd;cases h1<;>grind
  grind
 grind
def GU{cs r:List Cell}{x:Bool}{ds:List D}(h:IJ cs=some (x,r))(hd:cJ cs=some ds):∃ds',ds=.sc (.bool x)::ds'/\cJ r=some ds':=by
 unfold IJ at h;split at h;.obtain⟨y,ys,h1,h2,rfl⟩:=iH hd;cases h1<;>grind
 grind
def KU{cs r:List Cell}{x:List UInt8}{ds:List D}(h:P5 cs=some (x,r))(hd:cJ cs=some ds):∃ds',ds=.sc (.string ⟨x.toArray⟩)::ds'/\cJ r=some ds':=by
 unfold P5 at h;split at h;.obtain⟨y,ys,h1,h2,rfl⟩:=iH hd;cases h1<;>grind
 grind
def Qc{t:Ty}{cs r:List Cell}{x:List t.den}{ds:List D}(h:aa3 t cs=some (x,r))(hd:cJ cs=some ds):∃ds',ds=.sl (bF t x)::ds'/\cJ r=some ds':=by
 unfold aa3 at h;split at h;.cases h;obtain⟨y,ys,h1,h2,rfl⟩:=iH hd;cases h1;exact⟨ys,rfl,h2⟩
 .split at h;.rename_i hc;obtain⟨e,hl⟩:=Dw hc;obtain⟨y,ys,h1,h2,rfl⟩:=iH hd;cases h1<;>grind
  grind
 grind
def Dy:∀(t:Ty){cs r:List Cell}{x:t.den},A7 t cs=some (x,r)->∀{ds:List D},cJ cs=some ds->∃ds',ds=fm t x++ds'/\cJ r=some ds'
 |.val,cs,r,x,h,ds,hd=>by
  simp[A7,ady]at h;split at h
  .rename_i k r1 h1;split at h
   .rename_i i r2 h2;split at h
    .rename_i s r3 h3;split at h
     .rename_i l r4 h4;split at h
      .rename_i c r5 h5;cases h;obtain⟨d1,rfl,e1⟩:=Dx h1 hd;obtain⟨d2,rfl,e2⟩:=Dx h2 e1;obtain⟨d3,rfl,e3⟩:=KU h3 e2;obtain⟨d4,rfl,e4⟩:=Qc h4 e3;obtain⟨d5,rfl,e5⟩:=GU h5 e4;refine⟨d5,?_,e5⟩;have:bF .val l=GI l:=by rw[ru];rfl
       simp[fm,NZ,this]
      grind
     grind
    grind
   grind
  grind|.int k,_,_,_,h,_,hd=>Dx h hd|.bool,_,_,_,h,_,hd=>GU h hd|.str,_,_,_,h,_,hd=>KU h hd|.sl t,_,_,_,h,_,hd=>Qc h hd|.unit,_,_,_,h,ds,hd=>by cases h;exact⟨ds,rfl,hd⟩|.prod a b,cs,r,x,h,ds,hd=>by
  simp[A7]at h;split at h
  .rename_i x1 r1 h1;split at h;.rename_i x2 r2 h2;cases h;obtain⟨d1,rfl,e1⟩:=Dy a h1 hd;obtain⟨d2,rfl,e2⟩:=Dy b h2 e1<;>simp_all[A7,cJ,Ty.den,fm]
   grind
  grind|.sum _ _,_,_,_,h,_,_=>by simp[A7]at h
def ry{t:Ty}{cs:List Cell}{x:t.den}{ds:List D}(h:A8 t cs=some x)(hd:cJ cs=some ds):ds=fm t x:=by
 unfold A8 at h;split at h;.rename_i y h1;cases h;obtain⟨ds',rfl,e⟩:=Dy t h1 hd;cases e;simp
 grind
end Go.Sym
