/- Code of the program against the machine of pure data. -/
import Derived.Test.YtkdilffhbejjaaaGreatEngY
import Derived.ScopeJumps
set_option linter.unusedVariables false
set_option linter.unusedSimpArgs false
namespace Go.bM
open Go Go.RowKit
def AX.exit':AX->Exit|.normal=>.normal|.exit id=>if Nat.blt id gb=true then .exit id else .goto ((id-gb)/2)|.ret=>.ret
theorem wB{id:Nat}(h:Nat.blt id gb=true):(AX.exit id).exit'=.exit id:=by simp[AX.exit',h]
theorem EF(l:Nat):(AX.exit (gid l)).exit'=.goto l:=by simp_all[gid,AX.exit']
def Post(X:Cx)(nt:NT)(s:St)(r:AX×St)(Q:Exit->Act->World->Prop):Prop:=∀Y a',Ext X Y->fu Y nt r.2 a'->s.nv<=r.2.nv->(∀v L,Y.ρ v=some L->X.ρ v=some L\/(s.nv<=v/\v<r.2.nv))->Q r.1.exit' a' Y.w
theorem Post.trans{X Y:Cx}{nt:NT}{s s':St}{r:AX×St}{Q:Exit->Act->World->Prop}(h:Post X nt s r Q)(hx:Ext X Y)(hn:s.nv<=s'.nv)(hd:∀v L,Y.ρ v=some L->X.ρ v=some L\/(s.nv<=v/\v<s'.nv)):Post Y nt s' r Q:=by intro Z a' hz hs hn' hd';refine h Z a' (hx.trans hz) hs (ml hn hn') λv L hv=>?_<;>grind
theorem Post.now{X:Cx}{nt:NT}{s:St}{a:Act}{x:AX}{Q:Exit->Act->World->Prop}(h:Post X nt s (x,s) Q)(hs:fu X nt s a):Q x.exit' a X.w:=h X a (Ext.refl X) hs (bc _) λ_ _ h=>.inl h
theorem wC{X Y:Cx}{n m:Nat}(h:∀v,n<=v->X.ρ v=none)(hn:n<=m)(hd:∀v L,Y.ρ v=some L->X.ρ v=some L\/(n<=v/\v<m)):∀v,m<=v->Y.ρ v=none:=by intro v hv;cases hY:Y.ρ v with|none=>rfl|some L=>grind
theorem Ext.drew(X:Cx):Ext X {X with w:=X.w.drew}:=⟨rfl,(eY.refl _ _).drew,λ_ _ h=>h,λ_ _ _=>rfl,λ_ _ h=>h,λ_ _ h=>.inl h⟩
theorem fu.drew{X:Cx}{nt:NT}{s:St}{a:Act}(h:fu X nt s a):fu {X with w:=X.w.drew} nt s a:=⟨λt=>(h.slots t).ext (Ext.drew X),h.size,h.defers,h.mem.move (Ext.drew X) (λ_ _ _ _ _ _=>rfl) (λ_ _ _ _ _ _ _ h=>h) h.mem.p7⟩
section
variable{P:Program}{nt:NT}{call:Go.bM.Call}{sh:Nat->Bool}{dm:Nat->Option TypeId}{rows:List (Nat×Nat)}
theorem EG{ops:Array Oper}{bs:List Nat}{l:List bE}(hb:bs.length=ops.size)(h:xE P dm nt rows ops (ops.toList.zip bs)=some l):Ll P dm nt ops l/\∀(i:Nat)(ao:bE),l[i]?=some ao->bs[i]?=some ao.n9:=by
 obtain⟨h1,h2⟩:=zo h;refine⟨⟨by rw[h1,List.length_zip];simp[hb],λi ao hi=>?_⟩,λi ao hi=>?_⟩;.obtain⟨o,b,g1,_,g2,g3,g4,g5⟩:=h2 i ao hi;have:=(List.getElem?_zip_eq_some.1 g1).1;exact⟨o,by simpa using this,g2,g3,g4,g5⟩
 .obtain⟨o,b,g1,g2,_⟩:=h2 i ao hi;have:=(List.getElem?_zip_eq_some.1 g1).2;rw[g2];exact this
theorem XA{ops:Array Oper}{bs:List Nat}{l:List bE}(aqG:l.length=ops.size)(hl:∀(i:Nat)(ao:bE),l[i]?=some ao->bs[i]?=some ao.n9)(h:Ed bs 0 ops.toList bs=true):RD ops l:=by
 have key:=λi o(ho:ops[i]?=some o)=>BL h i o (by simpa using ho);refine⟨λi o ho e he hb=>?_,λi o ao ho hao k hk RH=>?_⟩
 .obtain⟨b,_,h2⟩:=key i o ho;simp only[FX,am,km,f5,eK]at h2;rcases h2.1 e (by simpa using he)with h|h;.rw[show Edge.FV e=Region.binds .any e from rfl,hb]at h;cases h
  .rw[ma]at h;exact Nat.blt_eq.mp h
 .obtain⟨b,h1,h2⟩:=key i o ho;simp only[FX,am,km,f5,eK,sd]at h2;rcases h2.2 k (by omega)with h|h;.grind
  .obtain⟨e,he,h⟩:=ls.1 h;simp only[am,f5]at h;refine⟨e,by simpa using he,h.1,?_⟩;rcases h.2with h|h;.exact .inl (aw h)
   .refine .inr ⟨Nat.blt_eq.mp h.1,λao' amI=>?_⟩;have:=hl _ _ amI;rw[ci,this]at h;exact h.2
theorem OR(hm:P.follows .mixedOrders=true)(cH:eo P call)(gP:∀f T,dm f=some T->jZ P f T){X:Cx}{s s':St}{a:Act}{id:Nat}{ops:Array Oper}{draw:Bool}{l:List bE}{dr:Bool}(hp:W9 P dm nt rows ops draw=some (.region l dr))(hr:gh call sh l dr s=some s')(hs:fu X nt s a)(hdom:∀v,s.nv<=v->X.ρ v=none){Q:Exit->Act->World->Prop}(hQ:Post X nt s (.normal,s') Q):(Code.region id ops draw).wp P Q a X.w:=by
 have hs1:fu X nt {s with nv:=s.nv+l.length} a:=⟨hs.slots,hs.size,hs.defers,hs.mem⟩;unfold W9 at hp;cases draw with|false=>
  obtain⟨l',hl,hp⟩:=aQ hp;injection hp with h1 h2;subst h1;subst h2;have hz:ops.toList.map (λo=>(o,0))=ops.toList.zip (List.replicate ops.size 0):=by
   apply List.ext_getElem;.simp
   .simp
  rw[hz]at hl;obtain⟨wA,_⟩:=EG (by simp) hl;refine wp_region ?_;rw[<-wA.len,List.range_eq_range'];refine ED cH gP wA l' 0 _ s' X a (λk=>by simp) hr hs1 (λk _ _=>hdom _ (by omega)) (by simp) (λv hv=>hdom v (by simp at hv;omega)) λY a' hx hs' hn hd=>?_;exact hQ Y a' hx hs' (by simp at hn⊢;omega) hd|true=>
  simp at hp;split at hp
  .rename_i l' hb hl;split at hp
   .rename_i hap;injection hp with hp;injection hp with h1 h2;subst h1;subst h2;simp at hb;obtain⟨wA,Ij⟩:=EG hb.1 hl;have RF:=XA wA.len Ij hb.2;obtain⟨L,rfl,RG⟩:=Nb.abz hr;refine wp_region_any hm ?_;have hf:∀j,(Array.replicate ops.size false).getD j false=false:=λj=>by
     rw[i5];rcases f6 j ops.size with h|h;.simp[h]
     .simp[h]
    have hst:(HK {s with nv:=s.nv+l'.length} L λj=>(Array.replicate ops.size false).getD j false)={s with nv:=s.nv+l'.length}:=by unfold HK;rw[ro.2 λx _=>by show¬(Array.replicate ops.size false).getD x.1 false=true;rw[hf];exact Bool.false_ne_true];rfl
    refine abC cH gP wA RF hap RG ops.size _ {X with w:=X.w.drew} a (by simp) ?_ (λj o _ hj=>absurd ((hf j).symm.trans hj) (by decide)) ?_ (λk _ _=>hdom _ (by omega)) ?_ ?_ λY a' hx hs' hn hd=>?_;.simp_all
    .rw[hst];exact hs1.drew
    .rw[hst];simp[wA.len]
    .grind
    .rw[hst]at hn;exact hQ Y a' ((Ext.drew X).trans hx) hs' (by simp at hn⊢;omega) hd
   grind
  grind
def qU(P:Program)(c:Code)(Q:Exit->Act->World->Prop)(a:Act)(w:World):Prop:=∀(b:Frame)(k:List Item)(cs:List Frame),∃e a' w',Q e a' w'/\Arrives P (lone (b.at a (.code c::.inLoop c::k)) cs w) b k cs e a' w'
theorem qU.round{c:Code}{Q:Exit->Act->World->Prop}{a:Act}{w:World}(h:c.wp P (Exit.then (qU P c Q) Q) a w):qU P c Q a w:=by intro b k cs;obtain⟨e,a₁,w₁,hq,IA⟩:=h b (.inLoop c::k) cs;cases e with|normal=>obtain⟨e₂,a₂,w₂,hq₂,afW⟩:=hq b k cs;exact⟨e₂,a₂,w₂,hq₂,.of_steps (Steps.trans IA (.one step_inLoop)) afW⟩|exit id=>exact⟨_,a₁,w₁,hq,.pass (x:=.inLoop c) rfl (λ_ _=>.inl (by simp)) IA⟩|goto l=>exact⟨_,a₁,w₁,hq,.pass (x:=.inLoop c) rfl (λ_ _=>.inl (by simp)) IA⟩|ret=>exact⟨_,a₁,w₁,hq,.pass (x:=.inLoop c) rfl (λ_ _=>.inl (by simp)) IA⟩|panic ch=>exact⟨_,a₁,w₁,hq,.pass (x:=.inLoop c) rfl (λ_ _=>.inl (by simp)) IA⟩|outgrown=>exact⟨_,a₁,w₁,hq,.pass (x:=.inLoop c) rfl (λ_ _=>.inl (by simp)) IA⟩
theorem qU.wp{c:Code}{Q:Exit->Act->World->Prop}{a:Act}{w:World}(h:qU P c Q a w):(Code.loop c).wp P Q a w:=λb k cs=>let⟨e,a',w',hq,IA⟩:=h b k cs;⟨e,a',w',hq,.of_steps (.one step_loop) IA⟩
theorem iT(n:Nat)(c:AC)(s:St):exec call sh (n+1) c s=match c with
 |.skip=>some (.normal,s)|.region ops draw=>(gh call sh ops draw s).map λs'=>(.normal,s')|.seq a b=>match exec call sh n a s with|some (.normal,s')=>exec call sh n b s'|r=>r
 |.cond c a b=>match jH (c.ev s.slots)with|some true=>exec call sh n a s|some false=>exec call sh n b s|none=>none
 |.block id c=>match exec call sh n c s with
  |some (.exit id',s')=>match Nat.beq id' id with|true=>some (.normal,s')|false=>some (.exit id',s')
  |r=>r
 |.loop c=>match exec call sh n c s with|some (.normal,s')=>exec call sh n (.loop c) s'|r=>r
 |.exit id=>some (.exit id,s)|.ret=>some (.ret,s):=rfl
theorem OS:∀(n:Nat)(c:AC)(s:St)(r:AX×St),exec call sh n c s=some r->exec call sh (n+1) c s=some r:=by intro n;induction n with|zero=>simp_all[Call,exec]|succ n ih=>intro c s r h;cases c with
 |skip=>exact h|region ops draw=>exact h|exit id=>exact h|ret=>exact h|seq a b=>
  rw[iT n]at h;rw[iT (n+1)];dsimp at h⊢;split at h;.rename_i s' he;rw[ih _ _ _ he];exact ih _ _ _ h
  .rename_i hne;rw[ih _ _ _ h];obtain⟨x,s'⟩:=r;cases x with|normal=>exact absurd h (hne s')|exit id=>rfl|ret=>rfl
 |cond c a b=>
  rw[iT n]at h;rw[iT (n+1)];dsimp at h⊢;split at h;.exact ih _ _ _ h
  .exact ih _ _ _ h
  .cases h|block id c=>
  rw[iT n]at h;rw[iT (n+1)];dsimp at h⊢;split at h;.rename_i he;rw[ih _ _ _ he];exact h
  .rename_i hne;rw[ih _ _ _ h];obtain⟨x,s'⟩:=r;cases x with|normal=>rfl|exit id=>exact absurd h (hne id s')|ret=>rfl
 |loop c=>
  rw[iT n]at h;rw[iT (n+1)];dsimp at h⊢;split at h;.rename_i s' he;rw[ih _ _ _ he];exact ih _ _ _ h
  .rename_i hne;rw[ih _ _ _ h];obtain⟨x,s'⟩:=r;cases x with|normal=>exact absurd h (hne s')|exit id=>rfl|ret=>rfl
theorem Gv{n m:Nat}(hle:n<=m){c:AC}{s:St}{r:AX×St}(h:exec call sh n c s=some r):exec call sh m c s=some r:=by induction hle with|refl=>exact h|step _ ih=>exact OS _ _ _ _ ih
theorem EH{p:Nat->Bool}:∀(n:Nat)(c:AC)(s s':St)(id:Nat),leaves p c=true->exec call sh n c s=some (.exit id,s')->p id=true:=by intro n;induction n with|zero=>simp_all[Call,exec,leaves]|succ n ih=>intro c s s' id hl h;cases c with|skip=>simp[exec]at h|region ops draw=>simp_all[exec,leaves,Call]|exit id'=>cases h;exact hl|ret=>simp[exec]at h|seq a b=>simp[leaves,am]at hl;simp[exec]at h<;>grind|cond c a b=>simp[leaves,am]at hl;simp[exec]at h<;>grind|block id' c=>simp[leaves]at hl;simp[exec]at h<;>grind|loop c=>
 simp[leaves]at hl;simp[exec]at h;split at h;.exact ih (.loop c) _ _ _ hl h
 grind
theorem IB{n l:Nat}{c:AC}{s:St}{r:AX×St}(h:exec call sh n (.loop (.block (gid l) (.seq c (.exit (Ap l))))) s=some r):∃m x s',m<n/\exec call sh m c s=some (x,s')/\((x=.exit (gid l)/\exec call sh (n-1) (.loop (.block (gid l) (.seq c (.exit (Ap l))))) s'=some r)\/(x=.normal/\r=(.exit (Ap l),s'))\/(x≠.normal/\x≠.exit (gid l)/\r=(x,s'))):=by cases n with|zero=>simp[exec]at h|succ n=>
 have hk:Nat.beq (Ap l) (gid l)=false:=by cases hb:Nat.beq (Ap l) (gid l)with|false=>rfl|true=>simp_all[Ap,gid,exec,Call]
 simp[exec]at h;cases n with|zero=>simp[exec]at h|succ n=>cases n with|zero=>simp[exec]at h|succ n=>cases hc:exec call sh n c s with|none=>simp[exec,hc]at h|some xs=>obtain⟨x,s'⟩:=xs;refine⟨n,x,s',by omega,hc,?_⟩;cases n with|zero=>simp[exec]at hc|succ n=>cases x with
  |normal=>
   have e1:exec call sh (n+1) (.exit (Ap l)) s'=some (.exit (Ap l),s'):=rfl;have e2:exec call sh (n+1+1) (.seq c (.exit (Ap l))) s=some (.exit (Ap l),s'):=by rw[exec];simp[hc,e1]
   have e3:exec call sh (n+1+1+1) (.block (gid l) (.seq c (.exit (Ap l)))) s=some (.exit (Ap l),s'):=by rw[exec];simp[e2,hk]
   rw[e3]at h;simp at h;exact .inr (.inl ⟨rfl,h.symm⟩)|exit id=>
   have e2:exec call sh (n+1+1) (.seq c (.exit (Ap l))) s=some (.exit id,s'):=by rw[exec];simp[hc]
   cases hb:Nat.beq id (gid l)with|true=>
    have e3:exec call sh (n+1+1+1) (.block (gid l) (.seq c (.exit (Ap l)))) s=some (.normal,s'):=by rw[exec];simp[e2,hb]
    rw[e3]at h;exact .inl ⟨by rw[aw hb],h⟩|false=>
    have e3:exec call sh (n+1+1+1) (.block (gid l) (.seq c (.exit (Ap l)))) s=some (.exit id,s'):=by rw[exec];simp[e2,hb]
    rw[e3]at h;simp at h;exact .inr (.inr ⟨by simp,λhx=>by injection hx with hx;exact mi hb hx,h.symm⟩)
  |ret=>
   have e2:exec call sh (n+1+1) (.seq c (.exit (Ap l))) s=some (.ret,s'):=by rw[exec];simp[hc]
   have e3:exec call sh (n+1+1+1) (.block (gid l) (.seq c (.exit (Ap l)))) s=some (.ret,s'):=by rw[exec];simp[e2]
   rw[e3]at h;simp at h;exact .inr (.inr ⟨by simp,by simp,h.symm⟩)
section
open Classical
def kR(call:Call)(sh:Nat->Bool)(nt:NT)(Q:Exit->Act->World->Prop)(l:Nat)(c:AC)(m:Nat)(a:Act)(w:World):Prop:=∃Y s r,Y.w=w/\fu Y nt s a/\(∀v,s.nv<=v->Y.ρ v=none)/\exec call sh m (.loop (.block (gid l) (.seq c (.exit (Ap l))))) s=some r/\Post Y nt s ((match r.1with|.exit id=>if id=Ap l then .normal else .exit id|x=>x),r.2) Q
theorem least{p:Nat->Prop}:∀{n:Nat},p n->∃m,p m/\∀k,p k->m<=k:=by intro n;induction n using Nat.strongRecOn with|_ n ih=>grind
noncomputable def rounds(call:Call)(sh:Nat->Bool)(nt:NT)(Q:Exit->Act->World->Prop)(l:Nat)(c:AC)(a:Act)(w:World):Nat:=if h:∃m,kR call sh nt Q l c m a w then Classical.choose (least (p:=λm=>kR call sh nt Q l c m a w) h.choose_spec)else 0
theorem EI{Q:Exit->Act->World->Prop}{l:Nat}{c:AC}{m:Nat}{a:Act}{w:World}(h:kR call sh nt Q l c m a w):rounds call sh nt Q l c a w<=m:=by have hh:∃m,kR call sh nt Q l c m a w:=⟨m,h⟩;unfold rounds<;>grind
theorem OT{Q:Exit->Act->World->Prop}{l:Nat}{c:AC}{m:Nat}{a:Act}{w:World}(h:kR call sh nt Q l c m a w):kR call sh nt Q l c (rounds call sh nt Q l c a w) a w:=by have hh:∃m,kR call sh nt Q l c m a w:=⟨m,h⟩;unfold rounds;rw[dif_pos hh];exact(Classical.choose_spec (least (p:=λm=>kR call sh nt Q l c m a w) hh.choose_spec)).1
end
theorem EJ{A:Act->World->Prop}{Q:Exit->Act->World->Prop}{id:Nat}{a:Act}{w:World}(h:Q (AX.exit id).exit' a w):Exit.then A Q (AX.exit id).exit' a w:=by
 unfold AX.exit' at h⊢;simp at h⊢;split;.rename_i hb;rw[bb hb]at h;exact h
 .rename_i hb;rw[be hb]at h;exact h
section
variable{n:Nat}(HL:∀(c:Code)(ac:AC)(X:Cx)(s:St)(a:Act)(r:AX×St)(Q:Exit->Act->World->Prop),dU P dm nt rows c none=some ac->exec call sh n ac s=some r->fu X nt s a->(∀v,s.nv<=v->X.ρ v=none)->Post X nt s r Q->c.wp P Q a X.w)
include HL
theorem BM{c0:Code}{ac:AC}{l m:Nat}{a:Act}{w:World}{Q:Exit->Act->World->Prop}(hc:dU P dm nt rows c0 none=some ac)(hl:leaves (λid=>Nat.blt id gb||Nat.beq id (gid l)) ac=true)(hm:m<=n)(h:kR call sh nt Q l ac m a w):c0.wp P (Exit.jump l (λa' w'=>(∃k,k<=n/\kR call sh nt Q l ac k a' w')/\rounds call sh nt Q l ac a' w'<m) Q) a w:=by
 obtain⟨Y,s,r,rfl,hs,hdom,hex,hpost⟩:=h;obtain⟨m1,x,s',hlt,hx,afX⟩:=IB hex;refine HL c0 ac Y s a (x,s') _ hc (Gv (by omega) hx) hs hdom λZ a' hYZ W0 hn hd=>?_;rcases afX with⟨rfl,h1⟩|⟨rfl,h1⟩|⟨h1,h2,h3⟩;.rw[EF];have hR:kR call sh nt Q l ac (m-1) a' Z.w:=⟨Z,s',r,rfl,W0,wC hdom hn hd,h1,hpost.trans hYZ hn hd⟩;have:=EI hR;exact⟨rfl,⟨m-1,by omega,hR⟩,by omega⟩
 .subst h1;have:=hpost Z a' hYZ W0 hn hd;simp at this;exact this
 .subst h3;cases x with|normal=>grind|exit id=>
  have hb:=EH _ _ _ _ _ hl hx;have hlt':Nat.blt id gb=true:=by simp_all
  have hk:id≠Ap l:=by have:=f1 hlt';simp[Ap];omega
  have:=hpost Z a' hYZ W0 hn hd;simp[be hk]at this;rw[wB hlt']at this⊢;exact this|ret=>exact hpost Z a' hYZ W0 hn hd
theorem zp:∀(c:Code)(ac:AC)(l:Nat),dU P dm nt rows c (some l)=some ac->∃c0 QM,findLabel c l=some (.seq .skip c0)/\dU P dm nt rows c0 none=some QM/\leaves (λid=>Nat.blt id gb||Nat.beq id (gid l)) QM=true/\∀(m:Nat)(X:Cx)(s:St)(a:Act)(r:AX×St)(Q:Exit->Act->World->Prop),m<=n+1->exec call sh m ac s=some r->fu X nt s a->(∀v,s.nv<=v->X.ρ v=none)->Post X nt s r Q->c.wp P (Exit.jump l (λa' w'=>∃k,k<=n/\kR call sh nt Q l QM k a' w') Q) a X.w
 |.seq x y,ac,l,hc=>by
  rw[dU]at hc;split at hc
  .rename_i l' RJ;have hx:x=.label l':=by cases x<;>simp only[abd]at RJ<;>first|(injection RJ with RJ;rw[RJ])|cases RJ
   subst hx;split at hc
   .rename_i QM hb hc0;have hl':=aw hb;subst hl';unfold Q8 at hc;split at hc
    .rename_i hl;cases hc;refine⟨y,QM,by simp[findLabel],hc0,hl,λm X s a r Q hm hex hs hdom hpost=>?_⟩;have key:∃k r',k<=n/\exec call sh k (.loop (.block (gid l') (.seq QM (.exit (Ap l'))))) s=some r'/\r=((match r'.1with|.exit id=>if id=Ap l' then .normal else .exit id|x=>x),r'.2):=by cases m with|zero=>simp[exec]at hex|succ k=>
       rw[iT k]at hex;dsimp at hex;split at hex
       .rename_i id s' he;refine⟨k,_,by omega,he,?_⟩;split at hex;.simp_all
        .rename_i hid;cases hex;simp[be (mi hid)]
       .refine⟨k,_,by omega,hex,?_⟩;obtain⟨z,s'⟩:=r<;>simp_all
     obtain⟨k,r',hk,amJ,rfl⟩:=key;have hp:=BM HL hc0 hl hk ⟨X,s,r',rfl,hs,hdom,amJ,hpost⟩;have AF:=wp_mono (Q':=Exit.jump l' (λa' w'=>∃k,k<=n/\kR call sh nt Q l' QM k a' w') Q) hp λe a w h=>by cases e with|goto l=>exact⟨h.1,h.2.1⟩|_=>exact h
     exact wp_seq (wp_label AF)
    grind
   grind
  .split at hc
   .rename_i ax ay hf hx hy;split at hc;.rename_i hlv;cases hc;obtain⟨c0,QM,h1,h2,h3,h4⟩:=zp y ay l hy;refine⟨c0,QM,by simp[findLabel,hf,h1],h2,h3,λm X s a r Q hm hex hs hdom hpost=>?_⟩;cases m with|zero=>simp[exec]at hex|succ k=>
      rw[iT k]at hex;dsimp at hex;refine wp_seq ?_;split at hex;.rename_i s' he;refine HL x ax X s a (.normal,s') _ hx (Gv (by omega) he) hs hdom λY a' hx' hs' hn hd=>?_;exact h4 k Y s' a' r Q (by omega) hex hs' (wC hdom hn hd) (hpost.trans hx' hn hd)
      .refine HL x ax X s a r _ hx (Gv (by omega) hex) hs hdom λY a' hx' hs' hn hd=>?_;have:=hpost Y a' hx' hs' hn hd;obtain⟨z,s'⟩:=r;cases z with|normal=>grind|exit id=>have hb:=EH _ _ _ _ _ hlv hex;rw[wB hb]at this⊢;exact this|ret=>exact this
    grind
   grind|.skip,_,_,hc=>by simp[dU]at hc|.region ..,_,_,hc=>by simp[dU]at hc|.cond ..,_,_,hc=>by simp[dU]at hc|.block ..,_,_,hc=>by simp[dU]at hc|.loop ..,_,_,hc=>by simp[dU]at hc|.exit ..,_,_,hc=>by simp[dU]at hc|.goto ..,_,_,hc=>by simp[dU]at hc|.label ..,_,_,hc=>by simp[dU]at hc|.scope ..,_,_,hc=>by simp[dU]at hc|.ret,_,_,hc=>by simp[dU]at hc|.rangeFunc ..,_,_,hc=>by simp[dU]at hc|.refuse ..,_,_,hc=>by simp[dU]at hc
end
theorem AG(hm:P.follows .mixedOrders=true)(cH:eo P call)(gP:∀f T,dm f=some T->jZ P f T):∀(n:Nat),(∀(c:Code)(ac:AC)(X:Cx)(s:St)(a:Act)(r:AX×St)(Q:Exit->Act->World->Prop),dU P dm nt rows c none=some ac->exec call sh n ac s=some r->fu X nt s a->(∀v,s.nv<=v->X.ρ v=none)->Post X nt s r Q->c.wp P Q a X.w)/\(∀(c:Code)(ac:AC)(X:Cx)(s:St)(a:Act)(r:AX×St)(Q:Exit->Act->World->Prop),dU P dm nt rows c none=some ac->exec call sh n (.loop ac) s=some r->fu X nt s a->(∀v,s.nv<=v->X.ρ v=none)->Post X nt s r Q->qU P c Q a X.w):=by intro n;induction n with|zero=>simp_all[eo,Call,qU,Post,exec,dU]|succ n ih=>
 obtain⟨HL,ihB⟩:=ih;have B:∀(c:Code)(ac:AC)(X:Cx)(s:St)(a:Act)(r:AX×St)(Q:Exit->Act->World->Prop),dU P dm nt rows c none=some ac->exec call sh (n+1) (.loop ac) s=some r->fu X nt s a->(∀v,s.nv<=v->X.ρ v=none)->Post X nt s r Q->qU P c Q a X.w:=by
   intro c ac X s a r Q hc hr hs hdom hQ;simp[exec]at hr;refine qU.round ?_;split at hr;.rename_i s' he;refine HL c ac X s a (.normal,s') _ hc he hs hdom λY a' hx hs' hn hd=>?_;exact ihB c ac Y s' a' r Q hc hr hs' (wC hdom hn hd) (hQ.trans hx hn hd)
   .rename_i hne;refine HL c ac X s a r _ hc hr hs hdom λY a' hx hs' hn hd=>?_;have:=hQ Y a' hx hs' hn hd;obtain⟨x,s'⟩:=r;cases x with|normal=>exact absurd hr (hne s')|exit id=>exact EJ this|ret=>exact this
 refine⟨λc ac X s a r Q hc hr hs hdom hQ=>?_,B⟩;cases c with
 |skip=>cases hc;cases hr;exact wp_skip (hQ.now hs)|region id ops draw=>
   simp[dU]at hc;have:∃l dr,ac=.region l dr:=by
    unfold W9 at hc;split at hc;.obtain⟨l,_,rfl⟩:=aQ hc;exact⟨_,_,rfl⟩
    .simp at hc;split at hc
     .split at hc;.injection hc with hc;exact⟨_,_,hc.symm⟩
      .cases hc
     .cases hc
   obtain⟨l,dr,rfl⟩:=this;obtain⟨s',hr',rfl⟩:=aQ hr;exact OR hm cH gP hc hr' hs hdom hQ|seq x y=>
   simp[dU]at hc;split at hc
   .rename_i ax ay hx hy;cases hc;simp[exec]at hr;refine wp_seq ?_;split at hr;.rename_i s' he;refine HL x ax X s a (.normal,s') _ hx he hs hdom λY a' hx' hs' hn hd=>?_;exact HL y ay Y s' a' r Q hy hr hs' (wC hdom hn hd) (hQ.trans hx' hn hd)
    .rename_i hne;refine HL x ax X s a r _ hx hr hs hdom λY a' hx' hs' hn hd=>?_;have:=hQ Y a' hx' hs' hn hd;obtain⟨z,s'⟩:=r;cases z with|normal=>exact absurd hr (hne s')|exit id=>exact EJ this|ret=>exact this
   .cases hc|cond c x y=>
   simp[dU]at hc;split at hc
   .rename_i c' ax ay DH hx hy;cases hc;simp[exec]at hr;have hv:=bB hs DH;split at hr;.rename_i hb;exact wp_cond_true (om hb hv) (HL x ax X s a r Q hx hr hs hdom hQ)
    .rename_i hb;exact wp_cond_false (om hb hv) (HL y ay X s a r Q hy hr hs hdom hQ)
    .cases hr
   .cases hc|block id c=>
   simp[dU]at hc;split at hc
   .rename_i abF;obtain⟨ac',DH,rfl⟩:=aQ hc;simp[exec]at hr;refine wp_block ?_;split at hr
    .rename_i id' s' he;split at hr;.rename_i hid;cases hr;refine HL c ac' X s a (.exit id',s') _ DH he hs hdom λY a' hx' hs' hn hd=>?_;have:=hQ Y a' hx' hs' hn hd;have hid:=aw hid;subst hid;rw[wB abF];simp[Exit.inBlock,ii];exact this
     .rename_i hid;cases hr;refine HL c ac' X s a (.exit id',s') _ DH he hs hdom λY a' hx' hs' hn hd=>?_;have:=hQ Y a' hx' hs' hn hd;simp[AX.exit']at this⊢;split;.rename_i hb;rw[bb hb]at this;simp[Exit.inBlock,mi hid,m6];exact this
      .rename_i hb;rw[be hb]at this;exact this
    .rename_i hne;refine HL c ac' X s a r _ DH hr hs hdom λY a' hx' hs' hn hd=>?_;have:=hQ Y a' hx' hs' hn hd;obtain⟨z,s'⟩:=r;cases z with|normal=>exact this|exit id=>exact absurd hr (hne id s')|ret=>exact this
   .cases hc|loop c=>obtain⟨ac',DH,rfl⟩:=aQ hc;exact(B c ac' X s a r Q DH hr hs hdom hQ).wp|exit id=>
   simp[dU]at hc;split at hc;.rename_i abF;cases hc;cases hr;have:=hQ.now hs;rw[wB abF]at this;exact wp_exit this
   .cases hc|goto l=>cases hc;cases hr;have:=hQ.now hs;rw[EF]at this;exact wp_goto this|scope c=>
   simp[dU]at hc;split at hc;.rename_i l hl;obtain⟨c0,QM,h1,h2,h3,h4⟩:=zp HL c ac l hc;refine wp_scope_jumps l (λa w=>∃k,k<=n/\kR call sh nt Q l QM k a w) (rounds call sh nt Q l QM) h1 (h4 (n+1) X s a r Q (bc _) hr hs hdom hQ) λa w hJ=>?_;obtain⟨k,hk,hR⟩:=hJ;exact wp_seq (wp_skip (BM HL h2 h3 (ml (EI hR) hk) (OT hR)))
   .cases hc|ret=>cases hc;cases hr;exact wp_ret (hQ.now hs)|_=>simp[dU]at hc
end
end Go.bM
