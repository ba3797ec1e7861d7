/- Code of the program against the machine of pure data. -/
import Derived.Test.YtgkllgjmfpjeoaaGreatDoorEngY
import Derived.ScopeJumps
set_option linter.unusedVariables false
set_option linter.unusedSimpArgs false
namespace Go.bJ
open Go Go.RowKit
def AX.exit':AX->Exit|.normal=>.normal|.exit id=>if Nat.blt id gb=true then .exit id else .goto ((id-gb)/2)|.ret=>.ret
theorem vA{id:Nat}(h:Nat.blt id gb=true):(AX.exit id).exit'=.exit id:=by simp[AX.exit',h]
theorem Dz(l:Nat):(AX.exit (gid l)).exit'=.goto l:=by simp_all[gid,AX.exit']
def Post(X:Cx)(nt:Nat)(s:St)(r:AX×St)(Q:Exit->Act->World->Prop):Prop:=∀Y a',Ext X Y->fo Y nt r.2 a'->s.nv<=r.2.nv->(∀v L,Y.ρ v=some L->X.ρ v=some L\/(s.nv<=v/\v<r.2.nv))->Q r.1.exit' a' Y.w
theorem Post.trans{X Y:Cx}{nt:Nat}{s s':St}{r:AX×St}{Q:Exit->Act->World->Prop}(h:Post X nt s r Q)(hx:Ext X Y)(hn:s.nv<=s'.nv)(hd:∀v L,Y.ρ v=some L->X.ρ v=some L\/(s.nv<=v/\v<s'.nv)):Post Y nt s' r Q:=by intro Z a' hz hs hn' hd';refine h Z a' (hx.trans hz) hs (Nat.le_trans hn hn') λv L hv=>?_<;>grind
theorem Post.now{X:Cx}{nt:Nat}{s:St}{a:Act}{x:AX}{Q:Exit->Act->World->Prop}(h:Post X nt s (x,s) Q)(hs:fo X nt s a):Q x.exit' a X.w:=h X a (Ext.refl X) hs (Nat.le_refl _) λ_ _ h=>.inl h
theorem vB{X Y:Cx}{n m:Nat}(h:∀v,n<=v->X.ρ v=none)(hn:n<=m)(hd:∀v L,Y.ρ v=some L->X.ρ v=some L\/(n<=v/\v<m)):∀v,m<=v->Y.ρ v=none:=by intro v hv;cases hY:Y.ρ v with|none=>rfl|some L=>grind
theorem Ext.drew(X:Cx):Ext X {X with w:=X.w.drew}:=⟨rfl,(eo.refl _ _).drew,λ_ _ h=>h,λ_ _ _=>rfl,λ_ _ h=>h,λ_ _ h=>.inl h⟩
theorem fo.drew{X:Cx}{nt:Nat}{s:St}{a:Act}(h:fo X nt s a):fo {X with w:=X.w.drew} nt s a:=⟨λt=>(h.slots t).ext (Ext.drew X),h.size,h.defers,h.mem.move (Ext.drew X) (λ_ _ _ _ _ _=>rfl) (λ_ _ _ _ _ _ _ h=>h) h.mem.oL⟩
section
variable{P:Program}{nt:Nat}{call:Go.bJ.Call}{sh:Nat->Bool}{eB:Nat->Option TypeId}{rows:List (Nat×Nat)}
theorem DA{ops:Array Oper}{bs:List Nat}{l:List bz}(hb:bs.length=ops.size)(h:wP P eB nt rows ops (ops.toList.zip bs)=some l):Ki P eB nt ops l/\∀(i:Nat)(ao:bz),l[i]?=some ao->bs[i]?=some ao.nh:=by
 obtain⟨h1,h2⟩:=yq h;refine⟨⟨by rw[h1,List.length_zip];simp[hb],λi ao hi=>?_⟩,λi ao hi=>?_⟩;.obtain⟨o,b,g1,_,g2,g3,g4,g5⟩:=h2 i ao hi;have:=(List.getElem?_zip_eq_some.1 g1).1;exact⟨o,by simpa using this,g2,g3,g4,g5⟩
 .obtain⟨o,b,g1,g2,_⟩:=h2 i ao hi;have:=(List.getElem?_zip_eq_some.1 g1).2;rw[g2];exact this
theorem Vy{ops:Array Oper}{bs:List Nat}{l:List bz}(amI:l.length=ops.size)(hl:∀(i:Nat)(ao:bz),l[i]?=some ao->bs[i]?=some ao.nh)(h:Da bs 0 ops.toList bs=true):QM ops l:=by
 have key:=λi o(ho:ops[i]?=some o)=>AI h i o (by simpa using ho);refine⟨λi o ho e he hb=>?_,λi o ao ho hao k hk QS=>?_⟩
 .obtain⟨b,_,h2⟩:=key i o ho;simp only[E3,Bool.and_eq_true,List.all_eq_true,Bool.or_eq_true,Bool.not_eq_true']at h2;rcases h2.1 e (by simpa using he)with h|h;.rw[show Edge.E1 e=Region.binds .any e from rfl,hb]at h;cases h
  .rw[Nat.zero_add]at h;exact Nat.blt_eq.mp h
 .obtain⟨b,h1,h2⟩:=key i o ho;simp only[E3,Bool.and_eq_true,List.all_eq_true,Bool.or_eq_true,Bool.not_eq_true',List.mem_range]at h2;rcases h2.2 k (by omega)with h|h;.grind
  .obtain⟨e,he,h⟩:=List.any_eq_true.1 h;simp only[Bool.and_eq_true,Bool.or_eq_true]at h;refine⟨e,by simpa using he,h.1,?_⟩;rcases h.2with h|h;.exact .inl (Nat.eq_of_beq_eq_true h)
   .refine .inr ⟨Nat.blt_eq.mp h.1,λao' ai2=>?_⟩;have:=hl _ _ ai2;rw[List.getD_eq_getElem?_getD,this]at h;exact h.2
theorem N0(hm:P.follows .mixedOrders=true)(cT:cM P call)(jw:∀f T,eB f=some T->kP P f T){X:Cx}{s s':St}{a:Act}{id:Nat}{ops:Array Oper}{draw:Bool}{l:List bz}{dr:Bool}(hp:U7 P eB nt rows ops draw=some (.region l dr))(hr:jc call sh l dr s=some s')(hs:fo X nt s a)(hdom:∀v,s.nv<=v->X.ρ v=none){Q:Exit->Act->World->Prop}(hQ:Post X nt s (.normal,s') Q):(Code.region id ops draw).wp P Q a X.w:=by
 have hs1:fo X nt {s with nv:=s.nv+l.length} a:=⟨hs.slots,hs.size,hs.defers,hs.mem⟩;unfold U7 at hp;cases draw with|false=>
  obtain⟨l',hl,hp⟩:=aN hp;injection hp with h1 h2;subst h1;subst h2;have hz:ops.toList.map (λo=>(o,0))=ops.toList.zip (List.replicate ops.size 0):=by
   apply List.ext_getElem;.simp
   .simp
  rw[hz]at hl;obtain⟨vz,_⟩:=DA (by simp) hl;refine wp_region ?_;rw[<-vz.len,List.range_eq_range'];refine Dx cT jw vz l' 0 _ s' X a (λk=>by simp) hr hs1 (λk _ _=>hdom _ (by omega)) (by simp) (λv hv=>hdom v (by simp at hv;omega)) λY a' hx hs' hn hd=>?_;exact hQ Y a' hx hs' (by simp at hn⊢;omega) hd|true=>
  simp at hp;split at hp
  .rename_i l' hb hl;split at hp
   .rename_i hap;injection hp with hp;injection hp with h1 h2;subst h1;subst h2;simp at hb;obtain⟨vz,P3⟩:=DA hb.1 hl;have QN:=Vy vz.len P3 hb.2;obtain⟨L,rfl,QO⟩:=Mp.of_run hr;refine wp_region_any hm ?_;have hf:∀j,(Array.replicate ops.size false).getD j false=false:=λj=>by
     rw[Array.getD_eq_getD_getElem?];rcases Nat.lt_or_ge j ops.size with h|h;.simp[h]
     .simp[h]
    have hst:(GH {s with nv:=s.nv+l'.length} L λj=>(Array.replicate ops.size false).getD j false)={s with nv:=s.nv+l'.length}:=by unfold GH;rw[List.filter_eq_nil_iff.2 λx _=>by show¬(Array.replicate ops.size false).getD x.1 false=true;rw[hf];exact Bool.false_ne_true];rfl
    refine ZY cT jw vz QN hap QO ops.size _ {X with w:=X.w.drew} a (by simp) ?_ (λj o _ hj=>absurd ((hf j).symm.trans hj) (by decide)) ?_ (λk _ _=>hdom _ (by omega)) ?_ ?_ λY a' hx hs' hn hd=>?_;.simp_all
    .rw[hst];exact hs1.drew
    .rw[hst];simp[vz.len]
    .grind
    .rw[hst]at hn;exact hQ Y a' ((Ext.drew X).trans hx) hs' (by simp at hn⊢;omega) hd
   grind
  grind
def qg(P:Program)(c:Code)(Q:Exit->Act->World->Prop)(a:Act)(w:World):Prop:=∀(b:Frame)(k:List Item)(cs:List Frame),∃e a' w',Q e a' w'/\Arrives P (lone (b.at a (.code c::.inLoop c::k)) cs w) b k cs e a' w'
theorem qg.round{c:Code}{Q:Exit->Act->World->Prop}{a:Act}{w:World}(h:c.wp P (Exit.then (qg P c Q) Q) a w):qg P c Q a w:=by intro b k cs;obtain⟨e,a₁,w₁,hq,HB⟩:=h b (.inLoop c::k) cs;cases e with|normal=>obtain⟨e₂,a₂,w₂,hq₂,adI⟩:=hq b k cs;exact⟨e₂,a₂,w₂,hq₂,.of_steps (Steps.trans HB (.one step_inLoop)) adI⟩|exit id=>exact⟨_,a₁,w₁,hq,.pass (x:=.inLoop c) rfl (λ_ _=>.inl (by simp)) HB⟩|goto l=>exact⟨_,a₁,w₁,hq,.pass (x:=.inLoop c) rfl (λ_ _=>.inl (by simp)) HB⟩|ret=>exact⟨_,a₁,w₁,hq,.pass (x:=.inLoop c) rfl (λ_ _=>.inl (by simp)) HB⟩|panic ch=>exact⟨_,a₁,w₁,hq,.pass (x:=.inLoop c) rfl (λ_ _=>.inl (by simp)) HB⟩|outgrown=>exact⟨_,a₁,w₁,hq,.pass (x:=.inLoop c) rfl (λ_ _=>.inl (by simp)) HB⟩
theorem qg.wp{c:Code}{Q:Exit->Act->World->Prop}{a:Act}{w:World}(h:qg P c Q a w):(Code.loop c).wp P Q a w:=λb k cs=>let⟨e,a',w',hq,HB⟩:=h b k cs;⟨e,a',w',hq,.of_steps (.one step_loop) HB⟩
theorem iu(n:Nat)(c:AC)(s:St):exec call sh (n+1) c s=match c with
 |.skip=>some (.normal,s)|.region ops draw=>(jc call sh ops draw s).map λs'=>(.normal,s')|.seq a b=>match exec call sh n a s with|some (.normal,s')=>exec call sh n b s'|r=>r
 |.cond c a b=>match ja (c.ev s.slots)with|some true=>exec call sh n a s|some false=>exec call sh n b s|none=>none
 |.block id c=>match exec call sh n c s with
  |some (.exit id',s')=>match Nat.beq id' id with|true=>some (.normal,s')|false=>some (.exit id',s')
  |r=>r
 |.loop c=>match exec call sh n c s with|some (.normal,s')=>exec call sh n (.loop c) s'|r=>r
 |.exit id=>some (.exit id,s)|.ret=>some (.ret,s):=rfl
theorem N1:∀(n:Nat)(c:AC)(s:St)(r:AX×St),exec call sh n c s=some r->exec call sh (n+1) c s=some r:=by intro n;induction n with|zero=>simp_all[Call,exec]|succ n ih=>intro c s r h;cases c with
 |skip=>exact h|region ops draw=>exact h|exit id=>exact h|ret=>exact h|seq a b=>
  rw[iu n]at h;rw[iu (n+1)];dsimp at h⊢;split at h;.rename_i s' he;rw[ih _ _ _ he];exact ih _ _ _ h
  .rename_i hne;rw[ih _ _ _ h];obtain⟨x,s'⟩:=r;cases x with|normal=>exact absurd h (hne s')|exit id=>rfl|ret=>rfl
 |cond c a b=>
  rw[iu n]at h;rw[iu (n+1)];dsimp at h⊢;split at h;.exact ih _ _ _ h
  .exact ih _ _ _ h
  .cases h|block id c=>
  rw[iu n]at h;rw[iu (n+1)];dsimp at h⊢;split at h;.rename_i he;rw[ih _ _ _ he];exact h
  .rename_i hne;rw[ih _ _ _ h];obtain⟨x,s'⟩:=r;cases x with|normal=>rfl|exit id=>exact absurd h (hne id s')|ret=>rfl
 |loop c=>
  rw[iu n]at h;rw[iu (n+1)];dsimp at h⊢;split at h;.rename_i s' he;rw[ih _ _ _ he];exact ih _ _ _ h
  .rename_i hne;rw[ih _ _ _ h];obtain⟨x,s'⟩:=r;cases x with|normal=>exact absurd h (hne s')|exit id=>rfl|ret=>rfl
theorem Fu{n m:Nat}(hle:n<=m){c:AC}{s:St}{r:AX×St}(h:exec call sh n c s=some r):exec call sh m c s=some r:=by induction hle with|refl=>exact h|step _ ih=>exact N1 _ _ _ _ ih
theorem DB{p:Nat->Bool}:∀(n:Nat)(c:AC)(s s':St)(id:Nat),leaves p c=true->exec call sh n c s=some (.exit id,s')->p id=true:=by intro n;induction n with|zero=>simp_all[Call,exec,leaves]|succ n ih=>intro c s s' id hl h;cases c with|skip=>simp[exec]at h|region ops draw=>simp_all[exec,leaves,Call]|exit id'=>cases h;exact hl|ret=>simp[exec]at h|seq a b=>simp[leaves,Bool.and_eq_true]at hl;simp[exec]at h<;>grind|cond c a b=>simp[leaves,Bool.and_eq_true]at hl;simp[exec]at h<;>grind|block id' c=>simp[leaves]at hl;simp[exec]at h<;>grind|loop c=>
 simp[leaves]at hl;simp[exec]at h;split at h;.exact ih (.loop c) _ _ _ hl h
 grind
theorem HC{n l:Nat}{c:AC}{s:St}{r:AX×St}(h:exec call sh n (.loop (.block (gid l) (.seq c (.exit (zp l))))) s=some r):∃m x s',m<n/\exec call sh m c s=some (x,s')/\((x=.exit (gid l)/\exec call sh (n-1) (.loop (.block (gid l) (.seq c (.exit (zp l))))) s'=some r)\/(x=.normal/\r=(.exit (zp l),s'))\/(x≠.normal/\x≠.exit (gid l)/\r=(x,s'))):=by cases n with|zero=>simp[exec]at h|succ n=>
 have hk:Nat.beq (zp l) (gid l)=false:=by cases hb:Nat.beq (zp l) (gid l)with|false=>rfl|true=>simp_all[zp,gid,exec,Call]
 simp[exec]at h;cases n with|zero=>simp[exec]at h|succ n=>cases n with|zero=>simp[exec]at h|succ n=>cases hc:exec call sh n c s with|none=>simp[exec,hc]at h|some xs=>obtain⟨x,s'⟩:=xs;refine⟨n,x,s',by omega,hc,?_⟩;cases n with|zero=>simp[exec]at hc|succ n=>cases x with
  |normal=>
   have e1:exec call sh (n+1) (.exit (zp l)) s'=some (.exit (zp l),s'):=rfl;have e2:exec call sh (n+1+1) (.seq c (.exit (zp l))) s=some (.exit (zp l),s'):=by rw[exec];simp[hc,e1]
   have e3:exec call sh (n+1+1+1) (.block (gid l) (.seq c (.exit (zp l)))) s=some (.exit (zp l),s'):=by rw[exec];simp[e2,hk]
   rw[e3]at h;simp at h;exact .inr (.inl ⟨rfl,h.symm⟩)|exit id=>
   have e2:exec call sh (n+1+1) (.seq c (.exit (zp l))) s=some (.exit id,s'):=by rw[exec];simp[hc]
   cases hb:Nat.beq id (gid l)with|true=>
    have e3:exec call sh (n+1+1+1) (.block (gid l) (.seq c (.exit (zp l)))) s=some (.normal,s'):=by rw[exec];simp[e2,hb]
    rw[e3]at h;exact .inl ⟨by rw[Nat.eq_of_beq_eq_true hb],h⟩|false=>
    have e3:exec call sh (n+1+1+1) (.block (gid l) (.seq c (.exit (zp l)))) s=some (.exit id,s'):=by rw[exec];simp[e2,hb]
    rw[e3]at h;simp at h;exact .inr (.inr ⟨by simp,λhx=>by injection hx with hx;exact Nat.ne_of_beq_eq_false hb hx,h.symm⟩)
  |ret=>
   have e2:exec call sh (n+1+1) (.seq c (.exit (zp l))) s=some (.ret,s'):=by rw[exec];simp[hc]
   have e3:exec call sh (n+1+1+1) (.block (gid l) (.seq c (.exit (zp l)))) s=some (.ret,s'):=by rw[exec];simp[e2]
   rw[e3]at h;simp at h;exact .inr (.inr ⟨by simp,by simp,h.symm⟩)
section
open Classical
def j9(call:Call)(sh:Nat->Bool)(nt:Nat)(Q:Exit->Act->World->Prop)(l:Nat)(c:AC)(m:Nat)(a:Act)(w:World):Prop:=∃Y s r,Y.w=w/\fo Y nt s a/\(∀v,s.nv<=v->Y.ρ v=none)/\exec call sh m (.loop (.block (gid l) (.seq c (.exit (zp l))))) s=some r/\Post Y nt s ((match r.1with|.exit id=>if id=zp l then .normal else .exit id|x=>x),r.2) Q
theorem least{p:Nat->Prop}:∀{n:Nat},p n->∃m,p m/\∀k,p k->m<=k:=by intro n;induction n using Nat.strongRecOn with|_ n ih=>grind
noncomputable def rounds(call:Call)(sh:Nat->Bool)(nt:Nat)(Q:Exit->Act->World->Prop)(l:Nat)(c:AC)(a:Act)(w:World):Nat:=if h:∃m,j9 call sh nt Q l c m a w then Classical.choose (least (p:=λm=>j9 call sh nt Q l c m a w) h.choose_spec)else 0
theorem DC{Q:Exit->Act->World->Prop}{l:Nat}{c:AC}{m:Nat}{a:Act}{w:World}(h:j9 call sh nt Q l c m a w):rounds call sh nt Q l c a w<=m:=by have hh:∃m,j9 call sh nt Q l c m a w:=⟨m,h⟩;unfold rounds<;>grind
theorem N2{Q:Exit->Act->World->Prop}{l:Nat}{c:AC}{m:Nat}{a:Act}{w:World}(h:j9 call sh nt Q l c m a w):j9 call sh nt Q l c (rounds call sh nt Q l c a w) a w:=by have hh:∃m,j9 call sh nt Q l c m a w:=⟨m,h⟩;unfold rounds;rw[dif_pos hh];exact(Classical.choose_spec (least (p:=λm=>j9 call sh nt Q l c m a w) hh.choose_spec)).1
end
theorem DD{A:Act->World->Prop}{Q:Exit->Act->World->Prop}{id:Nat}{a:Act}{w:World}(h:Q (AX.exit id).exit' a w):Exit.then A Q (AX.exit id).exit' a w:=by
 unfold AX.exit' at h⊢;simp at h⊢;split;.rename_i hb;rw[if_pos hb]at h;exact h
 .rename_i hb;rw[if_neg hb]at h;exact h
section
variable{n:Nat}(GI:∀(c:Code)(ac:AC)(X:Cx)(s:St)(a:Act)(r:AX×St)(Q:Exit->Act->World->Prop),dF P eB nt rows c none=some ac->exec call sh n ac s=some r->fo X nt s a->(∀v,s.nv<=v->X.ρ v=none)->Post X nt s r Q->c.wp P Q a X.w)
include GI
theorem AJ{c0:Code}{ac:AC}{l m:Nat}{a:Act}{w:World}{Q:Exit->Act->World->Prop}(hc:dF P eB nt rows c0 none=some ac)(hl:leaves (λid=>Nat.blt id gb||Nat.beq id (gid l)) ac=true)(hm:m<=n)(h:j9 call sh nt Q l ac m a w):c0.wp P (Exit.jump l (λa' w'=>(∃k,k<=n/\j9 call sh nt Q l ac k a' w')/\rounds call sh nt Q l ac a' w'<m) Q) a w:=by
 obtain⟨Y,s,r,rfl,hs,hdom,hex,hpost⟩:=h;obtain⟨m1,x,s',hlt,hx,adJ⟩:=HC hex;refine GI c0 ac Y s a (x,s') _ hc (Fu (by omega) hx) hs hdom λZ a' hYZ hsZ hn hd=>?_;rcases adJ with⟨rfl,h1⟩|⟨rfl,h1⟩|⟨h1,h2,h3⟩;.rw[Dz];have hR:j9 call sh nt Q l ac (m-1) a' Z.w:=⟨Z,s',r,rfl,hsZ,vB hdom hn hd,h1,hpost.trans hYZ hn hd⟩;have:=DC hR;exact⟨rfl,⟨m-1,by omega,hR⟩,by omega⟩
 .subst h1;have:=hpost Z a' hYZ hsZ hn hd;simp at this;exact this
 .subst h3;cases x with|normal=>grind|exit id=>
  have hb:=DB _ _ _ _ _ hl hx;have hlt':Nat.blt id gb=true:=by simp_all
  have hk:id≠zp l:=by have:=Nat.le_of_ble_eq_true hlt';simp[zp];omega
  have:=hpost Z a' hYZ hsZ hn hd;simp[if_neg hk]at this;rw[vA hlt']at this⊢;exact this|ret=>exact hpost Z a' hYZ hsZ hn hd
theorem yt:∀(c:Code)(ac:AC)(l:Nat),dF P eB nt rows c (some l)=some ac->∃c0 P5,findLabel c l=some (.seq .skip c0)/\dF P eB nt rows c0 none=some P5/\leaves (λid=>Nat.blt id gb||Nat.beq id (gid l)) P5=true/\∀(m:Nat)(X:Cx)(s:St)(a:Act)(r:AX×St)(Q:Exit->Act->World->Prop),m<=n+1->exec call sh m ac s=some r->fo X nt s a->(∀v,s.nv<=v->X.ρ v=none)->Post X nt s r Q->c.wp P (Exit.jump l (λa' w'=>∃k,k<=n/\j9 call sh nt Q l P5 k a' w') Q) a X.w
 |.seq x y,ac,l,hc=>by
  rw[dF]at hc;split at hc
  .rename_i l' QT;have hx:x=.label l':=by cases x<;>simp only[ZC]at QT<;>first|(injection QT with QT;rw[QT])|cases QT
   subst hx;split at hc
   .rename_i P5 hb hc0;have hl':=Nat.eq_of_beq_eq_true hb;subst hl';unfold Ql at hc;split at hc
    .rename_i hl;cases hc;refine⟨y,P5,by simp[findLabel],hc0,hl,λm X s a r Q hm hex hs hdom hpost=>?_⟩;have key:∃k r',k<=n/\exec call sh k (.loop (.block (gid l') (.seq P5 (.exit (zp l'))))) s=some r'/\r=((match r'.1with|.exit id=>if id=zp l' then .normal else .exit id|x=>x),r'.2):=by cases m with|zero=>simp[exec]at hex|succ k=>
       rw[iu k]at hex;dsimp at hex;split at hex
       .rename_i id s' he;refine⟨k,_,by omega,he,?_⟩;split at hex;.simp_all
        .rename_i hid;cases hex;simp[if_neg (Nat.ne_of_beq_eq_false hid)]
       .refine⟨k,_,by omega,hex,?_⟩;obtain⟨z,s'⟩:=r<;>simp_all
     obtain⟨k,r',hk,ai3,rfl⟩:=key;have hp:=AJ GI hc0 hl hk ⟨X,s,r',rfl,hs,hdom,ai3,hpost⟩;have hp':=wp_mono (Q':=Exit.jump l' (λa' w'=>∃k,k<=n/\j9 call sh nt Q l' P5 k a' w') Q) hp λe a w h=>by cases e with|goto l=>exact⟨h.1,h.2.1⟩|_=>exact h
     exact wp_seq (wp_label hp')
    grind
   grind
  .split at hc
   .rename_i ax ay hf hx hy;split at hc;.rename_i hlv;cases hc;obtain⟨c0,P5,h1,h2,h3,h4⟩:=yt y ay l hy;refine⟨c0,P5,by simp[findLabel,hf,h1],h2,h3,λm X s a r Q hm hex hs hdom hpost=>?_⟩;cases m with|zero=>simp[exec]at hex|succ k=>
      rw[iu k]at hex;dsimp at hex;refine wp_seq ?_;split at hex;.rename_i s' he;refine GI x ax X s a (.normal,s') _ hx (Fu (by omega) he) hs hdom λY a' hx' hs' hn hd=>?_;exact h4 k Y s' a' r Q (by omega) hex hs' (vB hdom hn hd) (hpost.trans hx' hn hd)
      .refine GI x ax X s a r _ hx (Fu (by omega) hex) hs hdom λY a' hx' hs' hn hd=>?_;have:=hpost Y a' hx' hs' hn hd;obtain⟨z,s'⟩:=r;cases z with|normal=>grind|exit id=>have hb:=DB _ _ _ _ _ hlv hex;rw[vA hb]at this⊢;exact this|ret=>exact this
    grind
   grind|.skip,_,_,hc=>by simp[dF]at hc|.region ..,_,_,hc=>by simp[dF]at hc|.cond ..,_,_,hc=>by simp[dF]at hc|.block ..,_,_,hc=>by simp[dF]at hc|.loop ..,_,_,hc=>by simp[dF]at hc|.exit ..,_,_,hc=>by simp[dF]at hc|.goto ..,_,_,hc=>by simp[dF]at hc|.label ..,_,_,hc=>by simp[dF]at hc|.scope ..,_,_,hc=>by simp[dF]at hc|.ret,_,_,hc=>by simp[dF]at hc|.rangeFunc ..,_,_,hc=>by simp[dF]at hc|.refuse ..,_,_,hc=>by simp[dF]at hc
end
theorem Mr(hm:P.follows .mixedOrders=true)(cT:cM P call)(jw:∀f T,eB f=some T->kP P f T):∀(n:Nat),(∀(c:Code)(ac:AC)(X:Cx)(s:St)(a:Act)(r:AX×St)(Q:Exit->Act->World->Prop),dF P eB nt rows c none=some ac->exec call sh n ac s=some r->fo X nt s a->(∀v,s.nv<=v->X.ρ v=none)->Post X nt s r Q->c.wp P Q a X.w)/\(∀(c:Code)(ac:AC)(X:Cx)(s:St)(a:Act)(r:AX×St)(Q:Exit->Act->World->Prop),dF P eB nt rows c none=some ac->exec call sh n (.loop ac) s=some r->fo X nt s a->(∀v,s.nv<=v->X.ρ v=none)->Post X nt s r Q->qg P c Q a X.w):=by intro n;induction n with|zero=>simp_all[cM,Call,qg,Post,exec,dF]|succ n ih=>
 obtain⟨GI,ihB⟩:=ih;have B:∀(c:Code)(ac:AC)(X:Cx)(s:St)(a:Act)(r:AX×St)(Q:Exit->Act->World->Prop),dF P eB nt rows c none=some ac->exec call sh (n+1) (.loop ac) s=some r->fo X nt s a->(∀v,s.nv<=v->X.ρ v=none)->Post X nt s r Q->qg P c Q a X.w:=by
   intro c ac X s a r Q hc hr hs hdom hQ;simp[exec]at hr;refine qg.round ?_;split at hr;.rename_i s' he;refine GI c ac X s a (.normal,s') _ hc he hs hdom λY a' hx hs' hn hd=>?_;exact ihB c ac Y s' a' r Q hc hr hs' (vB hdom hn hd) (hQ.trans hx hn hd)
   .rename_i hne;refine GI c ac X s a r _ hc hr hs hdom λY a' hx hs' hn hd=>?_;have:=hQ Y a' hx hs' hn hd;obtain⟨x,s'⟩:=r;cases x with|normal=>exact absurd hr (hne s')|exit id=>exact DD this|ret=>exact this
 refine⟨λc ac X s a r Q hc hr hs hdom hQ=>?_,B⟩;cases c with
 |skip=>cases hc;cases hr;exact wp_skip (hQ.now hs)|region id ops draw=>
   simp[dF]at hc;have:∃l dr,ac=.region l dr:=by
    unfold U7 at hc;split at hc;.obtain⟨l,_,rfl⟩:=aN hc;exact⟨_,_,rfl⟩
    .simp at hc;split at hc
     .split at hc;.injection hc with hc;exact⟨_,_,hc.symm⟩
      .cases hc
     .cases hc
   obtain⟨l,dr,rfl⟩:=this;obtain⟨s',hr',rfl⟩:=aN hr;exact N0 hm cT jw hc hr' hs hdom hQ|seq x y=>
   simp[dF]at hc;split at hc
   .rename_i ax ay hx hy;cases hc;simp[exec]at hr;refine wp_seq ?_;split at hr;.rename_i s' he;refine GI x ax X s a (.normal,s') _ hx he hs hdom λY a' hx' hs' hn hd=>?_;exact GI y ay Y s' a' r Q hy hr hs' (vB hdom hn hd) (hQ.trans hx' hn hd)
    .rename_i hne;refine GI x ax X s a r _ hx hr hs hdom λY a' hx' hs' hn hd=>?_;have:=hQ Y a' hx' hs' hn hd;obtain⟨z,s'⟩:=r;cases z with|normal=>exact absurd hr (hne s')|exit id=>exact DD this|ret=>exact this
   .cases hc|cond c x y=>
   simp[dF]at hc;split at hc
   .rename_i c' ax ay CA hx hy;cases hc;simp[exec]at hr;have hv:=bg hs CA;split at hr;.rename_i hb;exact wp_cond_true (nB hb hv) (GI x ax X s a r Q hx hr hs hdom hQ)
    .rename_i hb;exact wp_cond_false (nB hb hv) (GI y ay X s a r Q hy hr hs hdom hQ)
    .cases hr
   .cases hc|block id c=>
   simp[dF]at hc;split at hc
   .rename_i Z1;obtain⟨ac',CA,rfl⟩:=aN hc;simp[exec]at hr;refine wp_block ?_;split at hr
    .rename_i id' s' he;split at hr;.rename_i hid;cases hr;refine GI c ac' X s a (.exit id',s') _ CA he hs hdom λY a' hx' hs' hn hd=>?_;have:=hQ Y a' hx' hs' hn hd;have hid:=Nat.eq_of_beq_eq_true hid;subst hid;rw[vA Z1];simp[Exit.inBlock,if_true];exact this
     .rename_i hid;cases hr;refine GI c ac' X s a (.exit id',s') _ CA he hs hdom λY a' hx' hs' hn hd=>?_;have:=hQ Y a' hx' hs' hn hd;simp[AX.exit']at this⊢;split;.rename_i hb;rw[if_pos hb]at this;simp[Exit.inBlock,Nat.ne_of_beq_eq_false hid,if_false];exact this
      .rename_i hb;rw[if_neg hb]at this;exact this
    .rename_i hne;refine GI c ac' X s a r _ CA hr hs hdom λY a' hx' hs' hn hd=>?_;have:=hQ Y a' hx' hs' hn hd;obtain⟨z,s'⟩:=r;cases z with|normal=>exact this|exit id=>exact absurd hr (hne id s')|ret=>exact this
   .cases hc|loop c=>obtain⟨ac',CA,rfl⟩:=aN hc;exact(B c ac' X s a r Q CA hr hs hdom hQ).wp|exit id=>
   simp[dF]at hc;split at hc;.rename_i Z1;cases hc;cases hr;have:=hQ.now hs;rw[vA Z1]at this;exact wp_exit this
   .cases hc|goto l=>cases hc;cases hr;have:=hQ.now hs;rw[Dz]at this;exact wp_goto this|scope c=>
   simp[dF]at hc;split at hc;.rename_i l hl;obtain⟨c0,P5,h1,h2,h3,h4⟩:=yt GI c ac l hc;refine wp_scope_jumps l (λa w=>∃k,k<=n/\j9 call sh nt Q l P5 k a w) (rounds call sh nt Q l P5) h1 (h4 (n+1) X s a r Q (Nat.le_refl _) hr hs hdom hQ) λa w hJ=>?_;obtain⟨k,hk,hR⟩:=hJ;exact wp_seq (wp_skip (AJ GI h2 h3 (Nat.le_trans (DC hR) hk) (N2 hR)))
   .cases hc|ret=>cases hc;cases hr;exact wp_ret (hQ.now hs)|_=>simp[dF]at hc
end
end Go.bJ
