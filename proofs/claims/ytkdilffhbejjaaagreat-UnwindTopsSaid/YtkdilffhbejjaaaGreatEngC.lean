/- A part of the proof: EngGl, EngC. -/
import Derived.Test.YtkdilffhbejjaaaGreatEngA
import Derived.Below
import Derived.Laws.CopyRow
set_option linter.unusedVariables false
set_option linter.unusedSimpArgs false
namespace Go.bM
open Go
def KJ(_:Nat):Prop:=False
def Zv(_:World):Prop:=True
theorem Oh{w w':World}(_:∀b,KJ b->w'.heap[b]?=w.heap[b]?)(_:Zv w):Zv w':=trivial
end Go.bM
namespace Go.bM
open Go Go.RowKit
theorem beq_true{a b:Nat}:Nat.beq a b=true↔a=b:=by simp_all
theorem beq_false{a b:Nat}:Nat.beq a b=false↔a≠b:=by rw[<-pu,beq_true]
theorem Tr.Ra{α:Type}:∀(f:Nat)(t:Tr α)(n m:Nat)(x:Option α),n<f->(Tr.Q1 f t n x).get? m=if n=m then x else t.get? m:=by intro f;induction f with|zero=>omega|succ f ih=>
 intro t n m x h;have auA:∀k,t.get? k=if k=0then t.top else if k%2=1then t.left.get? (k/2)else t.right.get? (k/2-1):=by intro k;cases t with|lf=>simp[Tr.get?,Tr.top,Tr.left,Tr.right]|nd v l r=>simp[Tr.get?,Tr.top,Tr.left,Tr.right];cases h0:Nat.beq k 0with|true=>simp_all|false=>have:=beq_false.1 h0;cases h1:Nat.beq (k%2) 1with|true=>simp_all|false=>simp[this,beq_false.1 h1]
 have auB:∀(v:Option α)(l r:Tr α)k,(Tr.nd v l r).get? k=if k=0then v else if k%2=1then l.get? (k/2)else r.get? (k/2-1):=by intro v l r k;simp[Tr.get?];cases h0:Nat.beq k 0with|true=>simp_all|false=>have:=beq_false.1 h0;cases h1:Nat.beq (k%2) 1with|true=>simp_all|false=>simp[this,beq_false.1 h1]
 simp[Tr.Q1];cases h0:Nat.beq n 0with|true=>have h0:=beq_true.1 h0<;>grind|false=>have h0:=beq_false.1 h0;cases h1:Nat.beq (n%2) 1with|true=>have h1:=beq_true.1 h1<;>grind|false=>have h1:=beq_false.1 h1<;>grind
theorem Tr.cy{α:Type}(t:Tr α)(n m:Nat)(x:Option α):(t.set n x).get? m=if n=m then x else t.get? m:=Tr.Ra _ _ _ _ _ (by omega)
@[simp]theorem Tr.ame{α:Type}(n:Nat):(Tr.lf:Tr α).get? n=none:=rfl
theorem cG(m:List (Tr bH))(lv sl cM cZ:Nat)(e:Option bH):aN (cC m lv sl e) cM cZ=if lv=cM/\sl=cZ/\lv<m.length then e else aN m cM cZ:=by
 unfold aN cC;rw[List.getElem?_modify];by_cases h:lv=cM;.subst h;cases hm:m[lv]?with|none=>grind|some t=>
  have:lv<m.length:=by grind
  simp[Tr.cy,this]
 grind
structure Loc where
 b:Nat
 o:Nat
 sz:Nat
 cap:Nat
structure Cx where
 w:World
 F:Nat->Nat->Prop
 ρ:Nat->Option Loc
 old:Nat->Prop
inductive DR(w:World)(F:Nat->Nat->Prop):D->Value->Prop|sc(v:Value)(h1:v.oneCell'=true):DR w F (.sc v) v|er(v:Value)(h1:∃t p,v=.iface t p):DR w F .er v|sl(els:List (List D))(a:Option Addr)(n cap sz b o:Nat)(g:Nat->Nat->Value)(hn:els.length=n)(hcap:n<=cap)(hsz:∀e∈els,e.length=sz)(ha:0<n->a=some ⟨b,o,none⟩)(hF:∀i e j x,els[i]?=some e->e[j]?=some x->F b (o+i*sz+j))(hc:∀i e j x,els[i]?=some e->e[j]?=some x->w.cell? ⟨b,o+i*sz+j,none⟩=some (g i j))(hr:∀i e j x,els[i]?=some e->e[j]?=some x->DR w F x (g i j)):DR w F (.sl els) (.slice a n cap)
theorem DR.one{w:World}{F:Nat->Nat->Prop}{x:D}{v:Value}(h:DR w F x v):v.oneCell'=true:=by cases h with|sc _ h1=>exact h1|er _ h1=>obtain⟨_,_,rfl⟩:=h1;rfl|sl=>rfl
def eS(w:World)(F R:Nat->Nat->Prop)(els:List (List D))(b o sz:Nat):Prop:=(∀e∈els,e.length=sz)/\∀i e j x,els[i]?=some e->e[j]?=some x->R b (o+i*sz+j)/\∃v,w.cell? ⟨b,o+i*sz+j,none⟩=some v/\DR w F x v
theorem DR.ja{w:World}{F:Nat->Nat->Prop}{els:List (List D)}{b o sz n cap:Nat}{a:Option Addr}(h:eS w F F els b o sz)(hn:els.length=n)(hcap:n<=cap)(ha:0<n->a=some ⟨b,o,none⟩):DR w F (.sl els) (.slice a n cap):=by classical let g:Nat->Nat->Value:=λi j=>(w.cell? ⟨b,o+i*sz+j,none⟩).getD (.bool false);refine .sl els a n cap sz b o g hn hcap h.1 ha (λi e j x h1 h2=>(h.2 i e j x h1 h2).1) (λi e j x h1 h2=>?_) (λi e j x h1 h2=>?_)<;>grind[eS]
theorem DR.Xa{w:World}{F:Nat->Nat->Prop}{els:List (List D)}{v:Value}(h:DR w F (.sl els) v):∃a cap sz b o,v=.slice a els.length cap/\els.length<=cap/\(0<els.length->a=some ⟨b,o,none⟩)/\eS w F F els b o sz:=by cases h with|sl _ a n cap sz b o g hn hcap hsz ha hF hc hr=>subst hn;exact⟨a,cap,sz,b,o,rfl,hcap,ha,hsz,λi e j x h1 h2=>⟨hF i e j x h1 h2,_,hc i e j x h1 h2,hr i e j x h1 h2⟩⟩
def aE{α β:Type}(R:α->β->Prop):List α->List β->Prop|[],[]=>True|a::l,b::m=>R a b/\aE R l m|_,_=>False
theorem aE.length{α β:Type}{R:α->β->Prop}:∀{l:List α}{m:List β},aE R l m->l.length=m.length|[],[],_=>rfl|_::_,_::_,h=>by simp[aE.length h.2]|[],_::_,h=>h.elim|_::_,[],h=>h.elim
theorem aE.get{α β:Type}{R:α->β->Prop}:∀{l:List α}{m:List β},aE R l m->∀(i:Nat)(a:α),l[i]?=some a->∃b,m[i]?=some b/\R a b|[],[],_,i,a,h=>by simp at h|a::l,b::m,h,0,x,hx=>⟨b,rfl,by grind[aE]⟩|a::l,b::m,h,i+1,x,hx=>by simpa using aE.get h.2 i x (by simpa using hx)|[],_::_,h,_,_,_=>h.elim|_::_,[],h,_,_,_=>h.elim
theorem aE.mono{α β:Type}{R S:α->β->Prop}(QK:∀a b,R a b->S a b):∀{l:List α}{m:List β},aE R l m->aE S l m|[],[],_=>trivial|_::_,_::_,h=>⟨QK _ _ h.1,aE.mono QK h.2⟩|[],_::_,h=>h.elim|_::_,[],h=>h.elim
theorem aE.uO{α β:Type}{R:α->β->Prop}:∀{l:List α}{m:List β},l.length=m.length->(∀(i:Nat)(a:α)(b:β),l[i]?=some a->m[i]?=some b->R a b)->aE R l m|[],[],_,_=>trivial|a::l,b::m,hl,h=>⟨h 0 a b rfl rfl,aE.uO (by grind) λi x y hx hy=>h (i+1) x y (by grind) (by grind)⟩|[],_::_,hl,_=>by grind|_::_,[],hl,_=>by grind
theorem aE.take{α β:Type}{R:α->β->Prop}{l:List α}{m:List β}(h:aE R l m)(k:Nat):aE R (l.take k) (m.take k):=by
 refine .uO (by simp[h.length]) λi a b ha hb=>?_;rw[fx]at ha hb;split at ha;.obtain⟨b',hb',hr⟩:=h.get i a ha<;>grind
 grind
theorem aE.drop{α β:Type}{R:α->β->Prop}{l:List α}{m:List β}(h:aE R l m)(k:Nat):aE R (l.drop k) (m.drop k):=by refine .uO (by simp[h.length]) λi a b ha hb=>?_;rw[sT]at ha hb;obtain⟨b',hb',hr⟩:=h.get _ a ha<;>grind
theorem aE.append{α β:Type}{R:α->β->Prop}:∀{l l':List α}{m m':List β},aE R l m->aE R l' m'->aE R (l++l') (m++m')|[],_,[],_,_,h=>h|_::_,_,_::_,_,h,h'=>⟨h.1,aE.append h.2 h'⟩|[],_,_::_,_,h,_=>h.elim|_::_,_,[],_,h,_=>h.elim
def H6(X:Cx):AV->Value->Prop|.d x,v=>DR X.w X.F x v|.own els .full,v=>∃a b o sz,v=.slice a els.length els.length/\(0<els.length->a=some ⟨b,o,none⟩)/\eS X.w X.F X.F els b o sz|.own els (.cK au tz),v=>∃a b o sz cap,v=.slice a els.length cap/\els.length<=cap/\(0<cap->a=some ⟨b,o,none⟩)/\eS X.w X.F X.F els b o sz/\X.ρ au=some ⟨b,o+els.length*sz,sz,cap-els.length⟩/\sz=tz|.own els .bC,v=>∃a b o sz cap,v=.slice a els.length cap/\els.length<=cap/\(0<els.length->a=some ⟨b,o,none⟩)/\eS X.w X.F (λb _=>X.old b) els b o sz|.ref _ _ au off n sz,v=>∃L a cap,X.ρ au=some L/\L.sz=sz/\v=.slice a n cap/\n<=cap/\(0<cap->a=some ⟨L.b,L.o+off*sz,none⟩/\off+cap<=L.cap)|.ptr _ _ au i off,v=>∃L,X.ρ au=some L/\v=.pointer (some ⟨L.b,L.o+i*L.sz+off,none⟩)|.fF _ _ au off n _,v=>∃L,X.ρ au=some L/\v=.slice (some ⟨L.b,L.o+off,none⟩) n n/\0<n|.fW e off,v=>∃b o,v=.pointer (some ⟨b,o+off,none⟩)/\∀j x,e[j]?=some x->(X.F b (o+j)\/X.old b)/\∃u,X.w.cell? ⟨b,o+j,none⟩=some u/\DR X.w X.F x u|.mp _ _ au,v=>∃L,X.ρ au=some L/\v=.map (some L.b)|_,_=>False
def VC(X:Cx):AV->Value->Prop|.fk f cap,v=>∃vs,v=.func (.func f) #[] vs/\aE (H6 X) cap vs.toList|x,v=>H6 X x v
def V1(X:Cx):AV->Value->Prop|.agg cs,v=>∃vs,v=.agg vs/\aE (VC X) cs vs.toList|x,v=>VC X x v
def VR(X:Cx):AV->Value->Prop|.jF xs,v=>∃vs,v=.tuple vs/\aE (V1 X) xs vs.toList|x,v=>V1 X x v
theorem H6.one{X:Cx}{x:AV}{v:Value}(h:H6 X x v):v.oneCell'=true:=by cases x with
 |d x=>exact DR.one h|own els o=>cases o<;>(obtain⟨_,_,_,_,h⟩:=h)<;>first|(obtain⟨rfl,_⟩:=h;rfl)|(obtain⟨_,rfl,_⟩:=h;rfl)
 |ref=>obtain⟨_,_,_,_,_,rfl,_⟩:=h;rfl|ptr=>obtain⟨_,_,rfl⟩:=h;rfl|fF=>obtain⟨_,_,rfl,_⟩:=h;rfl|fW=>obtain⟨_,_,rfl,_⟩:=h;rfl|mp=>obtain⟨_,_,rfl⟩:=h;rfl|_=>exact h.elim
theorem VC.one{X:Cx}{x:AV}{v:Value}(h:VC X x v):v.oneCell'=true:=by cases x with|fk f c=>obtain⟨_,rfl,_⟩:=h;rfl|_=>simp only[VC]at h;exact H6.one h
structure eY(old:Nat->Prop)(w w':World):Prop where
 os:w'.os=w.os
 tape:w'.tape=w.tape
 output:w'.output=w.output
 size:w.heap.size<=w'.heap.size
 block:∀k,old k->w'.heap[k]?=w.heap[k]?
theorem eY.toBelow{n:Nat}{w w':World}(h:eY (λb=>b<n) w w'):Below n w w':=⟨h.os,h.tape,h.output,h.size,h.block⟩
theorem eY.refl(old:Nat->Prop)(w:World):eY old w w:=⟨rfl,rfl,rfl,bc _,λ_ _=>rfl⟩
theorem eY.trans{old:Nat->Prop}{a b c:World}(h:eY old a b)(k:eY old b c):eY old a c:=⟨k.os.trans h.os,k.tape.trans h.tape,k.output.trans h.output,ml h.size k.size,λi hi=>(k.block i hi).trans (h.block i hi)⟩
theorem eY.mono{old old':Nat->Prop}{w w':World}(h:eY old w w')(ho:∀b,old' b->old b):eY old' w w':=⟨h.os,h.tape,h.output,h.size,λk hk=>h.block k (ho k hk)⟩
theorem eY.drew{old:Nat->Prop}{a w:World}(h:eY old a w):eY old a w.drew:=⟨h.os,h.tape,h.output,h.size,h.block⟩
theorem eY.alloc{old:Nat->Prop}{a w:World}(h:eY old a w)(hB:∀b,old b->b<w.heap.size)(o:Obj):eY old a (w.alloc o):=h.trans ⟨rfl,rfl,rfl,by simp,λk hk=>Go.RowKit.Below.heap_alloc _ _ _ (hB k hk)⟩
theorem eY.cell{old:Nat->Prop}{w w':World}(h:eY old w w'){p:Addr}(hp:old p.block):w'.cell? p=w.cell? p:=World.cell?_of_block (w:=w) (h.block p.block hp)
theorem eY.setRow{old:Nat->Prop}{g:Nat}{w0 w:World}(hb:eY old w0 w)(hg:¬old g)(cs:Array Value):eY old w0 (w.setRow g cs):=hb.trans ⟨rfl,rfl,rfl,by simp_all,λk hk=>setRow_other w g k cs (λe=>hg (e▸hk))⟩
structure Ext(X Y:Cx):Prop where
 base:Y.old=X.old
 below:eY X.old X.w Y.w
 Zw:∀b o,X.F b o->Y.F b o
 keep:∀b o,X.F b o->Y.w.cell? ⟨b,o,none⟩=X.w.cell? ⟨b,o,none⟩loc:∀v L,X.ρ v=some L->Y.ρ v=some L
 new:∀b o,Y.F b o->X.F b o\/¬X.old b
theorem Ext.refl(X:Cx):Ext X X:=⟨rfl,eY.refl _ _,λ_ _ h=>h,λ_ _ _=>rfl,λ_ _ h=>h,λ_ _ h=>.inl h⟩
theorem Ext.trans{X Y Z:Cx}(h:Ext X Y)(k:Ext Y Z):Ext X Z:=⟨k.base.trans h.base,h.below.trans (h.base▸k.below),λb o hb=>k.Zw b o (h.Zw b o hb),λb o hb=>(k.keep b o (h.Zw b o hb)).trans (h.keep b o hb),λv L hv=>k.loc v L (h.loc v L hv),λb o hb=>(k.new b o hb).elim (h.new b o) λhb=>.inr (h.base▸hb)⟩
theorem DR.ext{X Y:Cx}(hx:Ext X Y){x:D}{v:Value}(h:DR X.w X.F x v):DR Y.w Y.F x v:=by induction h with|sc v h1=>exact .sc v h1|er v h1=>exact .er v h1|sl els a n cap sz b o g hn hcap hsz ha hF hc _ ih=>exact .sl els a n cap sz b o g hn hcap hsz ha (λi e j x h1 h2=>hx.Zw _ _ (hF i e j x h1 h2)) (λi e j x h1 h2=>(hx.keep _ _ (hF i e j x h1 h2)).trans (hc i e j x h1 h2)) ih
theorem eS.ext{X Y:Cx}(hx:Ext X Y){els:List (List D)}{b o sz:Nat}(h:eS X.w X.F X.F els b o sz):eS Y.w Y.F Y.F els b o sz:=⟨h.1,λi e j x h1 h2=>by obtain⟨hF,v,hv,hd⟩:=h.2 i e j x h1 h2;exact⟨hx.Zw _ _ hF,v,(hx.keep _ _ hF).trans hv,hd.ext hx⟩⟩
theorem Ext.Ef{X Y:Cx}(hx:Ext X Y){b:Nat}(h:X.old b)(o:Nat):Y.w.cell? ⟨b,o,none⟩=X.w.cell? ⟨b,o,none⟩:=hx.below.cell (p:=⟨b,o,none⟩) h
theorem H6.ext{X Y:Cx}(hx:Ext X Y){x:AV}{v:Value}(h:H6 X x v):H6 Y x v:=by cases x with
 |d x=>exact DR.ext hx h|own els o=>cases o with|full=>obtain⟨a,b,o,sz,hv,ha,hl⟩:=h;exact⟨a,b,o,sz,hv,ha,hl.ext hx⟩|cK au tz=>obtain⟨a,b,o,sz,cap,hv,hc,ha,hl,hr,hz⟩:=h;exact⟨a,b,o,sz,cap,hv,hc,ha,hl.ext hx,hx.loc _ _ hr,hz⟩|bC=>obtain⟨a,b,o,sz,cap,hv,hc,ha,hl⟩:=h;refine⟨a,b,o,sz,cap,hv,hc,ha,hl.1,λi e j x h1 h2=>?_⟩;obtain⟨hF,v,hv,hd⟩:=hl.2 i e j x h1 h2;exact⟨by simpa[hx.base]using hF,v,(hx.Ef hF _).trans hv,hd.ext hx⟩
 |ref lv sl au off n sz=>obtain⟨L,a,cap,hr,h⟩:=h;exact⟨L,a,cap,hx.loc _ _ hr,h⟩|ptr lv sl au i off=>obtain⟨L,hr,h⟩:=h;exact⟨L,hx.loc _ _ hr,h⟩|fF lv sl au off n sz=>obtain⟨L,hr,h⟩:=h;exact⟨L,hx.loc _ _ hr,h⟩|mp lv sl au=>obtain⟨L,hr,h⟩:=h;exact⟨L,hx.loc _ _ hr,h⟩|fW e off=>
  obtain⟨b,o,hv,h⟩:=h;refine⟨b,o,hv,λj x hj=>?_⟩;obtain⟨hF,u,hu,hd⟩:=h j x hj;refine⟨hF.imp (hx.Zw _ _) (λh=>by simpa[hx.base]using h),u,?_,hd.ext hx⟩;rcases hF with hF|hF;.exact(hx.keep _ _ hF).trans hu
  .exact(hx.Ef hF _).trans hu|_=>exact h
theorem VC.ext{X Y:Cx}(hx:Ext X Y){x:AV}{v:Value}(h:VC X x v):VC Y x v:=by cases x with|fk f c=>obtain⟨vs,hv,h⟩:=h;exact⟨vs,hv,h.mono λ_ _=>H6.ext hx⟩|_=>simp only[VC]at h⊢;exact H6.ext hx h
theorem V1.ext{X Y:Cx}(hx:Ext X Y){x:AV}{v:Value}(h:V1 X x v):V1 Y x v:=by cases x with|agg cs=>obtain⟨vs,hv,h⟩:=h;exact⟨vs,hv,h.mono λ_ _=>VC.ext hx⟩|_=>simp only[V1]at h⊢;exact VC.ext hx h
theorem VR.ext{X Y:Cx}(hx:Ext X Y){x:AV}{v:Value}(h:VR X x v):VR Y x v:=by cases x with|jF cs=>obtain⟨vs,hv,h⟩:=h;exact⟨vs,hv,h.mono λ_ _=>V1.ext hx⟩|_=>simp only[VR]at h⊢;exact V1.ext hx h
def bH.au:bH->Nat|.row v _=>v|.box v _=>v|.Of v _=>v|.mp v _=>v
def bH.fz:bH->Bool|.Of _ _=>true|_=>false
def Block(X:Cx)(b n:Nat):Prop:=¬X.old b/\∃c e,X.w.heap[b]?=some (.cells c e (0,0))/\n<=c.size
def FY(es:Array MapEntry)(ks:List (List UInt8)):Prop:=es.toList.map (λe=>(e.key,e.val))=ks.map λl=>(Value.string (nF l),Value.bool true)
def oU(X:Cx):bH->Loc->Prop|.row _ els,L=>els.length<=L.cap/\(∀e∈els,e.length=L.sz)/\(0<L.cap->Block X L.b (L.o+L.cap*L.sz)/\(∀o,¬X.F L.b o))/\∀i e j x,els[i]?=some e->e[j]?=some x->∃v,X.w.cell? ⟨L.b,L.o+i*L.sz+j,none⟩=some v/\DR X.w X.F x v|.box _ cells,L=>L.cap=1/\Block X L.b (L.o+cells.length)/\(∀o,¬X.F L.b o)/\∀j x,cells[j]?=some x->∃v,X.w.cell? ⟨L.b,L.o+j,none⟩=some v/\VC X x v|.Of _ els,L=>els.length<=L.cap/\eS X.w X.F X.F els L.b L.o L.sz|.mp _ ks,L=>L.cap=1/\¬X.old L.b/\(∀o,¬X.F L.b o)/\∃es clock,X.w.heap[L.b]?=some (.map es clock)/\FY es ks
def Rb(X:Cx)(L:Loc):Prop:=0<L.cap->Block X L.b (L.o+L.cap*L.sz)/\∀o,L.o<=o->¬X.F L.b o
def Holds(m:List (Tr bH))(t:Tr Unit)(k:Nat×Nat×Nat)(v:Nat):Prop:=(∃lv sl e,k=cB lv sl/\aN m lv sl=some e/\e.au=v/\e.fz=false)\/(k=kH v/\t.get? v=some ())
structure Low(X:Cx):Prop where
 lt:∀b,X.old b->b<X.w.heap.size
 gb:∀b,KJ b->X.old b
 gk:Zv X.w
theorem Low.ext{X Y:Cx}(h:Low X)(hx:Ext X Y):Low Y:=⟨by rw[hx.base];exactλb hb=>i7 (h.lt b hb) hx.below.size,λb hb=>by rw[hx.base];exact h.gb b hb,Oh (λb hb=>hx.below.block b (h.gb b hb)) h.gk⟩
structure aH(X:Cx)(m:List (Tr bH))(t:Tr Unit):Prop where
 fZ:∀lv sl e,aN m lv sl=some e->∃L,X.ρ e.au=some L/\oU X e L
 aK:∀v,t.get? v=some ()->∃L,X.ρ v=some L/\Rb X L
 apart:∀k k' v v' L L',Holds m t k v->Holds m t k' v'->k≠k'->X.ρ v=some L->X.ρ v'=some L'->0<L.cap->0<L'.cap->L.b≠L'.b
 p7:∀b o,X.F b o->b<X.w.heap.size
 Aq:Low X
theorem aH.low{X:Cx}{m:List (Tr bH)}{t:Tr Unit}(h:aH X m t):∀b,X.old b->b<X.w.heap.size:=h.Aq.lt
theorem aH.fresh{X:Cx}{m:List (Tr bH)}{t:Tr Unit}(h:aH X m t):¬X.old X.w.heap.size:=λq=>pd _ (h.low _ q)
theorem Block.lt{X:Cx}{b n:Nat}(h:Block X b n):b<X.w.heap.size:=by grind[Block]
theorem Block.cell{X:Cx}{b n:Nat}(h:Block X b n)(o:Nat)(ho:o<n):∃v,X.w.cell? ⟨b,o,none⟩=some v:=by obtain⟨_,c,e,h,hn⟩:=h;rw[cell_of_row _ _ _ _ _ _ h];exact⟨_,o0 (by omega)⟩
theorem aH.congr{X:Cx}{m m':List (Tr bH)}{t t':Tr Unit}(h:aH X m t)(hm:∀lv sl,aN m' lv sl=aN m lv sl)(ht:∀v,t'.get? v=t.get? v):aH X m' t':=by
 have hh:∀k v,Holds m' t' k v->Holds m t k v:=by grind[Tr.get?,aN,Holds]
 exact⟨λlv sl e he=>h.fZ lv sl e ((hm lv sl)▸he),λv hv=>h.aK v ((ht v)▸hv),λk k' v v' L L' a b=>h.apart k k' v v' L L' (hh _ _ a) (hh _ _ b),h.p7,h.Aq⟩
theorem aH.less{X:Cx}{m m':List (Tr bH)}{t t':Tr Unit}(h:aH X m t)(hm:∀lv sl e,aN m' lv sl=some e->aN m lv sl=some e)(ht:∀v,t'.get? v=some ()->t.get? v=some ()):aH X m' t':=by
 have hh:∀k v,Holds m' t' k v->Holds m t k v:=by grind[Tr.get?,aN,Holds]
 exact⟨λlv sl e he=>h.fZ lv sl e (hm _ _ _ he),λv hv=>h.aK v (ht _ hv),λk k' v v' L L' a b=>h.apart k k' v v' L L' (hh _ _ a) (hh _ _ b),h.p7,h.Aq⟩
theorem aH.move{X Y:Cx}{m:List (Tr bH)}{t:Tr Unit}(h:aH X m t)(hx:Ext X Y)(hb:∀k v L,Holds m t k v->X.ρ v=some L->0<L.cap->Y.w.heap[L.b]?=X.w.heap[L.b]?)(hF:∀k v L o,Holds m t k v->X.ρ v=some L->0<L.cap->Y.F L.b o->X.F L.b o)(hin:∀b o,Y.F b o->b<Y.w.heap.size):aH Y m t:=by
 have blk:∀b n,Y.w.heap[b]?=X.w.heap[b]?->Block X b n->Block Y b n:=by rintro b n he⟨h1,c,e,h2,h3⟩;exact⟨by rw[hx.base];exact h1,c,e,by rw[he];exact h2,h3⟩
 have cel:∀b o,Y.w.heap[b]?=X.w.heap[b]?->Y.w.cell? ⟨b,o,none⟩=X.w.cell? ⟨b,o,none⟩:=by intro b o he;simp[World.cell?,he]
 refine⟨λlv sl e he=>?_,λv hv=>?_,λk k' v v' L L' a b hne hv nD=>?_,hin,?_⟩
 .obtain⟨L,hL,hE⟩:=h.fZ lv sl e he;have hk:e.fz=false->Holds m t (cB lv sl) e.au:=λhz=>.inl ⟨lv,sl,e,rfl,he,rfl,hz⟩
  refine⟨L,hx.loc _ _ hL,?_⟩;cases e with|Of v els=>exact⟨hE.1,hE.2.ext hx⟩|mp v ks=>
   have hk:=hk rfl;obtain⟨h1,h2,h3,es,clock,h4,h5⟩:=hE;have hc:0<L.cap:=by omega
   exact⟨h1,by rw[hx.base];exact h2,λo ho=>h3 o (hF _ _ _ _ hk hL hc ho),es,clock,(hb _ _ _ hk hL hc).trans h4,h5⟩|row v els=>
   have hk:=hk rfl;obtain⟨h1,h2,h3,h4⟩:=hE;refine⟨h1,h2,λhc=>⟨blk _ _ (hb _ _ _ hk hL hc) (h3 hc).1,λo ho=>(h3 hc).2 o (hF _ _ _ _ hk hL hc ho)⟩,λi e j x hi hj=>?_⟩;have hc:0<L.cap:=by have:i<els.length:=(cf.1 hi).1;omega
   obtain⟨u,hu,hd⟩:=h4 i e j x hi hj;exact⟨u,(cel _ _ (hb _ _ _ hk hL hc)).trans hu,hd.ext hx⟩|box v cells=>
   have hk:=hk rfl;obtain⟨h1,h2,h3,h4⟩:=hE;have hc:0<L.cap:=by omega
   refine⟨h1,blk _ _ (hb _ _ _ hk hL hc) h2,λo ho=>h3 o (hF _ _ _ _ hk hL hc ho),λj x hj=>?_⟩;obtain⟨u,hu,hd⟩:=h4 j x hj;exact⟨u,(cel _ _ (hb _ _ _ hk hL hc)).trans hu,hd.ext hx⟩
 .obtain⟨L,hL,hT⟩:=h.aK v hv;have hk:Holds m t (kH v) v:=.inr ⟨rfl,hv⟩;exact⟨L,hx.loc _ _ hL,λhc=>⟨blk _ _ (hb _ _ _ hk hL hc) (hT hc).1,λo ho hf=>(hT hc).2 o ho (hF _ _ _ _ hk hL hc hf)⟩⟩
 .have ho:∀k v,Holds m t k v->∃L,X.ρ v=some L:=by
   rintro k v(⟨lv,sl,e,_,he,rfl,_⟩|⟨_,he⟩);.obtain⟨L,hL,_⟩:=h.fZ lv sl e he;exact⟨L,hL⟩
   .obtain⟨L,hL,_⟩:=h.aK v he;exact⟨L,hL⟩
  obtain⟨M,hM⟩:=ho _ _ a;obtain⟨M',lP⟩:=ho _ _ b;rw[hx.loc _ _ hM]at hv;rw[hx.loc _ _ lP]at nD;simp_all;subst hv;subst nD;exact h.apart k k' v v' M M' a b hne hM lP
 .exact h.Aq.ext hx
theorem aH.erase{X:Cx}{m:List (Tr bH)}{t:Tr Unit}(h:aH X m t)(lv sl:Nat):aH X (cC m lv sl none) t:=h.less (λcM cZ e he=>by rw[cG]at he<;>grind) λ_ h=>h
theorem aH.KK{X:Cx}{m:List (Tr bH)}{t:Tr Unit}(h:aH X m t)(v:Nat):aH X m (t.set v none):=h.less (λ_ _ _ h=>h) λv' he=>by rw[Tr.cy]at he<;>grind
theorem Ba{a b c d:Nat}(h:cB a b=cB c d):a=c/\b=d:=by simpa[cB]using h
theorem fq{a b c:Nat}:cB a b≠kH c:=by simp[cB,kH]
theorem aH.add{X:Cx}{m:List (Tr bH)}{t:Tr Unit}{lv sl:Nat}{e:bH}{L:Loc}(h:aH X m t)(hL:X.ρ e.au=some L)(hE:oU X e L)(hap:∀k v M,Holds m t k v->k≠cB lv sl->X.ρ v=some M->0<M.cap->0<L.cap->M.b≠L.b):aH X (cC m lv sl (some e)) t:=by
 have hh:∀k v,Holds (cC m lv sl (some e)) t k v->(k=cB lv sl/\v=e.au)\/(k≠cB lv sl/\Holds m t k v):=by
  rintro k v(⟨cM,cZ,e',hk,he,hv⟩|⟨hk,he⟩)
  .rw[cG]at he;split at he;.subst_vars;simp_all
   .by_cases hke:k=cB lv sl
    .rename_i hc;rw[hk]at hke;obtain⟨rfl,rfl⟩:=Ba hke;exfalso;apply hc;refine⟨rfl,rfl,?_⟩;unfold aN at he;rcases f6 cM m.length with hl|hl;.exact hl
     .rw[dT hl]at he;cases he
    .exact .inr ⟨hke,.inl ⟨cM,cZ,e',hk,he,hv⟩⟩
  .exact .inr ⟨by rw[hk];exactλh=>fq h.symm,.inr ⟨hk,he⟩⟩
 refine⟨λcM cZ e' he=>?_,h.aK,λk k' v v' M M' a b hne hv nD hc DH=>?_,h.p7,h.Aq⟩
 .rw[cG]at he;split at he;.simp_all
  .exact h.fZ cM cZ e' he
 .rcases hh _ _ a with⟨rfl,rfl⟩|⟨hk,a⟩
  .rcases hh _ _ b with⟨rfl,rfl⟩|⟨hk',b⟩;.exact absurd rfl hne
   .rw[hL]at hv;cases hv;exact(hap _ _ _ b hk' nD DH hc).symm
  .rcases hh _ _ b with⟨rfl,rfl⟩|⟨hk',b⟩;.rw[hL]at nD;cases nD;exact hap _ _ _ a hk hv hc DH
   .exact h.apart k k' v v' M M' a b hne hv nD hc DH
theorem aH.Xb{X:Cx}{m:List (Tr bH)}{t:Tr Unit}{v:Nat}{L:Loc}(h:aH X m t)(hL:X.ρ v=some L)(hE:Rb X L)(hap:∀k u M,Holds m t k u->k≠kH v->X.ρ u=some M->0<M.cap->0<L.cap->M.b≠L.b):aH X m (t.set v (some ())):=by
 have hh:∀k u,Holds m (t.set v (some ())) k u->(k=kH v/\u=v)\/(k≠kH v/\Holds m t k u):=by
  rintro k u(⟨cM,cZ,e',hk,he,hv⟩|⟨hk,he⟩);.exact .inr ⟨by rw[hk];exact fq,.inl ⟨cM,cZ,e',hk,he,hv⟩⟩
  .rw[Tr.cy]at he<;>grind[Tr.set,Tr.get?,Rb,Holds,kH]
 refine⟨h.fZ,λu hu=>?_,λk k' u u' M M' a b hne hv nD hc DH=>?_,h.p7,h.Aq⟩
 .rw[Tr.cy]at hu;split at hu;.subst_vars;exact⟨L,hL,hE⟩
  .exact h.aK u hu
 .rcases hh _ _ a with⟨ek,ev⟩|⟨hk,a⟩
  .rcases hh _ _ b with⟨ek',ev'⟩|⟨hk',b⟩;.exact absurd (ek.trans ek'.symm) hne
   .rw[ev,hL]at hv;cases hv;exact(hap _ _ _ b hk' nD DH hc).symm
  .rcases hh _ _ b with⟨ek',ev'⟩|⟨hk',b⟩;.rw[ev',hL]at nD;cases nD;exact hap _ _ _ a hk hv hc DH
   .exact h.apart k k' u u' M M' a b hne hv nD hc DH
end Go.bM
