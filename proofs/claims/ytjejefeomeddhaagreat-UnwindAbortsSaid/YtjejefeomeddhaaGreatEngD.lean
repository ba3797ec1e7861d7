/- A part of the proof: EngGl, EngC, EngB, EngD. -/
import Derived.Test.YtjejefeomeddhaaGreatEngA
import Derived.Below
import Derived.Laws.CopyRow
import Derived.Laws.StructEq
import Derived.Laws.Slices
import Derived.Laws.Entries
set_option linter.unusedVariables false
set_option linter.unusedSimpArgs false
namespace Go.Eng
open Go
def gblk (_:Nat):Prop:=False
def gok (_:World):Prop:=True
theorem gok_stays {w w':World} (_:∀ b,gblk b→w'.heap[b]?=w.heap[b]?) (_:gok w):gok w':=trivial
end Go.Eng
namespace Go.Eng
open Go Go.RowKit
theorem beq_true {a b:Nat} : Nat.beq a b=true↔a=b:=by simp_all
theorem beq_false {a b:Nat} : Nat.beq a b=false↔a≠b:=by
  rw[←Bool.not_eq_true,beq_true]
theorem Tr.get_setF {α : Type} : ∀ (f : Nat) (t : Tr α) (n m : Nat) (x : Option α), n < f → (Tr.setF f t n x).get? m = if n = m then x else t.get? m := by
  intro f
  induction f with
  |zero=>omega
  | succ f ih =>
    intro t n m x h
    have tget:∀ k,t.get? k=if k=0 then t.top else if k % 2=1 then t.left.get? (k / 2) else t.right.get? (k / 2-1):=by
      intro k
      cases t with
      |lf=>simp[Tr.get?,Tr.top,Tr.left,Tr.right]
      | nd v l r =>
        simp[Tr.get?,Tr.top,Tr.left,Tr.right]
        cases h0:Nat.beq k 0 with
        |true=>simp_all
        | false =>
          have:=beq_false.1 h0
          cases h1:Nat.beq (k % 2) 1 with
          |true=>simp_all
          |false=>simp[this,beq_false.1 h1]
    have nget:∀ (v:Option α) (l r:Tr α) k,(Tr.nd v l r).get? k=if k=0 then v else if k % 2=1 then l.get? (k / 2) else r.get? (k / 2-1):=by
      intro v l r k
      simp[Tr.get?]
      cases h0:Nat.beq k 0 with
      |true=>simp_all
      | false =>
        have:=beq_false.1 h0
        cases h1:Nat.beq (k % 2) 1 with
        |true=>simp_all
        |false=>simp[this,beq_false.1 h1]
    simp[Tr.setF]
    cases h0:Nat.beq n 0 with
    | true =>
      have h0:=beq_true.1 h0<;>grind
    | false =>
      have h0:=beq_false.1 h0
      cases h1:Nat.beq (n % 2) 1 with
      | true =>
        have h1:=beq_true.1 h1<;>grind
      | false =>
        have h1:=beq_false.1 h1<;>grind
theorem Tr.get_set {α : Type} (t:Tr α) (n m:Nat) (x:Option α):(t.set n x).get? m=if n=m then x else t.get? m:=
  Tr.get_setF _ _ _ _ _ (by omega)
@[simp] theorem Tr.get_lf {α : Type} (n:Nat):(Tr.lf:Tr α).get? n=none:=rfl
theorem memGet_set (m : List (Tr Ent)) (lv sl lv' sl' : Nat) (e : Option Ent) :
    memGet (memSet m lv sl e) lv' sl'=if lv=lv'∧sl=sl'∧lv<m.length then e else memGet m lv' sl':=by
  unfold memGet memSet
  rw[List.getElem?_modify]
  by_cases h:lv=lv'
  · subst h
    cases hm:m[lv]? with
    | none =>
      grind
    | some t =>
      have:lv<m.length:=by
        grind
      simp[Tr.get_set,this]
  grind
structure Loc where
  b:Nat
  o:Nat
  sz:Nat
  cap:Nat
set_option linter.unusedSectionVars false
class Rho where
  r:Nat→Int
  h:∀ i,IntKind.i64.wrap (r i)=r i
variable [Rho]
def uw (i:Nat):Nat:=(Rho.r i % 18446744073709551616).toNat
def Ex.den:Ex→Int
  |.v i=>Rho.r i
  |.s i a n m=>((uw i / 2 ^ a % 2 ^ n*2 ^ m:Nat):Int)
theorem wrapW (k:IntKind) (n:Int):k.wrap (k.wrap n)=k.wrap n:=by
  cases k<;>simp[IntKind.wrap,IntKind.bits,IntKind.signed]
  all_goals (repeat' split)<;>omega
structure Cx where
  w:World
  F:Nat→Nat→Prop
  ρ : Nat→Option Loc
  old:Nat→Prop
inductive DR (w:World) (F:Nat→Nat→Prop):D→Value→Prop
  |sc (v:Value) (h1:v.oneCell'=true):DR w F (.sc v) v
  |er (v:Value) (h1:∃ t p,v=.iface t p):DR w F .er v
  |rg (k:IntKind) (e:Ex):DR w F (.rg k e) (.int k (k.wrap e.den))
  |sl (els:List (List D)) (a:Option Addr) (n cap sz b o:Nat) (g:Nat→Nat→Value)
      (hn:els.length=n) (hcap:n≤cap) (hsz:∀ e∈els,e.length=sz)
      (ha:0<n→a=some ⟨b,o,none⟩)
      (hF:∀ i e j x,els[i]?=some e→e[j]?=some x→F b (o+i*sz+j))
      (hc:∀ i e j x,els[i]?=some e→e[j]?=some x→w.cell? ⟨b,o+i*sz+j,none⟩=some (g i j))
      (hr:∀ i e j x,els[i]?=some e→e[j]?=some x→DR w F x (g i j)):DR w F (.sl els) (.slice a n cap)
theorem DR.one {w:World} {F:Nat→Nat→Prop} {x:D} {v:Value} (h:DR w F x v):v.oneCell'=true:=by
  cases h with
  |sc _ h1=>exact h1
  |er _ h1=>obtain⟨_,_,rfl⟩:=h1;rfl
  |rg=>rfl
  |sl=>rfl
def Lies (w:World) (F R:Nat→Nat→Prop) (els:List (List D)) (b o sz:Nat):Prop:=
  (∀ e∈els,e.length=sz)∧∀ i e j x,els[i]?=some e→e[j]?=some x→R b (o+i*sz+j)∧∃ v,w.cell? ⟨b,o+i*sz+j,none⟩=some v∧DR w F x v
theorem DR.of_lies {w:World} {F:Nat→Nat→Prop} {els:List (List D)} {b o sz n cap:Nat} {a:Option Addr} (h:Lies w F F els b o sz)
    (hn:els.length=n) (hcap:n≤cap) (ha:0<n→a=some ⟨b,o,none⟩):DR w F (.sl els) (.slice a n cap):=by
  classical
  let g:Nat→Nat→Value:=fun i j=>(w.cell? ⟨b,o+i*sz+j,none⟩).getD (.bool false)
  refine .sl els a n cap sz b o g hn hcap h.1 ha (fun i e j x h1 h2=>(h.2 i e j x h1 h2).1) (fun i e j x h1 h2=>?_) (fun i e j x h1 h2=>?_)<;>grind[Lies]
theorem DR.lies {w:World} {F:Nat→Nat→Prop} {els:List (List D)} {v:Value} (h:DR w F (.sl els) v) :
    ∃ a cap sz b o,v=.slice a els.length cap∧els.length≤cap∧(0<els.length→a=some ⟨b,o,none⟩)∧Lies w F F els b o sz:=by
  cases h with
  | sl _ a n cap sz b o g hn hcap hsz ha hF hc hr =>
    subst hn
    exact⟨a,cap,sz,b,o,rfl,hcap,ha,hsz,fun i e j x h1 h2=>⟨hF i e j x h1 h2,_,hc i e j x h1 h2,hr i e j x h1 h2⟩⟩
def All2 {α β : Type} (R : α→β→Prop):List α→List β→Prop
  |[],[]=>True
  |a :: l,b :: m=>R a b∧All2 R l m
  |_,_=>False
theorem All2.length {α β : Type} {R : α→β→Prop} : ∀ {l:List α} {m:List β},All2 R l m→l.length=m.length
  |[],[],_=>rfl
  |_ :: _,_ :: _,h=>by simp[All2.length h.2]
  |[],_ :: _,h=>h.elim
  |_ :: _,[],h=>h.elim
theorem All2.get {α β : Type} {R : α→β→Prop} : ∀ {l:List α} {m:List β},All2 R l m→∀ (i:Nat) (a : α),l[i]?=some a→∃ b,m[i]?=some b∧R a b
  |[],[],_,i,a,h=>by simp at h
  |a :: l,b :: m,h,0,x,hx=>⟨b,rfl,by grind[All2]⟩
  |a :: l,b :: m,h,i+1,x,hx=>by simpa using All2.get h.2 i x (by simpa using hx)
  |[],_ :: _,h,_,_,_=>h.elim
  |_ :: _,[],h,_,_,_=>h.elim
theorem All2.mono {α β : Type} {R S : α→β→Prop} (hrs:∀ a b,R a b→S a b):∀ {l:List α} {m:List β},All2 R l m→All2 S l m
  |[],[],_=>trivial
  |_ :: _,_ :: _,h=>⟨hrs _ _ h.1,All2.mono hrs h.2⟩
  |[],_ :: _,h=>h.elim
  |_ :: _,[],h=>h.elim
theorem All2.of_get {α β : Type} {R : α→β→Prop} : ∀ {l:List α} {m:List β},l.length=m.length→(∀ (i:Nat) (a : α) (b : β),l[i]?=some a→m[i]?=some b→R a b)→All2 R l m
  |[],[],_,_=>trivial
  |a :: l,b :: m,hl,h=>⟨h 0 a b rfl rfl,All2.of_get (by grind) fun i x y hx hy=>h (i+1) x y (by grind) (by grind)⟩
  |[],_ :: _,hl,_=>by grind
  |_ :: _,[],hl,_=>by grind
theorem All2.take {α β : Type} {R : α→β→Prop} {l:List α} {m:List β} (h:All2 R l m) (k:Nat):All2 R (l.take k) (m.take k):=by
  refine .of_get (by simp[h.length]) fun i a b ha hb=>?_
  rw[List.getElem?_take] at ha hb
  split at ha
  · obtain⟨b',hb',hr⟩:=h.get i a ha<;>grind
  grind
theorem All2.drop {α β : Type} {R : α→β→Prop} {l:List α} {m:List β} (h:All2 R l m) (k:Nat):All2 R (l.drop k) (m.drop k):=by
  refine .of_get (by simp[h.length]) fun i a b ha hb=>?_
  rw[List.getElem?_drop] at ha hb
  obtain⟨b',hb',hr⟩:=h.get _ a ha<;>grind
theorem All2.append {α β : Type} {R : α→β→Prop} : ∀ {l l':List α} {m m':List β},All2 R l m→All2 R l' m'→All2 R (l++l') (m++m')
  |[],_,[],_,_,h=>h
  |_ :: _,_,_ :: _,_,h,h'=>⟨h.1,All2.append h.2 h'⟩
  |[],_,_ :: _,_,h,_=>h.elim
  |_ :: _,_,[],_,h,_=>h.elim
def VC0 (X:Cx):AV→Value→Prop
  |.d x,v=>DR X.w X.F x v
  |.own els .full,v=>∃ a b o sz,v=.slice a els.length els.length∧(0<els.length→a=some ⟨b,o,none⟩)∧Lies X.w X.F X.F els b o sz
  |.own els (.tip ver tz),v=>∃ a b o sz cap,v=.slice a els.length cap∧els.length≤cap∧(0<cap→a=some ⟨b,o,none⟩)∧Lies X.w X.F X.F els b o sz∧
      X.ρ ver=some ⟨b,o+els.length*sz,sz,cap-els.length⟩∧sz=tz
  |.own els .bor,v=>∃ a b o sz cap,v=.slice a els.length cap∧els.length≤cap∧(0<els.length→a=some ⟨b,o,none⟩)∧Lies X.w X.F (fun b _=>X.old b) els b o sz
  |.ref _ _ ver off n sz,v=>∃ L a cap,X.ρ ver=some L∧L.sz=sz∧v=.slice a n cap∧n≤cap∧(0<cap→a=some ⟨L.b,L.o+off*sz,none⟩∧off+cap≤L.cap)
  |.ptr _ _ ver i off,v=>∃ L,X.ρ ver=some L∧v=.pointer (some ⟨L.b,L.o+i*L.sz+off,none⟩)
  |.bref _ _ ver off n sz,v=>∃ L cap,X.ρ ver=some L∧v=.slice (some ⟨L.b,L.o+off,none⟩) n cap∧n≤cap∧0<n∧(n<cap→off+cap*sz≤L.sz)
  |.dptr e off,v=>∃ b o,v=.pointer (some ⟨b,o+off,none⟩)∧∀ j x,e[j]?=some x→(X.F b (o+j)∨X.old b)∧∃ u,X.w.cell? ⟨b,o+j,none⟩=some u∧DR X.w X.F x u
  |.mp _ _ ver,v=>∃ L,X.ρ ver=some L∧v=.map (some L.b)
  |_,_=>False
def VC (X:Cx):AV→Value→Prop
  |.clo f cap,v=>∃ vs,v=.func (.func f) #[] vs∧All2 (VC0 X) cap vs.toList
  |x,v=>VC0 X x v
def V1 (X:Cx):AV→Value→Prop
  |.agg cs,v=>∃ vs,v=.agg vs∧All2 (VC X) cs vs.toList
  |x,v=>VC X x v
def VR (X:Cx):AV→Value→Prop
  |.tup xs,v=>∃ vs,v=.tuple vs∧All2 (V1 X) xs vs.toList
  |x,v=>V1 X x v
theorem VC0.one {X:Cx} {x:AV} {v:Value} (h:VC0 X x v):v.oneCell'=true:=by
  cases x with
  |d x=>exact DR.one h
  |own els o=>cases o<;>(obtain⟨_,_,_,_,h⟩:=h)<;>first|(obtain⟨rfl,_⟩:=h;rfl)|(obtain⟨_,rfl,_⟩:=h;rfl)
  |ref=>obtain⟨_,_,_,_,_,rfl,_⟩:=h;rfl
  |ptr=>obtain⟨_,_,rfl⟩:=h;rfl
  |bref=>obtain⟨_,_,_,rfl,_⟩:=h;rfl
  |dptr=>obtain⟨_,_,rfl,_⟩:=h;rfl
  |mp=>obtain⟨_,_,rfl⟩:=h;rfl
  |_=>exact h.elim
theorem VC.one {X:Cx} {x:AV} {v:Value} (h:VC X x v):v.oneCell'=true:=by
  cases x with
  |clo f c=>obtain⟨_,rfl,_⟩:=h;rfl
  |_=>simp only[VC] at h;exact VC0.one h
structure Stays (old:Nat→Prop) (w w':World):Prop where
  os:w'.os=w.os
  tape:w'.tape=w.tape
  output:w'.output=w.output
  size:w.heap.size≤w'.heap.size
  block:∀ k,old k→w'.heap[k]?=w.heap[k]?
theorem Stays.toBelow {n:Nat} {w w':World} (h:Stays (fun b=>b<n) w w'):Below n w w':=⟨h.os,h.tape,h.output,h.size,h.block⟩
theorem Stays.refl (old:Nat→Prop) (w:World):Stays old w w:=⟨rfl,rfl,rfl,Nat.le_refl _,fun _ _=>rfl⟩
theorem Stays.trans {old:Nat→Prop} {a b c:World} (h:Stays old a b) (k:Stays old b c):Stays old a c:=
  ⟨k.os.trans h.os,k.tape.trans h.tape,k.output.trans h.output,Nat.le_trans h.size k.size,fun i hi=>(k.block i hi).trans (h.block i hi)⟩
theorem Stays.mono {old old':Nat→Prop} {w w':World} (h:Stays old w w') (ho:∀ b,old' b→old b):Stays old' w w':=⟨h.os,h.tape,h.output,h.size,fun k hk=>h.block k (ho k hk)⟩
theorem Stays.drew {old:Nat→Prop} {a w:World} (h:Stays old a w):Stays old a w.drew:=⟨h.os,h.tape,h.output,h.size,h.block⟩
theorem Stays.alloc {old:Nat→Prop} {a w:World} (h:Stays old a w) (hB:∀ b,old b→b<w.heap.size) (o:Obj):Stays old a (w.alloc o):=
  h.trans ⟨rfl,rfl,rfl,by simp,fun k hk=>Go.RowKit.Below.heap_alloc _ _ _ (hB k hk)⟩
theorem Stays.cell {old:Nat→Prop} {w w':World} (h:Stays old w w') {p:Addr} (hp:old p.block):w'.cell? p=w.cell? p:=World.cell?_of_block (w:=w) (h.block p.block hp)
theorem Stays.setRow {old:Nat→Prop} {g:Nat} {w0 w:World} (hb:Stays old w0 w) (hg:¬old g) (cs:Array Value):Stays old w0 (w.setRow g cs):=
  hb.trans ⟨rfl,rfl,rfl,by simp_all,fun k hk=>setRow_other w g k cs (fun e=>hg (e ▸ hk))⟩
structure Ext (X Y:Cx):Prop where
  base:Y.old=X.old
  below:Stays X.old X.w Y.w
  reg:∀ b o,X.F b o→Y.F b o
  keep:∀ b o,X.F b o→Y.w.cell? ⟨b,o,none⟩=X.w.cell? ⟨b,o,none⟩
  loc:∀ v L,X.ρ v=some L→Y.ρ v=some L
  new:∀ b o,Y.F b o→X.F b o∨¬X.old b
theorem Ext.refl (X:Cx):Ext X X:=⟨rfl,Stays.refl _ _,fun _ _ h=>h,fun _ _ _=>rfl,fun _ _ h=>h,fun _ _ h=>.inl h⟩
theorem Ext.trans {X Y Z:Cx} (h:Ext X Y) (k:Ext Y Z):Ext X Z:=
  ⟨k.base.trans h.base,h.below.trans (h.base ▸ k.below),fun b o hb=>k.reg b o (h.reg b o hb),fun b o hb=>(k.keep b o (h.reg b o hb)).trans (h.keep b o hb),
    fun v L hv=>k.loc v L (h.loc v L hv),fun b o hb=>(k.new b o hb).elim (h.new b o) fun hb=>.inr (h.base ▸ hb)⟩
theorem DR.ext {X Y:Cx} (hx:Ext X Y) {x:D} {v:Value} (h:DR X.w X.F x v):DR Y.w Y.F x v:=by
  induction h with
  |sc v h1=>exact .sc v h1
  |er v h1=>exact .er v h1
  |rg k e=>exact .rg k e
  | sl els a n cap sz b o g hn hcap hsz ha hF hc _ ih =>
    exact .sl els a n cap sz b o g hn hcap hsz ha (fun i e j x h1 h2=>hx.reg _ _ (hF i e j x h1 h2)) (fun i e j x h1 h2=>(hx.keep _ _ (hF i e j x h1 h2)).trans (hc i e j x h1 h2)) ih
theorem Lies.ext {X Y:Cx} (hx:Ext X Y) {els:List (List D)} {b o sz:Nat} (h:Lies X.w X.F X.F els b o sz):Lies Y.w Y.F Y.F els b o sz:=
  ⟨h.1,fun i e j x h1 h2=>by
    obtain⟨hF,v,hv,hd⟩:=h.2 i e j x h1 h2
    exact⟨hx.reg _ _ hF,v,(hx.keep _ _ hF).trans hv,hd.ext hx⟩⟩
theorem Ext.cell_base {X Y:Cx} (hx:Ext X Y) {b:Nat} (h:X.old b) (o:Nat):Y.w.cell? ⟨b,o,none⟩=X.w.cell? ⟨b,o,none⟩:=hx.below.cell (p:=⟨b,o,none⟩) h
theorem VC0.ext {X Y:Cx} (hx:Ext X Y) {x:AV} {v:Value} (h:VC0 X x v):VC0 Y x v:=by
  cases x with
  |d x=>exact DR.ext hx h
  | own els o =>
    cases o with
    |full=>obtain⟨a,b,o,sz,hv,ha,hl⟩:=h;exact⟨a,b,o,sz,hv,ha,hl.ext hx⟩
    |tip ver tz=>obtain⟨a,b,o,sz,cap,hv,hc,ha,hl,hr,hz⟩:=h;exact⟨a,b,o,sz,cap,hv,hc,ha,hl.ext hx,hx.loc _ _ hr,hz⟩
    | bor =>
      obtain⟨a,b,o,sz,cap,hv,hc,ha,hl⟩:=h
      refine⟨a,b,o,sz,cap,hv,hc,ha,hl.1,fun i e j x h1 h2=>?_⟩
      obtain⟨hF,v,hv,hd⟩:=hl.2 i e j x h1 h2
      exact⟨by simpa[hx.base] using hF,v,(hx.cell_base hF _).trans hv,hd.ext hx⟩
  |ref lv sl ver off n sz=>obtain⟨L,a,cap,hr,h⟩:=h;exact⟨L,a,cap,hx.loc _ _ hr,h⟩
  |ptr lv sl ver i off=>obtain⟨L,hr,h⟩:=h;exact⟨L,hx.loc _ _ hr,h⟩
  |bref lv sl ver off n sz=>obtain⟨L,cap,hr,h⟩:=h;exact⟨L,cap,hx.loc _ _ hr,h⟩
  |mp lv sl ver=>obtain⟨L,hr,h⟩:=h;exact⟨L,hx.loc _ _ hr,h⟩
  | dptr e off =>
    obtain⟨b,o,hv,h⟩:=h
    refine⟨b,o,hv,fun j x hj=>?_⟩
    obtain⟨hF,u,hu,hd⟩:=h j x hj
    refine⟨hF.imp (hx.reg _ _) (fun h=>by simpa[hx.base] using h),u,?_,hd.ext hx⟩
    rcases hF with hF|hF
    · exact (hx.keep _ _ hF).trans hu
    · exact (hx.cell_base hF _).trans hu
  |_=>exact h
theorem VC.ext {X Y:Cx} (hx:Ext X Y) {x:AV} {v:Value} (h:VC X x v):VC Y x v:=by
  cases x with
  |clo f c=>obtain⟨vs,hv,h⟩:=h;exact⟨vs,hv,h.mono fun _ _=>VC0.ext hx⟩
  |_=>simp only[VC] at h ⊢;exact VC0.ext hx h
theorem V1.ext {X Y:Cx} (hx:Ext X Y) {x:AV} {v:Value} (h:V1 X x v):V1 Y x v:=by
  cases x with
  |agg cs=>obtain⟨vs,hv,h⟩:=h;exact⟨vs,hv,h.mono fun _ _=>VC.ext hx⟩
  |_=>simp only[V1] at h ⊢;exact VC.ext hx h
theorem VR.ext {X Y:Cx} (hx:Ext X Y) {x:AV} {v:Value} (h:VR X x v):VR Y x v:=by
  cases x with
  |tup cs=>obtain⟨vs,hv,h⟩:=h;exact⟨vs,hv,h.mono fun _ _=>V1.ext hx⟩
  |_=>simp only[VR] at h ⊢;exact V1.ext hx h
def Ent.ver:Ent→Nat
  |.row v _=>v
  |.box v _=>v
  |.fro v _=>v
  |.mp v _=>v
def Ent.fz:Ent→Bool
  |.fro _ _=>true
  |_=>false
def Block (X:Cx) (b n:Nat):Prop:=¬X.old b∧∃ c e,X.w.heap[b]?=some (.cells c e (0,0))∧n≤c.size
def SetFit (es:Array MapEntry) (ks:List (List UInt8)):Prop:=es.toList.map (fun e=>(e.key,e.val))=ks.map fun l=>(Value.string (strOfB l),Value.bool true)
def EntOK (X:Cx):Ent→Loc→Prop
  |.row _ els,L=>els.length≤L.cap∧(∀ e∈els,e.length=L.sz)∧(0<L.cap→Block X L.b (L.o+L.cap*L.sz)∧(∀ o,¬X.F L.b o))∧
      ∀ i e j x,els[i]?=some e→e[j]?=some x→∃ v,X.w.cell? ⟨L.b,L.o+i*L.sz+j,none⟩=some v∧DR X.w X.F x v
  |.box _ cells,L=>L.cap=1∧Block X L.b (L.o+max cells.length L.sz)∧(∀ o,¬X.F L.b o)∧
      ∀ j x,cells[j]?=some x→∃ v,X.w.cell? ⟨L.b,L.o+j,none⟩=some v∧VC X x v
  |.fro _ els,L=>els.length≤L.cap∧Lies X.w X.F X.F els L.b L.o L.sz
  |.mp _ ks,L=>L.cap=1∧¬X.old L.b∧(∀ o,¬X.F L.b o)∧∃ es clock,X.w.heap[L.b]?=some (.map es clock)∧SetFit es ks
def TipOK (X:Cx) (L:Loc):Prop:=0<L.cap→Block X L.b (L.o+L.cap*L.sz)∧∀ o,L.o≤o→¬X.F L.b o
def Holds (m:List (Tr Ent)) (t:Tr Unit) (k:Nat×Nat×Nat) (v:Nat):Prop:=
  (∃ lv sl e,k=keyE lv sl∧memGet m lv sl=some e∧e.ver=v∧e.fz=false)∨(k=keyT v∧t.get? v=some ())
structure Low (X:Cx):Prop where
  lt:∀ b,X.old b→b<X.w.heap.size
  gb:∀ b,gblk b→X.old b
  gk:gok X.w
theorem Low.ext {X Y:Cx} (h:Low X) (hx:Ext X Y):Low Y:=
  ⟨by rw[hx.base];exact fun b hb=>Nat.lt_of_lt_of_le (h.lt b hb) hx.below.size,fun b hb=>by rw[hx.base];exact h.gb b hb,gok_stays (fun b hb=>hx.below.block b (h.gb b hb)) h.gk⟩
structure MemOK (X:Cx) (m:List (Tr Ent)) (t:Tr Unit):Prop where
  ents:∀ lv sl e,memGet m lv sl=some e→∃ L,X.ρ e.ver=some L∧EntOK X e L
  tips:∀ v,t.get? v=some ()→∃ L,X.ρ v=some L∧TipOK X L
  apart:∀ k k' v v' L L',Holds m t k v→Holds m t k' v'→k≠k'→X.ρ v=some L→X.ρ v'=some L'→0<L.cap→0<L'.cap→L.b≠L'.b
  inF:∀ b o,X.F b o→b<X.w.heap.size
  lows:Low X
theorem MemOK.low {X:Cx} {m:List (Tr Ent)} {t:Tr Unit} (h:MemOK X m t):∀ b,X.old b→b<X.w.heap.size:=h.lows.lt
theorem MemOK.fresh {X:Cx} {m:List (Tr Ent)} {t:Tr Unit} (h:MemOK X m t):¬X.old X.w.heap.size:=fun q=>Nat.lt_irrefl _ (h.low _ q)
theorem Block.lt {X:Cx} {b n:Nat} (h:Block X b n):b<X.w.heap.size:=by
  grind[Block]
theorem Block.cell {X:Cx} {b n:Nat} (h:Block X b n) (o:Nat) (ho:o<n):∃ v,X.w.cell? ⟨b,o,none⟩=some v:=by
  obtain⟨_,c,e,h,hn⟩:=h
  rw[cell_of_row _ _ _ _ _ _ h]
  exact⟨_,Array.getElem?_eq_getElem (by omega)⟩
theorem MemOK.congr {X:Cx} {m m':List (Tr Ent)} {t t':Tr Unit} (h:MemOK X m t) (hm:∀ lv sl,memGet m' lv sl=memGet m lv sl) (ht:∀ v,t'.get? v=t.get? v):MemOK X m' t':=by
  have hh:∀ k v,Holds m' t' k v→Holds m t k v:=by
    grind[Tr.get?,memGet,Holds]
  exact⟨fun lv sl e he=>h.ents lv sl e ((hm lv sl) ▸ he),fun v hv=>h.tips v ((ht v) ▸ hv),fun k k' v v' L L' a b=>h.apart k k' v v' L L' (hh _ _ a) (hh _ _ b),h.inF,h.lows⟩
theorem MemOK.less {X:Cx} {m m':List (Tr Ent)} {t t':Tr Unit} (h:MemOK X m t) (hm:∀ lv sl e,memGet m' lv sl=some e→memGet m lv sl=some e) (ht:∀ v,t'.get? v=some ()→t.get? v=some ()):MemOK X m' t':=by
  have hh:∀ k v,Holds m' t' k v→Holds m t k v:=by
    grind[Tr.get?,memGet,Holds]
  exact⟨fun lv sl e he=>h.ents lv sl e (hm _ _ _ he),fun v hv=>h.tips v (ht _ hv),fun k k' v v' L L' a b=>h.apart k k' v v' L L' (hh _ _ a) (hh _ _ b),h.inF,h.lows⟩
theorem MemOK.move {X Y : Cx} {m : List (Tr Ent)} {t : Tr Unit} (h : MemOK X m t) (hx : Ext X Y)
    (hb:∀ k v L,Holds m t k v→X.ρ v=some L→0<L.cap→Y.w.heap[L.b]?=X.w.heap[L.b]?)
    (hF:∀ k v L o,Holds m t k v→X.ρ v=some L→0<L.cap→Y.F L.b o→X.F L.b o)
    (hin:∀ b o,Y.F b o→b<Y.w.heap.size):MemOK Y m t:=by
  have blk:∀ b n,Y.w.heap[b]?=X.w.heap[b]?→Block X b n→Block Y b n:=by
    rintro b n he ⟨h1,c,e,h2,h3⟩
    exact⟨by rw[hx.base];exact h1,c,e,by rw[he];exact h2,h3⟩
  have cel:∀ b o,Y.w.heap[b]?=X.w.heap[b]?→Y.w.cell? ⟨b,o,none⟩=X.w.cell? ⟨b,o,none⟩:=by
    intro b o he
    simp[World.cell?,he]
  refine⟨fun lv sl e he=>?_,fun v hv=>?_,fun k k' v v' L L' a b hne hv hv'=>?_,hin,?_⟩
  · obtain ⟨L, hL, hE⟩ := h.ents lv sl e he
    have hk:e.fz=false→Holds m t (keyE lv sl) e.ver:=fun hz=>.inl ⟨lv,sl,e,rfl,he,rfl,hz⟩
    refine⟨L,hx.loc _ _ hL,?_⟩
    cases e with
    |fro v els=>exact⟨hE.1,hE.2.ext hx⟩
    | mp v ks =>
      have hk:=hk rfl
      obtain⟨h1,h2,h3,es,clock,h4,h5⟩:=hE
      have hc:0<L.cap:=by omega
      exact⟨h1,by rw[hx.base];exact h2,fun o ho=>h3 o (hF _ _ _ _ hk hL hc ho),es,clock,(hb _ _ _ hk hL hc).trans h4,h5⟩
    | row v els =>
      have hk:=hk rfl
      obtain⟨h1,h2,h3,h4⟩:=hE
      refine⟨h1,h2,fun hc=>⟨blk _ _ (hb _ _ _ hk hL hc) (h3 hc).1,fun o ho=>(h3 hc).2 o (hF _ _ _ _ hk hL hc ho)⟩,fun i e j x hi hj=>?_⟩
      have hc:0<L.cap:=by
        have:i<els.length:=(List.getElem?_eq_some_iff.1 hi).1
        omega
      obtain⟨u,hu,hd⟩:=h4 i e j x hi hj
      exact⟨u,(cel _ _ (hb _ _ _ hk hL hc)).trans hu,hd.ext hx⟩
    | box v cells =>
      have hk:=hk rfl
      obtain⟨h1,h2,h3,h4⟩:=hE
      have hc:0<L.cap:=by omega
      refine⟨h1,blk _ _ (hb _ _ _ hk hL hc) h2,fun o ho=>h3 o (hF _ _ _ _ hk hL hc ho),fun j x hj=>?_⟩
      obtain⟨u,hu,hd⟩:=h4 j x hj
      exact⟨u,(cel _ _ (hb _ _ _ hk hL hc)).trans hu,hd.ext hx⟩
  · obtain ⟨L, hL, hT⟩ := h.tips v hv
    have hk:Holds m t (keyT v) v:=.inr ⟨rfl,hv⟩
    exact⟨L,hx.loc _ _ hL,fun hc=>⟨blk _ _ (hb _ _ _ hk hL hc) (hT hc).1,fun o ho hf=>(hT hc).2 o ho (hF _ _ _ _ hk hL hc hf)⟩⟩
  · have ho : ∀ k v, Holds m t k v → ∃ L, X.ρ v = some L := by
      rintro k v (⟨lv,sl,e,_,he,rfl,_⟩|⟨_,he⟩)
      · obtain⟨L,hL,_⟩:=h.ents lv sl e he;exact⟨L,hL⟩
      · obtain⟨L,hL,_⟩:=h.tips v he;exact⟨L,hL⟩
    obtain⟨M,hM⟩:=ho _ _ a
    obtain⟨M',hM'⟩:=ho _ _ b
    rw[hx.loc _ _ hM] at hv
    rw[hx.loc _ _ hM'] at hv'
    simp_all
    subst hv;subst hv'
    exact h.apart k k' v v' M M' a b hne hM hM'
  · exact h.lows.ext hx
theorem MemOK.erase {X:Cx} {m:List (Tr Ent)} {t:Tr Unit} (h:MemOK X m t) (lv sl:Nat):MemOK X (memSet m lv sl none) t:=
  h.less (fun lv' sl' e he=>by rw[memGet_set] at he<;>grind) fun _ h=>h
theorem MemOK.eraseT {X:Cx} {m:List (Tr Ent)} {t:Tr Unit} (h:MemOK X m t) (v:Nat):MemOK X m (t.set v none):=
  h.less (fun _ _ _ h=>h) fun v' he=>by rw[Tr.get_set] at he<;>grind
theorem keyE_inj {a b c d:Nat} (h:keyE a b=keyE c d):a=c∧b=d:=by simpa[keyE] using h
theorem keyE_ne_keyT {a b c:Nat} : keyE a b≠keyT c:=by simp[keyE,keyT]
theorem MemOK.add {X : Cx} {m : List (Tr Ent)} {t : Tr Unit} {lv sl : Nat} {e : Ent} {L : Loc} (h : MemOK X m t) (hL : X.ρ e.ver = some L) (hE : EntOK X e L)
    (hap:∀ k v M,Holds m t k v→k≠keyE lv sl→X.ρ v=some M→0<M.cap→0<L.cap→M.b≠L.b):MemOK X (memSet m lv sl (some e)) t:=by
  have hh : ∀ k v, Holds (memSet m lv sl (some e)) t k v → (k = keyE lv sl ∧ v = e.ver) ∨ (k ≠ keyE lv sl ∧ Holds m t k v) := by
    rintro k v (⟨lv',sl',e',hk,he,hv⟩|⟨hk,he⟩)
    · rw [memGet_set] at he
      split at he
      · subst_vars
        simp_all
      · by_cases hke : k = keyE lv sl
        · rename_i hc
          rw[hk] at hke
          obtain⟨rfl,rfl⟩:=keyE_inj hke
          exfalso
          apply hc
          refine⟨rfl,rfl,?_⟩
          unfold memGet at he
          rcases Nat.lt_or_ge lv' m.length with hl|hl
          · exact hl
          · rw[List.getElem?_eq_none hl] at he;cases he
        · exact .inr ⟨hke,.inl ⟨lv',sl',e',hk,he,hv⟩⟩
    · exact .inr ⟨by rw[hk];exact fun h=>keyE_ne_keyT h.symm,.inr ⟨hk,he⟩⟩
  refine⟨fun lv' sl' e' he=>?_,h.tips,fun k k' v v' M M' a b hne hv hv' hc hc'=>?_,h.inF,h.lows⟩
  · rw [memGet_set] at he
    split at he
    · simp_all
    · exact h.ents lv' sl' e' he
  · rcases hh _ _ a with ⟨rfl, rfl⟩ | ⟨hk, a⟩
    · rcases hh _ _ b with ⟨rfl, rfl⟩ | ⟨hk', b⟩
      · exact absurd rfl hne
      · rw [hL] at hv; cases hv
        exact (hap _ _ _ b hk' hv' hc' hc).symm
    · rcases hh _ _ b with ⟨rfl, rfl⟩ | ⟨hk', b⟩
      · rw [hL] at hv'; cases hv'
        exact hap _ _ _ a hk hv hc hc'
      · exact h.apart k k' v v' M M' a b hne hv hv' hc hc'
theorem MemOK.addT {X : Cx} {m : List (Tr Ent)} {t : Tr Unit} {v : Nat} {L : Loc} (h : MemOK X m t) (hL : X.ρ v = some L) (hE : TipOK X L)
    (hap:∀ k u M,Holds m t k u→k≠keyT v→X.ρ u=some M→0<M.cap→0<L.cap→M.b≠L.b):MemOK X m (t.set v (some ())):=by
  have hh:∀ k u,Holds m (t.set v (some ())) k u→(k=keyT v∧u=v)∨(k≠keyT v∧Holds m t k u):=by
    rintro k u (⟨lv',sl',e',hk,he,hv⟩|⟨hk,he⟩)
    · exact .inr ⟨by rw[hk];exact keyE_ne_keyT,.inl ⟨lv',sl',e',hk,he,hv⟩⟩
    · rw[Tr.get_set] at he<;>grind[Tr.set,Tr.get?,TipOK,Holds,keyT]
  refine⟨h.ents,fun u hu=>?_,fun k k' u u' M M' a b hne hv hv' hc hc'=>?_,h.inF,h.lows⟩
  · rw [Tr.get_set] at hu
    split at hu
    · subst_vars;exact⟨L,hL,hE⟩
    · exact h.tips u hu
  · rcases hh _ _ a with ⟨ek, ev⟩ | ⟨hk, a⟩
    · rcases hh _ _ b with ⟨ek', ev'⟩ | ⟨hk', b⟩
      · exact absurd (ek.trans ek'.symm) hne
      · rw [ev, hL] at hv; cases hv
        exact (hap _ _ _ b hk' hv' hc' hc).symm
    · rcases hh _ _ b with ⟨ek', ev'⟩ | ⟨hk', b⟩
      · rw [ev', hL] at hv'; cases hv'
        exact hap _ _ _ a hk hv hc hc'
      · exact h.apart k k' u u' M M' a b hne hv hv' hc hc'
end Go.Eng
namespace Go.Eng
open Go
def constCell : Value → Option AV
  |.slice none 0 0=>some (.own [] .full)
  |.slice _ _ _=>none
  |.agg _=>none
  |.tuple _=>none
  | .func fn first cap => match fn with
    |.func f=>if first.size=0∧cap.size=0 then some (.clo f []) else none
    |_=>none
  |v=>some (.d (.sc v))
def constCells : List Value → Option (List AV)
  |[]=>some []
  | v :: r => match constCell v, constCells r with
    |some x,some xs=>some (x :: xs)
    |_,_=>none
def constA:Value→Option AV
  |.agg cs=>(constCells cs.toList).map .agg
  |.tuple vs=>if vs.size=0 then some (.tup []) else none
  |v=>constCell v
def constD:Value→Option D
  |.slice none 0 0=>some (.sl [])
  |.slice _ _ _=>none
  |.agg _=>none
  |.tuple _=>none
  |.func _ _ _=>none
  |v=>some (.sc v)
def constDs : List Value → Option (List D)
  |[]=>some []
  | v :: r => match constD v, constDs r with
    |some x,some xs=>some (x :: xs)
    |_,_=>none
def opd:Operand→Option Opd
  |.tmp t=>some (.t t)
  |.const v=>(constA v).map .c
  |.func f=>some (.c (.clo f []))
  |.global _=>none
def opds : List Operand → Option (List Opd)
  |[]=>some []
  | x :: r => match opd x, opds r with
    |some y,some ys=>some (y :: ys)
    |_,_=>none
def opdO:Option Operand→Option (Option Opd)
  |none=>some none
  |some x=>(opd x).map some
def isAggP (P:Program) (t:TypeId):Option Bool:=
  match P.underlying t with
  |some (.struct _)|some (.array _ _)=>some true
  |some _=>some false
  |none=>none
def zeroP (P:Program) (t:TypeId):Option (List Value):=(P.info? t).bind fun i=>i.zero.map fun v=>v.cells.toList
def sizeP (P:Program) (t:TypeId):Option Nat:=(P.info? t).map (·.size)
def eqCells (P : Program) : Nat → TypeId → Nat → Option (List (Nat × Nat))
  |0,_,_=>none
  | n + 1, t, off =>
    match sizeP P t,P.underlying t with
    |some 1,some .bool=>some [(off,0)]
    |some 1,some (.int _)=>some [(off,1)]
    |some 1,some .string=>some [(off,2)]
    |some sz,some (.struct fs)=>if P.stoodInHeld t then none else
        fs.toList.foldr (fun f acc=>match acc,sizeP P f.type with
          |some l,some fz=>if f.name = "_" ∨ sz<f.offset+fz then none else (eqCells P n f.type (off+f.offset)).map (· ++ l)
          |_,_=>none) (some [])
    |_,_=>none
def partsP (place : Nat → Option (Nat × Nat)) : List (Nat × Operand) → Option (List (Nat × Nat × Opd))
  |[]=>some []
  | (i, x) :: r => match place i, opd x, partsP place r with
    |some (off,sz),some y,some ys=>some ((off,sz,y) :: ys)
    |_,_,_=>none
def placesP (P:Program) (fs:Array Field):Option (List (Nat×Nat)):=fs.toList.mapM fun f=>(P.info? f.type).map fun i=>(f.offset,i.size)
def partsSl : List (Nat × Operand) → Option (List (Nat × Opd))
  |[]=>some []
  | (i, x) :: r => match opd x, partsSl r with
    |some y,some ys=>some ((i,y) :: ys)
    |_,_=>none
def cmpOp (P : Program) (op : BinOp) (neg : Bool) (t : TypeId) (x y : Opd) : Option AOp :=
  match P.underlying t with
  |some .bool=>some (.eqb neg x y)
  |some (.int _)|some .string=>some (.bin op x y)
  |some (.slice _)=>some .bad
  | some (.interface _) => match y with
    |.c (.d (.sc .nilIface))=>some (.isErr neg x)
    |_=>none
  | some (.struct _) => if P.eqGuardType P.depth t then none else match eqCells P 20 t 0, sizeP P t with
    |some l,some sz=>some (.eqA neg sz l x y)
    |_,_=>none
  |_=>none
def elemP (P : Program) (t : TypeId) : Option (Nat × Nat) :=
  match P.underlying t with
  | some (.slice e) => match P.info? e, zeroP P e with
    |some i,some z=>if 0<i.size∧z.length=i.size then some (i.size,i.bytes) else none
    |_,_=>none
  |_=>none
def flatT (P : Program) : Nat → TypeId → Bool
  |0,_=>false
  | n + 1, t => match P.underlying t with
    |some .bool|some (.int _)|some .string=>true
    |some (.struct fs)=>fs.toList.all fun f=>flatT P n f.type
    |some (.array _ e)=>flatT P n e
    |_=>false
def flatF (P:Program) (f:Nat):Bool:=
  match P.funcs[f]? with
  |some fn=>fn.resultTypes.toList.all (flatT P 20)
  |none=>false
def ptrF (P : Program) (f : Nat) : Bool :=
  match P.funcs[f]? with
  | some fn => match fn.params.toList with
    | t :: _ => match P.underlying t with
      |some (.pointer _)=>true
      |_=>false
    |[]=>false
  |none=>false
def callP (P : Program) (lib : Nat → Option TypeId) (c : Go.Call) : Option AOp :=
  match c.callee with
  | .value (.func f) =>
    match lib f,c.args.toList with
    | some t, [x] => match Nat.beq t 1000000 with
      |true=>(opd x).map .sort
      | false => match Nat.beq t 1000001 with
       |true=>(opd x).map .compact
       |false=>match elemP P t,opd x with
        |some (sz,by_),some x=>some (.clone sz by_ x)
        |_,_=>none
    |some _,_=>none
    | none, _ => match flatF P f && !ptrF P f with
      |true=>(opds c.args.toList).map (.callF f)
      |false=>(opds c.args.toList).map (.call f)
  |.value (.tmp t)=>(opds c.args.toList).map (.callv (.t t))
  |.value _=>none
  |.invoke _ _=>none
  | .builtin b =>
    match b,c.args.toList,c.argTypes.toList with
    | .len, [x], [t] => match P.underlying t with
      |some (.slice _)=>(opd x).map .len
      |some .string=>(opd x).map .lenS
      |some (.array n _)=>some (.lenC n)
      | some (.pointer e) => match P.underlying e with
        |some (.array n _)=>some (.lenC n)
        |_=>none
      |_=>none
    | .append, [x, y], [t, u] => match P.underlying t, P.underlying u with
      | some (.slice e), some (.int _) => (match elemP P t, (zeroP P e).bind constDs, opd x, opd y with
        |some (sz,by_),some z,some x,some y=>if z.length=sz then some (.appendZ sz by_ z x y) else none
        |_,_,_,_=>none)
      |_,some (.int _)=>none
      | _, some (.slice _) => (match elemP P t, opd x, opd y with
        |some (sz,by_),some x,some y=>some (.append sz by_ x y)
        |_,_,_=>none)
      | _, some .string => (match elemP P t, opd x, opd y with
        |some (sz,by_),some x,some y=>some (.append sz by_ x y)
        |_,_,_=>none)
      |_,_=>none
    | .copy, [x, y], [t, _] => match P.underlying t with
      | some (.slice e) => match P.info? e, opd x, opd y with
        |some i,some x,some y=>if 0<i.size then some (.copy i.size x y) else none
        |_,_,_=>none
      |_=>none
    | .clear, [x], [t] => match P.underlying t with
      | some (.slice e) => match sizeP P e, (zeroP P e).bind constDs, opd x with
        |some sz,some z,some x=>if z.length=sz∧0<sz then some (.clear sz z x) else none
        |_,_,_=>none
      |_=>none
    | .cap, [x], [t] => match P.underlying t with
      |some (.slice _)=>(opd x).map .capF
      |_=>none
    | .min, [x, y], _ => match opd x, opd y with
      |some x,some y=>some (.mini x y)
      |_,_=>none
    | .max, [x, y], _ => match opd x, opd y with
      |some x,some y=>some (.maxi x y)
      |_,_=>none
    |_,_,_=>none
def opP (P : Program) (lib : Nat → Option TypeId) : Go.Op → Option AOp
  |.move x|.assign x=>(opd x).map .mov
  | .pick c a b => match opd c, opd a, opd b with
    |some c,some a,some b=>some (.pick c a b)
    |_,_,_=>none
  |.alloc t=>(zeroP P t).bind fun z=>(constCells z).map .alloc
  |.box _ x=>(opd x).map .box
  | .build t ps => match zeroP P t, P.underlying t with
    | some z, some (.struct fs) => match constCells z, placesP P fs with
      |some z,some pl=>(partsP (pl.toArray[·]?) ps.toList).map (.build z)
      |_,_=>none
    | some z, some (.array _ e) => match constCells z, sizeP P e with
      |some z,some sz=>(partsP (fun i=>some (i*sz,sz)) ps.toList).map (.build z)
      |_,_=>none
    |_,_=>none
  | .buildSlice t n ps => match P.underlying t with
    | some (.slice e) => match sizeP P e, (zeroP P e).bind constDs, partsSl ps.toList with
      |some sz,some z,some l=>if n*sz≤16777216∧z.length=sz∧0<sz then some (.buildSlice sz n z l) else none
      |_,_,_=>none
    |_=>none
  | .load t x => match sizeP P t, isAggP P t, opd x with
    |some sz,some agg,some x=>if agg∨sz=1 then some (.load sz agg x) else none
    |_,_,_=>none
  | .store t x v => match sizeP P t, opd x, opd v with
    |some sz,some x,some v=>some (.store sz x v)
    |_,_,_=>none
  |.nilCheck x=>(opd x).map .nilCheck
  | .binOp op t x y _ => match opd x, opd y with
    | some x, some y => match op with
      |.eql=>cmpOp P op false t x y
      |.neq=>cmpOp P op true t x y
      |op=>some (.bin op x y)
    |_,_=>none
  |.unOp op _ x=>(opd x).map (.un op)
  | .convert src dst x => match P.underlying src, P.underlying dst with
    |some _,some (.int k)=>(opd x).map (.conv k)
    | some (.slice e), some .string => match P.underlying e with
      |some (.int .u8)=>(opd x).map .b2s
      |_=>none
    | some .string, some (.slice e) => match P.underlying e with
      |some (.int .u8)=>(opd x).map .s2b
      |_=>none
    |_,_=>none
  | .field t x f => match P.underlying t with
    | some (.struct fs) => match fs[f]? with
      | some f => match sizeP P f.type, isAggP P f.type, opd x with
        |some sz,some agg,some x=>if agg∨sz=1 then some (.field f.offset sz agg x) else none
        |_,_,_=>none
      |none=>none
    |_=>none
  | .fieldAddr t x f => match P.underlying t with
    | some (.struct fs) => match fs[f]? with
      | some f => match sizeP P f.type, opd x with
        |some sz,some x=>if sz=0 then none else some (.fieldAddr f.offset x)
        |_,_=>none
      |none=>none
    |_=>none
  | .indexAddr t x i => match P.underlying t with
    | some (.slice e) => match sizeP P e, opd x, opd i with
      |some sz,some x,some i=>if sz=0 then none else some (.indexAddr sz x i)
      |_,_,_=>none
    | some (.array n e) => match sizeP P e, opd x, opd i with
      |some sz,some x,some i=>some (.indexArr n sz x i)
      |_,_,_=>none
    |_=>none
  | .index t x i => match P.underlying t with
    | some (.array n e) => match sizeP P e, isAggP P e, opd x, opd i with
      |some sz,some agg,some x,some i=>if agg∨sz=1 then some (.indexA n sz agg x i) else none
      |_,_,_,_=>none
    | some .string => match opd x, opd i with
      |some x,some i=>some (.indexS x i)
      |_,_=>none
    |_=>none
  | .slice t x lo hi mx => match P.underlying t with
    | some (.slice e) => match sizeP P e, opd x, opdO lo, opdO hi, opdO mx with
      |some sz,some x,some lo,some hi,some mx=>if sz=0∨(mx.isSome∧hi.isNone) then none else some (.slice sz x lo hi mx)
      |_,_,_,_,_=>none
    | some (.array n e) => match lo, hi, mx, sizeP P e, opd x with
      |none,none,none,some sz,some x=>if n=0 then none else some (.sliceB n sz x)
      |some (.const (.int .i64 k)),none,none,some sz,some x=>if 0≤k then some (.sliceL k.toNat n sz x) else none
      |_,_,_,_,_=>none
    | some .string => match opd x, opdO lo, opdO hi, mx with
      |some x,some lo,some hi,none=>some (.sliceS x lo hi)
      |_,_,_,_=>none
    |_=>none
  |.extract x i=>(opd x).map fun x=>.extract x i
  | .makeFunc fn first cap => match fn with
    |.func f=>if first.size=0 then (opds cap.toList).map (.makeFunc f) else none
    |_=>none
  | .makeSlice t l c => match P.underlying t with
    | some (.slice e) => match P.info? e, (zeroP P e).bind constDs, opd l, opd c with
      |some i,some z,some l,some c=>if 0<i.size then some (.makeSlice i.size i.bytes z l c) else none
      |_,_,_,_=>none
    |_=>none
  | .makeMap t none => match P.underlying t with
    | some (.map k e) => match P.underlying k, P.underlying e with
      |some .string,some .bool=>some .mkSet
      |_,_=>none
    |_=>none
  | .lookup t m x false => match P.underlying t with
    | some (.map k e) => match P.underlying k, (P.info? e).bind (·.zero), opd m, opd x with
      |some .string,some (.bool false),some m,some x=>some (.hasK m x)
      |_,_,_,_=>none
    |_=>none
  | .mapUpdate t m x v => match v, P.underlying t with
    | .const (.bool true), some (.map k _) => match P.underlying k, opd m, opd x with
      |some .string,some m,some x=>some (.addK m x)
      |_,_,_=>none
    |_,_=>none
  |.call c=>callP P lib c
  |.panic _=>some .bad
  |.makeInterface _ _=>some .bad
  |_=>none
def gdP (ops:Array Oper):Option (Nat×Bool)→Option (Option (Nat×Bool))
  |none=>some none
  |some (j,b)=>((ops[j]?).bind (·.dst)).map fun d=>some (d,b)
def operP (P:Program) (lib:Nat→Option TypeId) (nt:Nat) (rows:List (Nat×Nat)) (ops:Array Oper) (bef:Nat) (o:Oper):Option AOper:=
  match opP P lib o.op,gdP ops o.guard with
  |some a,some g=>if (o.dst.getD 0)<nt then some { dst:=o.dst,op:=a,gd:=g,bef:=bef,row:=(rows.lookup (o.dst.getD 0)).getD 0 } else none
  |_,_=>none
def opersP (P : Program) (lib : Nat → Option TypeId) (nt : Nat) (rows : List (Nat × Nat)) (ops : Array Oper) : List (Oper × Nat) → Option (List AOper)
  |[]=>some []
  | (o, b) :: r => match operP P lib nt rows ops b o, opersP P lib nt rows ops r with
    |some a,some aSz=>some (a :: aSz)
    |_,_=>none
def AOp.opds:AOp→List Opd
  |.mov x|.box x|.isErr _ x|.nilCheck x|.un _ x|.conv _ x|.field _ _ _ x|.fieldAddr _ x|.extract x _|.len x|.lenS x|.capF x|.b2s x|.s2b x|.sliceB _ _ x|.sliceL _ _ _ x|.clear _ _ x|.clone _ _ x|.sort x|.compact x|.load _ _ x=>[x]
  |.pick a b c=>[a,b,c]
  |.build _ ps=>ps.map (·.2.2)
  |.buildSlice _ _ _ ps=>ps.map (·.2)
  |.store _ x y|.bin _ x y|.eqb _ x y|.eqA _ _ _ x y|.indexAddr _ x y|.indexArr _ _ x y|.indexA _ _ _ x y|.indexS x y|.mini x y|.maxi x y|.append _ _ x y|.appendZ _ _ _ x y|.copy _ x y|.makeSlice _ _ _ x y|.grow _ x y|.hasK x y|.addK x y=>[x,y]
  |.slice _ x a b c=>x :: (a.toList++b.toList++c.toList)
  |.sliceS x a b=>x :: (a.toList++b.toList)
  |.makeFunc _ l|.call _ l|.callF _ l=>l
  |.callv x l=>x :: l
  |.alloc _|.lenC _|.mkSet|.bad=>[]
def Opd.slot:Opd→List Nat
  |.t n=>[n]
  |.c _=>[]
def AOper.looks (o:AOper):List Nat:=o.op.opds.flatMap Opd.slot++(match o.gd with|some (g,_)=>[g]|none=>[])
def hasNat (l:List Nat) (n:Nat):Bool:=l.any fun m=>Nat.beq m n
def dstOff (d:Option Nat) (y:AOper):Bool:=
  match d with
  |some d=>!hasNat y.looks d
  |none=>true
def dstsOff (d e:Option Nat):Bool:=
  match d,e with
  |some d,some e=>!Nat.beq d e
  |_,_=>true
def AOper.apart (x y:AOper):Bool:=dstOff x.dst y&&dstOff y.dst x&&dstsOff x.dst y.dst
def apartTo (y:AOper):Nat→List AOper→Bool
  |_,[]=>true
  |i,x :: r=>(y.bef.testBit i||x.apart y)&&apartTo y (i+1) r
def apartAll (past:List AOper):List AOper→Bool
  |[]=>true
  |y :: r=>apartTo y 0 past&&apartAll (past++[y]) r
def Edge.binds' (e:Edge):Bool:=Region.binds .any e
def befOf (past:List Nat) (o:Oper):Nat:=
  o.after.toList.foldl (fun b e=>if Edge.binds' e then (b ||| (1 <<< e.on)) ||| past.getD e.on 0 else b) 0
def befs (past:List Nat):List Oper→List Nat
  |[]=>past
  |o :: r=>befs (past++[befOf past o]) r
def befOK1 (bef:List Nat) (i:Nat) (o:Oper) (b:Nat):Bool:=
  (o.after.toList.all fun e=>!Edge.binds' e||Nat.blt e.on i) &&
  (List.range i).all fun j=>!b.testBit j||o.after.toList.any fun e=>Edge.binds' e&&(Nat.beq e.on j||(Nat.blt j e.on&&(bef.getD e.on 0).testBit j))
def befOK (bef:List Nat):Nat→List Oper→List Nat→Bool
  |_,[],_=>true
  |i,o :: r,b :: bs=>befOK1 bef i o b&&befOK bef (i+1) r bs
  |_,_ :: _,[]=>false
def regP (P : Program) (lib : Nat → Option TypeId) (nt : Nat) (rows : List (Nat × Nat)) (ops : Array Oper) (draw : Bool) : Option AC :=
  match draw with
  |false=>(opersP P lib nt rows ops (ops.toList.map fun o=>(o,0))).map fun l=>.region l false
  | true =>
    let b:=befs [] ops.toList
    match b.length==ops.size&&befOK b 0 ops.toList b,opersP P lib nt rows ops (ops.toList.zip b) with
    |true,some l=>if apartAll [] l then some (.region l true) else none
    |_,_=>none
def gb:Nat:=4294967296
def gid (l:Nat):Nat:=gb+2*l
def kid (l:Nat):Nat:=gb+2*l+1
def leaves (p:Nat→Bool):AC→Bool
  |.seq a b=>leaves p a&&leaves p b
  |.cond _ a b=>leaves p a&&leaves p b
  |.block _ c=>leaves p c
  |.loop c=>leaves p c
  |.exit id=>p id
  |_=>true
def lab1:Code→Option Nat
  |.label l=>some l
  |_=>none
def labOf : Code → Option Nat
  | .seq a b => match lab1 a with
    |some l=>some l
    |none=>labOf b
  |_=>none
def scopeA (l:Nat) (c:AC):Option AC:=
  match leaves (fun id=>Nat.blt id gb||Nat.beq id (gid l)) c with
  |true=>some (.block (kid l) (.loop (.block (gid l) (.seq c (.exit (kid l))))))
  |false=>none
def codeG (P : Program) (lib : Nat → Option TypeId) (nt : Nat) (rows : List (Nat × Nat)) : Code → Option Nat → Option AC
  | .seq a b, some l => match lab1 a with
    | some l' => match Nat.beq l' l, codeG P lib nt rows b none with
      |true,some c=>scopeA l c
      |_,_=>none
    | none => match findLabel a l, codeG P lib nt rows a none, codeG P lib nt rows b (some l) with
      |none,some a,some b=>if leaves (fun id=>Nat.blt id gb) a then some (.seq a b) else none
      |_,_,_=>none
  |.skip,none=>some .skip
  |.region _ ops draw,none=>regP P lib nt rows ops draw
  | .seq a b, none => match codeG P lib nt rows a none, codeG P lib nt rows b none with
    |some a,some b=>some (.seq a b)
    |_,_=>none
  | .cond c a b, none => match opd c, codeG P lib nt rows a none, codeG P lib nt rows b none with
    |some c,some a,some b=>some (.cond c a b)
    |_,_,_=>none
  | .block id c, none => match Nat.blt id gb with
    |true=>(codeG P lib nt rows c none).map (.block id)
    |false=>none
  |.loop c,none=>(codeG P lib nt rows c none).map .loop
  | .exit id, none => match Nat.blt id gb with
    |true=>some (.exit id)
    |false=>none
  |.goto l,none=>some (.exit (gid l))
  | .scope c, none => match labOf c with
    |some l=>codeG P lib nt rows c (some l)
    |none=>none
  |.ret,none=>some .ret
  |_,_=>none
def codeP (P:Program) (lib:Nat→Option TypeId) (nt:Nat) (rows:List (Nat×Nat)) (c:Code):Option AC:=codeG P lib nt rows c none
def resP (P : Program) : ResultVar → Option ARes
  |.tmp t=>some (.t t)
  | .cell a t => match sizeP P t, isAggP P t with
    |some sz,some agg=>if agg∨sz=1 then some (.cell a sz agg) else none
    |_,_=>none
def ressP (P : Program) : List ResultVar → Option (List ARes)
  |[]=>some []
  | x :: r => match resP P x, ressP P r with
    |some y,some ys=>some (y :: ys)
    |_,_=>none
structure Mode where
  rows:List (Nat×Nat)
  sh:Bool
  deriving Inhabited
def fnP (P : Program) (lib : Nat → Option TypeId) (md : Nat → Mode) (f : Nat) : Option AFn :=
  match P.funcs[f]? with
  |none=>none
  | some fn => match fn.body with
    |none=>none
    | some c =>
      if fn.name == "runtime.NumGoroutine" then none
      else match codeP P lib fn.ntmps (md f).rows c,ressP P fn.results.toList with
        | some b, some rs =>
          let np:=fn.params.size+fn.nfree
          if np≤fn.ntmps then some { np,nt:=fn.ntmps,res:=rs,body:=b,sh:=(md f).sh } else none
        |_,_=>none
end Go.Eng
variable [Go.Eng.Rho]
set_option linter.unusedSectionVars false
namespace Go.Eng
open Go Go.RowKit
theorem VR.sc {X:Cx} {u v:Value} (h:VR X (.d (.sc u)) v):v=u:=by
  cases h
  rfl
theorem VR.rg {X:Cx} {k:IntKind} {e:Ex} {v:Value} (h:VR X (.d (.rg k e)) v):v=.int k (k.wrap e.den):=by
  cases h
  rfl
theorem VR.of_sc {X:Cx} {v:Value} (h:v.oneCell'=true):VR X (.d (.sc v)) v:=DR.sc v h
theorem VR.scA {X:Cx} {v:Value} (h:v.oneCell'=true):VR X (scA v) v:=DR.sc v h
theorem constCell_ok {X : Cx} {v : Value} {x : AV} (h : constCell v = some x) : VC X x v := by
  cases v with
  | slice a n c =>
    simp[constCell] at h
    split at h
    · rename_i hv
      cases hv
      cases h
      exact⟨none,0,0,0,rfl,fun h=>absurd h (by simp),by simp,fun i e j x h=>by simp at h⟩
    all_goals first|(cases h;done)|simp_all
  |agg cs=>simp[constCell] at h
  |tuple cs=>simp[constCell] at h
  | func fn first cap =>
    simp only[constCell] at h
    split at h
    · split at h
      · rename_i h0
        cases h
        obtain⟨h1,h2⟩:=h0
        rw[Array.size_eq_zero_iff] at h1 h2
        subst h1;subst h2
        exact⟨#[],rfl,trivial⟩
      grind
    grind
  |_=>simp only[constCell] at h;injection h with h;subst h;exact DR.sc _ rfl
theorem constCells_ok {X:Cx} : ∀ {vs:List Value} {xs:List AV},constCells vs=some xs→All2 (VC X) xs vs
  |[],xs,h=>by grind[constCells,VC,All2]
  | v :: r, xs, h => by
    simp[constCells] at h
    split at h
    · rename_i x xs' h1 h2
      cases h
      exact⟨constCell_ok h1,constCells_ok h2⟩
    grind
theorem VR.of_VC {X:Cx} {x:AV} {v:Value} (h:VC X x v):VR X x v:=by
  cases x with
  |agg cs=>exact h.elim
  |tup cs=>exact h.elim
  |_=>exact h
theorem VR.of_V1 {X:Cx} {x:AV} {v:Value} (h:V1 X x v):VR X x v:=by
  cases x with
  |tup cs=>exact h.elim
  |_=>exact h
theorem V1.of_VC {X:Cx} {x:AV} {v:Value} (h:VC X x v):V1 X x v:=by
  cases x with
  |agg cs=>exact h.elim
  |_=>exact h
theorem constA_ok {X:Cx} {v:Value} {x:AV} (h:constA v=some x):VR X x v:=by
  cases v with
  | agg cs =>
    simp only[constA] at h
    cases hc:constCells cs.toList with
    |none=>grind
    | some xs =>
      rw[hc] at h
      cases h
      exact⟨cs,rfl,constCells_ok hc⟩
  | tuple vs =>
    simp only[constA] at h
    split at h
    · rename_i h0
      simp at h0
      cases h;subst h0
      exact⟨#[],rfl,trivial⟩
    grind
  |_=>exact .of_VC (constCell_ok h)
theorem undef_ok {X:Cx} : VR X undefA undef:=⟨#[],rfl,trivial⟩
structure NT where
  n:Nat
  ds:List Deferred
instance:Coe NT Nat:=⟨NT.n⟩
structure Sim (X:Cx) (nt:NT) (s:St) (a:Act):Prop where
  slots:∀ t,VR X (getS s.slots t) (a.tmps.getD t undef)
  size:a.tmps.size=nt.n
  defers:a.defers=nt.ds
  mem:MemOK X s.mem s.tips
theorem opd_ok {X:Cx} {nt:NT} {s:St} {a:Act} (hs:Sim X nt s a) {x:Operand} {y:Opd} (h:opd x=some y):VR X (y.ev s.slots) (a.eval x):=by
  cases x with
  |tmp t=>simp[opd] at h;subst h;exact hs.slots t
  | const v =>
    cases hc:constA v with
    |none=>simp[opd,hc] at h
    |some x=>simp[opd,hc] at h;subst h;exact constA_ok hc
  |func f=>simp[opd] at h;subst h;exact⟨#[],rfl,trivial⟩
  |global g=>simp[opd] at h
theorem opds_ok {X:Cx} {nt:NT} {s:St} {a:Act} (hs:Sim X nt s a):∀ {xs:List Operand} {ys:List Opd},opds xs=some ys→All2 (VR X) (evs s.slots ys) (xs.map a.eval)
  |[],ys,h=>by grind[opds,evs,VR,All2]
  | x :: r, ys, h => by
    simp[opds] at h
    split at h
    · rename_i y ys' h1 h2
      cases h
      exact⟨opd_ok hs h1,opds_ok hs h2⟩
    grind
theorem boolOfA_ok {X:Cx} {x:AV} {v:Value} {b:Bool} (h:boolOfA x=some b) (hv:VR X x v):v=.bool b:=by
  unfold boolOfA at h
  split at h
  · cases h;exact hv.sc
  grind
theorem intOfA_ok {X:Cx} {x:AV} {v:Value} {n:Int} (h:intOfA x=some n) (hv:VR X x v):∃ k,v=.int k n:=by
  unfold intOfA at h
  split at h
  · cases h;exact⟨_,hv.sc⟩
  grind
theorem natOfA_ok {X:Cx} {x:AV} {v:Value} {n:Nat} (h:natOfA x=some n) (hv:VR X x v):∃ k,v=.int k (n:Int):=by
  unfold natOfA at h
  cases hi:intOfA x with
  |none=>grind
  | some m =>
    rw[hi] at h
    simp only[Option.bind_some] at h
    split at h
    · obtain⟨k,hk⟩:=intOfA_ok hi hv<;>grind
    grind
section
variable {P:Program}
theorem binI_ok {op:BinOp} {k k':IntKind} {m n:Int} {v:Value} (t:TypeId) (w:World) (h:binI op k m k' n=some v) :
    (binOp op t (.int k m) (.int k' n)).run P w=.ok v w∧v.oneCell'=true:=by
  have plain:∀ (f:Value),v=f→f.oneCell'=true→(binOp op t (.int k m) (.int k' n)).run P w=.ok f w→(binOp op t (.int k m) (.int k' n)).run P w=.ok v w∧v.oneCell'=true:=by
    grind
  by_cases hk:k=k'
  · subst hk
    cases op<;>simp only[binI,bitsI,Option.map_some,ne_eq,not_true_eq_false,if_false] at h<;>first
      |(cases h;done)
      |(injection h with h;refine plain _ h.symm rfl ?_;simp[binOp,Op.intArith,Op.intBits,Op.intCmp];done)
      | (split at h
         · cases h
         · rename_i hn
           injection h with h
           refine plain _ h.symm rfl ?_
           simp[binOp,Op.intDiv,Op.shift,hn])
  · cases op<;>simp only[binI,ne_eq,hk,not_false_eq_true,if_true] at h<;>first
      |(cases h;done)
      | (split at h
         · cases h
         · rename_i hn
           injection h with h
           refine plain _ h.symm rfl ?_
           simp[binOp,Op.shift,hn])
theorem binS_ok {op:BinOp} {x y:ByteArray} {v:Value} (t:TypeId) (w:World) (h:binS op x y=some v) :
    (binOp op t (.string x) (.string y)).run P w=.ok v w∧v.oneCell'=true:=by
  have hb:(binOp op t (.string x) (.string y))=Op.stringOp op x y:=by cases op<;>rfl
  rw[hb]
  cases op with
  | add =>
    simp only[binS] at h
    split at h
    · cases h
    · rename_i hn
      cases h
      exact⟨by simp only[Op.stringOp];rw[if_neg hn];rfl,rfl⟩
  | _ => simp only [binS] at h <;> first
    |(cases h;done)
    |(injection h with h;subst h;exact⟨by simp[Op.stringOp],rfl⟩)
theorem binA_ok {X:Cx} {op:BinOp} {x y:AV} {u v r:Value} (t:TypeId) (hx:VR X x u) (hy:VR X y v) (h:binA op x y=some r) :
    (binOp op t u v).run P X.w=.ok r X.w∧r.oneCell'=true∧((∃ k m,u=.int k m)∨∃ b,u=.string b):=by
  unfold binA at h
  split at h
  · rw [hx.sc, hy.sc]
    obtain⟨h1,h2⟩:=binI_ok (P:=P) t X.w h<;>grind
  · rw [hx.sc, hy.sc]
    obtain⟨h1,h2⟩:=binS_ok (P:=P) t X.w h<;>grind
  grind
theorem exE_eq:∀ (a b:Ex),exE a b=true→a=b:=by
  intro a b h
  cases a<;>cases b<;>simp only[exE,Bool.and_eq_true,Nat.beq_eq] at h<;>first|(cases h;done)|grind
theorem uw_lt (i:Nat):uw i<18446744073709551616:=by
  unfold uw
  omega
theorem wrapU (n:Nat) (h:n<18446744073709551616):IntKind.u64.wrap (n:Int)=n:=by
  simp only[IntKind.wrap,IntKind.bits,IntKind.signed];simp;omega
theorem seg_lt (x a n s:Nat):x / 2 ^ a % 2 ^ n*2 ^ s<2 ^ (n+s):=by
  rw[Nat.pow_add]
  exact (Nat.mul_lt_mul_right (Nat.two_pow_pos s)).2 (Nat.mod_lt _ (Nat.two_pow_pos n))
theorem seg_le {x a n s m:Nat} (h:n+s≤m):x / 2 ^ a % 2 ^ n*2 ^ s<2 ^ m:=Nat.lt_of_lt_of_le (seg_lt x a n s) (Nat.pow_le_pow_right (by omega) h)
theorem seg_u64 {x a n s:Nat} (h:n+s≤64):x / 2 ^ a % 2 ^ n*2 ^ s<18446744073709551616:=seg_le (m:=64) h
theorem exShl_ok {m:Nat} {e g:Ex} (h:exShl m e=some g):IntKind.u64.wrap (IntKind.u64.wrap e.den*2 ^ min m 64)=IntKind.u64.wrap g.den:=by
  cases e with
  |v i=>cases h
  | s i a n s =>
    simp only[exShl] at h
    split at h
    · rename_i hm
      have hm:=Nat.le_of_ble_eq_true hm
      cases h
      rw[Ex.den,Ex.den,wrapU _ (seg_u64 (by omega)),Nat.min_eq_left (by omega),Nat.pow_add,←Nat.mul_assoc]
      simp only[Int.natCast_mul,Int.natCast_pow]
      rfl
    · cases h
theorem exShr_ok {m:Nat} {e g:Ex} (h:exShr m e=some g):(IntKind.u64.wrap e.den).fdiv (2 ^ min m 64)=IntKind.u64.wrap g.den:=by
  cases e with
  |v i=>cases h
  | s i a n s =>
    simp only[exShr] at h
    split at h
    case h_2=>cases h
    rename_i h1
    split at h
    case h_2=>cases h
    rename_i h2
    simp only[Bool.and_eq_true,Nat.beq_eq] at h1
    obtain⟨h0,rfl⟩:=h1
    have h0:=Nat.le_of_ble_eq_true h0
    have h2:=Nat.le_of_ble_eq_true h2
    cases h
    rw[Ex.den,Ex.den,wrapU _ (seg_u64 h0),wrapU _ (seg_u64 (by omega)),Nat.min_eq_left (by omega),Int.fdiv_eq_ediv_of_nonneg _ (Int.le_of_lt (Int.pow_pos (by decide)))]
    have:((2:Int) ^ m)=((2 ^ m:Nat):Int):=by rw[Int.natCast_pow];rfl
    rw[this,←Int.natCast_ediv]
    congr 1
    simp only[Nat.pow_zero,Nat.mul_one]
    obtain⟨d,rfl⟩:∃ d,n=m+d:=⟨n-m,by omega⟩
    rw[show m+d-m=d by omega,Nat.pow_add,Nat.mod_mul_right_div_self,Nat.pow_add,Nat.div_div_eq_div_mul]
theorem or_add {a b k:Nat} (h:a<2 ^ k):a ||| b*2 ^ k=b*2 ^ k+a:=by
  rw[Nat.or_comm,Nat.mul_comm,Nat.two_pow_add_eq_or_of_lt h]
theorem seg_or {x b m n t:Nat} : x / 2 ^ (b+m) % 2 ^ n*2 ^ (t+m) ||| x / 2 ^ b % 2 ^ m*2 ^ t=x / 2 ^ b % 2 ^ (m+n)*2 ^ t:=by
  have h1:x / 2 ^ b % 2 ^ m*2 ^ t<2 ^ (t+m):=by rw[Nat.add_comm];exact seg_lt ..
  rw[Nat.or_comm,or_add h1,Nat.pow_add 2 b m,←Nat.div_div_eq_div_mul,Nat.pow_add 2 m n,Nat.mod_mul,Nat.add_mul]
  rw[Nat.add_comm]
  congr 1
  rw[Nat.pow_add]
  generalize x / 2 ^ b / 2 ^ m % 2 ^ n=y
  rw[Nat.mul_comm (2 ^ m) y,Nat.mul_assoc,Nat.mul_comm (2 ^ t)]
theorem exOr_ok {e f g : Ex} (h : exOr e f = some g) : bitsI .or .u64 (IntKind.u64.wrap e.den) (IntKind.u64.wrap f.den) = some (IntKind.u64.wrap g.den) := by
  have key:∀ {a b:Nat},a<18446744073709551616→b<18446744073709551616→bitsI .or .u64 (a:Int) (b:Int)=some (IntKind.u64.wrap ((a ||| b:Nat):Int)):=fun {a b} ha hb=>by
    have e:(BitVec.ofInt 64 (a:Int) ||| BitVec.ofInt 64 (b:Int)).toNat=a ||| b:=by
      rw[BitVec.ofInt_natCast,BitVec.ofInt_natCast,BitVec.toNat_or,BitVec.toNat_ofNat,BitVec.toNat_ofNat,Nat.mod_eq_of_lt (by simpa using ha),Nat.mod_eq_of_lt (by simpa using hb)]
    show some (IntKind.u64.wrap (((BitVec.ofInt 64 (a:Int) ||| BitVec.ofInt 64 (b:Int)).toNat:Nat):Int))=_
    rw[e]
  cases e with
  |v i=>cases h
  | s i a n s =>
    cases f with
    |v j=>cases h
    | s j b m t =>
      simp only[exOr] at h
      split at h
      case h_2=>cases h
      rename_i h1
      simp only[Bool.and_eq_true,Nat.beq_eq] at h1
      obtain⟨rfl,h2,h3⟩:=h1
      have h2:=Nat.le_of_ble_eq_true h2
      have h3:=Nat.le_of_ble_eq_true h3
      rw[Ex.den,Ex.den,wrapU _ (seg_u64 h2),wrapU _ (seg_u64 h3),key (seg_u64 h2) (seg_u64 h3)]
      split at h
      · rename_i h4
        simp only[Bool.and_eq_true,Nat.beq_eq] at h4
        obtain⟨rfl,rfl⟩:=h4
        cases h
        rw[Ex.den,seg_or]
      · split at h
        · rename_i h4
          simp only[Bool.and_eq_true,Nat.beq_eq] at h4
          obtain⟨rfl,rfl⟩:=h4
          cases h
          rw[Ex.den,Nat.or_comm,seg_or]
        · cases h
theorem wid_wrap {k:IntKind} {n m:Nat} (h:m≤widK k) (hn:n<2 ^ m):k.wrap (n:Int)=n:=by
  have h1:n<2 ^ widK k:=Nat.lt_of_lt_of_le hn (Nat.pow_le_pow_right (by omega) h)
  cases k<;>simp only[widK,Nat.pow_zero,Nat.reducePow] at h1<;>simp only[IntKind.wrap,IntKind.bits,IntKind.signed]<;>simp<;>(try split)<;>omega
theorem exW_ok {k k' : IntKind} {e g : Ex} (h : exW k k' e = some g) : k.wrap (k'.wrap e.den) = k.wrap g.den := by
  cases e with
  | v i =>
    simp only[exW] at h
    split at h
    case h_2=>cases h
    rename_i hk
    have hk:=of_decide_eq_true hk
    subst hk
    split at h
    · cases h
      rw[wrapW]
    · cases h
      rw[Ex.den,Ex.den,Rho.h,Nat.pow_zero,Nat.div_one,Nat.mul_one,Nat.mod_eq_of_lt (uw_lt i),uw]
      simp only[IntKind.wrap,IntKind.bits,IntKind.signed];simp;omega
    · cases h
  | s i a n s =>
    simp only[exW] at h
    split at h
    · rename_i h1
      simp only[Bool.and_eq_true,Nat.beq_eq,decide_eq_true_eq] at h1
      obtain⟨⟨rfl,rfl⟩,rfl,rfl,rfl⟩:=h1
      cases h
      rw[Ex.den,Ex.den,Nat.pow_zero,Nat.div_one,Nat.mul_one,Nat.mod_eq_of_lt (uw_lt i),wrapU _ (uw_lt i),uw]
      have:=Rho.h i
      generalize Rho.r i=z at this
      simp only[IntKind.wrap,IntKind.bits,IntKind.signed] at this ⊢;simp at this ⊢;(repeat' split)<;>omega
    · split at h
      case h_2=>cases h
      rename_i h1
      have h1:=Nat.le_of_ble_eq_true h1
      rw[Ex.den,wid_wrap h1 (seg_lt ..)]
      split at h
      · cases h
        rfl
      split at h
      case h_2=>cases h
      rename_i h2
      simp only[Bool.and_eq_true,Nat.beq_eq,decide_eq_true_eq] at h2
      obtain⟨rfl,rfl,h3⟩:=h2
      have h3:=Nat.le_of_ble_eq_true h3
      cases h
      rw[Ex.den]
      simp only[Nat.pow_zero,Nat.mul_one]
      obtain⟨d,rfl⟩:∃ d,n=8+d:=⟨n-8,by omega⟩
      generalize uw i / 2 ^ a=y
      have h4:y % 2 ^ (8+d) % 2 ^ 8=y % 2 ^ 8:=by rw[Nat.pow_add];exact Nat.mod_mul_right_mod ..
      generalize y % 2 ^ (8+d)=u at h4
      simp only[Nat.reducePow] at h4 ⊢
      simp only[IntKind.wrap,IntKind.bits,IntKind.signed];simp;omega
theorem rgO_ok {X:Cx} {x:AV} {v:Value} {k:IntKind} {e:Ex} (h:rgO x=some (k,e)) (hx:VR X x v):v=.int k (k.wrap e.den):=by
  unfold rgO at h
  split at h
  · cases h;exact hx.rg
  · cases h
theorem cntO_ok {X:Cx} {x:AV} {v:Value} {k:IntKind} {n:Int} (h:cntO x=some (k,n)) (hx:VR X x v):v=.int k n:=by
  unfold cntO at h
  split at h
  · cases h;exact hx.sc
  · cases h
theorem binE_ok {X:Cx} {op:BinOp} {k k':IntKind} {e f:Ex} {r:AV} (t:TypeId) (h:binE op k k' e f=some r) :
    ∃ z,(binOp op t (.int k (k.wrap e.den)) (.int k' (k'.wrap f.den))).run P X.w=.ok z X.w∧VR X r z:=by
  unfold binE at h
  split at h
  · split at h
    case h_2=>cases h
    rename_i hk
    obtain⟨rfl,rfl⟩:=of_decide_eq_true hk
    obtain⟨g,hg,rfl⟩:=Option.map_eq_some_iff.1 h
    exact⟨_,(binI_ok t X.w (by simp[binI,exOr_ok hg])).1,DR.rg .u64 g⟩
  · split at h
    case h_2=>cases h
    rename_i hk
    simp only[Bool.and_eq_true,decide_eq_true_eq] at hk
    obtain⟨rfl,hk⟩:=hk
    have:=exE_eq _ _ hk
    subst this
    cases h
    exact⟨_,(binI_ok t X.w (v:=.bool true) (by simp[binI])).1,.of_sc rfl⟩
  · split at h
    case h_2=>cases h
    rename_i hk
    simp only[Bool.and_eq_true,decide_eq_true_eq] at hk
    obtain⟨rfl,hk⟩:=hk
    have:=exE_eq _ _ hk
    subst this
    cases h
    exact⟨_,(binI_ok t X.w (v:=.bool false) (by simp[binI])).1,.of_sc rfl⟩
  · cases h
theorem natI_ok {n:Int} {m:Nat} (h:natI n=some m):n=m:=by
  unfold natI at h
  split at h
  · cases h;rfl
  · cases h
theorem i64_rng (z:Int) : -9223372036854775808≤IntKind.i64.wrap z∧IntKind.i64.wrap z≤9223372036854775807:=by
  simp only[IntKind.wrap,IntKind.bits,IntKind.signed];simp;split<;>omega
theorem or_zero (z:Int):bitsI .or .u64 (IntKind.u64.wrap z) 0=some (IntKind.u64.wrap z):=by
  have:0≤IntKind.u64.wrap z∧IntKind.u64.wrap z<18446744073709551616:=by
    simp only[IntKind.wrap,IntKind.bits,IntKind.signed];simp;omega
  generalize IntKind.u64.wrap z=z at this
  obtain⟨n,rfl⟩:∃ n:Nat,z=n:=⟨z.toNat,by omega⟩
  have e:(BitVec.ofInt 64 (n:Int) ||| BitVec.ofInt 64 0).toNat=n:=by
    rw[BitVec.ofInt_natCast,BitVec.toNat_or,BitVec.toNat_ofNat,Nat.mod_eq_of_lt (by omega)]
    simp
  show some (IntKind.u64.wrap (((BitVec.ofInt 64 (n:Int) ||| BitVec.ofInt 64 0).toNat:Nat):Int))=_
  rw[e,wrapU _ (by omega)]
theorem zero_or (z:Int):bitsI .or .u64 0 (IntKind.u64.wrap z)=some (IntKind.u64.wrap z):=by
  rw[←or_zero z]
  show some (IntKind.u64.wrap (((BitVec.ofInt 64 0 ||| BitVec.ofInt 64 (IntKind.u64.wrap z)).toNat:Nat):Int))=some (IntKind.u64.wrap (((BitVec.ofInt 64 (IntKind.u64.wrap z) ||| BitVec.ofInt 64 0).toNat:Nat):Int))
  rw[BitVec.or_comm]
theorem binC_ok {X:Cx} {op:BinOp} {k k':IntKind} {e:Ex} {n:Int} {r:AV} (t:TypeId) (h:binC op k k' e n=some r) :
    ∃ z,(binOp op t (.int k (k.wrap e.den)) (.int k' n)).run P X.w=.ok z X.w∧VR X r z:=by
  unfold binC at h
  split at h
  · split at h
    case h_2=>cases h
    rename_i hk
    obtain⟨rfl,rfl,rfl⟩:=of_decide_eq_true hk
    cases h
    refine⟨_,(binI_ok t X.w (v:=.int .u64 (IntKind.u64.wrap e.den)) ?_).1,DR.rg .u64 e⟩
    simp only[binI,ne_eq,not_true_eq_false,if_false,or_zero,Option.map_some]
  · split at h
    · rename_i m hm hk
      have hk:=of_decide_eq_true hk
      subst hk
      have:=natI_ok hm
      subst this
      obtain⟨g,hg,rfl⟩:=Option.map_eq_some_iff.1 h
      refine⟨_,(binI_ok t X.w (v:=.int .u64 (IntKind.u64.wrap g.den)) ?_).1,DR.rg .u64 g⟩
      rw[←exShl_ok hg]
      simp[binI,IntKind.bits]
    · cases h
  · split at h
    · rename_i m hm hk
      have hk:=of_decide_eq_true hk
      subst hk
      have:=natI_ok hm
      subst this
      obtain⟨g,hg,rfl⟩:=Option.map_eq_some_iff.1 h
      refine⟨_,(binI_ok t X.w (v:=.int .u64 (IntKind.u64.wrap g.den)) ?_).1,DR.rg .u64 g⟩
      rw[←exShr_ok hg]
      simp[binI,IntKind.bits]
    · cases h
  · split at h
    case h_2=>cases h
    rename_i hk
    obtain⟨rfl,rfl,hn⟩:=of_decide_eq_true hk
    cases h
    refine⟨_,(binI_ok t X.w (v:=.bool false) ?_).1,.of_sc rfl⟩
    have:=i64_rng e.den
    simp[binI];omega
  · split at h
    case h_2=>cases h
    rename_i hk
    obtain⟨rfl,rfl,hn⟩:=of_decide_eq_true hk
    cases h
    refine⟨_,(binI_ok t X.w (v:=.bool false) ?_).1,.of_sc rfl⟩
    have:=i64_rng e.den
    simp[binI];omega
  · cases h
theorem binR_ok {X : Cx} {op : BinOp} {x y r : AV} {u v : Value} (t : TypeId) (hx : VR X x u) (hy : VR X y v) (h : binR op x y = some r) :
    ∃ z,(binOp op t u v).run P X.w=.ok z X.w∧VR X r z∧((∃ k m,u=.int k m)∨∃ b,u=.string b):=by
  unfold binR at h
  split at h
  · rename_i h1 h2
    rw[rgO_ok h1 hx,rgO_ok h2 hy]
    obtain⟨z,g1,g2⟩:=binE_ok (P:=P) t h
    exact⟨z,g1,g2,.inl ⟨_,_,rfl⟩⟩
  · rename_i h1 _
    split at h
    · rename_i h2
      rw[rgO_ok h1 hx,cntO_ok h2 hy]
      obtain⟨z,g1,g2⟩:=binC_ok (P:=P) t h
      exact⟨z,g1,g2,.inl ⟨_,_,rfl⟩⟩
    · cases h
  · rename_i h1
    split at h
    · split at h
      · rename_i k n h2
        rename_i k' f _ _ _
        rw[rgO_ok h1 hy,cntO_ok h2 hx]
        have h0:=h
        unfold binC at h
        simp only at h
        split at h
        case h_2=>cases h
        rename_i hk
        obtain⟨rfl,rfl,rfl⟩:=of_decide_eq_true hk
        cases h
        refine⟨_,(binI_ok t X.w (v:=.int .u64 (IntKind.u64.wrap f.den)) ?_).1,DR.rg .u64 f,.inl ⟨_,_,rfl⟩⟩
        simp only[binI,ne_eq,not_true_eq_false,if_false,zero_or,Option.map_some]
      · cases h
    · cases h
  · cases h
theorem eqGuard_plain {op:BinOp} {t:TypeId} {x y:Operand} {u v:Value} {w:World} (h1:u≠.nilIface) (h2:∀ c,u≠.agg c) :
    (eqGuard op t x y u v).run P w=.ok () w:=by
  cases u<;>first|(exact absurd rfl h1)|(exact absurd rfl (h2 _))|(cases op<;>rfl)
theorem eqAll_append (xs ys : List AV) : ∀ (l m : List (Nat × Nat)), eqAll xs ys (l ++ m) = match eqAll xs ys l with
    |some true=>eqAll xs ys m
    |r=>r
  |[],m=>rfl
  | o :: l, m => by
    simp[List.cons_append,eqAll]
    cases xs[o.1]? with
    |none=>rfl
    | some x =>
      cases ys[o.1]? with
      |none=>rfl
      | some y =>
        simp
        cases scEq o.2 x y with
        |none=>rfl
        | some b => cases b with
          |true=>exact eqAll_append xs ys l m
          |false=>rfl
theorem rg_eq {X:Cx} {k k':IntKind} {e f:Ex} {u v:Value} (h:(decide (k=k')&&exE e f)=true) (hx:VC X (.d (.rg k e)) u) (hy:VC X (.d (.rg k' f)) v):u=.int k (k.wrap e.den)∧v=u:=by
  simp only[Bool.and_eq_true,decide_eq_true_eq] at h
  obtain⟨rfl,h⟩:=h
  have:=exE_eq _ _ h
  subst this
  exact⟨VR.rg (.of_VC hx),(VR.rg (.of_VC hy)).trans (VR.rg (.of_VC hx)).symm⟩
theorem scEq_ok {X : Cx} {kd : Nat} {x y : AV} {u v : Value} {b : Bool} (h : scEq kd x y = some b) (hx : VC X x u) (hy : VC X y v) :
    (∃ p q,kd=0∧u=.bool p∧v=.bool q∧b=(p==q))∨(∃ k p q,kd=1∧u=.int k p∧v=.int k q∧b=(p==q))∨∃ p q,2≤kd∧u=.string p∧v=.string q∧b=(p==q):=by
  unfold scEq at h
  split at h
  · split at h
    · injection h with h
      exact .inl ⟨_,_,rfl,VR.sc (.of_VC hx),VR.sc (.of_VC hy),h.symm⟩
    grind
  · split at h
    · split at h
      · subst_vars
        injection h with h
        exact .inr (.inl ⟨_,_,_,rfl,VR.sc (.of_VC hx),VR.sc (.of_VC hy),h.symm⟩)
      grind
    grind
  · split at h
    · cases h
    · cases h
    · injection h with h
      refine .inr (.inr ⟨_,_,?_,VR.sc (.of_VC hx),VR.sc (.of_VC hy),h.symm⟩)<;>grind
  · split at h
    · split at h
      · rename_i hk
        cases h
        obtain⟨rfl,rfl⟩:=rg_eq hk hx hy
        exact .inr (.inl ⟨_,_,_,rfl,rfl,rfl,by simp⟩)
      · cases h
    · cases h
  · cases h
theorem eqAll_one {X:Cx} {xs ys:List AV} {us vs:Array Value} (hx:All2 (VC X) xs us.toList) (hy:All2 (VC X) ys vs.toList) {off kd:Nat} {b:Bool}
    (h:eqAll xs ys [(off,kd)]=some b):∃ u v,us[off]?=some u∧vs[off]?=some v∧
      ((∃ p q,kd=0∧u=.bool p∧v=.bool q∧b=(p==q))∨(∃ k p q,kd=1∧u=.int k p∧v=.int k q∧b=(p==q))∨∃ p q,2≤kd∧u=.string p∧v=.string q∧b=(p==q)):=by
  simp[eqAll] at h
  split at h
  · rename_i x y h1 h2
    obtain⟨u,hu,hxu⟩:=hx.get _ _ h1
    obtain⟨v,hv,hyv⟩:=hy.get _ _ h2
    refine⟨u,v,by simpa using hu,by simpa using hv,?_⟩
    split at h
    · rename_i h3
      cases h
      exact scEq_ok h3 hxu hyv
    · rename_i h3
      cases h
      exact scEq_ok h3 hxu hyv
    grind
  grind
theorem equalIn_ok {X : Cx} {xs ys : List AV} {us vs : Array Value} (hx : All2 (VC X) xs us.toList) (hy : All2 (VC X) ys vs.toList) (w : World) :
    ∀ (n : Nat) (t : TypeId) (off : Nat) (l : List (Nat × Nat)) (sz d : Nat) (b : Bool) (A B : Array Value) (o : Nat), eqCells P n t off = some l → sizeP P t = some sz → n ≤ d → eqAll xs ys l = some b →
      (∀ j,j<sz→A[o+j]?=us[off+j]?)→(∀ j,j<sz→B[o+j]?=vs[off+j]?)→
      ∃ p q,(part t A o).run P w=.ok p w∧(part t B o).run P w=.ok q w∧(Op.equalIn d t p q).run P w=.ok b w:=by
  intro n
  induction n with
  |zero=>intro t off l sz d b A B o h;cases h
  | succ n ih =>
    intro t off l sz d b A B o h hsz hd hb hA hB
    obtain⟨i,hi,hs⟩:∃ i,P.info? t=some i∧i.size=sz:=by
      unfold sizeP at hsz
      cases hi:P.info? t with
      |none=>rw[hi] at hsz;cases hsz
      |some i=>rw[hi] at hsz;exact⟨i,rfl,by simpa using hsz⟩
    obtain⟨d,rfl⟩:∃ e,d=e+1:=⟨d-1,by omega⟩
    simp only[eqCells,hsz] at h
    have basic:∀ kd,eqAll xs ys [(off,kd)]=some b→sz=1→(isAgg t).run P w=.ok false w→
        (∀ p q,kd=0→(Op.equalIn (d+1) t (.bool p) (.bool q)).run P w=.ok (p==q) w)→
        (∀ k p q,kd=1→(Op.equalIn (d+1) t (.int k p) (.int k q)).run P w=.ok (p==q) w)→
        (∀ p q,2≤kd→(Op.equalIn (d+1) t (.string p) (.string q)).run P w=.ok (p==q) w)→
        ∃ p q,(part t A o).run P w=.ok p w∧(part t B o).run P w=.ok q w∧(Op.equalIn (d+1) t p q).run P w=.ok b w:=by
      intro kd he h1 hag hb0 hb1 hb2
      obtain⟨u,v,hu,hv,hk⟩:=eqAll_one hx hy he
      have hA0:=hA 0 (by omega)
      have hB0:=hB 0 (by omega)
      simp only[Nat.add_zero] at hA0 hB0
      rw[hu] at hA0;rw[hv] at hB0
      refine⟨u,v,by simp[part,hag,hA0],by simp[part,hag,hB0],?_⟩
      rcases hk with⟨p,q,hk,rfl,rfl,rfl⟩|⟨k,p,q,hk,rfl,rfl,rfl⟩|⟨p,q,hk,rfl,rfl,rfl⟩
      · exact hb0 p q hk
      · exact hb1 k p q hk
      · exact hb2 p q hk
    split at h
    · rename_i h1 hu
      injection h with h;subst h
      refine basic 0 hb (by simpa using h1) (by simp[isAgg,run_underlying hu]) (fun p q _=>by simp[Op.equalIn,run_underlying hu]) (fun _ _ _ h=>by omega) (fun _ _ h=>by omega)
    · rename_i h1 hu
      injection h with h;subst h
      refine basic 1 hb (by simpa using h1) (by simp[isAgg,run_underlying hu]) (fun _ _ h=>by omega) (fun k p q _=>by simp[Op.equalIn,run_underlying hu]) (fun _ _ h=>by omega)
    · rename_i h1 hu
      injection h with h;subst h
      refine basic 2 hb (by simpa using h1) (by simp[isAgg,run_underlying hu]) (fun _ _ h=>by omega) (fun _ _ _ h=>by omega) (fun p q _=>by simp[Op.equalIn,run_underlying hu])
    · rename_i sz' fs h1 hu
      injection h1 with h1;subst h1
      split at h
      · cases h
      · rename_i hst
        have hf:P.fieldsOf t=fs:=by simp[Program.fieldsOf,hu]
        refine⟨.agg (A.extract o (o+sz)),.agg (B.extract o (o+sz)),by simp[part,isAgg,run_underlying hu,sizeOf,typeInfo,hi,hs],by simp[part,isAgg,run_underlying hu,sizeOf,typeInfo,hi,hs],?_⟩
        rw[run_equalIn_struct w d t _ _ (by rw[hf];exact hu) (by simpa using hst),hf]
        have hex:∀ (C us:Array Value),(∀ j,j<sz→C[o+j]?=us[off+j]?)→∀ f fz,f+fz≤sz→∀ j,j<fz→(C.extract o (o+sz))[f+j]?=us[off+f+j]?:=by
          intro C us hC f fz hfz j hj
          rw[Array.getElem?_extract]
          have:=hC (f+j) (by omega)
          rw[←Nat.add_assoc,←Nat.add_assoc] at this
          split
          · rw[←this,Nat.add_assoc]
          · rename_i hn
            rw[←this,Array.getElem?_eq_none (by omega)]
        clear basic hu hf
        generalize fs.toList=fl at h
        induction fl generalizing l b with
        | nil =>
          simp only[List.foldr_nil] at h
          injection h with h;subst h
          simp only[eqAll] at hb
          injection hb with hb;subst hb
          rfl
        | cons f fl ihf =>
          simp only[List.foldr_cons] at h
          split at h
          · rename_i l' fz hl' hfz
            split at h
            · cases h
            · rename_i hn
              obtain⟨hn1,hn2⟩:=not_or.1 hn
              cases hc:eqCells P n f.type (off+f.offset) with
              |none=>rw[hc] at h;cases h
              | some lf =>
                rw[hc] at h
                simp only[Option.map_some] at h
                injection h with h;subst h
                rw[eqAll_append] at hb
                have step:∀ b',eqAll xs ys lf=some b'→(Op.eqFields d (A.extract o (o+sz)) (B.extract o (o+sz)) (f :: fl)).run P w=(if (!b')=true then .ok false w else (Op.eqFields d (A.extract o (o+sz)) (B.extract o (o+sz)) fl).run P w):=by
                  intro b' hb'
                  obtain⟨p,q,hp,hq,he⟩:=ih f.type (off+f.offset) lf fz d b' (A.extract o (o+sz)) (B.extract o (o+sz)) f.offset hc hfz (by omega) hb'
                    (fun j hj=>hex A us hA _ fz (by omega) j hj) (fun j hj=>hex B vs hB _ fz (by omega) j hj)
                  simp[Op.eqFields,hn1,hp,hq,he]
                cases hlf:eqAll xs ys lf with
                |none=>rw[hlf] at hb;cases hb
                | some b' =>
                  rw[hlf] at hb
                  rw[step b' hlf]
                  cases b' with
                  |true=>simpa using ihf l' b hb hl'
                  |false=>simp only at hb;injection hb with hb;subst hb;rfl
          · cases h
    · cases h
theorem eqA_ok {X : Cx} {t : TypeId} {l : List (Nat × Nat)} {xs ys : List AV} {u v : Value} {b : Bool} (hc : eqCells P 20 t 0 = some l) (hg : P.eqGuardType P.depth t = false) (hst : ∃ fs, P.underlying t = some (.struct fs))
    (hx:VR X (.agg xs) u) (hy:VR X (.agg ys) v) (h:eqAll xs ys l=some b) (x y:Operand) :
    ∃ us vs,u=.agg us∧v=.agg vs∧(∀ op,(eqGuard op t x y u v).run P X.w=.ok () X.w)∧(us.size=((sizeP P t).getD 0)→vs.size=((sizeP P t).getD 0)→(Op.equal t u v).run P X.w=.ok b X.w):=by
  obtain⟨us,rfl,hx⟩:=hx
  obtain⟨vs,rfl,hy⟩:=hy
  refine⟨us,vs,rfl,rfl,fun op=>?_,fun hus hvs=>?_⟩
  · unfold eqGuard
    cases op<;>simp[hg]
  · obtain ⟨fs, hst⟩ := hst
    cases hsz:sizeP P t with
    |none=>simp[eqCells,hsz] at hc
    | some sz =>
      rw[hsz] at hus hvs
      obtain⟨p,q,hp,hq,he⟩:=equalIn_ok (P:=P) hx hy X.w 20 t 0 l sz Op.maxDepth b us vs 0 hc hsz (by decide) h (fun j _=>by simp) (fun j _=>by simp)
      obtain⟨i,hi,hs⟩:∃ i,P.info? t=some i∧i.size=sz:=by
        unfold sizeP at hsz
        cases hi:P.info? t with
        |none=>rw[hi] at hsz;cases hsz
        |some i=>rw[hi] at hsz;exact⟨i,rfl,by simpa using hsz⟩
      have ag:∀ C:Array Value,C.size=sz→(part t C 0).run P X.w=.ok (.agg C) X.w:=by
        intro C hC
        simp[part,isAgg,run_underlying hst,sizeOf,typeInfo,hi,hs,←hC]
      simp_all;exact he
end
end Go.Eng
