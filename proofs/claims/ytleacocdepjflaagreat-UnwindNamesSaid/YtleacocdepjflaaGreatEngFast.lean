/- A part of the proof: EngThaw, EngFast. -/
import Derived.Test.YtleacocdepjflaaGreatEngTop
namespace Go.Eng
open Go Go.RowKit
def allO {α β : Type} (f : α→Option β):List α→Option (List β)
 |[]=>some []
 |x :: r=>match f x,allO f r with
  |some y,some ys=>some (y :: ys)
  |_,_=>none
def deepC (m:List (Tr Ent)):Nat→AV→Option D
 |0,_=>none
 | k + 1, x => match x with
  |.d x=>some x
  |.own els .full=>some (.sl els)
  |.own els (.tip _ _)=>some (.sl els)
  |.ref lv sl ver off n sz=>(elsOf m (.ref lv sl ver off n sz)).map .sl
  |.bref lv sl ver off n sz=>match boxAt m lv sl ver with
   |some cs=>if off+n*sz≤cs.length then (allO (deepC m k) ((cs.drop off).take (n*sz))).map fun ds=>.sl (chunk sz n ds) else none
   |none=>none
  |_=>none
def thawCall (call:Go.Eng.Call):Go.Eng.Call:=fun f args mem tips nv=>match call f args mem tips nv with
 |some (.agg cs,cm,_,n)=>(allO (deepC cm 9) cs).map fun ds=>(.agg (ds.map .d),[.lf],.lf,n)
 |_=>none
def Cx.given (X:Cx):Cx:={ w:=X.w,F:=fun b o=>X.F b o∨(¬X.old b∧b<X.w.heap.size),ρ:=X.ρ,old:=X.old }
theorem allO_at {α β : Type} {f : α→Option β} : ∀ {xs:List α} {ys:List β},allO f xs=some ys→ys.length=xs.length∧∀ (k:Nat) (y : β),ys[k]?=some y→∃ a,xs[k]?=some a∧f a=some y
 |[],ys,h=>by simp only[allO] at h;injection h with h;subst h;exact⟨rfl,fun k y hk=>by simp at hk⟩
 | a :: xs, ys, h => by
  simp only[allO] at h
  split at h
  ·rename_i z zs h1 h2
   injection h with h;subst h
   obtain⟨g1,g2⟩:=allO_at h2
   refine⟨by simp[g1],fun k y hk=>?_⟩
   cases k with
   |zero=>simp only[List.getElem?_cons_zero,Option.some.injEq] at hk;subst hk;exact⟨a,rfl,h1⟩
   |succ k=>simpa using g2 k y (by simpa using hk)
  ·cases h
section
variable {X:Cx} {m:List (Tr Ent)} {t:Tr Unit}
theorem deepC_ok (h:MemOK X m t):∀ (k:Nat) {x:AV} {y:D} {v:Value},deepC m k x=some y→VC X x v→DR X.w X.given.F y v
 |0,_,_,_,hx,_=>by cases hx
 | k + 1, x, y, v, hx, hv => by
  have hsub:∀ b o,X.F b o→X.given.F b o:=fun b o hb=>.inl hb
  have lent:∀ {els:List (List D)} {a:Option Addr} {cap sz b o:Nat},v=.slice a els.length cap→els.length≤cap→(0<els.length→a=some ⟨b,o,none⟩)→Lies X.w X.F X.F els b o sz→DR X.w X.given.F (.sl els) v:=by
   rintro els a cap sz b o rfl h2 h3 h4
   exact DR.of_lies (h4.mono hsub fun q _ hq=>.inl hq) rfl h2 h3
  unfold deepC at hx
  split at hx
  ·injection hx with hx;subst hx;exact DR.mono hsub hv
  ·injection hx with hx;subst hx;obtain⟨a,b,o,sz,h1,h2,h3⟩:=hv;exact lent h1 (Nat.le_refl _) h2 h3
  ·injection hx with hx;subst hx;obtain⟨a,b,o,sz,cap,h1,h2,h3,h4,_⟩:=hv;exact lent h1 h2 (fun h=>h3 (by omega)) h4
  ·rename_i lv sl ver off len sz
   obtain⟨els,he,rfl⟩:=opt_map hx
   have hv0:=hv
   obtain⟨L,a,cap,hL,hsz,rfl,hcap,hat⟩:=hv
   unfold elsOf at he
   obtain⟨es,hrd,he⟩:=opt_bind he
   split at he
   case isFalse=>cases he
   rename_i hoff
   injection he with he;subst he
   have hlen:((es.drop off).take len).length=len:=by rw[List.length_take,List.length_drop];omega
   have key:Lies X.w X.F X.given.F es L.b L.o L.sz→DR X.w X.given.F (.sl ((es.drop off).take len)) (.slice a len cap):=by
    intro hli
    refine DR.of_lies (b:=L.b) (o:=L.o+off*L.sz) (sz:=L.sz) ((hli.sub off len).mono hsub fun _ _ h=>h) hlen hcap fun hq=>?_
    rw[(hat (by omega)).1,hsz]
   unfold rowRd at hrd
   split at hrd
   ·rename_i v' els' hg
    split at hrd
    ·rename_i hvv
     injection hrd with hrd;subst hrd
     have hvv:=Nat.eq_of_beq_eq_true hvv;subst hvv
     obtain⟨L',hL',h1,h2,h3,h4⟩:=h.ents _ _ _ hg
     have hL':X.ρ v'=some L':=hL'
     rw[hL] at hL';injection hL' with hL';subst hL'
     refine key ⟨h2,fun i e j x h5 h6=>?_⟩
     have hi:i<els'.length:=(List.getElem?_eq_some_iff.1 h5).1
     have hb:=(h3 (by omega)).1
     exact⟨.inr ⟨hb.1,hb.lt⟩,h4 i e j x h5 h6⟩
    ·cases hrd
   ·rename_i v' els' hg
    split at hrd
    ·rename_i hvv
     injection hrd with hrd;subst hrd
     have hvv:=Nat.eq_of_beq_eq_true hvv;subst hvv
     obtain⟨L',hL',h1,h2⟩:=h.ents _ _ _ hg
     have hL':X.ρ v'=some L':=hL'
     rw[hL] at hL';injection hL' with hL';subst hL'
     exact key (h2.region hsub)
    ·cases hrd
   ·cases hrd
  ·rename_i lv sl ver off n sz
   split at hx
   ·rename_i cs hb
    split at hx
    ·rename_i hoff
     obtain⟨ds,hd,rfl⟩:=opt_map hx
     obtain⟨L,cap0,hL,rfl,hcap,hn,_⟩:=hv
     obtain⟨L',hL',hE⟩:=h.ents lv sl _ (boxAt_get hb)
     have hL':X.ρ ver=some L':=hL'
     rw[hL] at hL';injection hL' with hL';subst hL'
     obtain⟨_,hblk,hno,hcell⟩:=hE
     obtain⟨hdl,cell⟩:=allO_at hd
     have hdl:ds.length=n*sz:=by rw[hdl,List.length_take,List.length_drop];omega
     obtain⟨c1,c2,c3⟩:=chunk_get hdl
     refine DR.of_lies (b:=L.b) (o:=L.o+off) (sz:=sz) ⟨c2,fun i e j x h1 h2=>?_⟩ c1 hcap fun _=>rfl
     obtain⟨g1,g2,g3⟩:=c3 i j e x h1 h2
     refine⟨.inr ⟨hblk.1,hblk.lt⟩,?_⟩
     obtain⟨a,ha,hca⟩:=cell _ _ g3
     rw[List.getElem?_take] at ha
     split at ha
     ·rw [List.getElem?_drop] at ha
      obtain⟨u,hu,hvc⟩:=hcell _ _ ha
      refine⟨u,?_,deepC_ok h k hca hvc⟩
      rw[show L.o+off+i*sz+j=L.o+(off+(i*sz+j)) by omega]
      exact hu
     ·cases ha
    ·cases hx
   ·cases hx
  ·cases hx
theorem deepCs_ok (h:MemOK X m t) {k:Nat} : ∀ {xs:List AV} {ys:List D} {vs:List Value},allO (deepC m k) xs=some ys→All2 (VC X) xs vs→All2 (VC X.given) (ys.map .d) vs
 |[],ys,[],hx,_=>by simp only[allO] at hx;injection hx with hx;subst hx;trivial
 | x :: xs, ys, v :: vs, hx, hv => by
  simp only[allO] at hx
  split at hx
  ·rename_i y ys' h1 h2
   injection hx with hx;subst hx
   exact⟨deepC_ok h k h1 hv.1,deepCs_ok h h2 hv.2⟩
  ·cases hx
 |[],_,_ :: _,_,hv=>hv.elim
 |_ :: _,_,[],_,hv=>hv.elim
end
theorem none_mem {Y:Cx} (hF:∀ b o,Y.F b o→b<Y.w.heap.size) (hl:Low Y):MemOK Y [.lf] .lf:=by
 refine⟨fun lv sl e he=>?_,fun v hv=>by simp at hv,fun k k' v v' L L' a _ _ _ _ _=>?_,hF,hl⟩
 ·exfalso
  unfold memGet at he
  cases lv with
  |zero=>simp at he
  |succ lv=>simp at he
 ·exfalso
  rcases a with⟨lv,_,_,_,he,_⟩|⟨_,he⟩
  ·unfold memGet at he
   cases lv with
   |zero=>simp at he
   |succ lv=>simp at he
  ·simp at he
def eqV:Value→Value→Bool
 |.bool a,.bool b=>a==b
 |.int k a,.int k' b=>decide (k=k')&&decide (a=b)
 |.string a,.string b=>decide (a.data.toList=b.data.toList)
 |_,_=>false
def eqL {α : Type} (f : α→α→Bool):List α→List α→Bool
 |[],[]=>true
 |a :: l,b :: m=>f a b&&eqL f l m
 |_,_=>false
def eqD:Nat→D→D→Bool
 |0,_,_=>false
 |k+1,x,y=>match x,y with
  |.sc v,.sc w=>eqV v w
  |.sl a,.sl b=>eqL (eqL (eqD k)) a b
  |.er,.er=>true
  |_,_=>false
def eqC:AV→AV→Bool
 |.d x,.d y=>eqD 9 x y
 |_,_=>false
def eqA:AV→AV→Bool
 |.agg a,.agg b=>eqL eqC a b
 |x,y=>eqC x y
def litCall (f:Nat) (as:List AV) (v:Value):Go.Eng.Call:=fun g args _ _ nv=>match Nat.beq g f&&eqL eqA args as with
 |true=>some (.d (.sc v),[.lf],.lf,nv)
 |false=>none
def guardCall (p:Nat→List AV→Bool) (a:Go.Eng.Call):Go.Eng.Call:=fun f args mem tips nv=>match p f args with
 |true=>a f args mem tips nv
 |false=>none
def altCall (a b:Go.Eng.Call):Go.Eng.Call:=fun f args mem tips nv=>match a f args mem tips nv with
 |some r=>some r
 |none=>b f args mem tips nv
def runFO (O:Go.Eng.Call) (Fs:Nat→Option AFn):Nat→Go.Eng.Call
 |0=>fun _ _ _ _ _=>none
 |n+1=>altCall O (stepF (runFO O Fs n) Fs n)
theorem alt_ok {P:Program} {a b:Go.Eng.Call} (ha:CallOK P a) (hb:CallOK P b):CallOK P (altCall a b):=by
 intro f args mem tips nv r mem' tips' nv' h
 unfold altCall at h
 split at h
 ·rename_i he
  injection h with h;subst h
  exact ha f args mem tips nv _ mem' tips' nv' he
 ·exact hb f args mem tips nv r mem' tips' nv' h
theorem runFO_ok {P:Program} {O:Go.Eng.Call} (hO:CallOK P O) {lib:Nat→Option TypeId} {md:Nat→Mode} {Fs:Nat→Option AFn} (hm:P.follows .mixedOrders=true) (hlib:∀ f T,lib f=some T→IsLib P f T) (hFs:∀ f fn,Fs f=some fn→fnP P lib md f=some fn):∀ n,CallOK P (runFO O Fs n)
 |0=>fun _ _ _ _ _ _ _ _ _ h=>by cases h
 |n+1=>alt_ok hO (stepF_ok (runFO_ok hO hm hlib hFs n) hm hlib hFs n)
theorem bool_callsO {P:Program} {call:Go.Eng.Call} (hc:CallOK P call) {f:Nat} (h:(call f [] [.lf] .lf 0).map (·.1)=some (.d (.sc (.bool true)))) (w:World) (hg:(∀ b,gblk b→b<w.heap.size)∧gok w):Calls P f #[] w fun e w'=>e=.returned (.bool true)∧Below w.heap.size w w':=by
 obtain⟨⟨r,m,t,v⟩,hr,he⟩:=opt_map h
 obtain⟨_,hc⟩:=hc f [] [.lf] .lf 0 r m t v hr (cx0 w) #[] (cx0_mem w hg _ memGet_lf) (fun _ _=>rfl) trivial
 refine hc.mono ?_
 rintro e w' ⟨Y,u,rfl,rfl,hx,hv,_⟩
 dsimp only at he
 subst he
 cases hv
 exact⟨rfl,hx.below.toBelow⟩
end Go.Eng
namespace Go.Eng
open Go
noncomputable section
def forceL {α : Type} {β : Type} (l:List α) (k:List α→β) : β:=List.rec (motive:=fun _=>(List α→β)→β) (fun k=>k []) (fun x _ ih k=>ih fun r=>k (x :: r)) l k
theorem forceL_eq {α β : Type} (l:List α):∀ (k:List α→β),forceL l k=k l:=by
 induction l with
 |nil=>intro k;rfl
 |cons x l ih=>intro k;exact ih fun r=>k (x :: r)
def Ent.force {β : Type} (e:Ent) (k:Ent→β) : β:=match e with
 |.row v els=>forceL els fun l=>k (.row v l)
 |e=>k e
def forceU {β : Type} : List (Nat×Nat×Option Ent)→(List (Nat×Nat×Option Ent)→β)→β
 |[],k=>k []
 |(a,b,some e) :: r,k=>e.force fun e'=>forceU r fun r'=>k ((a,b,some e') :: r')
 |x :: r,k=>forceU r fun r'=>k (x :: r')
def AV.force {β : Type} (v:AV) (k:AV→β) : β:=match v with
 |.own els o=>forceL els fun l=>k (.own l o)
 |v=>k v
def Res.force {β : Type} (r:Res) (k:Res→β) : β:=match r with
 |.eff e=>e.val.force fun v=>forceU e.upd fun u=>k (.eff { val:=v,upd:=u,tip:=e.tip,rd:=e.rd })
 |r=>k r
theorem Ent.force_eq {β : Type} (e:Ent) (k:Ent→β):e.force k=k e:=by
 unfold Ent.force
 split
 ·rw[forceL_eq]
 ·rfl
theorem forceU_eq {β : Type} : ∀ (l:List (Nat×Nat×Option Ent)) (k:List (Nat×Nat×Option Ent)→β),forceU l k=k l
 |[],k=>rfl
 |(a,b,some e) :: r,k=>by rw[forceU,Ent.force_eq,forceU_eq r]
 |(a,b,none) :: r,k=>by
  show forceU r (fun r'=>k ((a,b,none) :: r'))=_
  rw[forceU_eq r]
theorem AV.force_eq {β : Type} (v:AV) (k:AV→β):v.force k=k v:=by
 unfold AV.force
 split
 ·rw[forceL_eq]
 ·rfl
theorem Res.force_eq {β : Type} (r:Res) (k:Res→β):r.force k=k r:=by
 unfold Res.force
 split
 ·rw[AV.force_eq,forceU_eq]
 ·rfl
def grows:AOp→Bool
 |.append .. | .appendZ .. | .store .. | .copy ..=>true
 |_=>false
def stepN {β : Type} (o:AOper) (r:Res) (k:Res→β) : β:=match grows o.op with
 |true=>r.force k
 |false=>k r
def runOpsN (call:Call) (sh:Nat→Bool) (nv0:Nat):Nat→List AOper→St→Option St
 |_,[],s=>some s
 |i,o :: r,s=>match o.step call sh s (nv0+i) with
  |none=>none
  |some e=>stepN o e fun e=>runOpsN call sh nv0 (i+1) r (s.app o.dst e)
def runAnyN (call:Call) (sh:Nat→Bool) (nv0:Nat):Nat→List AOper→List (Nat×Res)→St→Option St
 |_,[],_,s=>some s
 | i, o :: r, past, s => match o.step call sh s (nv0 + i) with
  |none=>none
  |some e=>stepN o e fun e=>match clear o.bef e past with
   |true=>runAnyN call sh nv0 (i+1) r ((i,e) :: past) (s.app o.dst e)
   |false=>none
def runRegionN (call:Call) (sh:Nat→Bool) (ops:List AOper) (draw:Bool) (s:St):Option St:=
 let s':={ s with nv:=s.nv+ops.length }
 match draw with
 |false=>runOpsN call sh s.nv 0 ops s'
 |true=>runAnyN call sh s.nv 0 ops [] s'
def execN (call : Call) (sh : Nat → Bool) : Nat → AC → St → Option (AX × St)
 |0,_,_=>none
 | n + 1, c, s => match c with
  |.skip=>some (.normal,s)
  |.region ops draw=>(runRegionN call sh ops draw s).map fun s'=>(.normal,s')
  |.seq a b=>match execN call sh n a s with
   |some (.normal,s')=>execN call sh n b s'
   |r=>r
  |.cond c a b=>match boolOfA (c.ev s.slots) with
   |some true=>execN call sh n a s
   |some false=>execN call sh n b s
   |none=>none
  | .block id c => match execN call sh n c s with
   |some (.exit id',s')=>match Nat.beq id' id with
    |true=>some (.normal,s')
    |false=>some (.exit id',s')
   |r=>r
  |.loop c=>match execN call sh n c s with
   |some (.normal,s')=>execN call sh n (.loop c) s'
   |r=>r
  |.exit id=>some (.exit id,s)
  |.ret=>some (.ret,s)
def stepFN (call:Go.Eng.Call) (Fs:Nat→Option AFn) (n:Nat):Go.Eng.Call:=fun f args mem tips nv=>match Fs f with
 |none=>none
 | some fn => match Nat.beq args.length fn.np with
  |false=>none
  |true=>match execN call (fun g=>((Fs g).map (·.sh)).getD false) n fn.body { slots:=argSlots 0 args .lf,mem,tips,nv } with
   |some (.normal,s)|some (.ret,s)=>(resAll s fn.res).map fun vs=>(tupOf vs,s.mem,s.tips,s.nv)
   |_=>none
def runFN (O:Go.Eng.Call) (Fs:Nat→Option AFn):Nat→Go.Eng.Call
 |0=>fun _ _ _ _ _=>none
 |n+1=>altCall O (stepFN (runFN O Fs n) Fs n)
end
end Go.Eng
