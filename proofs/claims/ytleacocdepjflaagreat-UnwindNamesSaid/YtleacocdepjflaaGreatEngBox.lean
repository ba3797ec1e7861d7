/- A part of the proof: EngQ, EngR, EngBox. -/
import Derived.Test.YtleacocdepjflaaGreatEngP
namespace Go.Eng
open Go Go.RowKit
def CallOK (P:Program) (call:Go.Eng.Call):Prop:=
 ∀ f args mem tips nv r mem' tips' nv',call f args mem tips nv=some (r,mem',tips',nv')→∀ (X:Cx) (vargs:Array Value),MemOK X mem tips→(∀ v,nv≤v→X.ρ v=none)→All2 (V1 X) args vargs.toList→
  (∃ fn,P.funcs[f]?=some fn∧fn.body.isSome=true∧(fn.name == "runtime.NumGoroutine")=false)∧
  Calls P f vargs X.w fun e w'=>∃ Y v,e=.returned v∧Y.w=w'∧Ext X Y∧VR Y r v∧MemOK Y mem' tips'∧nv≤nv'∧∀ u L,Y.ρ u=some L→X.ρ u=some L∨(nv≤u∧u<nv')
theorem DR.mono {w:World} {F G:Nat→Nat→Prop} (h:∀ b o,F b o→G b o) {x:D} {v:Value} (hd:DR w F x v):DR w G x v:=by
 induction hd with
 |sc v h1=>exact .sc v h1
 |er v h1=>exact .er v h1
 |sl els a n cap sz b o g hn hcap hsz ha hF hc _ ih=>exact .sl els a n cap sz b o g hn hcap hsz ha (fun i e j x h1 h2=>h _ _ (hF i e j x h1 h2)) hc ih
theorem Lies.mono {w:World} {F G R S:Nat→Nat→Prop} (h:∀ b o,F b o→G b o) {els:List (List D)} {b o sz:Nat} (hrs:∀ q,(∃ v,w.cell? ⟨b,q,none⟩=some v)→R b q→S b q) (hl:Lies w F R els b o sz):Lies w G S els b o sz:=
 ⟨hl.1, fun i e j x h1 h2 => by
  obtain⟨hF,v,hv,hd⟩:=hl.2 i e j x h1 h2
  exact⟨hrs _ ⟨v,hv⟩ hF,v,hv,hd.mono h⟩⟩
theorem cell_lt {w:World} {b o:Nat} (h:∃ v,w.cell? ⟨b,o,none⟩=some v):b<w.heap.size:=by
 obtain⟨v,hv⟩:=h
 exact World.block_lt_of_cell? w ⟨b,o,none⟩ hv
def Cx.inner (X:Cx):Cx:={ w:=X.w,F:=X.F,ρ:=fun _=>none,old:=fun b=>b<X.w.heap.size }
theorem clo_nil {X Y:Cx} {f:Nat} {v:Value} (h:VC X (.clo f []) v):VC Y (.clo f []) v:=by
 obtain⟨vs,rfl,h⟩:=h
 refine⟨vs,rfl,?_⟩
 cases hh:vs.toList with
 |nil=>trivial
 |cons a l=>rw[hh] at h;exact h.elim
section
variable {X:Cx} {m:List (Tr Ent)} {t:Tr Unit}
theorem lendCell_ok (h:MemOK X m t) (ks:List (Nat×Nat)) {x y:AV} {v:Value} (hx:lendCell m x=some y) (hv:VC X x v):VC (X.frz m ks).inner y v:=by
 have hex:=frz_ext h ks
 have hsub:∀ b o,X.F b o→(X.frz m ks).F b o:=fun _ _=>.inl
 have data:∀ {els a cap sz b o},v=.slice a els.length cap→els.length≤cap→(0<els.length→a=some ⟨b,o,none⟩)→Lies X.w X.F X.F els b o sz→VC (X.frz m ks).inner (.d (.sl els)) v:=by
  rintro els a cap sz b o rfl h2 h3 h4
  exact DR.of_lies (h4.ext hex) rfl h2 h3
 have lent:∀ {els a cap sz b o} {R:Nat→Nat→Prop},v=.slice a els.length cap→els.length≤cap→(0<els.length→a=some ⟨b,o,none⟩)→Lies X.w X.F R els b o sz→VC (X.frz m ks).inner (.own els .bor) v:=by
  rintro els a cap sz b o R rfl h2 h3 h4
  exact⟨a,b,o,sz,cap,rfl,h2,h3,h4.mono hsub fun q hq _=>cell_lt hq⟩
 cases x with
 |d x=>simp only[lendCell] at hx;injection hx with hx;subst hx;exact DR.ext hex hv
 | own els ow =>
  cases ow with
  |full=>
   simp only[lendCell] at hx;injection hx with hx;subst hx
   obtain⟨a,b,o,sz,h1,h2,h3⟩:=hv
   exact data h1 (Nat.le_refl _) h2 h3
  |tip ver tz=>
   simp only[lendCell] at hx;injection hx with hx;subst hx
   obtain⟨a,b,o,sz,cap,h1,h2,h3,h4,_⟩:=hv
   exact data h1 h2 (fun h=>h3 (by omega)) h4
  |bor=>
   simp only[lendCell] at hx;injection hx with hx;subst hx
   obtain⟨a,b,o,sz,cap,h1,h2,h3,h4⟩:=hv
   exact lent h1 h2 h3 h4
 | ref lv sl ver off len sz =>
  simp only[lendCell] at hx
  cases he:elsOf m (.ref lv sl ver off len sz) with
  |none=>rw[he] at hx;cases hx
  |some els=>
   rw[he] at hx
   simp only[Option.map_some] at hx
   injection hx with hx;subst hx
   obtain⟨a,cap,sz',b,o,h1,h2,h3,h4⟩:=elsOf_ok h he (.of_VC hv)
   exact lent h1 h2 h3 h4
 |clo f c=>
  cases c with
  |nil=>simp only[lendCell] at hx;injection hx with hx;subst hx;exact clo_nil hv
  |cons=>cases hx
 |_=>cases hx
theorem giveCell_ok (h:MemOK X m t) {ks k:List (Nat×Nat)} {x y:AV} {v:Value} (hx:giveCell m x=some (y,k)) (hv:VC X x v) (hk:∀ p∈k,p∈ks):VC (X.frz m ks).inner y v:=by
 have viaD:∀ {x},(toD m x).map (fun p=>(AV.d p.1,p.2))=some (y,k)→VC X x v→VC (X.frz m ks).inner y v:=by
  intro x hx hv
  cases hd:toD m x with
  |none=>rw[hd] at hx;cases hx
  |some p=>
   rw[hd] at hx
   simp only[Option.map_some] at hx
   injection hx with hx;injection hx with h1 h2;subst h1
   exact toD_ok h (ks:=ks) hd hv fun q hq=>hk q (by rw[←h2];exact hq)
 unfold giveCell at hx
 split at hx
 ·injection hx with hx; injection hx with h1 h2; subst h1
  exact lendCell_ok h ks rfl hv
 ·injection hx with hx; injection hx with h1 h2; subst h1
  exact lendCell_ok h ks rfl hv
 ·exact viaD hx hv
theorem giveCells_ok (h:MemOK X m t) {ks:List (Nat×Nat)} : ∀ {xs ys:List AV} {k:List (Nat×Nat)} {vs:List Value},giveCells m xs=some (ys,k)→All2 (VC X) xs vs→(∀ p∈k,p∈ks)→All2 (VC (X.frz m ks).inner) ys vs
 |[],ys,k,[],hx,_,_=>by simp only[giveCells] at hx;injection hx with hx;injection hx with h1 h2;subst h1;trivial
 | x :: xs, ys, k, v :: vs, hx, hv, hk => by
  simp only[giveCells] at hx
  split at hx
  ·rename_i y k1 ys' k2 h1 h2
   injection hx with hx;injection hx with e1 e2;subst e1;subst e2
   exact⟨giveCell_ok h h1 hv.1 fun p hp=>hk p (by simp[hp]),giveCells_ok h h2 hv.2 fun p hp=>hk p (by simp[hp])⟩
  ·cases hx
 |[],_,_,_ :: _,_,hv,_=>hv.elim
 |_ :: _,_,_,[],_,hv,_=>hv.elim
theorem lend_ok (h:MemOK X m t) {ks k:List (Nat×Nat)} {x y:AV} {v:Value} (hx:lend m x=some (y,k)) (hv:VR X x v) (hk:∀ p∈k,p∈ks):V1 (X.frz m ks).inner y v:=by
 have one:∀ {x:AV},(lendCell m x).map (fun y=>(y,([]:List (Nat×Nat))))=some (y,k)→VC X x v→V1 (X.frz m ks).inner y v:=by
  intro x hx hv
  cases hd:lendCell m x with
  |none=>rw[hd] at hx;cases hx
  |some y'=>
   rw[hd] at hx
   simp only[Option.map_some] at hx
   injection hx with hx;injection hx with h1 h2;subst h1
   exact .of_VC (lendCell_ok h ks hd hv)
 cases x with
 | agg cs =>
  simp only[lend] at hx
  cases hd:giveCells m cs with
  |none=>rw[hd] at hx;cases hx
  |some p=>
   rw[hd] at hx
   simp only[Option.map_some] at hx
   injection hx with hx;injection hx with h1 h2;subst h1
   obtain⟨vs,rfl,h3⟩:=hv
   exact⟨vs,rfl,giveCells_ok h (k:=p.2) hd h3 fun q hq=>hk q (by rw[←h2];exact hq)⟩
 |tup cs=>simp[lend,lendCell] at hx
 |_=>simp only[lend] at hx;exact one hx hv
theorem lends_ok (h:MemOK X m t) {ks:List (Nat×Nat)} : ∀ {xs ys:List AV} {k:List (Nat×Nat)} {vs:List Value},lends m xs=some (ys,k)→All2 (VR X) xs vs→(∀ p∈k,p∈ks)→All2 (V1 (X.frz m ks).inner) ys vs
 |[],ys,k,[],hx,_,_=>by simp only[lends] at hx;injection hx with hx;injection hx with h1 h2;subst h1;trivial
 | x :: xs, ys, k, v :: vs, hx, hv, hk => by
  simp only[lends] at hx
  split at hx
  ·rename_i y k1 ys' k2 h1 h2
   injection hx with hx;injection hx with e1 e2;subst e1;subst e2
   exact⟨lend_ok h h1 hv.1 fun p hp=>hk p (by simp[hp]),lends_ok h h2 hv.2 fun p hp=>hk p (by simp[hp])⟩
  ·cases hx
 |[],_,_,_ :: _,_,hv,_=>hv.elim
 |_ :: _,_,_,[],_,hv,_=>hv.elim
theorem give_ok (h:MemOK X m t) {ks k:List (Nat×Nat)} {x y:AV} {v:Value} (hx:give m x=some (y,k)) (hv:VR X x v) (hk:∀ p∈k,p∈ks):V1 (X.frz m ks).inner y v:=by
 cases x with
 |agg cs=>exact lend_ok h (x:=.agg cs) hx hv hk
 |tup cs=>simp[give,giveCell,toD] at hx
 |_=>simp only[give] at hx;exact .of_VC (giveCell_ok h hx hv hk)
theorem gives_ok (h:MemOK X m t) {ks:List (Nat×Nat)} : ∀ {xs ys:List AV} {k:List (Nat×Nat)} {vs:List Value},gives m xs=some (ys,k)→All2 (VR X) xs vs→(∀ p∈k,p∈ks)→All2 (V1 (X.frz m ks).inner) ys vs
 |[],ys,k,[],hx,_,_=>by simp only[gives] at hx;injection hx with hx;injection hx with h1 _;subst h1;trivial
 | x :: xs, ys, k, v :: vs, hx, hv, hk => by
  simp only[gives] at hx
  split at hx
  ·rename_i y k1 ys' k2 h1 h2
   injection hx with hx;injection hx with h3 h4;subst h3;subst h4
   exact⟨give_ok h h1 hv.1 fun p hp=>hk p (List.mem_append.2 (.inl hp)),gives_ok h h2 hv.2 fun p hp=>hk p (List.mem_append.2 (.inr hp))⟩
  ·cases hx
 |[],_,_,_ :: _,_,hv,_=>hv.elim
 |_ :: _,_,_,[],_,hv,_=>hv.elim
theorem lendCs_ok (h:MemOK X m t) (ks:List (Nat×Nat)):∀ {xs ys:List AV} {vs:List Value},lendCs m xs=some ys→All2 (VC X) xs vs→All2 (VC (X.frz m ks).inner) ys vs
 |[],ys,[],hx,_=>by simp only[lendCs] at hx;injection hx with hx;subst hx;trivial
 | x :: xs, ys, v :: vs, hx, hv => by
  simp only[lendCs] at hx
  split at hx
  ·rename_i y ys' h1 h2
   injection hx with hx;subst hx
   exact⟨lendCell_ok h ks h1 hv.1,lendCs_ok h ks h2 hv.2⟩
  ·cases hx
 |[],_,_ :: _,_,hv=>hv.elim
 |_ :: _,_,[],_,hv=>hv.elim
theorem lendS_ok (h:MemOK X m t) (ks:List (Nat×Nat)) {x y:AV} {v:Value} (hx:lendS m x=some y) (hv:VR X x v):V1 (X.frz m ks).inner y v:=by
 cases x with
 | agg cs =>
  simp only[lendS] at hx
  cases h1:lendCs m cs with
  |none=>rw[h1] at hx;cases hx
  |some z=>
   rw[h1] at hx
   simp only[Option.map_some] at hx
   injection hx with hx;subst hx
   obtain⟨vs,rfl,h3⟩:=hv
   exact⟨vs,rfl,lendCs_ok h ks h1 h3⟩
 |tup cs=>simp[lendS,lendCell] at hx
 |_=>simp only[lendS] at hx;exact .of_VC (lendCell_ok h ks hx hv)
theorem lendSs_ok (h:MemOK X m t) (ks:List (Nat×Nat)):∀ {xs ys:List AV} {vs:List Value},lendSs m xs=some ys→All2 (VR X) xs vs→All2 (V1 (X.frz m ks).inner) ys vs
 |[],ys,[],hx,_=>by simp only[lendSs] at hx;injection hx with hx;subst hx;trivial
 | x :: xs, ys, v :: vs, hx, hv => by
  simp only[lendSs] at hx
  split at hx
  ·rename_i y ys' h1 h2
   injection hx with hx;subst hx
   exact⟨lendS_ok h ks h1 hv.1,lendSs_ok h ks h2 hv.2⟩
  ·cases hx
 |[],_,_ :: _,_,hv=>hv.elim
 |_ :: _,_,[],_,hv=>hv.elim
theorem inner_mem (h:MemOK X m t):MemOK X.inner [.lf] .lf:=by
 refine⟨fun lv sl e he=>?_,fun v hv=>by simp at hv,fun k k' v v' L L' _ _ _ hv _ _ _=>?_,h.inF,fun _ h=>h,fun b hb=>h.low b (h.lows.gb b hb),h.lows.gk⟩
 ·exfalso
  unfold memGet at he
  cases lv with
  |zero=>simp at he
  |succ lv=>simp at he
 ·cases hv
end
structure Picked (Z:Cx) (top:Nat) (cm:List (Tr Ent)) (els:List (List D)) (len sz:Nat) (v:Value):Prop where
 row:∃ L off a cap,v=.slice a len cap∧len≤cap∧els.length=len∧(∀ e∈els,e.length=sz)∧(0<cap→(∃ lv' sl' e,top≤lv'∧(memGet cm lv' sl'=some e∧e.fz=false)∧Z.ρ e.ver=some L)∧a=some ⟨L.b,L.o+off*sz,none⟩∧off+cap≤L.cap∧L.sz=sz∧0<L.cap∧
  Block Z L.b (L.o+L.cap*L.sz)∧(∀ o,¬Z.F L.b o)∧∀ i e j x,els[i]?=some e→e[j]?=some x→∃ u,Z.w.cell? ⟨L.b,L.o+off*sz+i*sz+j,none⟩=some u∧DR Z.w Z.F x u)
section
variable {Z Y:Cx} {cm:List (Tr Ent)} {ts:Tr Unit}
theorem impCell_ok (h : MemOK Z cm ts) {top pk k lv sl ver : Nat} (hw : Y.w = Z.w) (hF : ∀ b o, Z.F b o → Y.F b o) (hρ : 0 < top → ∀ v L, Z.ρ v = some L → Y.ρ v = some L)
  (hfz:pk=0→∀ lv' sl' e L,top≤lv'→memGet cm lv' sl'=some e→e.fz=false→Z.ρ e.ver=some L→0<L.cap→∀ o,Y.F L.b o) {x y:AV} {us:List (List (List D))} {v:Value} (hx:impCell cm top pk k lv sl ver x=some (y,us)) (hv:VC Z x v) :
  (us=[]∧VC Y y v)∨∃ els len sz,us=[els]∧y=.ref lv sl ver 0 len sz∧pk≠0∧Picked Z top cm els len sz v:=by
 have data:∀ {els a cap sz b o},v=.slice a els.length cap→els.length≤cap→(0<els.length→a=some ⟨b,o,none⟩)→Lies Z.w Z.F Z.F els b o sz→VC Y (.d (.sl els)) v:=by
  rintro els a cap sz b o rfl h2 h3 h4
  refine DR.of_lies (b:=b) (o:=o) (sz:=sz) ?_ rfl h2 h3
  rw[hw]
  exact h4.mono hF fun q _ hq=>hF _ _ hq
 cases x with
 |d x=>
  simp only[impCell] at hx;injection hx with hx;injection hx with h1 h2;subst h1
  refine .inl ⟨h2.symm,?_⟩
  show DR Y.w Y.F x v
  rw[hw]
  exact DR.mono hF hv
 | own els ow =>
  cases ow with
  | full =>
   simp only[impCell] at hx
   obtain⟨a,b,o,sz,g1,g2,g3⟩:=hv
   split at hx
   ·rename_i hq
    injection hx with hx;injection hx with h1 h2;subst h1
    have hpk:pk≠0:=by
     intro e
     subst e
     simp at hq
    exact .inr ⟨[],0,pk / 65536,h2.symm,rfl,hpk,⟨⟨0,0,0,0⟩,0,a,0,g1,Nat.le_refl _,rfl,fun _ h=>(by cases h),fun h=>absurd h (by omega)⟩⟩
   ·split at hx
    ·injection hx with hx; injection hx with h1 h2; subst h1
     refine .inl ⟨h2.symm,a,b,o,sz,g1,g2,?_⟩
     rw[hw]
     exact g3.mono hF fun q _ hq=>hF _ _ hq
    ·injection hx with hx; injection hx with h1 h2; subst h1
     exact .inl ⟨h2.symm,data g1 (Nat.le_refl _) g2 g3⟩
  | tip ver tz =>
   simp only[impCell] at hx
   obtain⟨a,b,o,sz,cap,g1,g2,g3,g4,g5,g6⟩:=hv
   split at hx
   ·rename_i hk
    injection hx with hx;injection hx with h1 h2;subst h1
    have ht:0<top:=by
     have:=(Bool.and_eq_true_iff.1 hk).2
     rcases Nat.eq_zero_or_pos top with e|e
     ·rw[e] at this;cases this
     ·exact e
    refine .inl ⟨h2.symm,a,b,o,sz,cap,g1,g2,g3,?_,hρ ht _ _ g5,g6⟩
    rw[hw]
    exact g4.mono hF fun q _ hq=>hF _ _ hq
   ·injection hx with hx; injection hx with h1 h2; subst h1
    exact .inl ⟨h2.symm,data g1 g2 (fun h=>g3 (by omega)) g4⟩
  |bor=>cases hx
 | ref lv' sl' ver' off len sz =>
  simp only[impCell] at hx
  cases hb:Nat.ble top lv' with
  | false =>
   rw[hb] at hx
   injection hx with hx;injection hx with h1 h2;subst h1
   have ht:0<top:=by
    have:¬top≤lv':=fun hle=>by rw[Nat.ble_eq_true_of_le hle] at hb;cases hb
    omega
   obtain⟨L,a,cap,g1,g2⟩:=hv
   exact .inl ⟨h2.symm,L,a,cap,hρ ht _ _ g1,g2⟩
  | true =>
   rw[hb] at hx
   have hle:top≤lv':=Nat.le_of_ble_eq_true hb
   cases he:elsOf cm (.ref lv' sl' ver' off len sz) with
   |none=>rw[he] at hx;cases hx
   | some els =>
    rw[he] at hx
    simp only at hx
    obtain⟨L',a,cap,hL',g1,rfl,g3,g4⟩:=hv
    simp only[elsOf] at he
    cases hr:rowRd cm lv' sl' ver' with
    |none=>rw[hr] at he;cases he
    | some els' =>
     rw[hr] at he
     simp only[Option.bind_some] at he
     split at he
     ·rename_i hoff
      injection he with he;subst he
      obtain⟨L,hL,hE1,hE⟩:=rowRd_ok h hr
      rw[hL] at hL';injection hL' with hL';subst hL'
      have hlen:((els'.drop off).take len).length=len:=by simp;omega
      have hsz:∀ e∈(els'.drop off).take len,e.length=sz:=fun f hf=>by rw[hE.1 f (List.mem_of_mem_drop (List.mem_of_mem_take hf)),g1]
      split at hx
      ·rename_i hpk
       injection hx with hx;injection hx with h1 h2;subst h1
       refine .inl ⟨h2.symm,?_⟩
       have hpk:=beq_true.1 hpk
       have hl:=(hE.region (S:=Y.F) fun b o hq=>hq.elim (hF b o) fun hq=>by
        obtain⟨e,M,q1,q2,q3,rfl,q5⟩:=blockOf_some hq
        exact hfz hpk lv' sl' e M hle q1 q5 q2 q3 o).sub off len
       refine DR.of_lies (b:=L.b) (o:=L.o+off*L.sz) (sz:=L.sz) ?_ hlen g3 fun h0=>by rw[(g4 (by omega)).1,g1]
       rw[hw]
       exact hl.mono hF fun q _ hq=>hq
      ·rename_i hpk
       have hpk:=beq_false.1 hpk
       split at hx
       ·split at hx
        ·rename_i els2 hr2
         injection hx with hx;injection hx with h1 h2;subst h1
         obtain⟨L2,hL2,hE2,hg⟩:=row_lies h hr2
         have hels:els2=els':=by
          have hr':=hr
          unfold rowRd at hr'
          rw[hg] at hr'
          simp only[show Nat.beq ver' ver'=true from beq_true.2 rfl] at hr'
          injection hr'
         subst hels
         rw[hL] at hL2;injection hL2 with hL2;subst hL2
         refine .inr ⟨_,len,sz,h2.symm,rfl,hpk,⟨L,off,a,cap,rfl,g3,hlen,hsz,fun hc=>?_⟩⟩
         obtain⟨k1,k2⟩:=g4 hc
         have hc0:0<L.cap:=by omega
         refine⟨⟨lv',sl',_,hle,⟨hg,rfl⟩,hL⟩,k1,k2,g1,hc0,(hE2.2.2.1 hc0).1,(hE2.2.2.1 hc0).2,fun i e j x hi hj=>?_⟩
         obtain⟨u,hu,hd⟩:=hE2.2.2.2 (off+i) e j x (getElem?_drop_take hi).1 hj
         rw[g1,Nat.add_mul,←Nat.add_assoc] at hu
         exact⟨u,hu,hd⟩
        ·cases hx
       ·split at hx
        ·cases hx
        ·rename_i hr2
         injection hx with hx;injection hx with h1 h2;subst h1
         refine .inl ⟨h2.symm,?_⟩
         have hl:=(hE.region (S:=Y.F) fun b o hq=>hq.elim (hF b o) fun hq=>by
          exfalso
          obtain⟨e,M,q1,q2,q3,rfl,q5⟩:=blockOf_some hq
          have q1:memGet cm lv' sl'=some e:=q1
          unfold rowRd at hr
          unfold rowAt at hr2
          rw[q1] at hr hr2
          cases e with
          |row v els=>simp only at hr hr2;rw[hr] at hr2;cases hr2
          |box v cs=>cases hr
          |mp v ks=>cases hr
          |fro v els=>cases q5).sub off len
         refine DR.of_lies (b:=L.b) (o:=L.o+off*L.sz) (sz:=L.sz) ?_ hlen g3 fun h0=>by rw[(g4 (by omega)).1,g1]
         rw[hw]
         exact hl.mono hF fun q _ hq=>hq
     ·cases he
 |clo f c=>
  cases c with
  |nil=>simp only[impCell] at hx;injection hx with hx;injection hx with h1 h2;subst h1;exact .inl ⟨h2.symm,clo_nil hv⟩
  |cons=>cases hx
 | bref lv' sl' ver' off n sz =>
  simp only[impCell] at hx
  cases hb:Nat.ble top lv' with
  | false =>
   rw[hb] at hx
   injection hx with hx;injection hx with h1 h2;subst h1
   have ht:0<top:=by
    have:¬top≤lv':=fun hle=>by rw[Nat.ble_eq_true_of_le hle] at hb;cases hb
    omega
   obtain⟨L,cap,g1,g2⟩:=hv
   exact .inl ⟨h2.symm,L,cap,hρ ht _ _ g1,g2⟩
  |true=>rw[hb] at hx;cases hx
 | ptr lv' sl' ver' i off =>
  simp only[impCell] at hx
  cases hb:Nat.ble top lv' with
  | false =>
   rw[hb] at hx
   injection hx with hx;injection hx with h1 h2;subst h1
   have ht:0<top:=by
    have:¬top≤lv':=fun hle=>by rw[Nat.ble_eq_true_of_le hle] at hb;cases hb
    omega
   obtain⟨L,g1,g2⟩:=hv
   exact .inl ⟨h2.symm,L,hρ ht _ _ g1,g2⟩
  |true=>rw[hb] at hx;cases hx
 |_=>cases hx
end
end Go.Eng
namespace Go.Eng
open Go Go.RowKit
structure Good (Z:Cx) (cm:List (Tr Ent)) (top pk:Nat) (Y:Cx):Prop where
 w:Y.w=Z.w
 F:∀ b o,Z.F b o→Y.F b o
 ρ : 0<top→∀ v L,Z.ρ v=some L→Y.ρ v=some L
 fz:pk=0→∀ lv' sl' e L,top≤lv'→memGet cm lv' sl'=some e→e.fz=false→Z.ρ e.ver=some L→0<L.cap→∀ o,Y.F L.b o
def Brought {α : Type} (Z:Cx) (cm:List (Tr Ent)) (top pk lv sl ver:Nat) (R:Cx→α→Prop) (y : α) (us:List (List (List D))):Prop:=
 (us=[]∧∀ Y,Good Z cm top pk Y→R Y y)∨
 (∃ els len sz v',us=[els]∧(pk≠0∧Picked Z top cm els len sz v')∧∀ Y,Good Z cm top pk Y→VC Y (.ref lv sl ver 0 len sz) v'→R Y y)∨2≤us.length
theorem Brought.map {α β : Type} {Z:Cx} {cm:List (Tr Ent)} {top pk lv sl ver:Nat} {R:Cx→α→Prop} {S:Cx→β→Prop} {y : α} {z : β} {us:List (List (List D))} (h:Brought Z cm top pk lv sl ver R y us) (hrs:∀ Y,R Y y→S Y z):Brought Z cm top pk lv sl ver S z us:=by
 rcases h with⟨h1,h2⟩|⟨els,len,sz,v',h1,h2,h3⟩|h
 ·exact .inl ⟨h1,fun Y hY=>hrs Y (h2 Y hY)⟩
 ·exact .inr (.inl ⟨els,len,sz,v',h1,h2,fun Y hY hv=>hrs Y (h3 Y hY hv)⟩)
 ·exact .inr (.inr h)
theorem Brought.pair {α β γ : Type} {Z:Cx} {cm:List (Tr Ent)} {top pk lv sl ver:Nat} {R:Cx→α→Prop} {S:Cx→β→Prop} {T:Cx→γ→Prop} {y : α} {z : β} {x : γ} {us vs:List (List (List D))} (h:Brought Z cm top pk lv sl ver R y us) (k:Brought Z cm top pk lv sl ver S z vs)
  (hrs:∀ Y,R Y y→S Y z→T Y x):Brought Z cm top pk lv sl ver T x (us++vs):=by
 rcases h with⟨h1,h2⟩|⟨els,len,sz,v',h1,h2,h3⟩|h
 ·subst h1
  rcases k with⟨k1,k2⟩|⟨els,len,sz,v',k1,k2,k3⟩|k
  ·exact .inl ⟨by simp[k1],fun Y hY=>hrs Y (h2 Y hY) (k2 Y hY)⟩
  ·exact .inr (.inl ⟨els,len,sz,v',by simp[k1],k2,fun Y hY hv=>hrs Y (h2 Y hY) (k3 Y hY hv)⟩)
  ·exact .inr (.inr (by simpa using k))
 ·subst h1
  rcases k with⟨k1,k2⟩|⟨els',len',sz',w',k1,k2,k3⟩|k
  ·exact .inr (.inl ⟨els,len,sz,v',by simp[k1],h2,fun Y hY hv=>hrs Y (h3 Y hY hv) (k2 Y hY)⟩)
  ·exact .inr (.inr (by simp[k1]))
  ·exact .inr (.inr (by simp;omega))
 ·exact .inr (.inr (by simp;omega))
section
variable {Z:Cx} {cm:List (Tr Ent)} {ts:Tr Unit} {top pk lv sl ver:Nat}
theorem impCell_b (h:MemOK Z cm ts) {k:Nat} {x y:AV} {us:List (List (List D))} {v:Value} (hx:impCell cm top pk k lv sl ver x=some (y,us)) (hv:VC Z x v):Brought Z cm top pk lv sl ver (fun Y y=>VC Y y v) y us:=by
 by_cases hu:us=[]
 ·refine .inl ⟨hu, fun Y hY => ?_⟩
  rcases impCell_ok h hY.w hY.F hY.ρ hY.fz hx hv with⟨_,h⟩|⟨_,_,_,h,_⟩
  ·exact h
  ·rw[hu] at h;cases h
 ·rcases impCell_ok (Y := { Z with F := fun _ _ => True }) h rfl (fun _ _ _ => trivial) (fun _ _ _ h => h) (fun _ _ _ _ _ _ _ _ _ _ _ => trivial) hx hv with ⟨h, _⟩ | ⟨els, len, sz, h1, rfl, h2, h3⟩
  ·exact absurd h hu
  ·exact .inr (.inl ⟨els,len,sz,v,h1,⟨h2,h3⟩,fun Y _ h=>h⟩)
theorem impCells_b (h:MemOK Z cm ts):∀ {k:Nat} {xs ys:List AV} {us:List (List (List D))} {vs:List Value},impCells cm top pk lv sl ver k xs=some (ys,us)→All2 (VC Z) xs vs→Brought Z cm top pk lv sl ver (fun Y ys=>All2 (VC Y) ys vs) ys us
 |k,[],ys,us,[],hx,_=>by simp only[impCells] at hx;injection hx with hx;injection hx with h1 h2;subst h1;exact .inl ⟨h2.symm,fun _ _=>trivial⟩
 | k, x :: xs, ys, us, v :: vs, hx, hv => by
  simp only[impCells] at hx
  split at hx
  ·rename_i y u ys' us' h1 h2
   injection hx with hx;injection hx with e1 e2;subst e1;subst e2
   exact (impCell_b h h1 hv.1).pair (impCells_b h h2 hv.2) fun Y a b=>⟨a,b⟩
  ·cases hx
 |_,[],_,_,_ :: _,_,hv=>hv.elim
 |_,_ :: _,_,_,[],_,hv=>hv.elim
theorem imp1_b (h:MemOK Z cm ts) {k:Nat} {x y:AV} {us:List (List (List D))} {v:Value} (hx:imp1 cm top pk lv sl ver k x=some (y,us)) (hv:V1 Z x v):Brought Z cm top pk lv sl ver (fun Y y=>V1 Y y v) y us:=by
 cases x with
 | agg cs =>
  simp only[imp1] at hx
  cases hd:impCells cm top pk lv sl ver k cs with
  |none=>rw[hd] at hx;cases hx
  |some p=>
   rw[hd] at hx
   simp only[Option.map_some] at hx
   injection hx with hx;injection hx with h1 h2;subst h1;subst h2
   obtain⟨vs,rfl,h3⟩:=hv
   exact (impCells_b h (us:=p.2) hd h3).map fun Y h=>⟨vs,rfl,h⟩
 |tup cs=>simp only[imp1,impCell] at hx;cases hx
 |_=>simp only[imp1] at hx;exact (impCell_b h hx hv).map fun Y h=>.of_VC h
theorem impTup_b (h:MemOK Z cm ts):∀ {k:Nat} {xs ys:List AV} {us:List (List (List D))} {vs:List Value},impTup cm top pk lv sl ver k xs=some (ys,us)→All2 (V1 Z) xs vs→Brought Z cm top pk lv sl ver (fun Y ys=>All2 (V1 Y) ys vs) ys us
 |k,[],ys,us,[],hx,_=>by simp only[impTup] at hx;injection hx with hx;injection hx with h1 h2;subst h1;exact .inl ⟨h2.symm,fun _ _=>trivial⟩
 | k, x :: xs, ys, us, v :: vs, hx, hv => by
  simp only[impTup] at hx
  split at hx
  ·rename_i y u ys' us' h1 h2
   injection hx with hx;injection hx with e1 e2;subst e1;subst e2
   exact (imp1_b h h1 hv.1).pair (impTup_b h h2 hv.2) fun Y a b=>⟨a,b⟩
  ·cases hx
 |_,[],_,_,_ :: _,_,hv=>hv.elim
 |_,_ :: _,_,_,[],_,hv=>hv.elim
theorem impR_b (h:MemOK Z cm ts) {x y:AV} {us:List (List (List D))} {v:Value} (hx:impR cm top pk lv sl ver x=some (y,us)) (hv:VR Z x v):Brought Z cm top pk lv sl ver (fun Y y=>VR Y y v) y us:=by
 cases x with
 | tup cs =>
  simp only[impR] at hx
  cases hd:impTup cm top pk lv sl ver 1 cs with
  |none=>rw[hd] at hx;cases hx
  |some p=>
   rw[hd] at hx
   simp only[Option.map_some] at hx
   injection hx with hx;injection hx with h1 h2;subst h1;subst h2
   obtain⟨vs,rfl,h3⟩:=hv
   exact (impTup_b h (us:=p.2) hd h3).map fun Y h=>⟨vs,rfl,h⟩
 |_=>simp only[impR] at hx;exact (imp1_b h hx hv).map fun Y h=>.of_V1 h
theorem picked_row {Y:Cx} {m:List (Tr Ent)} {t:Tr Unit} {els:List (List D)} {len sz off cap:Nat} {a:Option Addr} {L:Loc} (hm:MemOK Y m t) (hw:Y.w=Z.w) (hF:∀ b o,Z.F b o→Y.F b o) (hb:∀ b,Y.old b→Z.old b) (hfr:Y.ρ ver=none)
  (h1 : len ≤ cap) (h2 : els.length = len) (h3 : ∀ e ∈ els, e.length = sz) (h4 : 0 < cap → a = some ⟨L.b, L.o + off * sz, none⟩ ∧ off + cap ≤ L.cap ∧ L.sz = sz ∧ 0 < L.cap ∧
   Block Z L.b (L.o+L.cap*L.sz)∧(∀ o,¬Z.F L.b o)∧∀ i e j x,els[i]?=some e→e[j]?=some x→∃ u,Z.w.cell? ⟨L.b,L.o+off*sz+i*sz+j,none⟩=some u∧DR Z.w Z.F x u)
  (hno:0<cap→(∀ o,¬Y.F L.b o)∧∀ k u M,Holds m t k u→Y.ρ u=some M→0<M.cap→M.b≠L.b) :
  ∃ W:Cx,W.w=Y.w∧W.F=Y.F∧W.old=Y.old∧(∀ u M,Y.ρ u=some M→W.ρ u=some M)∧(∀ u M,W.ρ u=some M→Y.ρ u=some M∨u=ver)∧MemOK W (memSet m lv sl (some (.row ver els))) t∧VC W (.ref lv sl ver 0 len sz) (.slice a len cap):=by
 let L':Loc:=⟨L.b,L.o+off*sz,sz,cap⟩
 refine⟨Y.name ver L',rfl,rfl,rfl,(name_ext hfr).loc,fun u M hu=>?_,?_,L',a,cap,name_ρ,rfl,rfl,h1,fun hc=>⟨by rw[(h4 hc).1];simp[L'],by simp[L']⟩⟩
 ·rcases (name_dom (X := Y) (v := ver) (n := 0) (L := L')).2 u M hu with h | h | h
  ·exact .inl h
  ·exact .inr h
  ·omega
 ·refine (name_mem hm hfr).add (e := .row ver els) (L := L') name_ρ ⟨by rw [h2]; exact h1, h3, fun hc => ?_, fun i e j x hi hj => ?_⟩ fun k u M hk _ hu hMc hc => ?_
  ·obtain ⟨g1, g2, g3, g4, ⟨g5, C, ce, g6, g7⟩, g8, _⟩ := h4 hc
   refine⟨⟨fun q=>g5 (hb _ q),C,ce,by show Y.w.heap[L.b]?=_;rw[hw];exact g6,?_⟩,(hno hc).1⟩
   show L.o+off*sz+cap*sz≤C.size
   rw[Nat.add_assoc,←Nat.add_mul]
   have:=Nat.mul_le_mul_right sz g2
   rw[g3] at g7
   omega
  ·have hi' : i < els.length := (List.getElem?_eq_some_iff.1 hi).1
   obtain⟨u,hu,hd⟩:=(h4 (by omega)).2.2.2.2.2.2 i e j x hi hj
   refine⟨u,?_,?_⟩
   ·show Y.w.cell? _ = _
    rw[hw];exact hu
   ·show DR Y.w Y.F x u
    rw[hw];exact hd.mono hF
  ·obtain ⟨M', hM', _⟩ := hm.holds_ρ hk
   have:(Y.name ver L').ρ u=some M':=(name_ext hfr).loc _ _ hM'
   rw[hu] at this;injection this with this;subst this
   exact (hno hc).2 k u M hk hM' hMc
end
theorem memGet_take (m:List (Tr Ent)) (k lv sl:Nat):memGet (m.take k) lv sl=if lv<k then memGet m lv sl else none:=by
 unfold memGet
 rw[List.getElem?_take]
 split<;>rfl
section
variable {P:Program} {X:Cx} {nt:NT} {s:St} {a:Act} {o:Oper} {dst:Option Nat} {nvi:Nat}
theorem call_iso {call:Go.Eng.Call} (hcall:CallOK P call) (hs:Sim X nt s a) (hfr:X.ρ nvi=none) {f pk lv sl:Nat} {vargs:Array Value} {as:List AV} {ks:List (Nat×Nat)} {r val:AV} {cm:List (Tr Ent)} {ts:Tr Unit} {n':Nat} {us:List (List (List D))} {u:List (Nat×Nat×Option Ent)} {rd:List (Nat×Nat×Nat)}
  (hV:All2 (V1 (X.frz s.mem ks).inner) as vargs.toList) (hc:call f as [.lf] .lf 0=some (r,cm,ts,n')) (hi:impR cm 0 pk lv sl nvi r=some (val,us)) (hu:rowUpd lv sl nvi us=some u)
  (hrun:(∃ fn,P.funcs[f]?=some fn∧fn.body.isSome=true∧(fn.name == "runtime.NumGoroutine")=false)→(execOp a.eval o).run P X.w=.ok (.enter f vargs) X.w) :
  After P X s a o dst nvi (.eff { val,upd:=frees s.mem ks++u,tip:=[],rd }):=by
 intro K Q hK
 have hm1:=frz_mem hs.mem ks
 have hx1:=frz_ext hs.mem ks
 obtain⟨hfn,hcalls⟩:=hcall f as [.lf] .lf 0 r cm ts n' hc (X.frz s.mem ks).inner vargs (inner_mem hm1) (fun _ _=>rfl) hV
 unfold Oper.wp
 rw[hrun hfn,Oper.upon_enter]
 refine Calls.mono hcalls ?_
 rintro e w' ⟨Z,v,rfl,rfl,hxZ,hvZ,hmZ,_,_⟩
 show K (a.put o.dst v) Z.w
 have hsize:X.w.heap.size≤Z.w.heap.size:=hxZ.below.size
 have hblk:∀ b,b<X.w.heap.size→Z.w.heap[b]?=X.w.heap[b]?:=fun b hb=>hxZ.below.block b hb
 have hZbase:Z.old=fun b=>b<X.w.heap.size:=hxZ.base
 have hZF:∀ b o,Z.F b o→(X.frz s.mem ks).F b o∨X.w.heap.size≤b:=fun b o h=>(hxZ.new b o h).imp id fun h=>Nat.le_of_not_lt h
 have mk:∀ (p:Option Nat),∃ Y:Cx,Y.w=Z.w∧Y.old=X.old∧Y.ρ = X.ρ∧(∀ b o,Y.F b o↔Z.F b o∨(X.w.heap.size≤b∧b<Z.w.heap.size∧some b≠p))∧Ext X Y∧MemOK Y (applyUpd s.mem (frees s.mem ks)) s.tips:=by
  intro p
  let Y:Cx:={ w:=Z.w,F:=fun b o=>Z.F b o∨(X.w.heap.size≤b∧b<Z.w.heap.size∧some b≠p),ρ:=X.ρ,old:=X.old }
  have hx:Ext (X.frz s.mem ks) Y:=by
   refine⟨rfl,hxZ.below.mono hs.mem.low,fun b o h=>.inl (hxZ.reg b o h),fun b o h=>?_,fun _ _ h=>h,fun b o h=>?_⟩
   ·exact hxZ.keep b o h
   ·rcases h with h | h
    ·exact (hZF b o h).imp id fun h q=>Nat.lt_irrefl _ (Nat.lt_of_lt_of_le (hs.mem.low _ q) h)
    ·exact .inr fun q=>Nat.lt_irrefl _ (Nat.lt_of_lt_of_le (hs.mem.low _ q) h.1)
  refine⟨Y,rfl,rfl,rfl,fun _ _=>Iff.rfl,hx1.trans hx,hm1.move hx (fun k v L hk hv hc=>?_) (fun k v L o hk hv hc h=>?_) fun b o h=>?_⟩
  ·obtain ⟨M, hM, h2⟩ := hm1.holds_ρ hk
   rw[hv] at hM;injection hM with hM;subst hM
   exact hblk _ (h2 hc).1
  ·obtain ⟨M, hM, h2⟩ := hm1.holds_ρ hk
   rw[hv] at hM;injection hM with hM;subst hM
   have:=(h2 hc).1
   have this:L.b<X.w.heap.size:=this
   rcases h with h|h
   ·exact (hZF _ _ h).resolve_right (by omega)
   ·omega
  ·rcases h with h | h
   ·exact hmZ.inF b o h
   ·exact h.2.1
 rcases impR_b hmZ hi hvZ with⟨rfl,hb⟩|⟨els,len,sz,v',rfl,⟨hpk,⟨L,off,ad,cap,g3,g4,g5,g6,g7'⟩⟩,hb⟩|hlen
 ·simp only [rowUpd] at hu
  injection hu with hu;subst hu
  obtain⟨Y,y1,y2,y3,y4,y5,y6⟩:=mk none
  rw[←y1]
  refine hK Y v y5 (hb Y ⟨y1,fun b o h=>(y4 b o).2 (.inl h),fun h=>absurd h (by omega),fun _ lv' sl' e L _ hg hz hL hc o=>?_⟩) ?_ ?_
  ·obtain ⟨M, hM, h2⟩ := hmZ.holds_ρ (.inl ⟨lv', sl', e, rfl, hg, rfl, hz⟩)
   rw[hL] at hM;injection hM with hM;subst hM
   exact (y4 _ _).2 (.inr ⟨Nat.le_of_not_lt (by have:=(h2 hc).2;rw[hZbase] at this;exact this),(h2 hc).1,by simp⟩)
  ·show MemOK Y (applyUpd s.mem (frees s.mem ks ++ [])) s.tips
   rw[List.append_nil]
   exact y6
  ·exact DomOK.of_ρ y3
 ·simp only [rowUpd] at hu
  injection hu with hu;subst hu
  subst g3
  have g7:=fun hc=>(g7' hc).2
  obtain⟨Y,y1,y2,y3,y4,y5,y6⟩:=mk (some L.b)
  have hLb:0<cap→X.w.heap.size≤L.b:=fun hc=>by
   have:=(g7 hc).2.2.2.2.1.1
   rw[hZbase] at this
   exact Nat.le_of_not_lt this
  obtain⟨W,w1,w2,w3,w4,w5,w6,w7⟩:=picked_row (Z:=Z) (lv:=lv) (sl:=sl) (ver:=nvi) y6 y1 (fun b o h=>(y4 b o).2 (.inl h)) (by rw[y2,hZbase];exact hs.mem.low) (by rw[y3];exact hfr) g4 g5 g6 g7 fun hc=>⟨fun o h=>by
    rcases (y4 _ _).1 h with h|h
    ·exact (g7 hc).2.2.2.2.2.1 o h
    ·exact h.2.2 rfl,fun k u M hk hM hMc=>by
    obtain⟨M',hM',h2⟩:=hm1.holds_ρ hk
    rw[y3] at hM
    have hM':X.ρ u=some M':=hM'
    rw[hM] at hM';injection hM' with hM';subst hM'
    have:M.b<X.w.heap.size:=(h2 hMc).1
    have:=hLb hc
    omega⟩
  have hxW:Ext Y W:=⟨w3,by rw[w1];exact Stays.refl _ _,fun b o h=>by rw[w2];exact h,fun b o _=>by rw[w1],w4,fun b o h=>by rw[w2] at h;exact .inl h⟩
  rw[←y1,←w1]
  refine hK W v (y5.trans hxW) (hb W ⟨w1.trans y1,fun b o h=>by rw[w2];exact (y4 b o).2 (.inl h),fun h=>absurd h (by omega),fun h=>absurd h hpk⟩ w7) ?_ ?_
  ·show MemOK W (applyUpd s.mem (frees s.mem ks ++ _)) s.tips
   rw[applyUpd_append]
   exact w6
  ·refine ⟨Nat.le_refl _, fun u M hM => ?_⟩
   rcases w5 u M hM with h|h
   ·rw[y3] at h;exact .inl h
   ·exact .inr (.inl h)
 ·match us, hlen with
  |_ :: _ :: _,_=>simp[rowUpd] at hu
end
end Go.Eng
namespace Go.Eng
open Go Go.RowKit
theorem isDat_VC {X Y:Cx} (hw:Y.w=X.w) (hF:∀ b o,X.F b o→Y.F b o) {x:AV} {v:Value} (h:isDat x=true) (hv:VC X x v):VC Y x v:=by
 cases x with
 |d x=>
  show DR Y.w Y.F x v
  rw[hw]
  exact DR.mono hF hv
 |_=>cases h
theorem isDats_VC {X Y:Cx} (hw:Y.w=X.w) (hF:∀ b o,X.F b o→Y.F b o):∀ {xs:List AV} {vs:List Value},xs.all isDat=true→All2 (VC X) xs vs→All2 (VC Y) xs vs
 |[],[],_,_=>trivial
 |x :: xs,v :: vs,h,hv=>by
  simp only[List.all_cons,Bool.and_eq_true] at h
  exact⟨isDat_VC hw hF h.1 hv.1,isDats_VC hw hF h.2 hv.2⟩
 |[],_ :: _,_,hv=>hv.elim
 |_ :: _,[],_,hv=>hv.elim
theorem plain1_V1 {X Y:Cx} (hw:Y.w=X.w) (hF:∀ b o,X.F b o→Y.F b o) {x:AV} {v:Value} (h:plain1 x=true) (hv:V1 X x v):V1 Y x v:=by
 cases x with
 |agg cs=>
  obtain⟨vs,rfl,hv⟩:=hv
  exact⟨vs,rfl,isDats_VC hw hF h hv⟩
 |d x=>exact isDat_VC (x:=.d x) hw hF h hv
 |_=>cases h
theorem plain1s_V1 {X Y:Cx} (hw:Y.w=X.w) (hF:∀ b o,X.F b o→Y.F b o):∀ {xs:List AV} {vs:List Value},xs.all plain1=true→All2 (V1 X) xs vs→All2 (V1 Y) xs vs
 |[],[],_,_=>trivial
 |x :: xs,v :: vs,h,hv=>by
  simp only[List.all_cons,Bool.and_eq_true] at h
  exact⟨plain1_V1 hw hF h.1 hv.1,plain1s_V1 hw hF h.2 hv.2⟩
 |[],_ :: _,_,hv=>hv.elim
 |_ :: _,[],_,hv=>hv.elim
theorem plainR_VR {X Y:Cx} (hw:Y.w=X.w) (hF:∀ b o,X.F b o→Y.F b o) {x:AV} {v:Value} (h:plainR x=true) (hv:VR X x v):VR Y x v:=by
 cases x with
 |tup vs=>
  obtain⟨us,rfl,hv⟩:=hv
  exact⟨us,rfl,plain1s_V1 hw hF h hv⟩
 |agg cs=>
  obtain⟨vs,rfl,hv⟩:=hv
  exact⟨vs,rfl,isDats_VC hw hF h hv⟩
 |d x=>exact isDat_VC (x:=.d x) hw hF h hv
 |_=>cases h
theorem datCell_VC {X Y:Cx} (hw:Y.w=X.w) (hF:∀ b o,X.F b o→Y.F b o) {x y:AV} {v:Value} (h:datCell x=some y) (hv:VC X x v):VC Y y v:=by
 have data:∀ {els a cap sz b o},v=.slice a els.length cap→els.length≤cap→(0<els.length→a=some ⟨b,o,none⟩)→Lies X.w X.F X.F els b o sz→VC Y (.d (.sl els)) v:=by
  rintro els a cap sz b o rfl h2 h3 h4
  refine DR.of_lies (b:=b) (o:=o) (sz:=sz) ?_ rfl h2 h3
  rw[hw]
  exact h4.mono hF fun q _ hq=>hF _ _ hq
 cases x with
 |d x=>
  simp only[datCell,Option.some.injEq] at h
  subst h
  exact isDat_VC hw hF rfl hv
 | own els ow =>
  cases ow with
  |full=>
   simp only[datCell,Option.some.injEq] at h
   subst h
   obtain⟨a,b,o,sz,g1,g2,g3⟩:=hv
   exact data g1 (Nat.le_refl _) g2 g3
  |tip ver tz=>
   simp only[datCell,Option.some.injEq] at h
   subst h
   obtain⟨a,b,o,sz,cap,g1,g2,g3,g4,_⟩:=hv
   exact data g1 g2 (fun h=>g3 (by omega)) g4
  |bor=>cases h
 |_=>cases h
theorem datCells_VC {X Y:Cx} (hw:Y.w=X.w) (hF:∀ b o,X.F b o→Y.F b o):∀ {xs ys:List AV} {vs:List Value},datCells xs=some ys→All2 (VC X) xs vs→All2 (VC Y) ys vs
 |[],ys,[],h,_=>by simp only[datCells,Option.some.injEq] at h;subst h;trivial
 | x :: xs, ys, v :: vs, h, hv => by
  simp only[datCells] at h
  split at h
  ·rename_i y ys' h1 h2
   simp only[Option.some.injEq] at h;subst h
   exact⟨datCell_VC hw hF h1 hv.1,datCells_VC hw hF h2 hv.2⟩
  ·cases h
 |[],_,_ :: _,_,hv=>hv.elim
 |_ :: _,_,[],_,hv=>hv.elim
theorem datCells_at:∀ {xs ys:List AV},datCells xs=some ys→ys.length=xs.length∧∀ (j:Nat) (y:AV),ys[j]?=some y→∃ x,xs[j]?=some x∧datCell x=some y
 |[],ys,h=>by
  simp only[datCells,Option.some.injEq] at h;subst h
  exact⟨rfl,fun j y hy=>by simp at hy⟩
 | x :: xs, ys, h => by
  simp only[datCells] at h
  split at h
  ·rename_i y ys' h1 h2
   simp only[Option.some.injEq] at h;subst h
   obtain⟨g1,g2⟩:=datCells_at h2
   refine⟨by simp[g1],fun j z hz=>?_⟩
   cases j with
   |zero=>
    simp only[List.getElem?_cons_zero,Option.some.injEq] at hz
    subst hz
    exact⟨x,rfl,h1⟩
   |succ j=>
    obtain⟨x',q1,q2⟩:=g2 j z (by simpa using hz)
    exact⟨x',by simpa using q1,q2⟩
  ·cases h
theorem datArg_VR {X Y:Cx} (hw:Y.w=X.w) (hF:∀ b o,X.F b o→Y.F b o) {x y:AV} {v:Value} (h:datArg x=some y) (hv:VR X x v):V1 Y y v:=by
 have one:∀ {x y:AV},datCell x=some y→VC X x v→V1 Y y v:=fun {x y} h hv=>.of_VC (datCell_VC hw hF h hv)
 cases x with
 |agg cs=>
  simp only[datArg] at h
  obtain⟨ys,h1,rfl⟩:=Option.map_eq_some_iff.1 h
  obtain⟨vs,rfl,hv⟩:=hv
  exact⟨vs,rfl,datCells_VC hw hF h1 hv⟩
 |d x=>exact one (x:=.d x) h hv
 |own els o=>exact one (x:=.own els o) h hv
 |_=>cases h
theorem datArgs_VR {X Y:Cx} (hw:Y.w=X.w) (hF:∀ b o,X.F b o→Y.F b o):∀ {xs ys:List AV} {vs:List Value},datArgs xs=some ys→All2 (VR X) xs vs→All2 (V1 Y) ys vs
 |[],ys,[],h,_=>by simp only[datArgs,Option.some.injEq] at h;subst h;trivial
 | x :: xs, ys, v :: vs, h, hv => by
  simp only[datArgs] at h
  split at h
  ·rename_i y ys' h1 h2
   simp only[Option.some.injEq] at h;subst h
   exact⟨datArg_VR hw hF h1 hv.1,datArgs_VR hw hF h2 hv.2⟩
  ·cases h
 |[],_,_ :: _,_,hv=>hv.elim
 |_ :: _,_,[],_,hv=>hv.elim
theorem boxAt_get {m:List (Tr Ent)} {lv sl ver:Nat} {cs:List AV} (h:boxAt m lv sl ver=some cs):memGet m lv sl=some (.box ver cs):=by
 unfold boxAt at h
 split at h
 ·rename_i v cs' hg
  split at h
  ·rename_i hv
   injection h with h
   rw[hg,beq_true.1 hv,h]
  ·cases h
 ·cases h
theorem boxArgs_eq {args rest:List AV} {lb sb vb:Nat} (h:boxArgs args=some (lb,sb,vb,rest)):args=.ptr lb sb vb 0 0 :: rest:=by
 unfold boxArgs at h
 split at h
 ·split at h
  ·rename_i hc
   simp only[Option.some.injEq,Prod.mk.injEq] at h
   obtain⟨rfl,rfl,rfl,rfl⟩:=h
   rw[Bool.and_eq_true] at hc
   rw[beq_true.1 hc.1,beq_true.1 hc.2]
  ·cases h
 ·cases h
theorem boxMem_get {cs:List AV} {lv sl:Nat} {e:Ent} (h:memGet (boxMem cs) lv sl=some e):lv=0∧sl=0∧e=.box 0 cs:=by
 unfold boxMem at h
 rw[memGet_set] at h
 split at h
 ·rename_i hc
  injection h with h
  exact⟨hc.1.symm,hc.2.1.symm,h.symm⟩
 ·exfalso
  unfold memGet at h
  match lv with
  |0=>simp at h
  |1=>simp at h
  |lv+2=>simp at h
theorem impCells_at {cm:List (Tr Ent)} {top lv sl ver:Nat} : ∀ {k:Nat} {xs ys:List AV},impCells cm top 0 lv sl ver k xs=some (ys,[])→ys.length=xs.length∧∀ j y,ys[j]?=some y→∃ x,xs[j]?=some x∧impCell cm top 0 (k+j) lv sl ver x=some (y,[])
 |_,[],ys,h=>by
  simp only[impCells,Option.some.injEq,Prod.mk.injEq] at h
  obtain⟨rfl,_⟩:=h
  exact⟨rfl,fun j y hy=>by simp at hy⟩
 | k, x :: xs, ys, h => by
  simp only[impCells] at h
  split at h
  ·rename_i y u ys' us h1 h2
   simp only[Option.some.injEq,Prod.mk.injEq,List.append_eq_nil_iff] at h
   obtain⟨rfl,rfl,rfl⟩:=h
   obtain⟨g1,g2⟩:=impCells_at h2
   refine⟨by simp[g1],fun j z hz=>?_⟩
   cases j with
   |zero=>
    simp only[List.getElem?_cons_zero,Option.some.injEq] at hz
    subst hz
    exact⟨x,rfl,h1⟩
   |succ j=>
    obtain⟨x',q1,q2⟩:=g2 j z (by simpa using hz)
    exact⟨x',by simpa using q1,by rw[show k+(j+1)=k+1+j by omega];exact q2⟩
  ·cases h
section
variable {P:Program} {X:Cx} {nt:NT} {s:St} {a:Act} {o:Oper} {dst:Option Nat} {nvi:Nat}
theorem call_box {call:Go.Eng.Call} (hcall:CallOK P call) (hs:Sim X nt s a) {f lb sb vb:Nat} {args:List AV} {vargs:Array Value} {r:Res}
  (hargs:All2 (VR X) (.ptr lb sb vb 0 0 :: args) vargs.toList) (hr:doBox call s f lb sb vb args=some r)
  (hrun:(∃ fn,P.funcs[f]?=some fn∧fn.body.isSome=true∧(fn.name == "runtime.NumGoroutine")=false)→(execOp a.eval o).run P X.w=.ok (.enter f vargs) X.w) :
  After P X s a o dst nvi r:=by
 unfold doBox at hr
 split at hr
 ·cases hr
 rename_i cs hb
 split at hr
 rotate_left
 ·cases hr
 rename_i cs0 as hd0 hda
 obtain⟨hlen0,hat0⟩:=datCells_at hd0
 split at hr
 ·cases hr
 rename_i r' cm ts n' hc
 split at hr
 ·cases hr
 rename_i cs' hb'
 split at hr
 rotate_left
 ·cases hr
 rename_i ds val hi hir
 split at hr
 rotate_left
 ·cases hr
 rename_i hdat
 rw[Bool.and_eq_true] at hdat
 injection hr with hr;subst hr
 have hg:=boxAt_get hb
 have hg':=boxAt_get hb'
 obtain⟨L,hL,hcap,hblk,hF,hcells⟩:=hs.mem.ents _ _ _ hg
 have hL:X.ρ vb=some L:=hL
 have hbox:Holds s.mem s.tips (keyE lb sb) vb:=.inl ⟨lb,sb,_,rfl,hg,rfl,rfl⟩
 have hLs:L.b<X.w.heap.size:=hblk.lt
 let Z0:Cx:={ w:=X.w,F:=X.F,ρ:=fun v=>if v=0 then some L else none,old:=fun b=>b<X.w.heap.size∧b≠L.b }
 have hρ0:Z0.ρ 0=some L:=rfl
 have hZ0:MemOK Z0 (boxMem cs0) .lf:=by
  refine⟨fun lv sl e he=>?_,fun v hv=>by simp at hv,fun k k' v v' L1 L2 h1 h2 hne _ _ _ _=>?_,hs.mem.inF,fun b h=>h.1,fun b hb=>⟨hs.mem.low b (hs.mem.lows.gb b hb),fun e=>hblk.1 (e ▸ hs.mem.lows.gb b hb)⟩,hs.mem.lows.gk⟩
  ·obtain ⟨_, _, rfl⟩ := boxMem_get he
   refine⟨L,hρ0,hcap,⟨fun h=>h.2 rfl,by rw[hlen0];exact hblk.2⟩,hF,fun j y hj=>?_⟩
   obtain⟨x,hx0,hxy⟩:=hat0 j y hj
   obtain⟨v,hv,hvc⟩:=hcells j x hx0
   exact⟨v,hv,datCell_VC (X:=X) (Y:=Z0) rfl (fun _ _ h=>h) hxy hvc⟩
  ·exfalso
   have one:∀ {k:Nat×Nat×Nat} {v:Nat},Holds (boxMem cs0) .lf k v→k=keyE 0 0:=by
    rintro k v (⟨lv,sl,e,rfl,he,_,_⟩|⟨_,he⟩)
    ·obtain⟨rfl,rfl,_⟩:=boxMem_get he;rfl
    ·simp at he
   exact hne ((one h1).trans (one h2).symm)
 have hA:All2 (V1 Z0) (.ptr 0 0 0 0 0 :: as) vargs.toList:=by
  revert hargs
  cases vargs.toList with
  |nil=>exact fun h=>h.elim
  |cons v0 vs=>
   intro h
   refine⟨?_,datArgs_VR (X:=X) (Y:=Z0) rfl (fun _ _ h=>h) hda h.2⟩
   obtain⟨L',hL',hv0⟩:=h.1
   rw[hL] at hL';injection hL' with hL';subst hL'
   exact⟨L,hρ0,hv0⟩
 obtain⟨hfn,hcalls⟩:=hcall f _ _ _ _ r' cm ts n' hc Z0 vargs hZ0 (fun v hv=>if_neg (by omega)) hA
 intro K Q hK
 unfold Oper.wp
 rw[hrun hfn,Oper.upon_enter]
 refine Calls.mono hcalls ?_
 rintro e w' ⟨Z,v,rfl,rfl,hxZ,hvZ,hmZ,_,_⟩
 show K (a.put o.dst v) Z.w
 have hZL:Z.ρ 0=some L:=hxZ.loc 0 L hρ0
 obtain⟨L2,hL2,_,hblk2,hF2,hcells2⟩:=hmZ.ents _ _ _ hg'
 have hL2:Z.ρ 0=some L2:=hL2
 rw[hZL] at hL2;injection hL2 with hL2;subst hL2
 have hbox':Holds cm ts (keyE 0 0) 0:=.inl ⟨0,0,_,rfl,hg',rfl,rfl⟩
 have hsize:X.w.heap.size≤Z.w.heap.size:=hxZ.below.size
 have hold:∀ b,X.old b→b<X.w.heap.size∧b≠L.b:=fun b hb=>⟨hs.mem.low b hb,fun e=>hblk.1 (e ▸ hb)⟩
 have hZold:Z.old=fun b=>b<X.w.heap.size∧b≠L.b:=hxZ.base
 have hnew:∀ b o,Z.F b o→X.F b o∨¬(b<X.w.heap.size∧b≠L.b):=hxZ.new
 let Y:Cx:={ w:=Z.w,F:=fun b o=>Z.F b o∨(X.w.heap.size≤b∧b<Z.w.heap.size),ρ:=X.ρ,old:=X.old }
 have hx:Ext X Y:=by
  refine⟨rfl,hxZ.below.mono hold,fun b o h=>.inl (hxZ.reg b o h),fun b o h=>hxZ.keep b o h,fun _ _ h=>h,fun b o h=>?_⟩
  rcases h with h|h
  ·exact (hnew b o h).imp id fun hno ho=>hno (hold b ho)
  ·exact .inr fun ho=>by have:=(hold b ho).1;omega
 have other:∀ k u M,Holds (memSet s.mem lb sb none) s.tips k u→X.ρ u=some M→0<M.cap→M.b<X.w.heap.size∧M.b≠L.b:=by
  intro k u M hk hu hc
  have hk2:Holds s.mem s.tips k u∧k≠keyE lb sb:=by
   rcases hk with⟨lv',sl',e,rfl,he,h1,h2⟩|⟨rfl,he⟩
   ·rw [memGet_set] at he
    split at he
    ·cases he
    ·rename_i hne
     refine⟨.inl ⟨lv',sl',e,rfl,he,h1,h2⟩,fun hq=>?_⟩
     obtain⟨q1,q2⟩:=keyE_inj hq
     subst q1 q2
     refine hne ⟨rfl,rfl,?_⟩
     unfold memGet at hg
     rcases Nat.lt_or_ge lv' s.mem.length with hl|hl
     ·exact hl
     ·rw[List.getElem?_eq_none hl] at hg;cases hg
   ·exact⟨.inr ⟨rfl,he⟩,fun hq=>keyE_ne_keyT hq.symm⟩
  obtain⟨M',hM',h3⟩:=hs.mem.holds_ρ hk2.1
  rw[hu] at hM';injection hM' with hM';subst hM'
  exact⟨(h3 hc).1,hs.mem.apart _ _ _ _ _ _ hk2.1 hbox hk2.2 hu hL hc (by omega)⟩
 have hY0:MemOK Y (memSet s.mem lb sb none) s.tips:=by
  refine (hs.mem.erase lb sb).move hx (fun k u M hk hu hc=>?_) (fun k u M q hk hu hc h=>?_) fun b q h=>?_
  ·exact hxZ.below.block _ (other k u M hk hu hc)
  ·rcases h with h | h
   ·exact (hnew _ _ h).resolve_right fun hno=>hno (other k u M hk hu hc)
   ·have:=(other k u M hk hu hc).1;omega
  ·rcases h with h | h
   ·exact hmZ.inF b q h
   ·exact h.2
 let Y':Cx:={ Y with ρ:=Z.ρ }
 have hgood:Good Z cm 1 0 Y':=by
  refine⟨rfl,fun b q h=>.inl h,fun _ _ _ h=>h,fun _ lv' sl' e M hlv he hz hM hc q=>?_⟩
  obtain⟨M',hM',h3⟩:=hmZ.holds_ρ (.inl ⟨lv',sl',e,rfl,he,rfl,hz⟩)
  rw[hM] at hM';injection hM' with hM';subst hM'
  have h4:=(h3 hc).2
  rw[hZold] at h4
  have h5:M.b≠L.b:=hmZ.apart (keyE lv' sl') (keyE 0 0) _ _ _ _ (.inl ⟨lv',sl',e,rfl,he,rfl,hz⟩) hbox' (fun hq=>by have:=(keyE_inj hq).1;omega) hM hZL hc (by omega)
  refine .inr ⟨?_,(h3 hc).1⟩
  rcases Nat.lt_or_ge M.b X.w.heap.size with h6|h6
  ·exact absurd ⟨h6,h5⟩ h4
  ·exact h6
 have hval:VR Y val v:=by
  rcases impR_b hmZ hir hvZ with⟨_,hb⟩|⟨_,_,_,_,h,_⟩|h
  ·exact plainR_VR (X:=Y') (Y:=Y) rfl (fun _ _ h=>h) hdat.2 (hb Y' hgood)
  ·cases h
  ·simp at h
 obtain⟨hlen,hat⟩:=impCells_at hi
 have hEnt:EntOK Y (.box vb ds) L:=by
  refine⟨hcap,⟨hblk.1,by rw[hlen];exact hblk2.2⟩,fun q h=>?_,fun j y hj=>?_⟩
  ·rcases h with h | h
   ·exact hF2 q h
   ·omega
  ·obtain ⟨x, q1, q2⟩ := hat j y hj
   obtain⟨u,hu,hvc⟩:=hcells2 j x q1
   refine⟨u,hu,isDat_VC (X:=Y') (Y:=Y) rfl (fun _ _ h=>h) (List.all_eq_true.1 hdat.1 y (List.mem_of_getElem? hj)) ?_⟩
   rcases impCell_b hmZ q2 hvc with⟨_,hb⟩|⟨_,_,_,_,h,_⟩|h
   ·exact hb Y' hgood
   ·cases h
   ·simp at h
 refine hK Y v hx hval ?_ (DomOK.of_ρ rfl)
 exact hY0.reset hL hEnt fun k u M hk hu hc _=>(other k u M hk hu hc).2
end
end Go.Eng
