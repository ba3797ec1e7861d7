/- Calls: arguments lent, results brought back. -/
import Derived.Test.YtokjmkblnafppaaGreatDoorEngCompact
set_option linter.unusedVariables false
set_option linter.unusedSimpArgs false
namespace Go.bI
open Go Go.RowKit
def cF (P:Program) (call:Go.bI.Call):Prop:=
 ∀ f args mem aE nv r mem' pE JR,call f args mem aE nv=some (r,mem',pE,JR)→∀ (X:Cx) (bQ:Array Value),aB X mem aE→(∀ v,nv≤v→X.ρ v=none)→az (V1 X) args bQ.toList→
  (∃ fn,P.funcs[f]?=some fn∧fn.body.isSome=true∧(fn.name == "runtime.NumGoroutine")=false)∧
  Calls P f bQ X.w fun e w'=>∃ Y v,e=.returned v∧Y.w=w'∧Ext X Y∧VR Y r v∧aB Y mem' pE∧nv≤JR∧∀ u L,Y.ρ u=some L→X.ρ u=some L∨(nv≤u∧u<JR)
theorem DR.mono {w:World} {F G:Nat→Nat→Prop} (h:∀ b o,F b o→G b o) {x:D} {v:Value} (hd:DR w F x v):DR w G x v:=by
 induction hd with
 |sc v h1=>exact .sc v h1
 |er v h1=>exact .er v h1
 |sl els a n cap sz b o g hn hcap hsz ha hF hc _ ih=>exact .sl els a n cap sz b o g hn hcap hsz ha (fun i e j x h1 h2=>h _ _ (hF i e j x h1 h2)) hc ih
theorem eW.mono {w:World} {F G R S:Nat→Nat→Prop} (h:∀ b o,F b o→G b o) {els:List (List D)} {b o sz:Nat} (hrs:∀ q,(∃ v,w.cell? ⟨b,q,none⟩=some v)→R b q→S b q) (hl:eW w F R els b o sz):eW w G S els b o sz:=
 ⟨hl.1, fun i e j x h1 h2 => by
  obtain⟨hF,v,hv,hd⟩:=hl.2 i e j x h1 h2
  exact⟨hrs _ ⟨v,hv⟩ hF,v,hv,hd.mono h⟩⟩
theorem JS {w:World} {b o:Nat} (h:∃ v,w.cell? ⟨b,o,none⟩=some v):b<w.heap.size:=by
 obtain⟨v,hv⟩:=h
 exact World.block_lt_of_cell? w ⟨b,o,none⟩ hv
def Cx.inner (X:Cx):Cx:={ w:=X.w,F:=X.F,ρ:=fun _=>none,old:=fun b=>b<X.w.heap.size }
theorem Dy {X Y:Cx} {f:Nat} {v:Value} (h:VC X (.fV f []) v):VC Y (.fV f []) v:=by
 obtain⟨vs,rfl,h⟩:=h
 refine⟨vs,rfl,?_⟩
 cases hh:vs.toList with
 |nil=>trivial
 |cons a l=>rw[hh] at h;exact h.elim
section
variable {X:Cx} {m:List (Tr bH)} {t:Tr Unit}
theorem kQ (h:aB X m t) (ks:List (Nat×Nat)) {x y:AV} {v:Value} (hx:cv m x=some y) (hv:VC X x v):VC (X.j5 m ks).inner y v:=by
 have hex:=oA h ks
 have hsub:∀ b o,X.F b o→(X.j5 m ks).F b o:=fun _ _=>.inl
 have data:∀ {els a cap sz b o},v=.slice a els.length cap→els.length≤cap→(0<els.length→a=some ⟨b,o,none⟩)→eW X.w X.F X.F els b o sz→VC (X.j5 m ks).inner (.d (.sl els)) v:=by
  rintro els a cap sz b o rfl h2 h3 h4
  exact DR.fL (h4.ext hex) rfl h2 h3
 have HV:∀ {els a cap sz b o} {R:Nat→Nat→Prop},v=.slice a els.length cap→els.length≤cap→(0<els.length→a=some ⟨b,o,none⟩)→eW X.w X.F R els b o sz→VC (X.j5 m ks).inner (.own els .aJ) v:=by
  rintro els a cap sz b o R rfl h2 h3 h4
  exact⟨a,b,o,sz,cap,rfl,h2,h3,h4.mono hsub fun q hq _=>JS hq⟩
 cases x with
 |d x=>simp only[cv] at hx;injection hx with hx;subst hx;exact DR.ext hex hv
 | own els ow =>
  cases ow with
  |full=>
   simp only[cv] at hx;injection hx with hx;subst hx
   obtain⟨a,b,o,sz,h1,h2,h3⟩:=hv
   exact data h1 (Nat.le_refl _) h2 h3
  |cx af tz=>
   simp only[cv] at hx;injection hx with hx;subst hx
   obtain⟨a,b,o,sz,cap,h1,h2,h3,h4,_⟩:=hv
   exact data h1 h2 (fun h=>h3 (by omega)) h4
  |aJ=>
   simp only[cv] at hx;injection hx with hx;subst hx
   obtain⟨a,b,o,sz,cap,h1,h2,h3,h4⟩:=hv
   exact HV h1 h2 h3 h4
 | ref lv sl af off len sz =>
  simp only[cv] at hx
  cases he:dK m (.ref lv sl af off len sz) with
  |none=>rw[he] at hx;cases hx
  |some els=>
   rw[he] at hx
   simp only[Option.map_some] at hx
   injection hx with hx;subst hx
   obtain⟨a,cap,sz',b,o,h1,h2,h3,h4⟩:=pX h he (.fQ hv)
   exact HV h1 h2 h3 h4
 |fV f c=>
  cases c with
  |nil=>simp only[cv] at hx;injection hx with hx;subst hx;exact Dy hv
  |cons=>cases hx
 |_=>cases hx
theorem wD (h:aB X m t) {ks k:List (Nat×Nat)} {x y:AV} {v:Value} (hx:dM m x=some (y,k)) (hv:VC X x v) (hk:∀ p∈k,p∈ks):VC (X.j5 m ks).inner y v:=by
 have aea:∀ {x},(xM m x).map (fun p=>(AV.d p.1,p.2))=some (y,k)→VC X x v→VC (X.j5 m ks).inner y v:=by
  intro x hx hv
  cases hd:xM m x with
  |none=>rw[hd] at hx;cases hx
  |some p=>
   rw[hd] at hx
   simp only[Option.map_some] at hx
   injection hx with hx;injection hx with h1 h2;subst h1
   exact Nd h (ks:=ks) hd hv fun q hq=>hk q (by rw[←h2];exact hq)
 unfold dM at hx
 split at hx
 ·injection hx with hx; injection hx with h1 h2; subst h1
  exact kQ h ks rfl hv
 ·injection hx with hx; injection hx with h1 h2; subst h1
  exact kQ h ks rfl hv
 ·exact aea hx hv
theorem tX (h:aB X m t) {ks:List (Nat×Nat)} : ∀ {xs ys:List AV} {k:List (Nat×Nat)} {vs:List Value},dG m xs=some (ys,k)→az (VC X) xs vs→(∀ p∈k,p∈ks)→az (VC (X.j5 m ks).inner) ys vs
 |[],ys,k,[],hx,_,_=>by simp only[dG] at hx;injection hx with hx;injection hx with h1 h2;subst h1;trivial
 | x :: xs, ys, k, v :: vs, hx, hv, hk => by
  simp only[dG] at hx
  split at hx
  ·rename_i y k1 ys' k2 h1 h2
   injection hx with hx;injection hx with e1 e2;subst e1;subst e2
   exact⟨wD h h1 hv.1 fun p hp=>hk p (by simp[hp]),tX h h2 hv.2 fun p hp=>hk p (by simp[hp])⟩
  ·cases hx
 |[],_,_,_ :: _,_,hv,_=>hv.elim
 |_ :: _,_,_,[],_,hv,_=>hv.elim
theorem JT (h:aB X m t) {ks k:List (Nat×Nat)} {x y:AV} {v:Value} (hx:sr m x=some (y,k)) (hv:VR X x v) (hk:∀ p∈k,p∈ks):V1 (X.j5 m ks).inner y v:=by
 have one:∀ {x:AV},(cv m x).map (fun y=>(y,([]:List (Nat×Nat))))=some (y,k)→VC X x v→V1 (X.j5 m ks).inner y v:=by
  intro x hx hv
  cases hd:cv m x with
  |none=>rw[hd] at hx;cases hx
  |some y'=>
   rw[hd] at hx
   simp only[Option.map_some] at hx
   injection hx with hx;injection hx with h1 h2;subst h1
   exact .fQ (kQ h ks hd hv)
 cases x with
 | agg cs =>
  simp only[sr] at hx
  cases hd:dG m cs with
  |none=>rw[hd] at hx;cases hx
  |some p=>
   rw[hd] at hx
   simp only[Option.map_some] at hx
   injection hx with hx;injection hx with h1 h2;subst h1
   obtain⟨vs,rfl,h3⟩:=hv
   exact⟨vs,rfl,tX h (k:=p.2) hd h3 fun q hq=>hk q (by rw[←h2];exact hq)⟩
 |gZ cs=>simp[sr,cv] at hx
 |_=>simp only[sr] at hx;exact one hx hv
theorem Fa (h:aB X m t) {ks:List (Nat×Nat)} : ∀ {xs ys:List AV} {k:List (Nat×Nat)} {vs:List Value},lZ m xs=some (ys,k)→az (VR X) xs vs→(∀ p∈k,p∈ks)→az (V1 (X.j5 m ks).inner) ys vs
 |[],ys,k,[],hx,_,_=>by simp only[lZ] at hx;injection hx with hx;injection hx with h1 h2;subst h1;trivial
 | x :: xs, ys, k, v :: vs, hx, hv, hk => by
  simp only[lZ] at hx
  split at hx
  ·rename_i y k1 ys' k2 h1 h2
   injection hx with hx;injection hx with e1 e2;subst e1;subst e2
   exact⟨JT h h1 hv.1 fun p hp=>hk p (by simp[hp]),Fa h h2 hv.2 fun p hp=>hk p (by simp[hp])⟩
  ·cases hx
 |[],_,_,_ :: _,_,hv,_=>hv.elim
 |_ :: _,_,_,[],_,hv,_=>hv.elim
theorem Rh (h:aB X m t) {ks k:List (Nat×Nat)} {x y:AV} {v:Value} (hx:tD m x=some (y,k)) (hv:VR X x v) (hk:∀ p∈k,p∈ks):V1 (X.j5 m ks).inner y v:=by
 cases x with
 |agg cs=>exact JT h (x:=.agg cs) hx hv hk
 |gZ cs=>simp[tD,dM,xM] at hx
 |_=>simp only[tD] at hx;exact .fQ (wD h hx hv hk)
theorem Fb (h:aB X m t) {ks:List (Nat×Nat)} : ∀ {xs ys:List AV} {k:List (Nat×Nat)} {vs:List Value},nu m xs=some (ys,k)→az (VR X) xs vs→(∀ p∈k,p∈ks)→az (V1 (X.j5 m ks).inner) ys vs
 |[],ys,k,[],hx,_,_=>by simp only[nu] at hx;injection hx with hx;injection hx with h1 _;subst h1;trivial
 | x :: xs, ys, k, v :: vs, hx, hv, hk => by
  simp only[nu] at hx
  split at hx
  ·rename_i y k1 ys' k2 h1 h2
   injection hx with hx;injection hx with h3 h4;subst h3;subst h4
   exact⟨Rh h h1 hv.1 fun p hp=>hk p (List.mem_append.2 (.inl hp)),Fb h h2 hv.2 fun p hp=>hk p (List.mem_append.2 (.inr hp))⟩
  ·cases hx
 |[],_,_,_ :: _,_,hv,_=>hv.elim
 |_ :: _,_,_,[],_,hv,_=>hv.elim
theorem B7 (h:aB X m t) (ks:List (Nat×Nat)):∀ {xs ys:List AV} {vs:List Value},od m xs=some ys→az (VC X) xs vs→az (VC (X.j5 m ks).inner) ys vs
 |[],ys,[],hx,_=>by simp only[od] at hx;injection hx with hx;subst hx;trivial
 | x :: xs, ys, v :: vs, hx, hv => by
  simp only[od] at hx
  split at hx
  ·rename_i y ys' h1 h2
   injection hx with hx;subst hx
   exact⟨kQ h ks h1 hv.1,B7 h ks h2 hv.2⟩
  ·cases hx
 |[],_,_ :: _,_,hv=>hv.elim
 |_ :: _,_,[],_,hv=>hv.elim
theorem Nq (h:aB X m t) (ks:List (Nat×Nat)) {x y:AV} {v:Value} (hx:tE m x=some y) (hv:VR X x v):V1 (X.j5 m ks).inner y v:=by
 cases x with
 | agg cs =>
  simp only[tE] at hx
  cases h1:od m cs with
  |none=>rw[h1] at hx;cases hx
  |some z=>
   rw[h1] at hx
   simp only[Option.map_some] at hx
   injection hx with hx;subst hx
   obtain⟨vs,rfl,h3⟩:=hv
   exact⟨vs,rfl,B7 h ks h1 h3⟩
 |gZ cs=>simp[tE,cv] at hx
 |_=>simp only[tE] at hx;exact .fQ (kQ h ks hx hv)
theorem B8 (h:aB X m t) (ks:List (Nat×Nat)):∀ {xs ys:List AV} {vs:List Value},pU m xs=some ys→az (VR X) xs vs→az (V1 (X.j5 m ks).inner) ys vs
 |[],ys,[],hx,_=>by simp only[pU] at hx;injection hx with hx;subst hx;trivial
 | x :: xs, ys, v :: vs, hx, hv => by
  simp only[pU] at hx
  split at hx
  ·rename_i y ys' h1 h2
   injection hx with hx;subst hx
   exact⟨Nq h ks h1 hv.1,B8 h ks h2 hv.2⟩
  ·cases hx
 |[],_,_ :: _,_,hv=>hv.elim
 |_ :: _,_,[],_,hv=>hv.elim
theorem La (h:aB X m t):aB X.inner [.lf] .lf:=by
 refine⟨fun lv sl e he=>?_,fun v hv=>by simp at hv,fun k k' v v' L L' _ _ _ hv _ _ _=>?_,h.mI,fun _ h=>h,fun b hb=>h.low b (h.oq.gb b hb),h.oq.gk⟩
 ·exfalso
  unfold aN at he
  cases lv with
  |zero=>simp at he
  |succ lv=>simp at he
 ·cases hv
end
structure Nr (Z:Cx) (top:Nat) (cm:List (Tr bH)) (els:List (List D)) (len sz:Nat) (v:Value):Prop where
 row:∃ L off a cap,v=.slice a len cap∧len≤cap∧els.length=len∧(∀ e∈els,e.length=sz)∧(0<cap→(∃ cl cX e,top≤cl∧(aN cm cl cX=some e∧e.fz=false)∧Z.ρ e.af=some L)∧a=some ⟨L.b,L.o+off*sz,none⟩∧off+cap≤L.cap∧L.sz=sz∧0<L.cap∧
  Block Z L.b (L.o+L.cap*L.sz)∧(∀ o,¬Z.F L.b o)∧∀ i e j x,els[i]?=some e→e[j]?=some x→∃ u,Z.w.cell? ⟨L.b,L.o+off*sz+i*sz+j,none⟩=some u∧DR Z.w Z.F x u)
section
variable {Z Y:Cx} {cm:List (Tr bH)} {ts:Tr Unit}
theorem zx (h : aB Z cm ts) {top pk k lv sl af : Nat} (hw : Y.w = Z.w) (hF : ∀ b o, Z.F b o → Y.F b o) (hρ : 0 < top → ∀ v L, Z.ρ v = some L → Y.ρ v = some L)
  (hfz:pk=0→∀ cl cX e L,top≤cl→aN cm cl cX=some e→e.fz=false→Z.ρ e.af=some L→0<L.cap→∀ o,Y.F L.b o) {x y:AV} {us:List (List (List D))} {v:Value} (hx:bu cm top pk k lv sl af x=some (y,us)) (hv:VC Z x v) :
  (us=[]∧VC Y y v)∨∃ els len sz,us=[els]∧y=.ref lv sl af 0 len sz∧pk≠0∧Nr Z top cm els len sz v:=by
 have data:∀ {els a cap sz b o},v=.slice a els.length cap→els.length≤cap→(0<els.length→a=some ⟨b,o,none⟩)→eW Z.w Z.F Z.F els b o sz→VC Y (.d (.sl els)) v:=by
  rintro els a cap sz b o rfl h2 h3 h4
  refine DR.fL (b:=b) (o:=o) (sz:=sz) ?_ rfl h2 h3
  rw[hw]
  exact h4.mono hF fun q _ hq=>hF _ _ hq
 cases x with
 |d x=>
  simp only[bu] at hx;injection hx with hx;injection hx with h1 h2;subst h1
  refine .inl ⟨h2.symm,?_⟩
  show DR Y.w Y.F x v
  rw[hw]
  exact DR.mono hF hv
 | own els ow =>
  cases ow with
  | full =>
   simp only[bu] at hx
   obtain⟨a,b,o,sz,g1,g2,g3⟩:=hv
   split at hx
   ·rename_i hq
    injection hx with hx;injection hx with h1 h2;subst h1
    have hpk:pk≠0:=by
     intro e
     subst e
     simp at hq
    exact .inr ⟨[],0,pk / 65536,h2.symm,rfl,hpk,⟨⟨0,0,0,0⟩,0,a,0,g1,Nat.le_refl _,rfl,fun _ h=>(by cases h),fun h=>absurd h (by omega)⟩⟩
   ·split at hx
    ·injection hx with hx; injection hx with h1 h2; subst h1
     refine .inl ⟨h2.symm,a,b,o,sz,g1,g2,?_⟩
     rw[hw]
     exact g3.mono hF fun q _ hq=>hF _ _ hq
    ·injection hx with hx; injection hx with h1 h2; subst h1
     exact .inl ⟨h2.symm,data g1 (Nat.le_refl _) g2 g3⟩
  | cx af tz =>
   simp only[bu] at hx
   obtain⟨a,b,o,sz,cap,g1,g2,g3,g4,g5,g6⟩:=hv
   split at hx
   ·rename_i hk
    injection hx with hx;injection hx with h1 h2;subst h1
    have ht:0<top:=by
     have:=(Bool.and_eq_true_iff.1 hk).2
     rcases Nat.eq_zero_or_pos top with e|e
     ·rw[e] at this;cases this
     ·exact e
    refine .inl ⟨h2.symm,a,b,o,sz,cap,g1,g2,g3,?_,hρ ht _ _ g5,g6⟩
    rw[hw]
    exact g4.mono hF fun q _ hq=>hF _ _ hq
   ·injection hx with hx; injection hx with h1 h2; subst h1
    exact .inl ⟨h2.symm,data g1 g2 (fun h=>g3 (by omega)) g4⟩
  |aJ=>cases hx
 | ref cl cX eZ off len sz =>
  simp only[bu] at hx
  cases hb:Nat.ble top cl with
  | false =>
   rw[hb] at hx
   injection hx with hx;injection hx with h1 h2;subst h1
   have ht:0<top:=by
    have:¬top≤cl:=fun hle=>by rw[Nat.ble_eq_true_of_le hle] at hb;cases hb
    omega
   obtain⟨L,a,cap,g1,g2⟩:=hv
   exact .inl ⟨h2.symm,L,a,cap,hρ ht _ _ g1,g2⟩
  | true =>
   rw[hb] at hx
   have hle:top≤cl:=Nat.le_of_ble_eq_true hb
   cases he:dK cm (.ref cl cX eZ off len sz) with
   |none=>rw[he] at hx;cases hx
   | some els =>
    rw[he] at hx
    simp only at hx
    obtain⟨L',a,cap,hL',g1,rfl,g3,g4⟩:=hv
    simp only[dK] at he
    cases hr:nj cm cl cX eZ with
    |none=>rw[hr] at he;cases he
    | some els' =>
     rw[hr] at he
     simp only[Option.bind_some] at he
     split at he
     ·rename_i hoff
      injection he with he;subst he
      obtain⟨L,hL,hE1,hE⟩:=zg h hr
      rw[hL] at hL';injection hL' with hL';subst hL'
      have hlen:((els'.drop off).take len).length=len:=by simp;omega
      have hsz:∀ e∈(els'.drop off).take len,e.length=sz:=fun f hf=>by rw[hE.1 f (List.mem_of_mem_drop (List.mem_of_mem_take hf)),g1]
      split at hx
      ·rename_i hpk
       injection hx with hx;injection hx with h1 h2;subst h1
       refine .inl ⟨h2.symm,?_⟩
       have hpk:=beq_true.1 hpk
       have hl:=(hE.region (S:=Y.F) fun b o hq=>hq.elim (hF b o) fun hq=>by
        obtain⟨e,M,q1,q2,q3,rfl,q5⟩:=jN hq
        exact hfz hpk cl cX e M hle q1 q5 q2 q3 o).sub off len
       refine DR.fL (b:=L.b) (o:=L.o+off*L.sz) (sz:=L.sz) ?_ hlen g3 fun h0=>by rw[(g4 (by omega)).1,g1]
       rw[hw]
       exact hl.mono hF fun q _ hq=>hq
      ·rename_i hpk
       have hpk:=beq_false.1 hpk
       split at hx
       ·split at hx
        ·rename_i vo hr2
         injection hx with hx;injection hx with h1 h2;subst h1
         obtain⟨L2,Ns,hE2,hg⟩:=kP h hr2
         have zh:vo=els':=by
          have hr':=hr
          unfold nj at hr'
          rw[hg] at hr'
          simp only[show Nat.beq eZ eZ=true from beq_true.2 rfl] at hr'
          injection hr'
         subst zh
         rw[hL] at Ns;injection Ns with Ns;subst Ns
         refine .inr ⟨_,len,sz,h2.symm,rfl,hpk,⟨L,off,a,cap,rfl,g3,hlen,hsz,fun hc=>?_⟩⟩
         obtain⟨k1,k2⟩:=g4 hc
         have hc0:0<L.cap:=by omega
         refine⟨⟨cl,cX,_,hle,⟨hg,rfl⟩,hL⟩,k1,k2,g1,hc0,(hE2.2.2.1 hc0).1,(hE2.2.2.1 hc0).2,fun i e j x hi hj=>?_⟩
         obtain⟨u,hu,hd⟩:=hE2.2.2.2 (off+i) e j x (cI hi).1 hj
         rw[g1,Nat.add_mul,←Nat.add_assoc] at hu
         exact⟨u,hu,hd⟩
        ·cases hx
       ·split at hx
        ·cases hx
        ·rename_i hr2
         injection hx with hx;injection hx with h1 h2;subst h1
         refine .inl ⟨h2.symm,?_⟩
         have hl:=(hE.region (S:=Y.F) fun b o hq=>hq.elim (hF b o) fun hq=>by
          exfalso
          obtain⟨e,M,q1,q2,q3,rfl,q5⟩:=jN hq
          have q1:aN cm cl cX=some e:=q1
          unfold nj at hr
          unfold rowAt at hr2
          rw[q1] at hr hr2
          cases e with
          |row v els=>simp only at hr hr2;rw[hr] at hr2;cases hr2
          |box v cs=>cases hr
          |mp v ks=>cases hr
          |KT v els=>cases q5).sub off len
         refine DR.fL (b:=L.b) (o:=L.o+off*L.sz) (sz:=L.sz) ?_ hlen g3 fun h0=>by rw[(g4 (by omega)).1,g1]
         rw[hw]
         exact hl.mono hF fun q _ hq=>hq
     ·cases he
 |fV f c=>
  cases c with
  |nil=>simp only[bu] at hx;injection hx with hx;injection hx with h1 h2;subst h1;exact .inl ⟨h2.symm,Dy hv⟩
  |cons=>cases hx
 |_=>cases hx
end
end Go.bI
