/- A part of the proof: EngE, EngF. -/
import Derived.Test.YtjejefeomeddhaaGreatEngD
import Derived.Laws.Cells
import Derived.Laws.Tables
set_option linter.unusedVariables false
set_option linter.unusedSimpArgs false
variable [Go.Eng.Rho]
set_option linter.unusedSectionVars false
namespace Go.Eng
open Go Go.RowKit
theorem cells_of {w:World} {α : Type} {R : α→Value→Prop} {b o:Nat} : ∀ (cs:List α),(∀ (j:Nat) (x : α),cs[j]?=some x→∃ v,w.cell? ⟨b,o+j,none⟩=some v∧R x v)→
  ∃ vs:List Value,(∀ j u,vs[j]?=some u→w.cell? ⟨b,o+j,none⟩=some u)∧All2 R cs vs:=by
 intro cs
 induction cs generalizing o with
 |nil=>exact fun _=>⟨[],by simp,trivial⟩
 | cons c cs ih =>
  intro h
  obtain⟨v,hv,hr⟩:=h 0 c rfl
  obtain⟨vs,h1,h2⟩:=ih (o:=o+1) fun j x hj=>by
   obtain⟨u,hu,hr⟩:=h (j+1) x (by simpa using hj)
   exact⟨u,by rw[←hu];congr 2;omega,hr⟩
  refine⟨v :: vs,fun j u hj=>?_,hr,h2⟩<;>grind
theorem getElem?_drop_take {α : Type} {l:List α} {k n j:Nat} {x : α} (h:((l.drop k).take n)[j]?=some x):l[k+j]?=some x∧j<n:=by
 grind
theorem cells_d {X:Cx} {b o off sz:Nat} {e:List D} (h:∀ (j:Nat) (x:D),e[j]?=some x→∃ u,X.w.cell? ⟨b,o+j,none⟩=some u∧DR X.w X.F x u) :
  ∃ vs:List Value,(∀ j u,vs[j]?=some u→X.w.cell? ⟨b,(o+off)+j,none⟩=some u)∧All2 (VC X) (((e.drop off).take sz).map .d) vs:=by
 refine cells_of _ fun j x hj=>?_
 rw[List.getElem?_map] at hj
 cases hq:((e.drop off).take sz)[j]? with
 |none=>grind
 |some y=>
  rw[hq] at hj
  cases hj
  obtain⟨u,hu,hd⟩:=h _ _ (getElem?_drop_take hq).1
  exact⟨u,by rw[←hu,Nat.add_assoc],hd⟩
theorem loadA_ok {X:Cx} {m:List (Tr Ent)} {t:Tr Unit} (hm:MemOK X m t) {p:AV} {v:Value} {sz:Nat} {cs:List AV} (hv:VR X p v) (h:loadA m sz p=some cs) :
  ∃ b o vs,v=.pointer (some ⟨b,o,none⟩)∧(∀ j u,vs[j]?=some u→X.w.cell? ⟨b,o+j,none⟩=some u)∧All2 (VC X) cs vs∧cs.length=sz:=by
 unfold loadA at h
 split at h
 ·rename_i lv sl ver i off
  obtain⟨L,hL,rfl⟩:=hv
  split at h
  ·rename_i v' cells hg
   split at h
   ·rename_i hv' hi
    split at h
    ·have hv' := beq_true.1 hv'
     have hi:=beq_true.1 hi
     subst hv';obtain⟨L',hL',hE⟩:=hm.ents _ _ _ hg
     have:X.ρ v'=some L':=hL'
     rw[hL] at this
     cases this
     obtain⟨h1,h2,h3,h4⟩:=hE
     obtain⟨vs,g1,g2⟩:=cells_of (w:=X.w) (R:=VC X) (b:=L.b) (o:=L.o+off) ((cells.drop off).take sz) fun j x hj=>by
      obtain⟨u,hu,hr⟩:=h4 _ _ (getElem?_drop_take hj).1
      exact⟨u,by rw[←hu,Nat.add_assoc],hr⟩
     grind
    grind
   grind
  ·rename_i v' els hg
   split at h
   ·rename_i hv'
    split at h
    ·rename_i e he
     split at h
     ·have hv' := beq_true.1 hv'
      subst hv'
      obtain⟨L',hL',hE⟩:=hm.ents _ _ _ hg
      have:X.ρ v'=some L':=hL'
      rw[hL] at this
      cases this
      obtain⟨h1,h2,h3,h4⟩:=hE
      obtain⟨vs,g1,g2⟩:=cells_d (X:=X) (b:=L.b) (o:=L.o+i*L.sz) (off:=off) (sz:=sz) (e:=e) fun j x hj=>h4 i e j x he hj<;>grind
     grind
    grind
   grind
  ·rename_i v' els hg
   split at h
   ·rename_i hv'
    split at h
    ·rename_i e he
     split at h
     ·have hv' := beq_true.1 hv'
      subst hv'
      obtain⟨L',hL',hE⟩:=hm.ents _ _ _ hg
      have:X.ρ v'=some L':=hL'
      rw[hL] at this
      cases this
      obtain⟨vs,g1,g2⟩:=cells_d (X:=X) (b:=L.b) (o:=L.o+i*L.sz) (off:=off) (sz:=sz) (e:=e) fun j x hj=>(hE.2.2 i e j x he hj).2<;>grind
     grind
    grind
   grind
  ·cases h
  grind
 ·rename_i e off
  split at h
  ·obtain ⟨b, o, rfl, h4⟩ := hv
   obtain⟨vs,g1,g2⟩:=cells_d (X:=X) (b:=b) (o:=o) (off:=off) (sz:=sz) (e:=e) fun j x hj=>(h4 j x hj).2<;>grind
  grind
 grind
section
variable {P:Program}
theorem sizeP_run {t:TypeId} {sz:Nat} (h:sizeP P t=some sz):∃ i,P.info? t=some i∧i.size=sz:=by
 simp_all[sizeP]
theorem isAggP_run {t:TypeId} {b:Bool} (h:isAggP P t=some b) (w:World):(isAgg t).run P w=.ok b w:=by
 unfold isAggP at h
 split at h
 ·rename_i hu;cases h;simp[isAgg,run_underlying hu]
 ·rename_i hu;cases h;simp[isAgg,run_underlying hu]
 ·rename_i d h1 h2 hu
  simp only[isAgg,Sem.run_bind,run_underlying hu,Result.andThen_ok]<;>simp_all
 grind
theorem loadVar_ok {X:Cx} {t:TypeId} {sz:Nat} {agg:Bool} {b o:Nat} {cs:List AV} {vs:List Value} {r:AV} (hsz:sizeP P t=some sz) (hag:isAggP P t=some agg) (h1:agg=true∨sz=1)
  (hc:∀ j u,vs[j]?=some u→X.w.cell? ⟨b,o+j,none⟩=some u) (h2:All2 (VC X) cs vs) (hl:cs.length=sz) (hr:wrapAgg agg cs=some r) :
  ∃ v,(loadVar t ⟨b,o,none⟩).run P X.w=.ok v X.w∧V1 X r v:=by
 obtain⟨i,hi,hs⟩:=sizeP_run hsz
 have hag:=isAggP_run hag X.w
 have hc':∀ j u,vs[j]?=some u→X.w.cell? ((⟨b,o,none⟩:Addr).add j)=some u:=fun j u h=>by rw[Addr.add_lit];exact hc j u h
 cases agg with
 |true=>
  have hl':vs.length=sz:=by rw[←h2.length,hl]
  have:=run_loadCells_list (P:=P) X.w ⟨b,o,none⟩ vs hc'
  rw[hl'] at this
  cases hr
  exact⟨.agg vs.toArray,by simp[loadVar,hag,sizeOf,typeInfo,hi,hs,this],vs.toArray,rfl,by simpa using h2⟩
 | false =>
  simp[wrapAgg] at hr
  split at hr
  ·simp_all
   match vs,h2 with
   |[u],h2=>
    have:=hc 0 u rfl
    simp at this
    exact⟨u,by simp[loadVar,hag,this],.of_VC h2.1⟩
   |[],h2=>exact h2.elim
   |_ :: _ :: _,h2=>exact h2.2.elim
  grind
theorem sureAddr_run (a:Addr) (w:World):(Instr.sureAddr (.pointer (some a))).run P w=.ok a w:=rfl
def Quiet (P:Program) (X:Cx) (o:Oper) (a:Act) (val:AV):Prop:=∃ v,(execOp a.eval o).run P X.w=.ok (.value v) X.w∧VR X val v
variable {X:Cx} {nt:NT} {s:St} {a:Act}
theorem load_ok (hs:Sim X nt s a) {o:Oper} {t:TypeId} {x:Operand} {y:Opd} {sz:Nat} {agg:Bool} {cs:List AV} {r:AV} (ho:o.op=.load t x) (hsz:sizeP P t=some sz) (hag:isAggP P t=some agg) (h1:agg=true∨sz=1)
  (hx:opd x=some y) (hl:loadA s.mem sz (y.ev s.slots)=some cs) (hr:wrapAgg agg cs=some r):Quiet P X o a r:=by
 obtain⟨b,off,vs,hv,hc,h2,hlen⟩:=loadA_ok hs.mem (opd_ok hs hx) hl
 obtain⟨v,hrun,hV⟩:=loadVar_ok (P:=P) hsz hag h1 hc h2 hlen hr
 exact⟨v,by simp[execOp,ho,Instr.loadAt,hv,sureAddr_run,hrun],.of_V1 hV⟩
theorem pick_ok (hs:Sim X nt s a) {o:Oper} {c x y:Operand} {c' x' y':Opd} {b:Bool} (ho:o.op=.pick c x y) (hc:opd c=some c') (hx:opd x=some x') (hy:opd y=some y')
  (hb:boolOfA (c'.ev s.slots)=some b):Quiet P X o a (if b then x'.ev s.slots else y'.ev s.slots):=by
 have:=boolOfA_ok hb (opd_ok hs hc)
 refine⟨if b then a.eval x else a.eval y,by simp[execOp,ho,this,asBool],?_⟩
 cases b
 ·exact opd_ok hs hy
 ·exact opd_ok hs hx
theorem bin_ok (hs:Sim X nt s a) {o:Oper} {op:BinOp} {t u:TypeId} {x y:Operand} {x' y':Opd} {r:Value} (ho:o.op=.binOp op t x y u) (hx:opd x=some x') (hy:opd y=some y')
  (h:binA op (x'.ev s.slots) (y'.ev s.slots)=some r):Quiet P X o a (scA r):=by
 obtain⟨h1,h2,h3⟩:=binA_ok (P:=P) t (opd_ok hs hx) (opd_ok hs hy) h
 refine⟨r,?_,.scA h2⟩
 have hg:(eqGuard op t x y (a.eval x) (a.eval y)).run P X.w=.ok () X.w:=by
  rcases h3 with⟨k,m,h3⟩|⟨m,h3⟩<;>rw[h3]<;>exact eqGuard_plain (by simp) (by simp)
 simp[execOp,ho,hg,h1]
theorem binV_ok (hs:Sim X nt s a) {o:Oper} {op:BinOp} {t u:TypeId} {x y:Operand} {x' y':Opd} {r:AV} (ho:o.op=.binOp op t x y u) (hx:opd x=some x') (hy:opd y=some y')
  (h:binV op (x'.ev s.slots) (y'.ev s.slots)=some r):Quiet P X o a r:=by
 unfold binV at h
 split at h
 ·rename_i v hv
  cases h
  exact bin_ok hs ho hx hy hv
 obtain⟨z,h1,h2,h3⟩:=binR_ok (P:=P) t (opd_ok hs hx) (opd_ok hs hy) h
 refine⟨z,?_,h2⟩
 have hg:(eqGuard op t x y (a.eval x) (a.eval y)).run P X.w=.ok () X.w:=by
  rcases h3 with⟨k,m,h3⟩|⟨m,h3⟩<;>rw[h3]<;>exact eqGuard_plain (by simp) (by simp)
 simp[execOp,ho,hg,h1]
theorem eqb_ok (hs:Sim X nt s a) {o:Oper} {neg:Bool} {t u:TypeId} {x y:Operand} {x' y':Opd} {p q:Bool} (ho:o.op=.binOp (if neg then .neq else .eql) t x y u) (ht:P.underlying t=some .bool) (hx:opd x=some x') (hy:opd y=some y')
  (hp:boolOfA (x'.ev s.slots)=some p) (hq:boolOfA (y'.ev s.slots)=some q):Quiet P X o a (scA (.bool (if neg then !(p==q) else p==q))):=by
 have h1:=boolOfA_ok hp (opd_ok hs hx)
 have h2:=boolOfA_ok hq (opd_ok hs hy)
 refine⟨.bool (if neg then !(p==q) else p==q),?_,.scA rfl⟩
 have hg:∀ op,(eqGuard op t x y (.bool p) (.bool q)).run P X.w=.ok () X.w:=fun op=>eqGuard_plain (by simp) (by simp)
 have he':∀ d,(Op.equalIn (d+1) t (.bool p) (.bool q)).run P X.w=.ok (p==q) X.w:=fun d=>by simp[Op.equalIn,run_underlying ht]
 have he:(Op.equal t (.bool p) (.bool q)).run P X.w=.ok (p==q) X.w:=he' 9999
 cases neg<;>simp[execOp,ho,h1,h2,hg,binOp,he]
theorem opd_nil {y:Operand} (h:opd y=some (.c (.d (.sc .nilIface)))):y=.const .nilIface:=by
 cases y with
 |tmp t=>simp[opd] at h
 |func f=>simp[opd] at h
 |global g=>simp[opd] at h
 | const v =>
  simp[opd] at h
  cases hc:constA v with
  |none=>grind
  | some z =>
   rw[hc] at h
   cases h
   have key:∀ {u:Value},constCell u=some (.d (.sc .nilIface))→u=.nilIface:=by
    intro u hu
    unfold constCell at hu
    split at hu
    ·simp at hu
    ·cases hu
    ·cases hu
    ·cases hu
    ·rename_i fn first cap
     cases fn with
     |func f=>
      by_cases hz:first.size=0∧cap.size=0
      ·simp at hu
      ·simp at hu
     |_=>cases hu
    ·simp at hu;exact hu
   unfold constA at hc
   split at hc
   ·obtain ⟨_, _, h⟩ := Option.map_eq_some_iff.1 hc
    simp at h
   ·split at hc
    ·simp at hc
    ·cases hc
   ·rw[key hc]
theorem isErr_ok (hs:Sim X nt s a) {o:Oper} {neg:Bool} {t u:TypeId} {ms:Array (String×TypeId)} {x y:Operand} {x':Opd} (ho:o.op=.binOp (if neg then .neq else .eql) t x y u) (ht:P.underlying t=some (.interface ms)) (hx:opd x=some x') (hy:opd y=some (.c (.d (.sc .nilIface)))) :
  (x'.ev s.slots=.d .er→Quiet P X o a (scA (.bool neg)))∧(x'.ev s.slots=.d (.sc .nilIface)→Quiet P X o a (scA (.bool !neg))):=by
 have hyc:=opd_nil hy
 subst hyc
 have he0:a.eval (.const .nilIface)=.nilIface:=rfl
 constructor
 ·intro hq
  have hv:=opd_ok hs hx
  rw[hq] at hv
  have h0:∃ tt p,a.eval x=.iface tt p:=by
   revert hv
   intro hv
   cases hv with
   |er v h1=>exact h1
  obtain⟨tt,p,h1⟩:=h0
  refine⟨.bool neg,?_,.scA rfl⟩
  have hg:∀ op,(eqGuard op t x (.const .nilIface) (.iface tt p) .nilIface).run P X.w=.ok () X.w:=fun op=>eqGuard_plain (by simp) (by simp)
  have he':∀ d,(Op.equalIn (d+1) t (.iface tt p) .nilIface).run P X.w=.ok false X.w:=fun d=>by simp[Op.equalIn,run_underlying ht]
  have he:(Op.equal t (.iface tt p) .nilIface).run P X.w=.ok false X.w:=he' 9999
  cases neg<;>simp[execOp,ho,h1,he0,hg,binOp,he]
 ·intro hq
  have hv:=opd_ok hs hx
  rw[hq] at hv
  have h1:a.eval x=.nilIface:=by
   revert hv
   generalize a.eval x=u
   intro hv
   cases hv with
   |sc v h1=>rfl
  refine⟨.bool !neg,?_,.scA rfl⟩
  have hg:∀ op,(eqGuard op t x (.const .nilIface) .nilIface .nilIface).run P X.w=.ok () X.w:=fun op=>by cases op<;>simp[eqGuard]
  have he':∀ d,(Op.equalIn (d+1) t .nilIface .nilIface).run P X.w=.ok true X.w:=fun d=>by simp[Op.equalIn,run_underlying ht]
  have he:(Op.equal t .nilIface .nilIface).run P X.w=.ok true X.w:=he' 9999
  cases neg<;>simp[execOp,ho,h1,he0,hg,binOp,he]
theorem eqAop_ok (hs:Sim X nt s a) {o:Oper} {neg:Bool} {t u:TypeId} {fs:Array Field} {l:List (Nat×Nat)} {sz:Nat} {x y:Operand} {x' y':Opd} {xs ys:List AV} {b:Bool} (ho:o.op=.binOp (if neg then .neq else .eql) t x y u)
  (ht:P.underlying t=some (.struct fs)) (hg:P.eqGuardType P.depth t=false) (hc:eqCells P 20 t 0=some l) (hsz:sizeP P t=some sz) (hx:opd x=some x') (hy:opd y=some y')
  (h1:x'.ev s.slots=.agg xs) (h2:y'.ev s.slots=.agg ys) (h3:xs.length=sz) (h4:ys.length=sz) (hb:eqAll xs ys l=some b):Quiet P X o a (scA (.bool (if neg then !b else b))):=by
 have g1:=opd_ok hs hx
 have g2:=opd_ok hs hy
 rw[h1] at g1;rw[h2] at g2
 have s1:∃ us,a.eval x=.agg us∧us.size=sz:=by obtain⟨us,e,hh⟩:=g1;exact⟨us,e,by rw[←h3,hh.length,Array.length_toList]⟩
 have s2:∃ us,a.eval y=.agg us∧us.size=sz:=by obtain⟨us,e,hh⟩:=g2;exact⟨us,e,by rw[←h4,hh.length,Array.length_toList]⟩
 obtain⟨us,vs,e1,e2,he1,he2⟩:=eqA_ok (P:=P) hc hg ⟨fs,ht⟩ g1 g2 hb x y
 obtain⟨us',e1',s1⟩:=s1
 obtain⟨vs',e2',s2⟩:=s2
 rw[e1] at e1';rw[e2] at e2'
 injection e1' with e1';injection e2' with e2'
 subst e1';subst e2'
 have he:=he2 (by rw[hsz];exact s1) (by rw[hsz];exact s2)
 refine⟨.bool (if neg then !b else b),?_,.scA rfl⟩
 rw[e1,e2] at he1 he
 cases neg<;>simp[execOp,ho,e1,e2,he1,binOp,he]
theorem un_ok (hs:Sim X nt s a) {o:Oper} {op:UnOp} {t:TypeId} {x:Operand} {x':Opd} {r:Value} (ho:o.op=.unOp op t x) (hx:opd x=some x') (h:unA op (x'.ev s.slots)=some r):Quiet P X o a (scA r):=by
 have hv:=opd_ok hs hx
 unfold unA at h
 split at h
 ·rename_i hq
  rw[hq] at hv
  have hv:=hv.sc
  cases op<;>simp only at h<;>first
   |(cases h;done)
   |(cases h;exact⟨_,by simp[execOp,ho,hv,Op.unary],.scA rfl⟩)
 ·rename_i hq
  rw[hq] at hv
  have hv:=hv.sc
  cases op<;>simp only[bitsI,Option.map_some] at h<;>first
   |(cases h;done)
   |(injection h with h;subst h;exact⟨_,by simp[execOp,ho,hv,Op.unary,Op.intArith,Op.intBits],.scA rfl⟩)
 grind
theorem conv_ok (hs:Sim X nt s a) {o:Oper} {src dst:TypeId} {k:IntKind} {x:Operand} {x':Opd} {n:Int} (ho:o.op=.convert src dst x) (ht:P.underlying dst=some (.int k)) (hsrc:(P.underlying src).isSome=true)
  (hx:opd x=some x') (h:intOfA (x'.ev s.slots)=some n):Quiet P X o a (scA (.int k (k.wrap n))):=by
 obtain⟨k',hv⟩:=intOfA_ok h (opd_ok hs hx)
 obtain⟨d,hd⟩:=Option.isSome_iff_exists.1 hsrc
 refine⟨.int k (k.wrap n),?_,.scA rfl⟩
 simp[execOp,ho,hv,convert,run_underlying ht,run_underlying hd,Conv.intToInt]
theorem convV_ok (hs:Sim X nt s a) {o:Oper} {src dst:TypeId} {k:IntKind} {x:Operand} {x':Opd} {r:AV} (ho:o.op=.convert src dst x) (ht:P.underlying dst=some (.int k)) (hsrc:(P.underlying src).isSome=true)
  (hx:opd x=some x') (h:convV k (x'.ev s.slots)=some r):Quiet P X o a r:=by
 unfold convV at h
 split at h
 ·rename_i n hn
  cases h
  exact conv_ok hs ho ht hsrc hx hn
 split at h
 ·rename_i k' e he
  obtain⟨g,hg,rfl⟩:=Option.map_eq_some_iff.1 h
  have hv:=opd_ok hs hx
  rw[he] at hv
  have hv:=hv.rg
  obtain⟨d,hd⟩:=Option.isSome_iff_exists.1 hsrc
  refine⟨.int k (k.wrap (k'.wrap e.den)),?_,?_⟩
  ·simp[execOp,ho,hv,convert,run_underlying ht,run_underlying hd,Conv.intToInt]
  ·rw [exW_ok hg]
   exact DR.rg k g
 ·cases h
theorem extract_ok (hs:Sim X nt s a) {o:Oper} {x:Operand} {x':Opd} {i:Nat} {vs:List AV} {r:AV} (ho:o.op=.extract x i) (hx:opd x=some x') (h:x'.ev s.slots=.tup vs) (hr:vs[i]?=some r):Quiet P X o a r:=by
 have hv:=opd_ok hs hx
 rw[h] at hv
 obtain⟨us,e,h2⟩:=hv
 obtain⟨u,hu,h3⟩:=h2.get _ _ hr
 refine⟨u,?_,.of_V1 h3⟩
 have:us[i]?=some u:=by grind
 simp[execOp,ho,e,Instr.extract,this]
theorem part_ok {t:TypeId} {off sz:Nat} {agg:Bool} {cs:List AV} {us:Array Value} {r:AV} (hsz:sizeP P t=some sz) (hag:isAggP P t=some agg) (h1:agg=true∨sz=1) (hc:All2 (VC X) cs us.toList) (hle:off+sz≤cs.length)
  (hr:wrapAgg agg ((cs.drop off).take sz)=some r):∃ v,(part t us off).run P X.w=.ok v X.w∧V1 X r v:=by
 obtain⟨i,hi,hs⟩:=sizeP_run hsz
 have hag:=isAggP_run hag X.w
 cases agg with
 |true=>
  cases hr
  refine⟨.agg (us.extract off (off+sz)),by simp[part,hag,sizeOf,typeInfo,hi,hs],us.extract off (off+sz),rfl,?_⟩
  have:=(hc.drop off).take sz<;>simp_all
 | false =>
  have hsz:sz=1:=h1.resolve_left (by simp)
  subst hsz
  simp[wrapAgg] at hr
  split at hr
  ·rename_i v hv
   simp_all;subst hr
   have:cs[off]?=some v:=by
    have:((cs.drop off).take 1)[0]?=some v:=by grind
    grind
   obtain⟨u,hu,h3⟩:=hc.get _ _ this
   refine⟨u,?_,.of_VC h3⟩
   have:us[off]?=some u:=by grind
   simp[part,hag,this]
  grind
theorem field_ok (hs:Sim X nt s a) {o:Oper} {t:TypeId} {fs:Array Field} {f:Field} {j sz:Nat} {agg:Bool} {x:Operand} {x':Opd} {cs:List AV} {r:AV} (ho:o.op=.field t x j) (ht:P.underlying t=some (.struct fs)) (hf:fs[j]?=some f)
  (hsz:sizeP P f.type=some sz) (hag:isAggP P f.type=some agg) (h1:agg=true∨sz=1) (hx:opd x=some x') (h:x'.ev s.slots=.agg cs) (hle:f.offset+sz≤cs.length) (hr:wrapAgg agg ((cs.drop f.offset).take sz)=some r):Quiet P X o a r:=by
 have hv:=opd_ok hs hx
 rw[h] at hv
 obtain⟨us,e,h2⟩:=hv
 obtain⟨v,hrun,hV⟩:=part_ok (P:=P) hsz hag h1 h2 hle hr
 refine⟨v,?_,.of_V1 hV⟩
 simp[execOp,ho,e,Instr.field,run_underlying ht,hf,asAgg,hrun]
theorem indexA_ok (hs:Sim X nt s a) {o:Oper} {t e:TypeId} {n k sz:Nat} {agg:Bool} {x i:Operand} {x' i':Opd} {cs:List AV} {r:AV} (ho:o.op=.index t x i) (ht:P.underlying t=some (.array n e))
  (hsz:sizeP P e=some sz) (hag:isAggP P e=some agg) (h1:agg=true∨sz=1) (hx:opd x=some x') (hi:opd i=some i') (h:x'.ev s.slots=.agg cs) (hk:natOfA (i'.ev s.slots)=some k) (hkn:k<n) (hle:k*sz+sz≤cs.length)
  (hr:wrapAgg agg ((cs.drop (k*sz)).take sz)=some r):Quiet P X o a r:=by
 have hv:=opd_ok hs hx
 rw[h] at hv
 obtain⟨us,he,h2⟩:=hv
 obtain⟨kd,hik⟩:=natOfA_ok hk (opd_ok hs hi)
 obtain⟨v,hrun,hV⟩:=part_ok (P:=P) hsz hag h1 h2 hle hr
 obtain⟨j,hj,hjs⟩:=sizeP_run hsz
 refine⟨v,?_,.of_V1 hV⟩
 simp[execOp,ho,he,hik,Instr.index,asIntOf,run_underlying ht,sizeOf,typeInfo,hj,hjs,hkn,hrun]
theorem indexS_ok (hs:Sim X nt s a) {o:Oper} {t:TypeId} {k:Nat} {x i:Operand} {x' i':Opd} {b:ByteArray} {c:UInt8} (ho:o.op=.index t x i) (ht:P.underlying t=some .string)
  (hx:opd x=some x') (hi:opd i=some i') (h:x'.ev s.slots=.d (.sc (.string b))) (hk:natOfA (i'.ev s.slots)=some k) (hc:b.data.toList[k]?=some c):Quiet P X o a (scA (.int .u8 c.toNat)):=by
 have hv:=opd_ok hs hx
 rw[h] at hv
 have hv:=hv.sc
 obtain⟨kd,hik⟩:=natOfA_ok hk (opd_ok hs hi)
 refine⟨_,?_,.scA rfl⟩
 have hlt:k<b.size:=by
  have:=(List.getElem?_eq_some_iff.1 hc).1<;>simp_all
 have hb:b[k]?=some c:=by
  rw[getElem?_pos b k hlt]
  have:=(List.getElem?_eq_some_iff.1 hc).2
  congr 1
 simp[execOp,ho,hv,hik,Instr.index,asIntOf,run_underlying ht,hb]
theorem fieldAddr_ok (hs:Sim X nt s a) {o:Oper} {t:TypeId} {fs:Array Field} {f:Field} {j sz:Nat} {x:Operand} {x':Opd} {r:AV} (ho:o.op=.fieldAddr t x j) (ht:P.underlying t=some (.struct fs)) (hf:fs[j]?=some f)
  (hsz:sizeP P f.type=some sz) (h0:sz≠0) (hx:opd x=some x')
  (hr:(∃ lv sl ver i off,x'.ev s.slots=.ptr lv sl ver i off∧r=.ptr lv sl ver i (off+f.offset))∨∃ e off,x'.ev s.slots=.dptr e off∧r=.dptr e (off+f.offset)):Quiet P X o a r:=by
 have hv:=opd_ok hs hx
 obtain⟨i,hi,hsi⟩:=sizeP_run hsz
 have run:∀ b off,(execOp a.eval o).run P X.w=(Sem.run P (do let v ←Instr.fieldAt t (.pointer (some ⟨b,off,none⟩)) j;pure (Next.value v)) X.w)→(execOp a.eval o).run P X.w=.ok (.value (.pointer (some ⟨b,off+f.offset,none⟩))) X.w:=by
  intro b off h
  rw[h]
  simp[Instr.fieldAt,run_underlying ht,hf,sureAddr_run,fieldPlace,sizeOf,typeInfo,hi,hsi,h0,Addr.add_lit]
 rcases hr with⟨lv,sl,ver,i',off,hq,rfl⟩|⟨e,off,hq,rfl⟩
 ·rw [hq] at hv
  obtain⟨L,hL,hv⟩:=hv
  refine⟨_,run L.b (L.o+i'*L.sz+off) (by simp only[execOp,ho,hv]),L,hL,by rw[Nat.add_assoc]⟩
 ·rw [hq] at hv
  obtain⟨b,o',hv,h⟩:=hv
  exact⟨_,run b (o'+off) (by simp only[execOp,ho,hv]),b,o',by rw[Nat.add_assoc],h⟩
end
end Go.Eng
set_option linter.unusedSectionVars false
namespace Go.Eng
open Go Go.RowKit
theorem Lies.sub {w:World} {F R:Nat→Nat→Prop} {els:List (List D)} {b o sz:Nat} (h:Lies w F R els b o sz) (lo k:Nat):Lies w F R ((els.drop lo).take k) b (o+lo*sz) sz:=by
 grind[Lies]
theorem Lies.region {w:World} {F R S:Nat→Nat→Prop} {els:List (List D)} {b o sz:Nat} (h:Lies w F R els b o sz) (hrs:∀ b o,R b o→S b o):Lies w F S els b o sz:=
 ⟨h.1,fun i e j x h1 h2=>⟨hrs _ _ (h.2 i e j x h1 h2).1,(h.2 i e j x h1 h2).2⟩⟩
theorem Lies.nil {w:World} {F R:Nat→Nat→Prop} {b o sz:Nat} : Lies w F R [] b o sz:=⟨by simp,fun i e j x h=>by simp at h⟩
theorem els_lies {X:Cx} {x:AV} {els:List (List D)} {v:Value} (hx:x=.d (.sl els)∨∃ o,x=.own els o) (hv:VR X x v) :
  ∃ a cap sz b o,v=.slice a els.length cap∧els.length≤cap∧(0<els.length→a=some ⟨b,o,none⟩)∧Lies X.w X.F (fun b o=>X.F b o∨X.old b) els b o sz:=by
 rcases hx with rfl|⟨ow,rfl⟩
 ·obtain ⟨a, cap, sz, b, o, h1, h2, h3, h4⟩ := DR.lies hv
  exact⟨a,cap,sz,b,o,h1,h2,h3,h4.region fun _ _=>.inl⟩
 ·cases ow with
  |full=>obtain⟨a,b,o,sz,h1,h2,h3⟩:=hv;exact⟨a,_,sz,b,o,h1,Nat.le_refl _,h2,h3.region fun _ _=>.inl⟩
  |tip ver tz=>obtain⟨a,b,o,sz,cap,h1,h2,h3,h4,_⟩:=hv;exact⟨a,cap,sz,b,o,h1,h2,fun h=>h3 (by omega),h4.region fun _ _=>.inl⟩
  |bor=>obtain⟨a,b,o,sz,cap,h1,h2,h3,h4⟩:=hv;exact⟨a,cap,sz,b,o,h1,h2,h3,h4.region fun _ _=>.inr⟩
theorem cellsOf_ok {X:Cx} {x:AV} {cs:List AV} {v:Value} (h:cellsOf x=some cs) (hv:VR X x v):All2 (VC X) cs v.cells.toList:=by
 have one:∀ {x:AV},VC X x v→All2 (VC X) [x] v.cells.toList:=by
  intro x hx
  have h1:=hx.one
  cases v<;>first|(simp[Value.oneCell'] at h1;done)|exact⟨hx,trivial⟩
 cases x with
 |agg cs'=>
  cases h
  obtain⟨us,rfl,h2⟩:=hv
  exact h2
 |tup=>cases h
 |_=>simp only[cellsOf] at h;injection h with h;subst h;exact one hv
theorem getElem?_splice {α : Type} (cs new:List α) (off:Nat) (h:off+new.length≤cs.length) (j:Nat) :
  (splice cs off new)[j]?=if off≤j∧j<off+new.length then new[j-off]? else cs[j]?:=by
 unfold splice
 rw[List.append_assoc,List.getElem?_append,List.getElem?_append]<;>grind
theorem length_splice' {α : Type} (cs new:List α) (off:Nat) (h:off+new.length≤cs.length):(splice cs off new).length=cs.length:=by
 grind[splice]
theorem All2.splice {α β : Type} {R : α→β→Prop} {cs new:List α} {us vs:List β} {off:Nat} (h:All2 R cs us) (h':All2 R new vs):All2 R (splice cs off new) (Go.Eng.splice us off vs):=by
 unfold Go.Eng.splice
 rw[h'.length]
 exact ((h.take off).append h').append (h.drop _)
theorem foldl_set (off:Nat):∀ (l:List Value) (k:Nat) (C:Array Value),off+k+l.length≤C.size→
  ((l.zipIdx k).foldl (fun cs p=>cs.setIfInBounds (off+p.2) p.1) C).toList=C.toList.take (off+k)++l++C.toList.drop (off+k+l.length)
 |[],k,C,_=>by simp
 | v :: l, k, C, h => by
  simp only[List.zipIdx_cons,List.foldl_cons]
  rw[foldl_set off l (k+1) _ (by simp at h ⊢;omega)]
  simp only[Array.toList_setIfInBounds]
  have hk:off+k<C.toList.length:=by simp at h ⊢;omega
  apply List.ext_getElem?
  intro j
  have e1:=getElem?_splice (C.toList.set (off+k) v) l (off+(k+1)) (by simp at h ⊢;omega) j
  have e2:=getElem?_splice C.toList (v :: l) (off+k) (by simp at h ⊢;omega) j
  unfold splice at e1 e2
  rw[e1,e2]
  simp only[List.length_cons]
  by_cases h1:j=off+k
  ·subst h1
   rw[if_neg (by omega),if_pos (by omega),Nat.sub_self,List.getElem?_set_self hk]
   rfl
  ·rw [List.getElem?_set_ne (Ne.symm h1)]
   by_cases h2:off+k≤j∧j<off+k+(l.length+1)
   ·rw [if_pos (by omega), if_pos h2]
    obtain⟨d,rfl⟩:∃ d,j=off+k+(d+1):=⟨j-(off+k)-1,by omega⟩
    rw[show off+k+(d+1)-(off+(k+1))=d by omega,show off+k+(d+1)-(off+k)=d+1 by omega]
    rfl
   ·rw[if_neg (by omega),if_neg h2]
theorem fill_step (off:Nat) (vs C:Array Value) (h:off+vs.size≤C.size) :
  (vs.zipIdx.foldl (fun cs x=>match x with|(c,j)=>cs.setIfInBounds (off+j) c) C).toList=splice C.toList off vs.toList:=by
 have:=foldl_set off vs.toList 0 C (by simpa using h)
 simp only[Nat.add_zero] at this
 unfold splice
 rw[←this,←Array.foldl_toList,Array.toList_zipIdx]
section
variable {P:Program} {X:Cx} {nt:NT} {s:St} {a:Act}
theorem fillA_ok (hs:Sim X nt s a) (place:Nat→Option (Nat×Nat)):∀ (ps:List (Nat×Operand)) (l:List (Nat×Nat×Opd)) (z cs:List AV) (C:Array Value),
  partsP place ps=some l→All2 (VC X) z C.toList→fillA s.slots z l=some cs→∃ C',Instr.fill place C (ps.map fun p=>(p.1,a.eval p.2))=some C'∧All2 (VC X) cs C'.toList
 |[],l,z,cs,C,hp,hz,hf=>by
  cases hp
  cases hf
  exact⟨C,rfl,hz⟩
 | (i, x) :: ps, l, z, cs, C, hp, hz, hf => by
  simp[partsP] at hp
  split at hp
  ·rename_i off sz y ys h1 h2 h3
   cases hp
   simp[fillA] at hf
   split at hf
   ·rename_i new hn
    split at hf
    ·rename_i hc
     obtain⟨hc1,hc2⟩:=hc
     have hv:=cellsOf_ok hn (opd_ok hs h2)
     have hsz:(a.eval x).cells.size=sz:=by rw[←hc1,hv.length,Array.length_toList]
     have hC:C.size=z.length:=by rw[hz.length,Array.length_toList]
     obtain⟨C',h4,h5⟩:=fillA_ok hs place ps ys (splice z off new) cs ((a.eval x).cells.zipIdx.foldl (fun cs x=>match x with|(c,j)=>cs.setIfInBounds (off+j) c) C) h3 (by
      rw[fill_step off _ C (by omega)]
      exact hz.splice hv) hf
     simp only[List.map_cons,Instr.fill,h1,hsz,ne_eq,not_true_eq_false,decide_false,Bool.false_or]<;>grind
    grind
   grind
  grind
theorem build_ok (hs:Sim X nt s a) {o:Oper} {t:TypeId} {ps:Array (Nat×Operand)} {it:TypeInfo} {z:Value} {zs:List AV} {l:List (Nat×Nat×Opd)} {cs:List AV} (place:Nat→Option (Nat×Nat))
  (ho:o.op=.build t ps) (hz:constCells z.cells.toList=some zs)
  (hb:∀ parts,P.built t parts=Instr.fill place z.cells parts) (hp:partsP place ps.toList=some l) (hf:fillA s.slots zs l=some cs) (_hit:P.info? t=some it):Quiet P X o a (.agg cs):=by
 obtain⟨C',h1,h2⟩:=fillA_ok hs place ps.toList l zs cs z.cells hp (constCells_ok hz) hf
 refine⟨.agg C',?_,C',rfl,h2⟩
 have hr:(Instr.build t (ps.map fun (i,x)=>(i,a.eval x))).run P X.w=.ok (.agg C') X.w:=by
  apply run_build
  simp_all
 simp[execOp,ho]
 simp[hr]
theorem nilCheck_ok (hs:Sim X nt s a) {o:Oper} {x:Operand} {x':Opd} {r:AV} (ho:o.op=.nilCheck x) (hx:opd x=some x') (hr:x'.ev s.slots=r)
  (hk:(∃ lv sl ver i off,r=.ptr lv sl ver i off)∨(∃ e off,r=.dptr e off)∨∃ f cs,r=.clo f cs):Quiet P X o a r:=by
 have hv:=opd_ok hs hx
 rw[hr] at hv
 refine⟨a.eval x,?_,hv⟩
 rcases hk with⟨_,_,_,_,_,rfl⟩|⟨_,_,rfl⟩|⟨_,_,rfl⟩
 ·obtain ⟨L, _, h⟩ := hv
  simp[execOp,ho,h]
 ·obtain ⟨_, _, h, _⟩ := hv
  simp[execOp,ho,h]
 ·obtain ⟨_, h, _⟩ := hv
  simp[execOp,ho,h]
theorem indexAddr_ok (hs:Sim X nt s a) {o:Oper} {t e:TypeId} {sz n:Nat} {x i:Operand} {x' i':Opd} {r:AV} (ho:o.op=.indexAddr t x i) (ht:P.underlying t=some (.slice e)) (hsz:sizeP P e=some sz)
  (hx:opd x=some x') (hi:opd i=some i') (hn:natOfA (i'.ev s.slots)=some n)
  (hr : (∃ els el, (x'.ev s.slots = .d (.sl els) ∨ ∃ ow, x'.ev s.slots = .own els ow) ∧ els[n]? = some el ∧ el.length = sz ∧ r = .dptr el 0) ∨
   (∃ lv sl ver off ln,x'.ev s.slots=.ref lv sl ver off ln sz∧n<ln∧r=.ptr lv sl ver (off+n) 0)∨
   ∃ lv sl ver off ln,x'.ev s.slots=.bref lv sl ver off ln sz∧n<ln∧r=.ptr lv sl ver 0 (off+n*sz)):Quiet P X o a r:=by
 have hv:=opd_ok hs hx
 obtain⟨kd,hik⟩:=natOfA_ok hn (opd_ok hs hi)
 obtain⟨j,hj,hjs⟩:=sizeP_run hsz
 have run:∀ (b off ln cap:Nat),n<ln→a.eval x=.slice (some ⟨b,off,none⟩) ln cap→(execOp a.eval o).run P X.w=.ok (.value (.pointer (some ⟨b,off+n*sz,none⟩))) X.w:=by
  intro b off ln cap hlt he
  simp[execOp,ho,he,hik,Instr.indexAt,asIntOf,run_underlying ht,sizeOf,typeInfo,hj,hjs,hlt,Addr.add_lit]
 rcases hr with⟨els,el,hq,hel,hl,rfl⟩|⟨lv,sl,ver,off,ln,hq,hlt,rfl⟩|⟨lv,sl,ver,off,ln,hq,hlt,rfl⟩
 ·obtain ⟨ad, cap, sz', b, off, h1, h2, h3, h4⟩ := els_lies hq hv
  have hlt:n<els.length:=(List.getElem?_eq_some_iff.1 hel).1
  have h3:=h3 (by omega)
  subst h3
  have hsz':sz'=sz:=by grind[Lies,VR,Opd.ev,natOfA,opd,sizeP]
  subst hsz'
  refine⟨_,run b off _ cap hlt h1,b,off+n*sz',rfl,fun j x hx=>h4.2 n el j x hel hx⟩
 ·rw [hq] at hv
  obtain⟨L,ad,cap,hL,h1,h2,h3,h4⟩:=hv
  obtain⟨rfl,h5⟩:=h4 (by omega)
  refine⟨_,run _ _ _ cap hlt h2,L,hL,?_⟩<;>grind
 ·rw [hq] at hv
  obtain⟨L,cap0,hL,h1,_⟩:=hv
  refine⟨_,run _ _ _ cap0 hlt h1,L,hL,?_⟩
  simp[Nat.add_assoc]
theorem indexArr_ok (hs:Sim X nt s a) {o:Oper} {t e:TypeId} {n sz k:Nat} {x i:Operand} {x' i':Opd} {r:AV} (ho:o.op=.indexAddr t x i) (ht:P.underlying t=some (.array n e)) (hsz:sizeP P e=some sz)
  (hx:opd x=some x') (hi:opd i=some i') (hn:natOfA (i'.ev s.slots)=some k) (hkn:k<n)
  (hr:(∃ lv sl ver j off,x'.ev s.slots=.ptr lv sl ver j off∧r=.ptr lv sl ver j (off+k*sz))∨∃ el off,x'.ev s.slots=.dptr el off∧r=.dptr el (off+k*sz)):Quiet P X o a r:=by
 have hv:=opd_ok hs hx
 obtain⟨kd,hik⟩:=natOfA_ok hn (opd_ok hs hi)
 obtain⟨j,hj,hjs⟩:=sizeP_run hsz
 have run:∀ (b off:Nat),a.eval x=.pointer (some ⟨b,off,none⟩)→(execOp a.eval o).run P X.w=.ok (.value (.pointer (some ⟨b,off+k*sz,none⟩))) X.w:=by
  intro b off he
  simp[execOp,ho,he,hik,Instr.indexAt,asIntOf,run_underlying ht,sizeOf,typeInfo,hj,hjs,hkn,Addr.add_lit,sureAddr_run]
 rcases hr with⟨lv,sl,ver,i',off,hq,rfl⟩|⟨e,off,hq,rfl⟩
 ·rw [hq] at hv
  obtain⟨L,hL,hv⟩:=hv
  exact⟨_,run _ _ hv,L,hL,by rw[Nat.add_assoc]⟩
 ·rw [hq] at hv
  obtain⟨b,o',hv,h⟩:=hv
  exact⟨_,run _ _ hv,b,o',by rw[Nat.add_assoc],h⟩
theorem sliceB_ok (hs:Sim X nt s a) {o:Oper} {t e:TypeId} {n sz off lv sl ver:Nat} {x:Operand} {x':Opd} (ho:o.op=.slice t x none none none) (ht:P.underlying t=some (.array n e)) (hsz:sizeP P e=some sz) (h0:n≠0)
  (hx:opd x=some x') (hq:x'.ev s.slots=.ptr lv sl ver 0 off):Quiet P X o a (.bref lv sl ver off n sz):=by
 have hv:=opd_ok hs hx
 rw[hq] at hv
 obtain⟨L,hL,hv⟩:=hv
 obtain⟨j,hj,hjs⟩:=sizeP_run hsz
 refine⟨.slice (some ⟨L.b,L.o+off,none⟩) n n,?_,L,n,hL,rfl,Nat.le_refl _,by omega,fun hq=>absurd hq (Nat.lt_irrefl _)⟩
 simp[execOp,ho,hv,Instr.sliceAt,run_underlying ht,sureAddr_run,Instr.sliceBounds,sizeOf,typeInfo,hj,Addr.add_lit]
theorem sliceL_ok (hs:Sim X nt s a) {o:Oper} {t e:TypeId} {n sz off lv sl ver:Nat} {k:Int} {x:Operand} {x':Opd} (ho:o.op=.slice t x (some (.const (.int .i64 k))) none none) (ht:P.underlying t=some (.array n e)) (hsz:sizeP P e=some sz) (h0:0≤k) (hlt:k.toNat<n)
  (hx:opd x=some x') (hq:x'.ev s.slots=.ptr lv sl ver 0 off):Quiet P X o a (.bref lv sl ver (off+k.toNat*sz) (n-k.toNat) sz):=by
 have hv:=opd_ok hs hx
 rw[hq] at hv
 obtain⟨L,hL,hv⟩:=hv
 obtain⟨j,hj,hjs⟩:=sizeP_run hsz
 obtain⟨l,rfl⟩:=Int.eq_ofNat_of_zero_le h0
 have hne:¬n=l:=by omega
 have hle:¬n<l:=by omega
 have he:a.eval (.const (.int .i64 (l:Int)))=.int .i64 (l:Int):=rfl
 refine⟨.slice (some ⟨L.b,L.o+(off+l*sz),none⟩) (n-l) (n-l),?_,L,n-l,hL,rfl,Nat.le_refl _,by omega,fun hq=>absurd hq (Nat.lt_irrefl _)⟩
 simp[execOp,ho,hv,he,Instr.sliceAt,run_underlying ht,sureAddr_run,Instr.sliceBounds,Instr.sliceBound,asIntOf,sizeOf,typeInfo,hj,hjs,hne,hle,Addr.add_lit,Nat.add_assoc]
theorem len_ok (hs:Sim X nt s a) {o:Oper} {t e:TypeId} {n:Nat} {x:Operand} {x':Opd} (ho:o.op=.call { callee:=.builtin .len,args:=#[x],argTypes:=#[t] }) (ht:P.underlying t=some (.slice e)) (hx:opd x=some x')
  (hr:(∃ els,(x'.ev s.slots=.d (.sl els)∨∃ ow,x'.ev s.slots=.own els ow)∧n=els.length)∨(∃ lv sl ver off sz,x'.ev s.slots=.ref lv sl ver off n sz)∨∃ lv sl ver off sz,x'.ev s.slots=.bref lv sl ver off n sz):Quiet P X o a (intA n):=by
 have hv:=opd_ok hs hx
 have run:∀ ad cap,a.eval x=.slice ad n cap→(execOp a.eval o).run P X.w=.ok (.value (.int .i64 n)) X.w:=by
  intro ad cap he
  simp[execOp,ho,resolve,invoke,builtin,Builtin.len_,run_underlying ht,he,goInt]
 refine⟨.int .i64 n,?_,.of_sc rfl⟩
 rcases hr with⟨els,hq,rfl⟩|⟨lv,sl,ver,off,sz,hq⟩|⟨lv,sl,ver,off,sz,hq⟩
 ·obtain⟨ad,cap,sz',b,off,h1,_⟩:=els_lies hq hv<;>grind
 ·rw [hq] at hv
  obtain⟨L,ad,cap,_,_,h,_⟩:=hv<;>grind
 ·rw [hq] at hv
  obtain⟨L,_,_,h,_⟩:=hv
  exact run _ _ h
theorem capF_ok (hs:Sim X nt s a) {o:Oper} {t e:TypeId} {els:List (List D)} {x:Operand} {x':Opd} (ho:o.op=.call { callee:=.builtin .cap,args:=#[x],argTypes:=#[t] }) (ht:P.underlying t=some (.slice e)) (hx:opd x=some x')
  (hr:x'.ev s.slots=.own els .full):Quiet P X o a (intA els.length):=by
 have hv:=opd_ok hs hx
 rw[hr] at hv
 obtain⟨ad,b,o',sz,hv,_⟩:=hv
 refine⟨.int .i64 els.length,?_,.of_sc rfl⟩
 simp[execOp,ho,resolve,invoke,builtin,Builtin.cap_,run_underlying ht,hv,goInt]
theorem lenS_ok (hs:Sim X nt s a) {o:Oper} {t:TypeId} {b:ByteArray} {x:Operand} {x':Opd} (ho:o.op=.call { callee:=.builtin .len,args:=#[x],argTypes:=#[t] }) (ht:P.underlying t=some .string) (hx:opd x=some x')
  (hr:x'.ev s.slots=.d (.sc (.string b))):Quiet P X o a (intA b.size):=by
 have hv:=opd_ok hs hx
 rw[hr] at hv
 have hv:=hv.sc
 refine⟨.int .i64 b.size,?_,.of_sc rfl⟩
 simp[execOp,ho,resolve,invoke,builtin,Builtin.len_,run_underlying ht,hv,goInt]
theorem lenC_ok {o:Oper} {t:TypeId} {n:Nat} {x:Operand} (ho:o.op=.call { callee:=.builtin .len,args:=#[x],argTypes:=#[t] })
  (ht:(∃ e,P.underlying t=some (.array n e))∨∃ p e,P.underlying t=some (.pointer p)∧P.underlying p=some (.array n e)):Quiet P X o a (intA n):=by
 refine⟨.int .i64 n,?_,.of_sc rfl⟩
 rcases ht with⟨e,ht⟩|⟨p,e,ht,hp⟩
 ·simp[execOp,ho,resolve,invoke,builtin,Builtin.len_,run_underlying ht,goInt]
 ·simp[execOp,ho,resolve,invoke,builtin,Builtin.len_,run_underlying ht,run_underlying hp,goInt]
theorem isCell0_ok {x:AV} {v:Value} (h:isCell0 x=true) (hv:VR X x v):VC0 X x v:=by
 cases x<;>first|(cases h;done)|exact hv
theorem makeFunc_ok (hs:Sim X nt s a) {o:Oper} {f:Nat} {cap:Array Operand} {cap':List Opd} (ho:o.op=.makeFunc (.func f) #[] cap) (hc:opds cap.toList=some cap') (h0:(evs s.slots cap').all isCell0=true):Quiet P X o a (.clo f (evs s.slots cap')):=by
 have h:=opds_ok hs hc
 refine⟨.func (.func f) #[] (cap.map a.eval),by simp[execOp,ho,Instr.makeFunc],cap.map a.eval,rfl,?_⟩
 rw[Array.toList_map]
 exact .of_get h.length fun i x v hx hv=>by
  obtain⟨v',hv',hr⟩:=h.get i x hx
  rw[hv] at hv';injection hv' with hv';subst hv'
  exact isCell0_ok (List.all_eq_true.1 h0 x (List.mem_of_getElem? hx)) hr
theorem boundA_ok (hs:Sim X nt s a) {x:Option Operand} {x':Option Opd} {n d:Nat} (hx:opdO x=some x') (h:boundA x' s.slots d=some n):(x=none∧x'=none∧n=d)∨∃ y k,x=some y∧x'.isSome=true∧a.eval y=.int k (n:Int):=by
 cases x with
 |none=>grind[opdO,boundA]
 | some y =>
  simp only[opdO] at hx
  cases hy:opd y with
  |none=>grind
  |some y'=>
   rw[hy] at hx
   cases hx
   obtain⟨k,hk⟩:=natOfA_ok h (opd_ok hs hy)<;>grind
theorem slice_run (hs:Sim X nt s a) {o:Oper} {t e:TypeId} {sz n cap l h k:Nat} {ad:Option Addr} {x:Operand} {lo hi mx:Option Operand} {lo' hi' mx':Option Opd} (ho:o.op=.slice t x lo hi mx) (ht:P.underlying t=some (.slice e)) (hsz:sizeP P e=some sz)
  (hx:a.eval x=.slice ad n cap) (hlo:opdO lo=some lo') (hhi:opdO hi=some hi') (hmx:opdO mx=some mx') (bl:boundA lo' s.slots 0=some l) (bh:boundA hi' s.slots 0=some h) (bk:boundA mx' s.slots 0=some k)
  (c1:l≤(if hi'.isSome then h else n)) (c2:(if hi'.isSome then h else n)≤(if mx'.isSome then k else cap)) (c3:(if mx'.isSome then k else cap)≤cap) (c4:mx'.isSome=true→hi'.isSome=true) :
  (execOp a.eval o).run P X.w=.ok (.value (.slice (if (if mx'.isSome then k else cap)=l then ad else ad.map (·.add (l*sz))) ((if hi'.isSome then h else n)-l) ((if mx'.isSome then k else cap)-l))) X.w:=by
 obtain⟨j,hj,hjs⟩:=sizeP_run hsz
 rcases boundA_ok hs hmx bk with⟨rfl,rfl,rfl⟩|⟨my,mk,rfl,hm,hme⟩
 ·rcases boundA_ok hs hhi bh with ⟨rfl, rfl, rfl⟩ | ⟨hy, hk, rfl, hh, hhe⟩
  ·simp [Option.isSome_none, Bool.false_eq_true, if_false] at c1 c2 c3 ⊢
   rcases boundA_ok hs hlo bl with⟨rfl,rfl,rfl⟩|⟨ly,lk,rfl,hl,hle⟩
   ·simp[execOp,ho,hx,Instr.sliceAt,run_underlying ht,Instr.slice,Instr.sliceBounds,sizeOf,typeInfo,hj]
   ·simp[execOp,ho,hx,Instr.sliceAt,run_underlying ht,Instr.slice,Instr.sliceBounds,Instr.sliceBound,asIntOf,sizeOf,typeInfo,hj,hjs,hle,c1]
  ·simp [hh, if_true, Option.isSome_none, Bool.false_eq_true, if_false] at c1 c2 c3 ⊢
   rcases boundA_ok hs hlo bl with⟨rfl,rfl,rfl⟩|⟨ly,lk,rfl,hl,hle⟩
   ·simp[execOp,ho,hx,Instr.sliceAt,run_underlying ht,Instr.slice,Instr.sliceBounds,Instr.sliceBound,asIntOf,sizeOf,typeInfo,hj,hhe,c2]
   ·simp[execOp,ho,hx,Instr.sliceAt,run_underlying ht,Instr.slice,Instr.sliceBounds,Instr.sliceBound,asIntOf,sizeOf,typeInfo,hj,hjs,hhe,hle,c1,c2]
 ·rcases boundA_ok hs hhi bh with ⟨rfl, rfl, rfl⟩ | ⟨hy, hk, rfl, hh, hhe⟩
  ·grind
  ·simp [hh, hm, if_true] at c1 c2 c3 ⊢
   rcases boundA_ok hs hlo bl with⟨rfl,rfl,rfl⟩|⟨ly,lk,rfl,hl,hle⟩
   ·simp[execOp,ho,hx,Instr.sliceAt,run_underlying ht,Instr.slice,Instr.sliceBounds,Instr.sliceBound,asIntOf,sizeOf,typeInfo,hj,hhe,hme,c2,c3]
   ·simp[execOp,ho,hx,Instr.sliceAt,run_underlying ht,Instr.slice,Instr.sliceBounds,Instr.sliceBound,asIntOf,sizeOf,typeInfo,hj,hjs,hhe,hme,hle,c1,c2,c3]
theorem all_len {els:List (List D)} {sz:Nat} (h:els.all (fun e=>e.length==sz)=true):∀ e∈els,e.length=sz:=fun e he=>by
 grind
theorem cut_lies {R:Nat→Nat→Prop} {els:List (List D)} {ad:Option Addr} {b o sz sz' l h m:Nat} (hl:Lies X.w X.F R els b o sz') (had:0<els.length→ad=some ⟨b,o,none⟩) (c1:l≤h) (c2:h≤els.length) (c3:h≤m)
  (hal:∀ e∈els,e.length=sz):((els.drop l).take (h-l)).length=h-l∧(0<h-l→(if m=l then ad else ad.map (·.add (l*sz)))=some ⟨b,o+l*sz',none⟩)∧Lies X.w X.F R ((els.drop l).take (h-l)) b (o+l*sz') sz':=by
 refine⟨by simp;omega,fun h0=>?_,hl.sub l _⟩
 rw[if_neg (by omega),had (by omega)]
 have:sz'=sz:=by
  have hlt:0<els.length:=by omega
  have hm:=List.getElem_mem hlt<;>grind[Lies]
 subst this
 simp[Addr.add_lit]
theorem slice_ok (hs:Sim X nt s a) {o:Oper} {t e:TypeId} {sz l h k:Nat} {x:Operand} {x':Opd} {lo hi mx:Option Operand} {lo' hi' mx':Option Opd} {r:AV} (ho:o.op=.slice t x lo hi mx) (ht:P.underlying t=some (.slice e)) (hsz:sizeP P e=some sz)
  (hx:opd x=some x') (hlo:opdO lo=some lo') (hhi:opdO hi=some hi') (hmx:opdO mx=some mx') (bl:boundA lo' s.slots 0=some l) (bh:boundA hi' s.slots 0=some h) (bk:boundA mx' s.slots 0=some k)
  (c4:mx'.isSome=true→hi'.isSome=true)
  (hr:sliceA sz (x'.ev s.slots) l (hi'.map fun _=>h) (mx'.map fun _=>k)=some r):Quiet P X o a r:=by
 have hv:=opd_ok hs hx
 have eh:∀ n,(hi'.map fun _=>h).getD n=if hi'.isSome then h else n:=fun n=>by cases hi'<;>rfl
 have run:=fun (ad:Option Addr) (n cap:Nat) (he:a.eval x=.slice ad n cap)=>slice_run hs (P:=P) ho ht hsz he hlo hhi hmx bl bh bk
 unfold sliceA at hr
 split at hr
 ·rename_i els hq
  simp only[eh] at hr
  obtain⟨ad,cap,sz',b,off,h1,h2,h3,h4⟩:=DR.lies (hq ▸ hv)
  have run:=run _ _ _ h1
  generalize (if hi'.isSome=true then h else els.length)=H at hr run
  cases hmx':mx' with
  | none =>
   simp only[hmx',Option.map_none,Option.isSome_none,Bool.false_eq_true,if_false] at hr run c4
   split at hr
   ·rename_i hc
    obtain⟨g1,g2,g3⟩:=hc
    cases hr
    obtain⟨k1,k2,k3⟩:=cut_lies (m:=cap) h4 h3 g1 g2 (by omega) (all_len g3)
    exact⟨_,run g1 (by omega) (Nat.le_refl _) (by simp),DR.of_lies k3 k1 (by omega) k2⟩
   grind
  | some m' =>
   simp only[hmx',Option.map_some,Option.isSome_some,if_true] at hr run c4
   split at hr
   ·rename_i hc
    obtain⟨g1,g2,g4,g3⟩:=hc
    cases hr
    obtain⟨k1,k2,k3⟩:=cut_lies (m:=k) h4 h3 g1 g4 (by omega) (all_len g3)
    refine⟨_,run g1 (by omega) (by omega) (fun _=>c4 trivial),_,b,off+l*sz',sz',?_,fun h0=>k2 (by omega),k3⟩
    rw[k1,g2]
   grind
 ·rename_i els ow hq
  simp only[eh] at hr
  rw[hq] at hv
  replace run:=fun ad cap he=>run ad els.length cap he
  generalize (if hi'.isSome=true then h else els.length)=H at hr run
  cases hmx':mx' with
  | none =>
   simp only[hmx',Option.map_none,Option.isSome_none,Bool.false_eq_true,if_false] at hr run c4
   split at hr
   ·rename_i hc
    obtain⟨g1,g2,g3⟩:=hc
    cases ow with
    |bor=>
     cases hr
     obtain⟨ad,b,off,sz',cap,h1,h2,h3,h4⟩:=hv
     obtain⟨k1,k2,k3⟩:=cut_lies (m:=cap) h4 h3 g1 g2 (by omega) (all_len g3)
     refine⟨_,run _ _ h1 g1 (by omega) (Nat.le_refl _) (by simp),_,b,off+l*sz',sz',cap-l,?_,?_,fun h0=>k2 (by omega),k3⟩<;>grind
    | full =>
     simp at hr
     obtain⟨ad,b,off,sz',h1,h3,h4⟩:=hv
     obtain⟨k1,k2,k3⟩:=cut_lies (m:=els.length) h4 h3 g1 g2 (by omega) (all_len g3)
     have run:=run _ _ h1 g1 (by omega) (Nat.le_refl _) (by simp)
     split at hr
     ·rename_i hh
      cases hr
      rw[hh] at run k1 k2 k3
      have e1:(els.drop l).take (els.length-l)=els.drop l:=List.take_of_length_le (by simp)
      rw[e1] at k1 k3
      refine⟨_,run,_,b,off+l*sz',sz',?_,fun h0=>k2 (by omega),k3⟩<;>grind
     ·cases hr
      exact⟨_,run,DR.of_lies k3 k1 (by omega) k2⟩
    |tip ver tz=>
     cases hr
     obtain⟨ad,b,off,sz',cap,h1,h2,h3,h4,_⟩:=hv
     obtain⟨k1,k2,k3⟩:=cut_lies (m:=cap) h4 (fun h=>h3 (by omega)) g1 g2 (by omega) (all_len g3)
     exact⟨_,run _ _ h1 g1 (by omega) (Nat.le_refl _) (by simp),DR.of_lies k3 k1 (by omega) k2⟩
   grind
  | some m' =>
   simp only[hmx',Option.map_some,Option.isSome_some,if_true] at hr run c4
   split at hr
   ·rename_i hc
    obtain⟨g1,g2,g4,g3⟩:=hc
    have done:∀ (ad:Option Addr) (cap sz' b off:Nat),a.eval x=.slice ad els.length cap→els.length≤cap→(0<els.length→ad=some ⟨b,off,none⟩)→Lies X.w X.F X.F els b off sz'→Quiet P X o a (.own ((els.drop l).take (H-l)) .full):=by
     intro ad cap sz' b off h1 h2 h3 h4
     obtain⟨k1,k2,k3⟩:=cut_lies (m:=k) h4 h3 g1 g4 (by omega) (all_len g3)
     refine⟨_,run _ _ h1 g1 (by omega) (by omega) (fun _=>c4 trivial),_,b,off+l*sz',sz',?_,fun h0=>k2 (by omega),k3⟩<;>grind
    cases ow with
    | bor =>
     simp only at hr
     obtain⟨ad,b,off,sz',cap,h1,h2,h3,h4⟩:=hv
     split at hr
     ·cases hr
      refine⟨_,run _ _ h1 g1 (by omega) (by omega) (fun _=>c4 trivial),(if k=l then ad else ad.map (·.add (l*sz))),0,0,0,?_,fun h0=>absurd h0 (by simp),Lies.nil⟩<;>grind
     grind
    |full=>
     obtain⟨ad,b,off,sz',h1,h3,h4⟩:=hv<;>grind
    |tip ver tz=>
     obtain⟨ad,b,off,sz',cap,h1,h2,h3,h4,_⟩:=hv<;>grind
   grind
 ·rename_i lv sl ver off n sz' hq
  simp[eh] at hr
  rw[hq] at hv
  obtain⟨L,ad,cap,hL,h1,h2,h3,h4⟩:=hv
  have run:=run _ _ _ h2
  generalize (if hi'.isSome=true then h else n)=H at hr run
  cases hmx':mx' with
  | none =>
   simp only[hmx',Option.map_none,Option.isSome_none,Bool.false_eq_true,if_false] at hr run c4
   split at hr
   ·rename_i hc
    obtain⟨g1,g2,g3⟩:=hc
    cases hr;subst g3
    refine⟨_,run g1 (by omega) (Nat.le_refl _) (by simp),L,_,_,hL,h1,rfl,by omega,fun h0=>?_⟩
    obtain⟨rfl,h5⟩:=h4 (by omega)
    refine⟨?_,by omega⟩
    rw[if_neg (by omega)]
    simp[Addr.add_lit,Nat.add_mul,Nat.add_assoc]
   grind
  | some m' =>
   simp only[hmx',Option.map_some,Option.isSome_some,if_true] at hr run c4
   split at hr
   ·rename_i hc
    obtain⟨g1,g2,g3⟩:=hc
    injection hr with hr;subst hr
    refine⟨_,run (by omega) (by omega) (by omega) (fun _=>c4 trivial),(if k=l then ad else ad.map (·.add (l*sz))),0,0,0,?_,fun h0=>absurd h0 (by simp),Lies.nil⟩
    rw[show H-l=0 by omega,show k-l=0 by omega]
    rfl
   ·split at hr
    ·rename_i hc
     obtain⟨g1,g2,g3,g4⟩:=hc
     injection hr with hr;subst hr;subst g4
     refine⟨_,run g1 (by omega) (by omega) (fun _=>c4 trivial),L,_,_,hL,h1,rfl,by omega,fun h0=>?_⟩
     obtain⟨rfl,h5⟩:=h4 (by omega)
     refine⟨?_,by omega⟩
     rw[if_neg (by omega)]
     simp[Addr.add_lit,Nat.add_mul,Nat.add_assoc]
    ·cases hr
 ·cases hr
theorem sliceS_ok (hs:Sim X nt s a) {o:Oper} {t:TypeId} {l h:Nat} {x:Operand} {x':Opd} {lo hi:Option Operand} {lo' hi':Option Opd} {b:ByteArray} (ho:o.op=.slice t x lo hi none) (ht:P.underlying t=some .string)
  (hx:opd x=some x') (hlo:opdO lo=some lo') (hhi:opdO hi=some hi') (hq:x'.ev s.slots=.d (.sc (.string b))) (bl:boundA lo' s.slots 0=some l) (bh:boundA hi' s.slots b.size=some h) (c1:l≤h) (c2:h≤b.size):Quiet P X o a (scA (.string (b.extract l h))):=by
 have hv:=opd_ok hs hx
 rw[hq] at hv
 have hv:=hv.sc
 refine⟨_,?_,.scA rfl⟩
 rcases boundA_ok hs hhi bh with⟨rfl,rfl,rfl⟩|⟨hy,hk,rfl,hh,hhe⟩
 ·rcases boundA_ok hs hlo bl with ⟨rfl, rfl, rfl⟩ | ⟨ly, lk, rfl, hl, hle⟩
  ·simp[execOp,ho,hv,Instr.sliceAt,run_underlying ht,Instr.slice,Instr.sliceBounds]
  ·simp[execOp,ho,hv,Instr.sliceAt,run_underlying ht,Instr.slice,Instr.sliceBounds,Instr.sliceBound,asIntOf,hle,c1]
 ·rcases boundA_ok hs hlo bl with ⟨rfl, rfl, rfl⟩ | ⟨ly, lk, rfl, hl, hle⟩
  ·simp[execOp,ho,hv,Instr.sliceAt,run_underlying ht,Instr.slice,Instr.sliceBounds,Instr.sliceBound,asIntOf,hhe,c2]
  ·simp[execOp,ho,hv,Instr.sliceAt,run_underlying ht,Instr.slice,Instr.sliceBounds,Instr.sliceBound,asIntOf,hhe,hle,c1,c2]
end
end Go.Eng
