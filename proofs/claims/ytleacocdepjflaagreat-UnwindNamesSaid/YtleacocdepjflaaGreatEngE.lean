/- Reading memory; the operations that read or only compute, each against the model. -/
import Derived.Test.YtleacocdepjflaaGreatEngD
import Derived.Laws.Cells
namespace Go.Eng
open Go Go.RowKit
theorem cells_of {w:World} {α : Type} {R : α→Value→Prop} {b o:Nat} : ∀ (cs:List α),(∀ (j:Nat) (x : α),cs[j]?=some x→∃ v,w.cell? ⟨b,o+j,none⟩=some v∧R x v)→
  ∃ vs:List Value,(∀ j u,vs[j]?=some u→w.cell? ⟨b,o+j,none⟩=some u)∧All2 R cs vs:=by
 intro cs
 induction cs generalizing o with
 |nil=>exact fun _=>⟨[],by simp,trivial⟩
 | cons c cs ih =>
  intro h
  obtain⟨v,hv,hr⟩:=h 0 c rfl
  obtain⟨vs,h1,h2⟩:=ih (o:=o+1) fun j x hj=>by
   obtain⟨u,hu,hr⟩:=h (j+1) x (by simpa using hj)
   exact⟨u,by rw[←hu];congr 2;omega,hr⟩
  refine⟨v :: vs,fun j u hj=>?_,hr,h2⟩
  cases j with
  |zero=>simp at hj;subst hj;exact hv
  |succ j=>
   rw[←h1 j u (by simpa using hj)]
   congr 2
   omega
theorem getElem?_drop_take {α : Type} {l:List α} {k n j:Nat} {x : α} (h:((l.drop k).take n)[j]?=some x):l[k+j]?=some x∧j<n:=by
 rw[List.getElem?_take] at h
 split at h
 ·rename_i hj
  exact⟨by rw[←h,List.getElem?_drop],hj⟩
 ·cases h
theorem cells_d {X:Cx} {b o off sz:Nat} {e:List D} (h:∀ (j:Nat) (x:D),e[j]?=some x→∃ u,X.w.cell? ⟨b,o+j,none⟩=some u∧DR X.w X.F x u) :
  ∃ vs:List Value,(∀ j u,vs[j]?=some u→X.w.cell? ⟨b,(o+off)+j,none⟩=some u)∧All2 (VC X) (((e.drop off).take sz).map .d) vs:=by
 refine cells_of _ fun j x hj=>?_
 rw[List.getElem?_map] at hj
 cases hq:((e.drop off).take sz)[j]? with
 |none=>rw[hq] at hj;cases hj
 |some y=>
  rw[hq] at hj
  simp only[Option.map_some] at hj
  injection hj with hj;subst hj
  obtain⟨u,hu,hd⟩:=h _ _ (getElem?_drop_take hq).1
  exact⟨u,by rw[←hu,Nat.add_assoc],hd⟩
theorem loadA_ok {X:Cx} {m:List (Tr Ent)} {t:Tr Unit} (hm:MemOK X m t) {p:AV} {v:Value} {sz:Nat} {cs:List AV} (hv:VR X p v) (h:loadA m sz p=some cs) :
  ∃ b o vs,v=.pointer (some ⟨b,o,none⟩)∧(∀ j u,vs[j]?=some u→X.w.cell? ⟨b,o+j,none⟩=some u)∧All2 (VC X) cs vs∧cs.length=sz:=by
 unfold loadA at h
 split at h
 ·rename_i lv sl ver i off
  obtain⟨L,hL,rfl⟩:=hv
  split at h
  ·rename_i v' cells hg
   split at h
   ·rename_i hv' hi
    split at h
    ·rename_i hle
     injection h with h;subst h
     have hv':=beq_true.1 hv'
     have hi:=beq_true.1 hi
     subst hv';subst hi
     obtain⟨L',hL',hE⟩:=hm.ents _ _ _ hg
     have:X.ρ v'=some L':=hL'
     rw[hL] at this
     injection this with this;subst this
     obtain⟨h1,h2,h3,h4⟩:=hE
     obtain⟨vs,g1,g2⟩:=cells_of (w:=X.w) (R:=VC X) (b:=L.b) (o:=L.o+off) ((cells.drop off).take sz) fun j x hj=>by
      obtain⟨u,hu,hr⟩:=h4 _ _ (getElem?_drop_take hj).1
      exact⟨u,by rw[←hu,Nat.add_assoc],hr⟩
     refine⟨L.b,L.o+off,vs,by simp,g1,g2,by simp;omega⟩
    ·cases h
   ·cases h
  ·rename_i v' els hg
   split at h
   ·rename_i hv'
    split at h
    ·rename_i e he
     split at h
     ·rename_i hle
      injection h with h;subst h
      have hv':=beq_true.1 hv'
      subst hv'
      obtain⟨L',hL',hE⟩:=hm.ents _ _ _ hg
      have:X.ρ v'=some L':=hL'
      rw[hL] at this
      injection this with this;subst this
      obtain⟨h1,h2,h3,h4⟩:=hE
      obtain⟨vs,g1,g2⟩:=cells_d (X:=X) (b:=L.b) (o:=L.o+i*L.sz) (off:=off) (sz:=sz) (e:=e) fun j x hj=>h4 i e j x he hj
      exact⟨L.b,L.o+i*L.sz+off,vs,rfl,g1,g2,by simp;omega⟩
     ·cases h
    ·cases h
   ·cases h
  ·rename_i v' els hg
   split at h
   ·rename_i hv'
    split at h
    ·rename_i e he
     split at h
     ·rename_i hle
      injection h with h;subst h
      have hv':=beq_true.1 hv'
      subst hv'
      obtain⟨L',hL',hE⟩:=hm.ents _ _ _ hg
      have:X.ρ v'=some L':=hL'
      rw[hL] at this
      injection this with this;subst this
      obtain⟨vs,g1,g2⟩:=cells_d (X:=X) (b:=L.b) (o:=L.o+i*L.sz) (off:=off) (sz:=sz) (e:=e) fun j x hj=>(hE.2.2 i e j x he hj).2
      exact⟨L.b,L.o+i*L.sz+off,vs,rfl,g1,g2,by simp;omega⟩
     ·cases h
    ·cases h
   ·cases h
  ·cases h
  ·cases h
 ·rename_i e off
  split at h
  ·injection h with h; subst h
   obtain⟨b,o,rfl,h4⟩:=hv
   obtain⟨vs,g1,g2⟩:=cells_d (X:=X) (b:=b) (o:=o) (off:=off) (sz:=sz) (e:=e) fun j x hj=>(h4 j x hj).2
   exact⟨b,o+off,vs,rfl,g1,g2,by simp;omega⟩
  ·cases h
 ·cases h
section
variable {P:Program}
theorem sizeP_run {t:TypeId} {sz:Nat} (h:sizeP P t=some sz):∃ i,P.info? t=some i∧i.size=sz:=by
 unfold sizeP at h
 cases hi:P.info? t with
 |none=>rw[hi] at h;cases h
 |some i=>rw[hi] at h;exact⟨i,rfl,by simpa using h⟩
theorem isAggP_run {t:TypeId} {b:Bool} (h:isAggP P t=some b) (w:World):(isAgg t).run P w=.ok b w:=by
 unfold isAggP at h
 split at h
 ·rename_i hu;injection h with h;subst h;simp[isAgg,run_underlying hu]
 ·rename_i hu;injection h with h;subst h;simp[isAgg,run_underlying hu]
 ·rename_i d h1 h2 hu
  injection h with h;subst h
  simp only[isAgg,Sem.run_bind,run_underlying hu,Result.andThen_ok]
  cases d<;>first|rfl|(exact absurd rfl (h1 _))|(exact absurd rfl (h2 _ _))
 ·cases h
theorem loadVar_ok {X:Cx} {t:TypeId} {sz:Nat} {agg:Bool} {b o:Nat} {cs:List AV} {vs:List Value} {r:AV} (hsz:sizeP P t=some sz) (hag:isAggP P t=some agg) (h1:agg=true∨sz=1)
  (hc:∀ j u,vs[j]?=some u→X.w.cell? ⟨b,o+j,none⟩=some u) (h2:All2 (VC X) cs vs) (hl:cs.length=sz) (hr:wrapAgg agg cs=some r) :
  ∃ v,(loadVar t ⟨b,o,none⟩).run P X.w=.ok v X.w∧V1 X r v:=by
 obtain⟨i,hi,hs⟩:=sizeP_run hsz
 have hag:=isAggP_run hag X.w
 have hc':∀ j u,vs[j]?=some u→X.w.cell? ((⟨b,o,none⟩:Addr).add j)=some u:=fun j u h=>by rw[Addr.add_lit];exact hc j u h
 cases agg with
 |true=>
  have hl':vs.length=sz:=by rw[←h2.length,hl]
  have:=run_loadCells_list (P:=P) X.w ⟨b,o,none⟩ vs hc'
  rw[hl'] at this
  simp only[wrapAgg] at hr
  injection hr with hr;subst hr
  exact⟨.agg vs.toArray,by simp[loadVar,hag,sizeOf,typeInfo,hi,hs,this],vs.toArray,rfl,by simpa using h2⟩
 | false =>
  simp only[wrapAgg] at hr
  split at hr
  ·injection hr with hr; subst hr
   match vs,h2 with
   |[u],h2=>
    have:=hc 0 u rfl
    simp only[Nat.add_zero] at this
    exact⟨u,by simp[loadVar,hag,this],.of_VC h2.1⟩
   |[],h2=>exact h2.elim
   |_ :: _ :: _,h2=>exact h2.2.elim
  ·cases hr
theorem sureAddr_run (a:Addr) (w:World):(Instr.sureAddr (.pointer (some a))).run P w=.ok a w:=rfl
def Quiet (P:Program) (X:Cx) (o:Oper) (a:Act) (val:AV):Prop:=∃ v,(execOp a.eval o).run P X.w=.ok (.value v) X.w∧VR X val v
variable {X:Cx} {nt:NT} {s:St} {a:Act}
theorem load_ok (hs:Sim X nt s a) {o:Oper} {t:TypeId} {x:Operand} {y:Opd} {sz:Nat} {agg:Bool} {cs:List AV} {r:AV} (ho:o.op=.load t x) (hsz:sizeP P t=some sz) (hag:isAggP P t=some agg) (h1:agg=true∨sz=1)
  (hx:opd x=some y) (hl:loadA s.mem sz (y.ev s.slots)=some cs) (hr:wrapAgg agg cs=some r):Quiet P X o a r:=by
 obtain⟨b,off,vs,hv,hc,h2,hlen⟩:=loadA_ok hs.mem (opd_ok hs hx) hl
 obtain⟨v,hrun,hV⟩:=loadVar_ok (P:=P) hsz hag h1 hc h2 hlen hr
 exact⟨v,by simp[execOp,ho,Instr.loadAt,hv,sureAddr_run,hrun],.of_V1 hV⟩
theorem pick_ok (hs:Sim X nt s a) {o:Oper} {c x y:Operand} {c' x' y':Opd} {b:Bool} (ho:o.op=.pick c x y) (hc:opd c=some c') (hx:opd x=some x') (hy:opd y=some y')
  (hb:boolOfA (c'.ev s.slots)=some b):Quiet P X o a (if b then x'.ev s.slots else y'.ev s.slots):=by
 have:=boolOfA_ok hb (opd_ok hs hc)
 refine⟨if b then a.eval x else a.eval y,by simp[execOp,ho,this,asBool],?_⟩
 cases b
 ·exact opd_ok hs hy
 ·exact opd_ok hs hx
theorem bin_ok (hs:Sim X nt s a) {o:Oper} {op:BinOp} {t u:TypeId} {x y:Operand} {x' y':Opd} {r:Value} (ho:o.op=.binOp op t x y u) (hx:opd x=some x') (hy:opd y=some y')
  (h:binA op (x'.ev s.slots) (y'.ev s.slots)=some r):Quiet P X o a (scA r):=by
 obtain⟨h1,h2,h3⟩:=binA_ok (P:=P) t (opd_ok hs hx) (opd_ok hs hy) h
 refine⟨r,?_,.scA h2⟩
 have hg:(eqGuard op t x y (a.eval x) (a.eval y)).run P X.w=.ok () X.w:=by
  rcases h3 with⟨k,m,h3⟩|⟨m,h3⟩<;>rw[h3]<;>exact eqGuard_plain (by simp) (by simp)
 simp[execOp,ho,hg,h1]
theorem eqb_ok (hs:Sim X nt s a) {o:Oper} {neg:Bool} {t u:TypeId} {x y:Operand} {x' y':Opd} {p q:Bool} (ho:o.op=.binOp (if neg then .neq else .eql) t x y u) (ht:P.underlying t=some .bool) (hx:opd x=some x') (hy:opd y=some y')
  (hp:boolOfA (x'.ev s.slots)=some p) (hq:boolOfA (y'.ev s.slots)=some q):Quiet P X o a (scA (.bool (if neg then !(p==q) else p==q))):=by
 have h1:=boolOfA_ok hp (opd_ok hs hx)
 have h2:=boolOfA_ok hq (opd_ok hs hy)
 refine⟨.bool (if neg then !(p==q) else p==q),?_,.scA rfl⟩
 have hg:∀ op,(eqGuard op t x y (.bool p) (.bool q)).run P X.w=.ok () X.w:=fun op=>eqGuard_plain (by simp) (by simp)
 have he':∀ d,(Op.equalIn (d+1) t (.bool p) (.bool q)).run P X.w=.ok (p==q) X.w:=fun d=>by simp[Op.equalIn,run_underlying ht]
 have he:(Op.equal t (.bool p) (.bool q)).run P X.w=.ok (p==q) X.w:=he' 9999
 cases neg<;>simp[execOp,ho,h1,h2,hg,binOp,he]
theorem opd_nil {y:Operand} (h:opd y=some (.c (.d (.sc .nilIface)))):y=.const .nilIface:=by
 cases y with
 |tmp t=>simp[opd] at h
 |func f=>simp[opd] at h
 |global g=>simp[opd] at h
 | const v =>
  simp only[opd] at h
  cases hc:constA v with
  |none=>rw[hc] at h;cases h
  | some z =>
   rw[hc] at h
   simp only[Option.map_some,Option.some.injEq,Opd.c.injEq] at h
   subst h
   have key:∀ {u:Value},constCell u=some (.d (.sc .nilIface))→u=.nilIface:=by
    intro u hu
    unfold constCell at hu
    split at hu
    ·simp at hu
    ·cases hu
    ·cases hu
    ·cases hu
    ·rename_i fn first cap
     cases fn with
     |func f=>
      simp only at hu
      by_cases hz:first.size=0∧cap.size=0
      ·rw[if_pos hz] at hu;simp at hu
      ·rw[if_neg hz] at hu;cases hu
     |_=>cases hu
    ·simp at hu;exact hu
   unfold constA at hc
   split at hc
   ·obtain ⟨_, _, h⟩ := Option.map_eq_some_iff.1 hc
    simp at h
   ·split at hc
    ·simp at hc
    ·cases hc
   ·rw[key hc]
theorem isErr_ok (hs:Sim X nt s a) {o:Oper} {neg:Bool} {t u:TypeId} {ms:Array (String×TypeId)} {x y:Operand} {x':Opd} (ho:o.op=.binOp (if neg then .neq else .eql) t x y u) (ht:P.underlying t=some (.interface ms)) (hx:opd x=some x') (hy:opd y=some (.c (.d (.sc .nilIface)))) :
  (x'.ev s.slots=.d .er→Quiet P X o a (scA (.bool neg)))∧(x'.ev s.slots=.d (.sc .nilIface)→Quiet P X o a (scA (.bool !neg))):=by
 have hyc:=opd_nil hy
 subst hyc
 have he0:a.eval (.const .nilIface)=.nilIface:=rfl
 constructor
 ·intro hq
  have hv:=opd_ok hs hx
  rw[hq] at hv
  have h0:∃ tt p,a.eval x=.iface tt p:=by
   revert hv
   generalize a.eval x=u
   intro hv
   cases hv with
   |er v h1=>exact h1
  obtain⟨tt,p,h1⟩:=h0
  refine⟨.bool neg,?_,.scA rfl⟩
  have hg:∀ op,(eqGuard op t x (.const .nilIface) (.iface tt p) .nilIface).run P X.w=.ok () X.w:=fun op=>eqGuard_plain (by simp) (by simp)
  have he':∀ d,(Op.equalIn (d+1) t (.iface tt p) .nilIface).run P X.w=.ok false X.w:=fun d=>by simp[Op.equalIn,run_underlying ht]
  have he:(Op.equal t (.iface tt p) .nilIface).run P X.w=.ok false X.w:=he' 9999
  cases neg<;>simp[execOp,ho,h1,he0,hg,binOp,he]
 ·intro hq
  have hv:=opd_ok hs hx
  rw[hq] at hv
  have h1:a.eval x=.nilIface:=by
   revert hv
   generalize a.eval x=u
   intro hv
   cases hv with
   |sc v h1=>rfl
  refine⟨.bool !neg,?_,.scA rfl⟩
  have hg:∀ op,(eqGuard op t x (.const .nilIface) .nilIface .nilIface).run P X.w=.ok () X.w:=fun op=>by cases op<;>simp[eqGuard]
  have he':∀ d,(Op.equalIn (d+1) t .nilIface .nilIface).run P X.w=.ok true X.w:=fun d=>by simp[Op.equalIn,run_underlying ht]
  have he:(Op.equal t .nilIface .nilIface).run P X.w=.ok true X.w:=he' 9999
  cases neg<;>simp[execOp,ho,h1,he0,hg,binOp,he]
theorem eqAop_ok (hs:Sim X nt s a) {o:Oper} {neg:Bool} {t u:TypeId} {fs:Array Field} {l:List (Nat×Nat)} {sz:Nat} {x y:Operand} {x' y':Opd} {xs ys:List AV} {b:Bool} (ho:o.op=.binOp (if neg then .neq else .eql) t x y u)
  (ht:P.underlying t=some (.struct fs)) (hg:P.eqGuardType P.depth t=false) (hc:eqCells P 20 t 0=some l) (hsz:sizeP P t=some sz) (hx:opd x=some x') (hy:opd y=some y')
  (h1:x'.ev s.slots=.agg xs) (h2:y'.ev s.slots=.agg ys) (h3:xs.length=sz) (h4:ys.length=sz) (hb:eqAll xs ys l=some b):Quiet P X o a (scA (.bool (if neg then !b else b))):=by
 have g1:=opd_ok hs hx
 have g2:=opd_ok hs hy
 rw[h1] at g1;rw[h2] at g2
 have s1:∃ us,a.eval x=.agg us∧us.size=sz:=by obtain⟨us,e,hh⟩:=g1;exact⟨us,e,by rw[←h3,hh.length,Array.length_toList]⟩
 have s2:∃ us,a.eval y=.agg us∧us.size=sz:=by obtain⟨us,e,hh⟩:=g2;exact⟨us,e,by rw[←h4,hh.length,Array.length_toList]⟩
 obtain⟨us,vs,e1,e2,he1,he2⟩:=eqA_ok (P:=P) hc hg ⟨fs,ht⟩ g1 g2 hb x y
 obtain⟨us',e1',s1⟩:=s1
 obtain⟨vs',e2',s2⟩:=s2
 rw[e1] at e1';rw[e2] at e2'
 injection e1' with e1';injection e2' with e2'
 subst e1';subst e2'
 have he:=he2 (by rw[hsz];exact s1) (by rw[hsz];exact s2)
 refine⟨.bool (if neg then !b else b),?_,.scA rfl⟩
 rw[e1,e2] at he1 he
 cases neg<;>simp[execOp,ho,e1,e2,he1,binOp,he]
theorem un_ok (hs:Sim X nt s a) {o:Oper} {op:UnOp} {t:TypeId} {x:Operand} {x':Opd} {r:Value} (ho:o.op=.unOp op t x) (hx:opd x=some x') (h:unA op (x'.ev s.slots)=some r):Quiet P X o a (scA r):=by
 have hv:=opd_ok hs hx
 unfold unA at h
 split at h
 ·rename_i hq
  rw[hq] at hv
  have hv:=hv.sc
  cases op<;>simp only at h<;>first
   |(cases h;done)
   |(injection h with h;subst h;exact⟨_,by simp[execOp,ho,hv,Op.unary],.scA rfl⟩)
 ·rename_i hq
  rw[hq] at hv
  have hv:=hv.sc
  cases op<;>simp only[bitsI,Option.map_some] at h<;>first
   |(cases h;done)
   |(injection h with h;subst h;exact⟨_,by simp[execOp,ho,hv,Op.unary,Op.intArith,Op.intBits],.scA rfl⟩)
 ·cases h
theorem conv_ok (hs:Sim X nt s a) {o:Oper} {src dst:TypeId} {k:IntKind} {x:Operand} {x':Opd} {n:Int} (ho:o.op=.convert src dst x) (ht:P.underlying dst=some (.int k)) (hsrc:(P.underlying src).isSome=true)
  (hx:opd x=some x') (h:intOfA (x'.ev s.slots)=some n):Quiet P X o a (scA (.int k (k.wrap n))):=by
 obtain⟨k',hv⟩:=intOfA_ok h (opd_ok hs hx)
 obtain⟨d,hd⟩:=Option.isSome_iff_exists.1 hsrc
 refine⟨.int k (k.wrap n),?_,.scA rfl⟩
 simp[execOp,ho,hv,convert,run_underlying ht,run_underlying hd,Conv.intToInt]
theorem extract_ok (hs:Sim X nt s a) {o:Oper} {x:Operand} {x':Opd} {i:Nat} {vs:List AV} {r:AV} (ho:o.op=.extract x i) (hx:opd x=some x') (h:x'.ev s.slots=.tup vs) (hr:vs[i]?=some r):Quiet P X o a r:=by
 have hv:=opd_ok hs hx
 rw[h] at hv
 obtain⟨us,e,h2⟩:=hv
 obtain⟨u,hu,h3⟩:=h2.get _ _ hr
 refine⟨u,?_,.of_V1 h3⟩
 have:us[i]?=some u:=by simpa using hu
 simp[execOp,ho,e,Instr.extract,this]
theorem part_ok {t:TypeId} {off sz:Nat} {agg:Bool} {cs:List AV} {us:Array Value} {r:AV} (hsz:sizeP P t=some sz) (hag:isAggP P t=some agg) (h1:agg=true∨sz=1) (hc:All2 (VC X) cs us.toList) (hle:off+sz≤cs.length)
  (hr:wrapAgg agg ((cs.drop off).take sz)=some r):∃ v,(part t us off).run P X.w=.ok v X.w∧V1 X r v:=by
 obtain⟨i,hi,hs⟩:=sizeP_run hsz
 have hag:=isAggP_run hag X.w
 cases agg with
 |true=>
  simp only[wrapAgg] at hr
  injection hr with hr;subst hr
  refine⟨.agg (us.extract off (off+sz)),by simp[part,hag,sizeOf,typeInfo,hi,hs],us.extract off (off+sz),rfl,?_⟩
  have:=(hc.drop off).take sz
  rw[Array.toList_extract]
  simpa[List.extract] using this
 | false =>
  have hsz:sz=1:=h1.resolve_left (by simp)
  subst hsz
  simp only[wrapAgg] at hr
  split at hr
  ·rename_i v hv
   injection hr with hr;subst hr
   have:cs[off]?=some v:=by
    have:((cs.drop off).take 1)[0]?=some v:=by rw[hv];rfl
    simpa using (getElem?_drop_take this).1
   obtain⟨u,hu,h3⟩:=hc.get _ _ this
   refine⟨u,?_,.of_VC h3⟩
   have:us[off]?=some u:=by simpa using hu
   simp[part,hag,this]
  ·cases hr
theorem field_ok (hs:Sim X nt s a) {o:Oper} {t:TypeId} {fs:Array Field} {f:Field} {j sz:Nat} {agg:Bool} {x:Operand} {x':Opd} {cs:List AV} {r:AV} (ho:o.op=.field t x j) (ht:P.underlying t=some (.struct fs)) (hf:fs[j]?=some f)
  (hsz:sizeP P f.type=some sz) (hag:isAggP P f.type=some agg) (h1:agg=true∨sz=1) (hx:opd x=some x') (h:x'.ev s.slots=.agg cs) (hle:f.offset+sz≤cs.length) (hr:wrapAgg agg ((cs.drop f.offset).take sz)=some r):Quiet P X o a r:=by
 have hv:=opd_ok hs hx
 rw[h] at hv
 obtain⟨us,e,h2⟩:=hv
 obtain⟨v,hrun,hV⟩:=part_ok (P:=P) hsz hag h1 h2 hle hr
 refine⟨v,?_,.of_V1 hV⟩
 simp[execOp,ho,e,Instr.field,run_underlying ht,hf,asAgg,hrun]
theorem indexA_ok (hs:Sim X nt s a) {o:Oper} {t e:TypeId} {n k sz:Nat} {agg:Bool} {x i:Operand} {x' i':Opd} {cs:List AV} {r:AV} (ho:o.op=.index t x i) (ht:P.underlying t=some (.array n e))
  (hsz:sizeP P e=some sz) (hag:isAggP P e=some agg) (h1:agg=true∨sz=1) (hx:opd x=some x') (hi:opd i=some i') (h:x'.ev s.slots=.agg cs) (hk:natOfA (i'.ev s.slots)=some k) (hkn:k<n) (hle:k*sz+sz≤cs.length)
  (hr:wrapAgg agg ((cs.drop (k*sz)).take sz)=some r):Quiet P X o a r:=by
 have hv:=opd_ok hs hx
 rw[h] at hv
 obtain⟨us,he,h2⟩:=hv
 obtain⟨kd,hik⟩:=natOfA_ok hk (opd_ok hs hi)
 obtain⟨v,hrun,hV⟩:=part_ok (P:=P) hsz hag h1 h2 hle hr
 obtain⟨j,hj,hjs⟩:=sizeP_run hsz
 refine⟨v,?_,.of_V1 hV⟩
 simp[execOp,ho,he,hik,Instr.index,asIntOf,run_underlying ht,sizeOf,typeInfo,hj,hjs,hkn,hrun]
theorem indexS_ok (hs:Sim X nt s a) {o:Oper} {t:TypeId} {k:Nat} {x i:Operand} {x' i':Opd} {b:ByteArray} {c:UInt8} (ho:o.op=.index t x i) (ht:P.underlying t=some .string)
  (hx:opd x=some x') (hi:opd i=some i') (h:x'.ev s.slots=.d (.sc (.string b))) (hk:natOfA (i'.ev s.slots)=some k) (hc:b.data.toList[k]?=some c):Quiet P X o a (scA (.int .u8 c.toNat)):=by
 have hv:=opd_ok hs hx
 rw[h] at hv
 have hv:=hv.sc
 obtain⟨kd,hik⟩:=natOfA_ok hk (opd_ok hs hi)
 refine⟨_,?_,.scA rfl⟩
 have hlt:k<b.size:=by
  have:=(List.getElem?_eq_some_iff.1 hc).1
  simpa using this
 have hb:b[k]?=some c:=by
  rw[getElem?_pos b k hlt]
  have:=(List.getElem?_eq_some_iff.1 hc).2
  congr 1
 simp[execOp,ho,hv,hik,Instr.index,asIntOf,run_underlying ht,hb]
theorem fieldAddr_ok (hs:Sim X nt s a) {o:Oper} {t:TypeId} {fs:Array Field} {f:Field} {j sz:Nat} {x:Operand} {x':Opd} {r:AV} (ho:o.op=.fieldAddr t x j) (ht:P.underlying t=some (.struct fs)) (hf:fs[j]?=some f)
  (hsz:sizeP P f.type=some sz) (h0:sz≠0) (hx:opd x=some x')
  (hr:(∃ lv sl ver i off,x'.ev s.slots=.ptr lv sl ver i off∧r=.ptr lv sl ver i (off+f.offset))∨∃ e off,x'.ev s.slots=.dptr e off∧r=.dptr e (off+f.offset)):Quiet P X o a r:=by
 have hv:=opd_ok hs hx
 obtain⟨i,hi,hsi⟩:=sizeP_run hsz
 have run:∀ b off,(execOp a.eval o).run P X.w=(Sem.run P (do let v ←Instr.fieldAt t (.pointer (some ⟨b,off,none⟩)) j;pure (Next.value v)) X.w)→(execOp a.eval o).run P X.w=.ok (.value (.pointer (some ⟨b,off+f.offset,none⟩))) X.w:=by
  intro b off h
  rw[h]
  simp[Instr.fieldAt,run_underlying ht,hf,sureAddr_run,fieldPlace,sizeOf,typeInfo,hi,hsi,h0,Addr.add_lit]
 rcases hr with⟨lv,sl,ver,i',off,hq,rfl⟩|⟨e,off,hq,rfl⟩
 ·rw [hq] at hv
  obtain⟨L,hL,hv⟩:=hv
  refine⟨_,run L.b (L.o+i'*L.sz+off) (by simp only[execOp,ho,hv]),L,hL,by rw[Nat.add_assoc]⟩
 ·rw [hq] at hv
  obtain⟨b,o',hv,h⟩:=hv
  exact⟨_,run b (o'+off) (by simp only[execOp,ho,hv]),b,o',by rw[Nat.add_assoc],h⟩
end
end Go.Eng
