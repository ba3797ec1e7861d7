/- Reading memory; the operations that read or only compute, each against the model. -/
import Derived.Test.YtokjmkblnafppaaGreatDoorEngD
import Derived.Laws.Cells
set_option linter.unusedVariables false
set_option linter.unusedSimpArgs false
namespace Go.bI
open Go Go.RowKit
theorem za {w:World} {α : Type} {R : α→Value→Prop} {b o:Nat} : ∀ (cs:List α),(∀ (j:Nat) (x : α),cs[j]?=some x→∃ v,w.cell? ⟨b,o+j,none⟩=some v∧R x v)→
  ∃ vs:List Value,(∀ j u,vs[j]?=some u→w.cell? ⟨b,o+j,none⟩=some u)∧az R cs vs:=by
 intro cs
 induction cs generalizing o with
 |nil=>exact fun _=>⟨[],by simp,trivial⟩
 | cons c cs ih =>
  intro h
  obtain⟨v,hv,hr⟩:=h 0 c rfl
  obtain⟨vs,h1,h2⟩:=ih (o:=o+1) fun j x hj=>by
   obtain⟨u,hu,hr⟩:=h (j+1) x (by simpa using hj)
   exact⟨u,by rw[←hu];congr 2;omega,hr⟩
  refine⟨v :: vs,fun j u hj=>?_,hr,h2⟩
  cases j with
  |zero=>simp at hj;subst hj;exact hv
  |succ j=>
   rw[←h1 j u (by simpa using hj)]
   congr 2
   omega
theorem cI {α : Type} {l:List α} {k n j:Nat} {x : α} (h:((l.drop k).take n)[j]?=some x):l[k+j]?=some x∧j<n:=by
 rw[List.getElem?_take] at h
 split at h
 ·rename_i hj
  exact⟨by rw[←h,List.getElem?_drop],hj⟩
 ·cases h
theorem Dk {X:Cx} {b o off sz:Nat} {e:List D} (h:∀ (j:Nat) (x:D),e[j]?=some x→∃ u,X.w.cell? ⟨b,o+j,none⟩=some u∧DR X.w X.F x u) :
  ∃ vs:List Value,(∀ j u,vs[j]?=some u→X.w.cell? ⟨b,(o+off)+j,none⟩=some u)∧az (VC X) (((e.drop off).take sz).map .d) vs:=by
 refine za _ fun j x hj=>?_
 rw[List.getElem?_map] at hj
 cases hq:((e.drop off).take sz)[j]? with
 |none=>rw[hq] at hj;cases hj
 |some y=>
  rw[hq] at hj
  simp only[Option.map_some] at hj
  injection hj with hj;subst hj
  obtain⟨u,hu,hd⟩:=h _ _ (cI hq).1
  exact⟨u,by rw[←hu,Nat.add_assoc],hd⟩
theorem EL {X:Cx} {m:List (Tr bH)} {t:Tr Unit} (hm:aB X m t) {p:AV} {v:Value} {sz:Nat} {cs:List AV} (hv:VR X p v) (h:pq m sz p=some cs) :
  ∃ b o vs,v=.pointer (some ⟨b,o,none⟩)∧(∀ j u,vs[j]?=some u→X.w.cell? ⟨b,o+j,none⟩=some u)∧az (VC X) cs vs∧cs.length=sz:=by
 unfold pq at h
 split at h
 ·rename_i lv sl af i off
  obtain⟨L,hL,rfl⟩:=hv
  split at h
  ·rename_i v' cells hg
   split at h
   ·rename_i jd hi
    split at h
    ·rename_i hle
     injection h with h;subst h
     have jd:=beq_true.1 jd
     have hi:=beq_true.1 hi
     subst jd;subst hi
     obtain⟨L',hL',hE⟩:=hm.ec _ _ _ hg
     have:X.ρ v'=some L':=hL'
     rw[hL] at this
     injection this with this;subst this
     obtain⟨h1,h2,h3,h4⟩:=hE
     obtain⟨vs,g1,g2⟩:=za (w:=X.w) (R:=VC X) (b:=L.b) (o:=L.o+off) ((cells.drop off).take sz) fun j x hj=>by
      obtain⟨u,hu,hr⟩:=h4 _ _ (cI hj).1
      exact⟨u,by rw[←hu,Nat.add_assoc],hr⟩
     refine⟨L.b,L.o+off,vs,by simp,g1,g2,by simp;omega⟩
    ·cases h
   ·cases h
  ·rename_i v' els hg
   split at h
   ·rename_i jd
    split at h
    ·rename_i e he
     split at h
     ·rename_i hle
      injection h with h;subst h
      have jd:=beq_true.1 jd
      subst jd
      obtain⟨L',hL',hE⟩:=hm.ec _ _ _ hg
      have:X.ρ v'=some L':=hL'
      rw[hL] at this
      injection this with this;subst this
      obtain⟨h1,h2,h3,h4⟩:=hE
      obtain⟨vs,g1,g2⟩:=Dk (X:=X) (b:=L.b) (o:=L.o+i*L.sz) (off:=off) (sz:=sz) (e:=e) fun j x hj=>h4 i e j x he hj
      exact⟨L.b,L.o+i*L.sz+off,vs,rfl,g1,g2,by simp;omega⟩
     ·cases h
    ·cases h
   ·cases h
  ·rename_i v' els hg
   split at h
   ·rename_i jd
    split at h
    ·rename_i e he
     split at h
     ·rename_i hle
      injection h with h;subst h
      have jd:=beq_true.1 jd
      subst jd
      obtain⟨L',hL',hE⟩:=hm.ec _ _ _ hg
      have:X.ρ v'=some L':=hL'
      rw[hL] at this
      injection this with this;subst this
      obtain⟨vs,g1,g2⟩:=Dk (X:=X) (b:=L.b) (o:=L.o+i*L.sz) (off:=off) (sz:=sz) (e:=e) fun j x hj=>(hE.2.2 i e j x he hj).2
      exact⟨L.b,L.o+i*L.sz+off,vs,rfl,g1,g2,by simp;omega⟩
     ·cases h
    ·cases h
   ·cases h
  ·cases h
  ·cases h
 ·rename_i e off
  split at h
  ·injection h with h; subst h
   obtain⟨b,o,rfl,h4⟩:=hv
   obtain⟨vs,g1,g2⟩:=Dk (X:=X) (b:=b) (o:=o) (off:=off) (sz:=sz) (e:=e) fun j x hj=>(h4 j x hj).2
   exact⟨b,o+off,vs,rfl,g1,g2,by simp;omega⟩
  ·cases h
 ·cases h
section
variable {P:Program}
theorem eM {t:TypeId} {sz:Nat} (h:cY P t=some sz):∃ i,P.info? t=some i∧i.size=sz:=by
 unfold cY at h
 cases hi:P.info? t with
 |none=>rw[hi] at h;cases h
 |some i=>rw[hi] at h;exact⟨i,rfl,by simpa using h⟩
theorem zb {t:TypeId} {b:Bool} (h:l6 P t=some b) (w:World):(isAgg t).run P w=.ok b w:=by
 unfold l6 at h
 split at h
 ·rename_i hu;injection h with h;subst h;simp[isAgg,run_underlying hu]
 ·rename_i hu;injection h with h;subst h;simp[isAgg,run_underlying hu]
 ·rename_i d h1 h2 hu
  injection h with h;subst h
  simp only[isAgg,Sem.run_bind,run_underlying hu,Result.andThen_ok]
  cases d<;>first|rfl|(exact absurd rfl (h1 _))|(exact absurd rfl (h2 _ _))
 ·cases h
theorem zd {X:Cx} {t:TypeId} {sz:Nat} {agg:Bool} {b o:Nat} {cs:List AV} {vs:List Value} {r:AV} (hsz:cY P t=some sz) (hag:l6 P t=some agg) (h1:agg=true∨sz=1)
  (hc:∀ j u,vs[j]?=some u→X.w.cell? ⟨b,o+j,none⟩=some u) (h2:az (VC X) cs vs) (hl:cs.length=sz) (hr:fq agg cs=some r) :
  ∃ v,(loadVar t ⟨b,o,none⟩).run P X.w=.ok v X.w∧V1 X r v:=by
 obtain⟨i,hi,hs⟩:=eM hsz
 have hag:=zb hag X.w
 have yY:∀ j u,vs[j]?=some u→X.w.cell? ((⟨b,o,none⟩:Addr).add j)=some u:=fun j u h=>by rw[Addr.add_lit];exact hc j u h
 cases agg with
 |true=>
  have hl':vs.length=sz:=by rw[←h2.length,hl]
  have:=run_loadCells_list (P:=P) X.w ⟨b,o,none⟩ vs yY
  rw[hl'] at this
  simp only[fq] at hr
  injection hr with hr;subst hr
  exact⟨.agg vs.toArray,by simp[loadVar,hag,sizeOf,typeInfo,hi,hs,this],vs.toArray,rfl,by simpa using h2⟩
 | false =>
  simp only[fq] at hr
  split at hr
  ·injection hr with hr; subst hr
   match vs,h2 with
   |[u],h2=>
    have:=hc 0 u rfl
    simp only[Nat.add_zero] at this
    exact⟨u,by simp[loadVar,hag,this],.fQ h2.1⟩
   |[],h2=>exact h2.elim
   |_ :: _ :: _,h2=>exact h2.2.elim
  ·cases hr
theorem iI (a:Addr) (w:World):(Instr.sureAddr (.pointer (some a))).run P w=.ok a w:=rfl
def Quiet (P:Program) (X:Cx) (o:Oper) (a:Act) (val:AV):Prop:=∃ v,(execOp a.eval o).run P X.w=.ok (.value v) X.w∧VR X val v
variable {X:Cx} {nt:Nat} {s:St} {a:Act}
theorem Q4 (hs:eL X nt s a) {o:Oper} {t:TypeId} {x:Operand} {y:bR} {sz:Nat} {agg:Bool} {cs:List AV} {r:AV} (ho:o.op=.load t x) (hsz:cY P t=some sz) (hag:l6 P t=some agg) (h1:agg=true∨sz=1)
  (hx:cL x=some y) (hl:pq s.mem sz (y.ev s.slots)=some cs) (hr:fq agg cs=some r):Quiet P X o a r:=by
 obtain⟨b,off,vs,hv,hc,h2,hlen⟩:=EL hs.mem (bw hs hx) hl
 obtain⟨v,hrun,hV⟩:=zd (P:=P) hsz hag h1 hc h2 hlen hr
 exact⟨v,by simp[execOp,ho,Instr.loadAt,hv,iI,hrun],.tH hV⟩
theorem Q5 (hs:eL X nt s a) {o:Oper} {c x y:Operand} {c' x' y':bR} {b:Bool} (ho:o.op=.pick c x y) (hc:cL c=some c') (hx:cL x=some x') (hy:cL y=some y')
  (hb:iG (c'.ev s.slots)=some b):Quiet P X o a (if b then x'.ev s.slots else y'.ev s.slots):=by
 have:=l9 hb (bw hs hc)
 refine⟨if b then a.eval x else a.eval y,by simp[execOp,ho,this,asBool],?_⟩
 cases b
 ·exact bw hs hy
 ·exact bw hs hx
theorem UU (hs:eL X nt s a) {o:Oper} {op:BinOp} {t u:TypeId} {x y:Operand} {x' y':bR} {r:Value} (ho:o.op=.binOp op t x y u) (hx:cL x=some x') (hy:cL y=some y')
  (h:M1 op (x'.ev s.slots) (y'.ev s.slots)=some r):Quiet P X o a (kL r):=by
 obtain⟨h1,h2,h3⟩:=Q3 (P:=P) t (bw hs hx) (bw hs hy) h
 refine⟨r,?_,.kL h2⟩
 have hg:(eqGuard op t x y (a.eval x) (a.eval y)).run P X.w=.ok () X.w:=by
  rcases h3 with⟨k,m,h3⟩|⟨m,h3⟩<;>rw[h3]<;>exact kG (by simp) (by simp)
 simp[execOp,ho,hg,h1]
theorem UW (hs:eL X nt s a) {o:Oper} {neg:Bool} {t u:TypeId} {x y:Operand} {x' y':bR} {p q:Bool} (ho:o.op=.binOp (if neg then .neq else .eql) t x y u) (ht:P.underlying t=some .bool) (hx:cL x=some x') (hy:cL y=some y')
  (hp:iG (x'.ev s.slots)=some p) (hq:iG (y'.ev s.slots)=some q):Quiet P X o a (kL (.bool (if neg then !(p==q) else p==q))):=by
 have h1:=l9 hp (bw hs hx)
 have h2:=l9 hq (bw hs hy)
 refine⟨.bool (if neg then !(p==q) else p==q),?_,.kL rfl⟩
 have hg:∀ op,(eqGuard op t x y (.bool p) (.bool q)).run P X.w=.ok () X.w:=fun op=>kG (by simp) (by simp)
 have he':∀ d,(Op.equalIn (d+1) t (.bool p) (.bool q)).run P X.w=.ok (p==q) X.w:=fun d=>by simp[Op.equalIn,run_underlying ht]
 have he:(Op.equal t (.bool p) (.bool q)).run P X.w=.ok (p==q) X.w:=he' 9999
 cases neg<;>simp[execOp,ho,h1,h2,hg,binOp,he]
theorem Q6 {y:Operand} (h:cL y=some (.c (.d (.sc .nilIface)))):y=.const .nilIface:=by
 cases y with
 |tmp t=>simp[cL] at h
 |func f=>simp[cL] at h
 |global g=>simp[cL] at h
 | const v =>
  simp only[cL] at h
  cases hc:sx v with
  |none=>rw[hc] at h;cases h
  | some z =>
   rw[hc] at h
   simp only[Option.map_some,Option.some.injEq,bR.c.injEq] at h
   subst h
   have key:∀ {u:Value},gK u=some (.d (.sc .nilIface))→u=.nilIface:=by
    intro u hu
    unfold gK at hu
    split at hu
    ·simp at hu
    ·cases hu
    ·cases hu
    ·cases hu
    ·rename_i fn first cap
     cases fn with
     |func f=>
      simp only at hu
      by_cases hz:first.size=0∧cap.size=0
      ·rw[if_pos hz] at hu;simp at hu
      ·rw[if_neg hz] at hu;cases hu
     |_=>cases hu
    ·simp at hu;exact hu
   unfold sx at hc
   split at hc
   ·obtain ⟨_, _, h⟩ := Option.map_eq_some_iff.1 hc
    simp at h
   ·split at hc
    ·simp at hc
    ·cases hc
   ·rw[key hc]
theorem EM (hs:eL X nt s a) {o:Oper} {neg:Bool} {t u:TypeId} {ms:Array (String×TypeId)} {x y:Operand} {x':bR} (ho:o.op=.binOp (if neg then .neq else .eql) t x y u) (ht:P.underlying t=some (.interface ms)) (hx:cL x=some x') (hy:cL y=some (.c (.d (.sc .nilIface)))) :
  (x'.ev s.slots=.d .er→Quiet P X o a (kL (.bool neg)))∧(x'.ev s.slots=.d (.sc .nilIface)→Quiet P X o a (kL (.bool !neg))):=by
 have hyc:=Q6 hy
 subst hyc
 have MP:a.eval (.const .nilIface)=.nilIface:=rfl
 constructor
 ·intro hq
  have hv:=bw hs hx
  rw[hq] at hv
  have h0:∃ tt p,a.eval x=.iface tt p:=by
   revert hv
   generalize a.eval x=u
   intro hv
   cases hv with
   |er v h1=>exact h1
  obtain⟨tt,p,h1⟩:=h0
  refine⟨.bool neg,?_,.kL rfl⟩
  have hg:∀ op,(eqGuard op t x (.const .nilIface) (.iface tt p) .nilIface).run P X.w=.ok () X.w:=fun op=>kG (by simp) (by simp)
  have he':∀ d,(Op.equalIn (d+1) t (.iface tt p) .nilIface).run P X.w=.ok false X.w:=fun d=>by simp[Op.equalIn,run_underlying ht]
  have he:(Op.equal t (.iface tt p) .nilIface).run P X.w=.ok false X.w:=he' 9999
  cases neg<;>simp[execOp,ho,h1,MP,hg,binOp,he]
 ·intro hq
  have hv:=bw hs hx
  rw[hq] at hv
  have h1:a.eval x=.nilIface:=by
   revert hv
   generalize a.eval x=u
   intro hv
   cases hv with
   |sc v h1=>rfl
  refine⟨.bool !neg,?_,.kL rfl⟩
  have hg:∀ op,(eqGuard op t x (.const .nilIface) .nilIface .nilIface).run P X.w=.ok () X.w:=fun op=>by cases op<;>simp[eqGuard]
  have he':∀ d,(Op.equalIn (d+1) t .nilIface .nilIface).run P X.w=.ok true X.w:=fun d=>by simp[Op.equalIn,run_underlying ht]
  have he:(Op.equal t .nilIface .nilIface).run P X.w=.ok true X.w:=he' 9999
  cases neg<;>simp[execOp,ho,h1,MP,hg,binOp,he]
theorem M9 (hs:eL X nt s a) {o:Oper} {neg:Bool} {t u:TypeId} {fs:Array Field} {l:List (Nat×Nat)} {sz:Nat} {x y:Operand} {x' y':bR} {xs ys:List AV} {b:Bool} (ho:o.op=.binOp (if neg then .neq else .eql) t x y u)
  (ht:P.underlying t=some (.struct fs)) (hg:P.eqGuardType P.depth t=false) (hc:mP P 20 t 0=some l) (hsz:cY P t=some sz) (hx:cL x=some x') (hy:cL y=some y')
  (h1:x'.ev s.slots=.agg xs) (h2:y'.ev s.slots=.agg ys) (h3:xs.length=sz) (h4:ys.length=sz) (hb:kK xs ys l=some b):Quiet P X o a (kL (.bool (if neg then !b else b))):=by
 have g1:=bw hs hx
 have g2:=bw hs hy
 rw[h1] at g1;rw[h2] at g2
 have s1:∃ us,a.eval x=.agg us∧us.size=sz:=by obtain⟨us,e,hh⟩:=g1;exact⟨us,e,by rw[←h3,hh.length,Array.length_toList]⟩
 have s2:∃ us,a.eval y=.agg us∧us.size=sz:=by obtain⟨us,e,hh⟩:=g2;exact⟨us,e,by rw[←h4,hh.length,Array.length_toList]⟩
 obtain⟨us,vs,e1,e2,ZB,he2⟩:=UT (P:=P) hc hg ⟨fs,ht⟩ g1 g2 hb x y
 obtain⟨us',e1',s1⟩:=s1
 obtain⟨vs',QC,s2⟩:=s2
 rw[e1] at e1';rw[e2] at QC
 injection e1' with e1';injection QC with QC
 subst e1';subst QC
 have he:=he2 (by rw[hsz];exact s1) (by rw[hsz];exact s2)
 refine⟨.bool (if neg then !b else b),?_,.kL rfl⟩
 rw[e1,e2] at ZB he
 cases neg<;>simp[execOp,ho,e1,e2,ZB,binOp,he]
theorem ZC (hs:eL X nt s a) {o:Oper} {op:UnOp} {t:TypeId} {x:Operand} {x':bR} {r:Value} (ho:o.op=.unOp op t x) (hx:cL x=some x') (h:Zv op (x'.ev s.slots)=some r):Quiet P X o a (kL r):=by
 have hv:=bw hs hx
 unfold Zv at h
 split at h
 ·rename_i hq
  rw[hq] at hv
  have hv:=hv.sc
  cases op<;>simp only at h<;>first
   |(cases h;done)
   |(injection h with h;subst h;exact⟨_,by simp[execOp,ho,hv,Op.unary],.kL rfl⟩)
 ·rename_i hq
  rw[hq] at hv
  have hv:=hv.sc
  cases op<;>simp only[BR,Option.map_some] at h<;>first
   |(cases h;done)
   |(injection h with h;subst h;exact⟨_,by simp[execOp,ho,hv,Op.unary,Op.intArith,Op.intBits],.kL rfl⟩)
 ·cases h
theorem Q7 (hs:eL X nt s a) {o:Oper} {src dst:TypeId} {k:IntKind} {x:Operand} {x':bR} {n:Int} (ho:o.op=.convert src dst x) (ht:P.underlying dst=some (.int k)) (hsrc:(P.underlying src).isSome=true)
  (hx:cL x=some x') (h:pR (x'.ev s.slots)=some n):Quiet P X o a (kL (.int k (k.wrap n))):=by
 obtain⟨k',hv⟩:=BW h (bw hs hx)
 obtain⟨d,hd⟩:=Option.isSome_iff_exists.1 hsrc
 refine⟨.int k (k.wrap n),?_,.kL rfl⟩
 simp[execOp,ho,hv,convert,run_underlying ht,run_underlying hd,Conv.intToInt]
theorem HJ (hs:eL X nt s a) {o:Oper} {x:Operand} {x':bR} {i:Nat} {vs:List AV} {r:AV} (ho:o.op=.extract x i) (hx:cL x=some x') (h:x'.ev s.slots=.gZ vs) (hr:vs[i]?=some r):Quiet P X o a r:=by
 have hv:=bw hs hx
 rw[h] at hv
 obtain⟨us,e,h2⟩:=hv
 obtain⟨u,hu,h3⟩:=h2.get _ _ hr
 refine⟨u,?_,.tH h3⟩
 have:us[i]?=some u:=by simpa using hu
 simp[execOp,ho,e,Instr.extract,this]
theorem JL {t:TypeId} {off sz:Nat} {agg:Bool} {cs:List AV} {us:Array Value} {r:AV} (hsz:cY P t=some sz) (hag:l6 P t=some agg) (h1:agg=true∨sz=1) (hc:az (VC X) cs us.toList) (hle:off+sz≤cs.length)
  (hr:fq agg ((cs.drop off).take sz)=some r):∃ v,(part t us off).run P X.w=.ok v X.w∧V1 X r v:=by
 obtain⟨i,hi,hs⟩:=eM hsz
 have hag:=zb hag X.w
 cases agg with
 |true=>
  simp only[fq] at hr
  injection hr with hr;subst hr
  refine⟨.agg (us.extract off (off+sz)),by simp[part,hag,sizeOf,typeInfo,hi,hs],us.extract off (off+sz),rfl,?_⟩
  have:=(hc.drop off).take sz
  rw[Array.toList_extract]
  simpa[List.extract] using this
 | false =>
  have hsz:sz=1:=h1.resolve_left (by simp)
  subst hsz
  simp only[fq] at hr
  split at hr
  ·rename_i v hv
   injection hr with hr;subst hr
   have:cs[off]?=some v:=by
    have:((cs.drop off).take 1)[0]?=some v:=by rw[hv];rfl
    simpa using (cI this).1
   obtain⟨u,hu,h3⟩:=hc.get _ _ this
   refine⟨u,?_,.fQ h3⟩
   have:us[off]?=some u:=by simpa using hu
   simp[part,hag,this]
  ·cases hr
theorem Na (hs:eL X nt s a) {o:Oper} {t:TypeId} {fs:Array Field} {f:Field} {j sz:Nat} {agg:Bool} {x:Operand} {x':bR} {cs:List AV} {r:AV} (ho:o.op=.field t x j) (ht:P.underlying t=some (.struct fs)) (hf:fs[j]?=some f)
  (hsz:cY P f.type=some sz) (hag:l6 P f.type=some agg) (h1:agg=true∨sz=1) (hx:cL x=some x') (h:x'.ev s.slots=.agg cs) (hle:f.offset+sz≤cs.length) (hr:fq agg ((cs.drop f.offset).take sz)=some r):Quiet P X o a r:=by
 have hv:=bw hs hx
 rw[h] at hv
 obtain⟨us,e,h2⟩:=hv
 obtain⟨v,hrun,hV⟩:=JL (P:=P) hsz hag h1 h2 hle hr
 refine⟨v,?_,.tH hV⟩
 simp[execOp,ho,e,Instr.field,run_underlying ht,hf,asAgg,hrun]
theorem KW (hs:eL X nt s a) {o:Oper} {t e:TypeId} {n k sz:Nat} {agg:Bool} {x i:Operand} {x' i':bR} {cs:List AV} {r:AV} (ho:o.op=.index t x i) (ht:P.underlying t=some (.array n e))
  (hsz:cY P e=some sz) (hag:l6 P e=some agg) (h1:agg=true∨sz=1) (hx:cL x=some x') (hi:cL i=some i') (h:x'.ev s.slots=.agg cs) (hk:fN (i'.ev s.slots)=some k) (hkn:k<n) (hle:k*sz+sz≤cs.length)
  (hr:fq agg ((cs.drop (k*sz)).take sz)=some r):Quiet P X o a r:=by
 have hv:=bw hs hx
 rw[h] at hv
 obtain⟨us,he,h2⟩:=hv
 obtain⟨kd,hik⟩:=jv hk (bw hs hi)
 obtain⟨v,hrun,hV⟩:=JL (P:=P) hsz hag h1 h2 hle hr
 obtain⟨j,hj,Dl⟩:=eM hsz
 refine⟨v,?_,.tH hV⟩
 simp[execOp,ho,he,hik,Instr.index,asIntOf,run_underlying ht,sizeOf,typeInfo,hj,Dl,hkn,hrun]
theorem KX (hs:eL X nt s a) {o:Oper} {t:TypeId} {k:Nat} {x i:Operand} {x' i':bR} {b:ByteArray} {c:UInt8} (ho:o.op=.index t x i) (ht:P.underlying t=some .string)
  (hx:cL x=some x') (hi:cL i=some i') (h:x'.ev s.slots=.d (.sc (.string b))) (hk:fN (i'.ev s.slots)=some k) (hc:b.data.toList[k]?=some c):Quiet P X o a (kL (.int .u8 c.toNat)):=by
 have hv:=bw hs hx
 rw[h] at hv
 have hv:=hv.sc
 obtain⟨kd,hik⟩:=jv hk (bw hs hi)
 refine⟨_,?_,.kL rfl⟩
 have hlt:k<b.size:=by
  have:=(List.getElem?_eq_some_iff.1 hc).1
  simpa using this
 have hb:b[k]?=some c:=by
  rw[getElem?_pos b k hlt]
  have:=(List.getElem?_eq_some_iff.1 hc).2
  congr 1
 simp[execOp,ho,hv,hik,Instr.index,asIntOf,run_underlying ht,hb]
theorem tK (hs:eL X nt s a) {o:Oper} {t:TypeId} {fs:Array Field} {f:Field} {j sz:Nat} {x:Operand} {x':bR} {r:AV} (ho:o.op=.fieldAddr t x j) (ht:P.underlying t=some (.struct fs)) (hf:fs[j]?=some f)
  (hsz:cY P f.type=some sz) (h0:sz≠0) (hx:cL x=some x')
  (hr:(∃ lv sl af i off,x'.ev s.slots=.ptr lv sl af i off∧r=.ptr lv sl af i (off+f.offset))∨∃ e off,x'.ev s.slots=.fo e off∧r=.fo e (off+f.offset)):Quiet P X o a r:=by
 have hv:=bw hs hx
 obtain⟨i,hi,hsi⟩:=eM hsz
 have run:∀ b off,(execOp a.eval o).run P X.w=(Sem.run P (do let v ←Instr.fieldAt t (.pointer (some ⟨b,off,none⟩)) j;pure (Next.value v)) X.w)→(execOp a.eval o).run P X.w=.ok (.value (.pointer (some ⟨b,off+f.offset,none⟩))) X.w:=by
  intro b off h
  rw[h]
  simp[Instr.fieldAt,run_underlying ht,hf,iI,fieldPlace,sizeOf,typeInfo,hi,hsi,h0,Addr.add_lit]
 rcases hr with⟨lv,sl,af,i',off,hq,rfl⟩|⟨e,off,hq,rfl⟩
 ·rw [hq] at hv
  obtain⟨L,hL,hv⟩:=hv
  refine⟨_,run L.b (L.o+i'*L.sz+off) (by simp only[execOp,ho,hv]),L,hL,by rw[Nat.add_assoc]⟩
 ·rw [hq] at hv
  obtain⟨b,o',hv,h⟩:=hv
  exact⟨_,run b (o'+off) (by simp only[execOp,ho,hv]),b,o',by rw[Nat.add_assoc],h⟩
end
end Go.bI
