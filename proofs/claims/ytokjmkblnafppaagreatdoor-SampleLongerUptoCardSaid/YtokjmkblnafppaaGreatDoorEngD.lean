/- The operations that only compute: each does in the model what the abstract machine says. -/
import Derived.Test.YtokjmkblnafppaaGreatDoorEngB
import Derived.Test.YtokjmkblnafppaaGreatDoorEngC
import Derived.Laws.StructEq
import Derived.Laws.Slices
import Derived.Laws.Entries
set_option linter.unusedVariables false
set_option linter.unusedSimpArgs false
namespace Go.bI
open Go Go.RowKit
theorem VR.sc {X:Cx} {u v:Value} (h:VR X (.d (.sc u)) v):v=u:=by
  have h:DR X.w X.F (.sc u) v:=h
  cases h
  rfl
theorem VR.yZ {X:Cx} {v:Value} (h:v.oneCell'=true):VR X (.d (.sc v)) v:=DR.sc v h
theorem VR.kL {X:Cx} {v:Value} (h:v.oneCell'=true):VR X (kL v) v:=DR.sc v h
theorem tG {X : Cx} {v : Value} {x : AV} (h : gK v = some x) : VC X x v := by
  cases v with
  | slice a n c =>
    simp only[gK] at h
    split at h
    · rename_i hv
      cases hv
      injection h with h;subst h
      exact⟨none,0,0,0,rfl,fun h=>absurd h (by simp),by simp,fun i e j x h=>by simp at h⟩
    all_goals first|(cases h;done)|simp_all
  |agg cs=>simp[gK] at h
  |tuple cs=>simp[gK] at h
  | func fn first cap =>
    simp only[gK] at h
    split at h
    · split at h
      · rename_i h0
        injection h with h;subst h
        obtain⟨h1,h2⟩:=h0
        rw[Array.size_eq_zero_iff] at h1 h2
        subst h1;subst h2
        exact⟨#[],rfl,trivial⟩
      · cases h
    · cases h
  |_=>simp only[gK] at h;injection h with h;subst h;exact DR.sc _ rfl
theorem kF {X:Cx} : ∀ {vs:List Value} {xs:List AV},eS vs=some xs→az (VC X) xs vs
  |[],xs,h=>by simp[eS] at h;subst h;trivial
  | v :: r, xs, h => by
    simp only[eS] at h
    split at h
    · rename_i x xs' h1 h2
      injection h with h;subst h
      exact⟨tG h1,kF h2⟩
    · cases h
theorem VR.fQ {X:Cx} {x:AV} {v:Value} (h:VC X x v):VR X x v:=by
  cases x with
  |agg cs=>exact h.elim
  |gZ cs=>exact h.elim
  |_=>exact h
theorem VR.tH {X:Cx} {x:AV} {v:Value} (h:V1 X x v):VR X x v:=by
  cases x with
  |gZ cs=>exact h.elim
  |_=>exact h
theorem V1.fQ {X:Cx} {x:AV} {v:Value} (h:VC X x v):V1 X x v:=by
  cases x with
  |agg cs=>exact h.elim
  |_=>exact h
theorem KU {X:Cx} {v:Value} {x:AV} (h:sx v=some x):VR X x v:=by
  cases v with
  | agg cs =>
    simp only[sx] at h
    cases hc:eS cs.toList with
    |none=>rw[hc] at h;cases h
    | some xs =>
      rw[hc] at h
      injection h with h;subst h
      exact⟨cs,rfl,kF hc⟩
  | tuple vs =>
    simp only[sx] at h
    split at h
    · rename_i h0
      rw[Array.size_eq_zero_iff] at h0
      injection h with h;subst h;subst h0
      exact⟨#[],rfl,trivial⟩
    · cases h
  |_=>exact .fQ (tG h)
theorem l8 {X:Cx} : VR X jr undef:=⟨#[],rfl,trivial⟩
structure eL (X:Cx) (nt:Nat) (s:St) (a:Act):Prop where
  slots:∀ t,VR X (jC s.slots t) (a.tmps.getD t undef)
  size:a.tmps.size=nt
  defers:a.defers=[]
  mem:aB X s.mem s.aE
theorem bw {X:Cx} {nt:Nat} {s:St} {a:Act} (hs:eL X nt s a) {x:Operand} {y:bR} (h:cL x=some y):VR X (y.ev s.slots) (a.eval x):=by
  cases x with
  |tmp t=>simp[cL] at h;subst h;exact hs.slots t
  | const v =>
    cases hc:sx v with
    |none=>simp[cL,hc] at h
    |some x=>simp[cL,hc] at h;subst h;exact KU hc
  |func f=>simp[cL] at h;subst h;exact⟨#[],rfl,trivial⟩
  |global g=>simp[cL] at h
theorem tI {X:Cx} {nt:Nat} {s:St} {a:Act} (hs:eL X nt s a):∀ {xs:List Operand} {ys:List bR},iX xs=some ys→az (VR X) (Hw s.slots ys) (xs.map a.eval)
  |[],ys,h=>by simp[iX] at h;subst h;trivial
  | x :: r, ys, h => by
    simp only[iX] at h
    split at h
    · rename_i y ys' h1 h2
      injection h with h;subst h
      exact⟨bw hs h1,tI hs h2⟩
    · cases h
theorem l9 {X:Cx} {x:AV} {v:Value} {b:Bool} (h:iG x=some b) (hv:VR X x v):v=.bool b:=by
  unfold iG at h
  split at h
  · injection h with h;subst h;exact hv.sc
  · cases h
theorem BW {X:Cx} {x:AV} {v:Value} {n:Int} (h:pR x=some n) (hv:VR X x v):∃ k,v=.int k n:=by
  unfold pR at h
  split at h
  · injection h with h;subst h;exact⟨_,hv.sc⟩
  · cases h
theorem jv {X:Cx} {x:AV} {v:Value} {n:Nat} (h:fN x=some n) (hv:VR X x v):∃ k,v=.int k (n:Int):=by
  unfold fN at h
  cases hi:pR x with
  |none=>rw[hi] at h;cases h
  | some m =>
    rw[hi] at h
    simp only[Option.bind_some] at h
    split at h
    · rename_i h0
      injection h with h;subst h
      obtain⟨k,hk⟩:=BW hi hv
      exact⟨k,by rw[hk,Int.toNat_of_nonneg h0]⟩
    · cases h
section
variable {P:Program}
theorem Q1 {op:BinOp} {k k':IntKind} {m n:Int} {v:Value} (t:TypeId) (w:World) (h:Dc op k m k' n=some v) :
    (binOp op t (.int k m) (.int k' n)).run P w=.ok v w∧v.oneCell'=true:=by
  have plain:∀ (f:Value),v=f→f.oneCell'=true→(binOp op t (.int k m) (.int k' n)).run P w=.ok f w→(binOp op t (.int k m) (.int k' n)).run P w=.ok v w∧v.oneCell'=true:=by
    rintro f rfl h1 h2
    exact⟨h2,h1⟩
  by_cases hk:k=k'
  · subst hk
    cases op<;>simp only[Dc,BR,Option.map_some,ne_eq,not_true_eq_false,if_false] at h<;>first
      |(cases h;done)
      |(injection h with h;refine plain _ h.symm rfl ?_;simp[binOp,Op.intArith,Op.intBits,Op.intCmp];done)
      | (split at h
         · cases h
         · rename_i hn
           injection h with h
           refine plain _ h.symm rfl ?_
           simp[binOp,Op.intDiv,Op.shift,hn])
  · cases op<;>simp only[Dc,ne_eq,hk,not_false_eq_true,if_true] at h<;>first
      |(cases h;done)
      | (split at h
         · cases h
         · rename_i hn
           injection h with h
           refine plain _ h.symm rfl ?_
           simp[binOp,Op.shift,hn])
theorem Q2 {op:BinOp} {x y:ByteArray} {v:Value} (t:TypeId) (w:World) (h:HF op x y=some v) :
    (binOp op t (.string x) (.string y)).run P w=.ok v w∧v.oneCell'=true:=by
  have hb:(binOp op t (.string x) (.string y))=Op.stringOp op x y:=by cases op<;>rfl
  rw[hb]
  cases op with
  | add =>
    simp only[HF] at h
    split at h
    · cases h
    · rename_i hn
      injection h with h;subst h
      exact⟨by simp only[Op.stringOp];rw[if_neg hn];rfl,rfl⟩
  | _ => simp only [HF] at h <;> first
    |(cases h;done)
    |(injection h with h;subst h;exact⟨by simp[Op.stringOp],rfl⟩)
theorem Q3 {X:Cx} {op:BinOp} {x y:AV} {u v r:Value} (t:TypeId) (hx:VR X x u) (hy:VR X y v) (h:M1 op x y=some r) :
    (binOp op t u v).run P X.w=.ok r X.w∧r.oneCell'=true∧((∃ k m,u=.int k m)∨∃ b,u=.string b):=by
  unfold M1 at h
  split at h
  · rw [hx.sc, hy.sc]
    obtain⟨h1,h2⟩:=Q1 (P:=P) t X.w h
    exact⟨h1,h2,.inl ⟨_,_,rfl⟩⟩
  · rw [hx.sc, hy.sc]
    obtain⟨h1,h2⟩:=Q2 (P:=P) t X.w h
    exact⟨h1,h2,.inr ⟨_,rfl⟩⟩
  · cases h
theorem kG {op:BinOp} {t:TypeId} {x y:Operand} {u v:Value} {w:World} (h1:u≠.nilIface) (h2:∀ c,u≠.agg c) :
    (eqGuard op t x y u v).run P w=.ok () w:=by
  cases u<;>first|(exact absurd rfl h1)|(exact absurd rfl (h2 _))|(cases op<;>rfl)
theorem tJ (xs ys : List AV) : ∀ (l m : List (Nat × Nat)), kK xs ys (l ++ m) = match kK xs ys l with
    |some true=>kK xs ys m
    |r=>r
  |[],m=>rfl
  | o :: l, m => by
    simp only[List.cons_append,kK]
    cases xs[o.1]? with
    |none=>rfl
    | some x =>
      cases ys[o.1]? with
      |none=>rfl
      | some y =>
        simp only
        cases EH o.2 x y with
        |none=>rfl
        | some b => cases b with
          |true=>exact tJ xs ys l m
          |false=>rfl
theorem JK {X : Cx} {kd : Nat} {x y : AV} {u v : Value} {b : Bool} (h : EH kd x y = some b) (hx : VC X x u) (hy : VC X y v) :
    (∃ p q,kd=0∧u=.bool p∧v=.bool q∧b=(p==q))∨(∃ k p q,kd=1∧u=.int k p∧v=.int k q∧b=(p==q))∨∃ p q,2≤kd∧u=.string p∧v=.string q∧b=(p==q):=by
  unfold EH at h
  split at h
  · split at h
    · injection h with h
      exact .inl ⟨_,_,rfl,VR.sc (.fQ hx),VR.sc (.fQ hy),h.symm⟩
    · cases h
  · split at h
    · split at h
      · rename_i hk
        subst hk
        injection h with h
        exact .inr (.inl ⟨_,_,_,rfl,VR.sc (.fQ hx),VR.sc (.fQ hy),h.symm⟩)
      · cases h
    · cases h
  · split at h
    · cases h
    · cases h
    · rename_i h0 h1
      injection h with h
      refine .inr (.inr ⟨_,_,?_,VR.sc (.fQ hx),VR.sc (.fQ hy),h.symm⟩)
      rcases kd with _|_|kd
      · exact absurd rfl h0
      · exact absurd rfl h1
      · omega
  · cases h
theorem KV {X:Cx} {xs ys:List AV} {us vs:Array Value} (hx:az (VC X) xs us.toList) (hy:az (VC X) ys vs.toList) {off kd:Nat} {b:Bool}
    (h:kK xs ys [(off,kd)]=some b):∃ u v,us[off]?=some u∧vs[off]?=some v∧
      ((∃ p q,kd=0∧u=.bool p∧v=.bool q∧b=(p==q))∨(∃ k p q,kd=1∧u=.int k p∧v=.int k q∧b=(p==q))∨∃ p q,2≤kd∧u=.string p∧v=.string q∧b=(p==q)):=by
  simp only[kK] at h
  split at h
  · rename_i x y h1 h2
    obtain⟨u,hu,hxu⟩:=hx.get _ _ h1
    obtain⟨v,hv,hyv⟩:=hy.get _ _ h2
    refine⟨u,v,by simpa using hu,by simpa using hv,?_⟩
    split at h
    · rename_i h3
      injection h with h;subst h
      exact JK h3 hxu hyv
    · rename_i h3
      injection h with h;subst h
      exact JK h3 hxu hyv
    · cases h
  · cases h
theorem HI {X : Cx} {xs ys : List AV} {us vs : Array Value} (hx : az (VC X) xs us.toList) (hy : az (VC X) ys vs.toList) (w : World) :
    ∀ (n : Nat) (t : TypeId) (off : Nat) (l : List (Nat × Nat)) (sz d : Nat) (b : Bool) (A B : Array Value) (o : Nat), mP P n t off = some l → cY P t = some sz → n ≤ d → kK xs ys l = some b →
      (∀ j,j<sz→A[o+j]?=us[off+j]?)→(∀ j,j<sz→B[o+j]?=vs[off+j]?)→
      ∃ p q,(part t A o).run P w=.ok p w∧(part t B o).run P w=.ok q w∧(Op.equalIn d t p q).run P w=.ok b w:=by
  intro n
  induction n with
  |zero=>intro t off l sz d b A B o h;cases h
  | succ n ih =>
    intro t off l sz d b A B o h hsz hd hb hA hB
    obtain⟨i,hi,hs⟩:∃ i,P.info? t=some i∧i.size=sz:=by
      unfold cY at hsz
      cases hi:P.info? t with
      |none=>rw[hi] at hsz;cases hsz
      |some i=>rw[hi] at hsz;exact⟨i,rfl,by simpa using hsz⟩
    obtain⟨d,rfl⟩:∃ e,d=e+1:=⟨d-1,by omega⟩
    simp only[mP,hsz] at h
    have basic:∀ kd,kK xs ys [(off,kd)]=some b→sz=1→(isAgg t).run P w=.ok false w→
        (∀ p q,kd=0→(Op.equalIn (d+1) t (.bool p) (.bool q)).run P w=.ok (p==q) w)→
        (∀ k p q,kd=1→(Op.equalIn (d+1) t (.int k p) (.int k q)).run P w=.ok (p==q) w)→
        (∀ p q,2≤kd→(Op.equalIn (d+1) t (.string p) (.string q)).run P w=.ok (p==q) w)→
        ∃ p q,(part t A o).run P w=.ok p w∧(part t B o).run P w=.ok q w∧(Op.equalIn (d+1) t p q).run P w=.ok b w:=by
      intro kd he h1 hag hb0 sD xQ
      obtain⟨u,v,hu,hv,hk⟩:=KV hx hy he
      have hA0:=hA 0 (by omega)
      have hB0:=hB 0 (by omega)
      simp only[Nat.add_zero] at hA0 hB0
      rw[hu] at hA0;rw[hv] at hB0
      refine⟨u,v,by simp[part,hag,hA0],by simp[part,hag,hB0],?_⟩
      rcases hk with⟨p,q,hk,rfl,rfl,rfl⟩|⟨k,p,q,hk,rfl,rfl,rfl⟩|⟨p,q,hk,rfl,rfl,rfl⟩
      · exact hb0 p q hk
      · exact sD k p q hk
      · exact xQ p q hk
    split at h
    · rename_i h1 hu
      injection h with h;subst h
      refine basic 0 hb (by simpa using h1) (by simp[isAgg,run_underlying hu]) (fun p q _=>by simp[Op.equalIn,run_underlying hu]) (fun _ _ _ h=>by omega) (fun _ _ h=>by omega)
    · rename_i h1 hu
      injection h with h;subst h
      refine basic 1 hb (by simpa using h1) (by simp[isAgg,run_underlying hu]) (fun _ _ h=>by omega) (fun k p q _=>by simp[Op.equalIn,run_underlying hu]) (fun _ _ h=>by omega)
    · rename_i h1 hu
      injection h with h;subst h
      refine basic 2 hb (by simpa using h1) (by simp[isAgg,run_underlying hu]) (fun _ _ h=>by omega) (fun _ _ _ h=>by omega) (fun p q _=>by simp[Op.equalIn,run_underlying hu])
    · rename_i sz' fs h1 hu
      injection h1 with h1;subst h1
      split at h
      · cases h
      · rename_i hst
        have hf:P.fieldsOf t=fs:=by simp[Program.fieldsOf,hu]
        refine⟨.agg (A.extract o (o+sz)),.agg (B.extract o (o+sz)),by simp[part,isAgg,run_underlying hu,sizeOf,typeInfo,hi,hs],by simp[part,isAgg,run_underlying hu,sizeOf,typeInfo,hi,hs],?_⟩
        rw[run_equalIn_struct w d t _ _ (by rw[hf];exact hu) (by simpa using hst),hf]
        have hex:∀ (C us:Array Value),(∀ j,j<sz→C[o+j]?=us[off+j]?)→∀ f fz,f+fz≤sz→∀ j,j<fz→(C.extract o (o+sz))[f+j]?=us[off+f+j]?:=by
          intro C us hC f fz hfz j hj
          rw[Array.getElem?_extract]
          have:=hC (f+j) (by omega)
          rw[←Nat.add_assoc,←Nat.add_assoc] at this
          split
          · rw[←this,Nat.add_assoc]
          · rename_i hn
            rw[←this,Array.getElem?_eq_none (by omega)]
        clear basic hu hf
        generalize fs.toList=fl at h
        induction fl generalizing l b with
        | nil =>
          simp only[List.foldr_nil] at h
          injection h with h;subst h
          simp only[kK] at hb
          injection hb with hb;subst hb
          rfl
        | cons f fl ihf =>
          simp only[List.foldr_cons] at h
          split at h
          · rename_i l' fz hl' hfz
            split at h
            · cases h
            · rename_i hn
              obtain⟨hn1,hn2⟩:=not_or.1 hn
              cases hc:mP P n f.type (off+f.offset) with
              |none=>rw[hc] at h;cases h
              | some lf =>
                rw[hc] at h
                simp only[Option.map_some] at h
                injection h with h;subst h
                rw[tJ] at hb
                have step:∀ b',kK xs ys lf=some b'→(Op.eqFields d (A.extract o (o+sz)) (B.extract o (o+sz)) (f :: fl)).run P w=(if (!b')=true then .ok false w else (Op.eqFields d (A.extract o (o+sz)) (B.extract o (o+sz)) fl).run P w):=by
                  intro b' hb'
                  obtain⟨p,q,hp,hq,he⟩:=ih f.type (off+f.offset) lf fz d b' (A.extract o (o+sz)) (B.extract o (o+sz)) f.offset hc hfz (by omega) hb'
                    (fun j hj=>hex A us hA _ fz (by omega) j hj) (fun j hj=>hex B vs hB _ fz (by omega) j hj)
                  simp[Op.eqFields,hn1,hp,hq,he]
                cases hlf:kK xs ys lf with
                |none=>rw[hlf] at hb;cases hb
                | some b' =>
                  rw[hlf] at hb
                  rw[step b' hlf]
                  cases b' with
                  |true=>simpa using ihf l' b hb hl'
                  |false=>simp only at hb;injection hb with hb;subst hb;rfl
          · cases h
    · cases h
theorem UT {X : Cx} {t : TypeId} {l : List (Nat × Nat)} {xs ys : List AV} {u v : Value} {b : Bool} (hc : mP P 20 t 0 = some l) (hg : P.eqGuardType P.depth t = false) (hst : ∃ fs, P.underlying t = some (.struct fs))
    (hx:VR X (.agg xs) u) (hy:VR X (.agg ys) v) (h:kK xs ys l=some b) (x y:Operand) :
    ∃ us vs,u=.agg us∧v=.agg vs∧(∀ op,(eqGuard op t x y u v).run P X.w=.ok () X.w)∧(us.size=((cY P t).getD 0)→vs.size=((cY P t).getD 0)→(Op.equal t u v).run P X.w=.ok b X.w):=by
  obtain⟨us,rfl,hx⟩:=hx
  obtain⟨vs,rfl,hy⟩:=hy
  refine⟨us,vs,rfl,rfl,fun op=>?_,fun ZA hvs=>?_⟩
  · unfold eqGuard
    cases op<;>simp[hg]
  · obtain ⟨fs, hst⟩ := hst
    cases hsz:cY P t with
    |none=>simp[mP,hsz] at hc
    | some sz =>
      rw[hsz] at ZA hvs
      obtain⟨p,q,hp,hq,he⟩:=HI (P:=P) hx hy X.w 20 t 0 l sz Op.maxDepth b us vs 0 hc hsz (by decide) h (fun j _=>by simp) (fun j _=>by simp)
      obtain⟨i,hi,hs⟩:∃ i,P.info? t=some i∧i.size=sz:=by
        unfold cY at hsz
        cases hi:P.info? t with
        |none=>rw[hi] at hsz;cases hsz
        |some i=>rw[hi] at hsz;exact⟨i,rfl,by simpa using hsz⟩
      have ag:∀ C:Array Value,C.size=sz→(part t C 0).run P X.w=.ok (.agg C) X.w:=by
        intro C hC
        simp[part,isAgg,run_underlying hst,sizeOf,typeInfo,hi,hs,←hC]
      rw[ag us ZA] at hp
      rw[ag vs hvs] at hq
      injection hp with hp;injection hq with hq
      subst hp;subst hq
      exact he
end
end Go.bI
