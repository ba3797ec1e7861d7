/- A part of the proof: EngD, EngE. -/
import Derived.Test.YthphehfgekjooaaGreatDoorEngB
import Derived.Test.YthphehfgekjooaaGreatDoorEngC
import Derived.Laws.StructEq
import Derived.Laws.Slices
import Derived.Laws.Entries
import Derived.Laws.Cells
set_option linter.unusedVariables false
set_option linter.unusedSimpArgs false
namespace Go.bq
open Go Go.RowKit
theorem VR.sc {X:Cx} {u v:Value} (h:VR X (.d (.sc u)) v):v=u:=by
  cases h
  rfl
theorem VR.zF {X:Cx} {v:Value} (h:v.oneCell'=true):VR X (.d (.sc v)) v:=DR.sc v h
theorem VR.lu {X:Cx} {v:Value} (h:v.oneCell'=true):VR X (lu v) v:=DR.sc v h
theorem uw {X : Cx} {v : Value} {x : AV} (h : gz v = some x) : VC X x v := by
  cases v with
  | slice a n c =>
    simp[gz] at h
    split at h
    · rename_i hv
      cases hv
      cases h
      exact⟨none,0,0,0,rfl,fun h=>absurd h (by simp),by simp,fun i e j x h=>by simp at h⟩
    all_goals first|(cases h;done)|simp_all
  |agg cs=>simp[gz] at h
  |tuple cs=>simp[gz] at h
  | func fn first cap =>
    simp only[gz] at h
    split at h
    · split at h
      · rename_i h0
        cases h
        obtain⟨h1,h2⟩:=h0
        rw[Array.size_eq_zero_iff] at h1 h2
        subst h1;subst h2
        exact⟨#[],rfl,trivial⟩
      grind
    grind
  |_=>simp only[gz] at h;injection h with h;subst h;exact DR.sc _ rfl
theorem kU {X:Cx} : ∀ {vs:List Value} {xs:List AV},eH vs=some xs→aq (VC X) xs vs
  |[],xs,h=>by grind[eH,VC,aq]
  | v :: r, xs, h => by
    simp[eH] at h
    split at h
    · rename_i x xs' h1 h2
      cases h
      exact⟨uw h1,kU h2⟩
    grind
theorem VR.eL {X:Cx} {x:AV} {v:Value} (h:VC X x v):VR X x v:=by
  cases x with
  |agg cs=>exact h.elim
  |gN cs=>exact h.elim
  |_=>exact h
theorem VR.ux {X:Cx} {x:AV} {v:Value} (h:V1 X x v):VR X x v:=by
  cases x with
  |gN cs=>exact h.elim
  |_=>exact h
theorem V1.eL {X:Cx} {x:AV} {v:Value} (h:VC X x v):V1 X x v:=by
  cases x with
  |agg cs=>exact h.elim
  |_=>exact h
theorem Nf {X:Cx} {v:Value} {x:AV} (h:tu v=some x):VR X x v:=by
  cases v with
  | agg cs =>
    simp only[tu] at h
    cases hc:eH cs.toList with
    |none=>grind
    | some xs =>
      rw[hc] at h
      cases h
      exact⟨cs,rfl,kU hc⟩
  | tuple vs =>
    simp only[tu] at h
    split at h
    · rename_i h0
      simp at h0
      cases h;subst h0
      exact⟨#[],rfl,trivial⟩
    grind
  |_=>exact .eL (uw h)
theorem mN {X:Cx} : VR X je undef:=⟨#[],rfl,trivial⟩
structure eC (X:Cx) (nt:Nat) (s:St) (a:Act):Prop where
  slots:∀ t,VR X (iJ s.slots t) (a.tmps.getD t undef)
  size:a.tmps.size=nt
  defers:a.defers=[]
  mem:aA X s.mem s.aB
theorem aU {X:Cx} {nt:Nat} {s:St} {a:Act} (hs:eC X nt s a) {x:Operand} {y:bA} (h:cr x=some y):VR X (y.ev s.slots) (a.eval x):=by
  cases x with
  |tmp t=>simp[cr] at h;subst h;exact hs.slots t
  | const v =>
    cases hc:tu v with
    |none=>simp[cr,hc] at h
    |some x=>simp[cr,hc] at h;subst h;exact Nf hc
  |func f=>simp[cr] at h;subst h;exact⟨#[],rfl,trivial⟩
  |global g=>simp[cr] at h
theorem uy {X:Cx} {nt:Nat} {s:St} {a:Act} (hs:eC X nt s a):∀ {xs:List Operand} {ys:List bA},iK xs=some ys→aq (VR X) (GB s.slots ys) (xs.map a.eval)
  |[],ys,h=>by grind[iK,GB,VR,aq]
  | x :: r, ys, h => by
    simp[iK] at h
    split at h
    · rename_i y ys' h1 h2
      cases h
      exact⟨aU hs h1,uy hs h2⟩
    grind
theorem mO {X:Cx} {x:AV} {v:Value} {b:Bool} (h:iu x=some b) (hv:VR X x v):v=.bool b:=by
  unfold iu at h
  split at h
  · cases h;exact hv.sc
  grind
theorem CH {X:Cx} {x:AV} {v:Value} {n:Int} (h:qC x=some n) (hv:VR X x v):∃ k,v=.int k n:=by
  unfold qC at h
  split at h
  · cases h;exact⟨_,hv.sc⟩
  grind
theorem jo {X:Cx} {x:AV} {v:Value} {n:Nat} (h:fo x=some n) (hv:VR X x v):∃ k,v=.int k (n:Int):=by
  unfold fo at h
  cases hi:qC x with
  |none=>grind
  | some m =>
    rw[hi] at h
    simp only[Option.bind_some] at h
    split at h
    · obtain⟨k,hk⟩:=CH hi hv<;>grind
    grind
section
variable {P:Program}
theorem T3 {op:BinOp} {k k':IntKind} {m n:Int} {v:Value} (t:TypeId) (w:World) (h:Ej op k m k' n=some v) :
    (binOp op t (.int k m) (.int k' n)).run P w=.ok v w∧v.oneCell'=true:=by
  have plain:∀ (f:Value),v=f→f.oneCell'=true→(binOp op t (.int k m) (.int k' n)).run P w=.ok f w→(binOp op t (.int k m) (.int k' n)).run P w=.ok v w∧v.oneCell'=true:=by
    grind
  by_cases hk:k=k'
  · subst hk
    cases op<;>simp only[Ej,CC,Option.map_some,ne_eq,not_true_eq_false,if_false] at h<;>first
      |(cases h;done)
      |(injection h with h;refine plain _ h.symm rfl ?_;simp[binOp,Op.intArith,Op.intBits,Op.intCmp];done)
      | (split at h
         · cases h
         · rename_i hn
           injection h with h
           refine plain _ h.symm rfl ?_
           simp[binOp,Op.intDiv,Op.shift,hn])
  · cases op<;>simp only[Ej,ne_eq,hk,not_false_eq_true,if_true] at h<;>first
      |(cases h;done)
      | (split at h
         · cases h
         · rename_i hn
           injection h with h
           refine plain _ h.symm rfl ?_
           simp[binOp,Op.shift,hn])
theorem T4 {op:BinOp} {x y:ByteArray} {v:Value} (t:TypeId) (w:World) (h:JE op x y=some v) :
    (binOp op t (.string x) (.string y)).run P w=.ok v w∧v.oneCell'=true:=by
  have hb:(binOp op t (.string x) (.string y))=Op.stringOp op x y:=by cases op<;>rfl
  rw[hb]
  cases op with
  | add =>
    simp only[JE] at h
    split at h
    · cases h
    · rename_i hn
      cases h
      exact⟨by simp only[Op.stringOp];rw[if_neg hn];rfl,rfl⟩
  | _ => simp only [JE] at h <;> first
    |(cases h;done)
    |(injection h with h;subst h;exact⟨by simp[Op.stringOp],rfl⟩)
theorem T5 {X:Cx} {op:BinOp} {x y:AV} {u v r:Value} (t:TypeId) (hx:VR X x u) (hy:VR X y v) (h:PM op x y=some r) :
    (binOp op t u v).run P X.w=.ok r X.w∧r.oneCell'=true∧((∃ k m,u=.int k m)∨∃ b,u=.string b):=by
  unfold PM at h
  split at h
  · rw [hx.sc, hy.sc]
    obtain⟨h1,h2⟩:=T3 (P:=P) t X.w h<;>grind
  · rw [hx.sc, hy.sc]
    obtain⟨h1,h2⟩:=T4 (P:=P) t X.w h<;>grind
  grind
theorem kV {op:BinOp} {t:TypeId} {x y:Operand} {u v:Value} {w:World} (h1:u≠.nilIface) (h2:∀ c,u≠.agg c) :
    (eqGuard op t x y u v).run P w=.ok () w:=by
  cases u<;>first|(exact absurd rfl h1)|(exact absurd rfl (h2 _))|(cases op<;>rfl)
theorem uz (xs ys : List AV) : ∀ (l m : List (Nat × Nat)), lq xs ys (l ++ m) = match lq xs ys l with
    |some true=>lq xs ys m
    |r=>r
  |[],m=>rfl
  | o :: l, m => by
    simp[List.cons_append,lq]
    cases xs[o.1]? with
    |none=>rfl
    | some x =>
      cases ys[o.1]? with
      |none=>rfl
      | some y =>
        simp
        cases GA o.2 x y with
        |none=>rfl
        | some b => cases b with
          |true=>exact uz xs ys l m
          |false=>rfl
theorem LZ {X : Cx} {kd : Nat} {x y : AV} {u v : Value} {b : Bool} (h : GA kd x y = some b) (hx : VC X x u) (hy : VC X y v) :
    (∃ p q,kd=0∧u=.bool p∧v=.bool q∧b=(p==q))∨(∃ k p q,kd=1∧u=.int k p∧v=.int k q∧b=(p==q))∨∃ p q,2≤kd∧u=.string p∧v=.string q∧b=(p==q):=by
  unfold GA at h
  split at h
  · split at h
    · injection h with h
      exact .inl ⟨_,_,rfl,VR.sc (.eL hx),VR.sc (.eL hy),h.symm⟩
    grind
  · split at h
    · split at h
      · subst_vars
        injection h with h
        exact .inr (.inl ⟨_,_,_,rfl,VR.sc (.eL hx),VR.sc (.eL hy),h.symm⟩)
      grind
    grind
  · split at h
    · cases h
    · cases h
    · injection h with h
      refine .inr (.inr ⟨_,_,?_,VR.sc (.eL hx),VR.sc (.eL hy),h.symm⟩)<;>grind
  grind
theorem Ng {X:Cx} {xs ys:List AV} {us vs:Array Value} (hx:aq (VC X) xs us.toList) (hy:aq (VC X) ys vs.toList) {off kd:Nat} {b:Bool}
    (h:lq xs ys [(off,kd)]=some b):∃ u v,us[off]?=some u∧vs[off]?=some v∧
      ((∃ p q,kd=0∧u=.bool p∧v=.bool q∧b=(p==q))∨(∃ k p q,kd=1∧u=.int k p∧v=.int k q∧b=(p==q))∨∃ p q,2≤kd∧u=.string p∧v=.string q∧b=(p==q)):=by
  simp[lq] at h
  split at h
  · rename_i x y h1 h2
    obtain⟨u,hu,hxu⟩:=hx.get _ _ h1
    obtain⟨v,hv,hyv⟩:=hy.get _ _ h2
    refine⟨u,v,by simpa using hu,by simpa using hv,?_⟩
    split at h
    · rename_i h3
      cases h
      exact LZ h3 hxu hyv
    · rename_i h3
      cases h
      exact LZ h3 hxu hyv
    grind
  grind
theorem JI {X : Cx} {xs ys : List AV} {us vs : Array Value} (hx : aq (VC X) xs us.toList) (hy : aq (VC X) ys vs.toList) (w : World) :
    ∀ (n : Nat) (t : TypeId) (off : Nat) (l : List (Nat × Nat)) (sz d : Nat) (b : Bool) (A B : Array Value) (o : Nat), nE P n t off = some l → cC P t = some sz → n ≤ d → lq xs ys l = some b →
      (∀ j,j<sz→A[o+j]?=us[off+j]?)→(∀ j,j<sz→B[o+j]?=vs[off+j]?)→
      ∃ p q,(part t A o).run P w=.ok p w∧(part t B o).run P w=.ok q w∧(Op.equalIn d t p q).run P w=.ok b w:=by
  intro n
  induction n with
  |zero=>intro t off l sz d b A B o h;cases h
  | succ n ih =>
    intro t off l sz d b A B o h hsz hd hb hA hB
    obtain⟨i,hi,hs⟩:∃ i,P.info? t=some i∧i.size=sz:=by
      unfold cC at hsz
      cases hi:P.info? t with
      |none=>rw[hi] at hsz;cases hsz
      |some i=>rw[hi] at hsz;exact⟨i,rfl,by simpa using hsz⟩
    obtain⟨d,rfl⟩:∃ e,d=e+1:=⟨d-1,by omega⟩
    simp only[nE,hsz] at h
    have basic:∀ kd,lq xs ys [(off,kd)]=some b→sz=1→(isAgg t).run P w=.ok false w→
        (∀ p q,kd=0→(Op.equalIn (d+1) t (.bool p) (.bool q)).run P w=.ok (p==q) w)→
        (∀ k p q,kd=1→(Op.equalIn (d+1) t (.int k p) (.int k q)).run P w=.ok (p==q) w)→
        (∀ p q,2≤kd→(Op.equalIn (d+1) t (.string p) (.string q)).run P w=.ok (p==q) w)→
        ∃ p q,(part t A o).run P w=.ok p w∧(part t B o).run P w=.ok q w∧(Op.equalIn (d+1) t p q).run P w=.ok b w:=by
      intro kd he h1 hag hb0 qJ vZ
      obtain⟨u,v,hu,hv,hk⟩:=Ng hx hy he
      have hA0:=hA 0 (by omega)
      have hB0:=hB 0 (by omega)
      simp only[Nat.add_zero] at hA0 hB0
      rw[hu] at hA0;rw[hv] at hB0
      refine⟨u,v,by simp[part,hag,hA0],by simp[part,hag,hB0],?_⟩
      rcases hk with⟨p,q,hk,rfl,rfl,rfl⟩|⟨k,p,q,hk,rfl,rfl,rfl⟩|⟨p,q,hk,rfl,rfl,rfl⟩
      · exact hb0 p q hk
      · exact qJ k p q hk
      · exact vZ p q hk
    split at h
    · rename_i h1 hu
      injection h with h;subst h
      refine basic 0 hb (by simpa using h1) (by simp[isAgg,run_underlying hu]) (fun p q _=>by simp[Op.equalIn,run_underlying hu]) (fun _ _ _ h=>by omega) (fun _ _ h=>by omega)
    · rename_i h1 hu
      injection h with h;subst h
      refine basic 1 hb (by simpa using h1) (by simp[isAgg,run_underlying hu]) (fun _ _ h=>by omega) (fun k p q _=>by simp[Op.equalIn,run_underlying hu]) (fun _ _ h=>by omega)
    · rename_i h1 hu
      injection h with h;subst h
      refine basic 2 hb (by simpa using h1) (by simp[isAgg,run_underlying hu]) (fun _ _ h=>by omega) (fun _ _ _ h=>by omega) (fun p q _=>by simp[Op.equalIn,run_underlying hu])
    · rename_i sz' fs h1 hu
      injection h1 with h1;subst h1
      split at h
      · cases h
      · rename_i hst
        have hf:P.fieldsOf t=fs:=by simp[Program.fieldsOf,hu]
        refine⟨.agg (A.extract o (o+sz)),.agg (B.extract o (o+sz)),by simp[part,isAgg,run_underlying hu,sizeOf,typeInfo,hi,hs],by simp[part,isAgg,run_underlying hu,sizeOf,typeInfo,hi,hs],?_⟩
        rw[run_equalIn_struct w d t _ _ (by rw[hf];exact hu) (by simpa using hst),hf]
        have hex:∀ (C us:Array Value),(∀ j,j<sz→C[o+j]?=us[off+j]?)→∀ f fz,f+fz≤sz→∀ j,j<fz→(C.extract o (o+sz))[f+j]?=us[off+f+j]?:=by
          intro C us hC f fz hfz j hj
          rw[Array.getElem?_extract]
          have:=hC (f+j) (by omega)
          rw[←Nat.add_assoc,←Nat.add_assoc] at this
          split
          · rw[←this,Nat.add_assoc]
          · rename_i hn
            rw[←this,Array.getElem?_eq_none (by omega)]
        clear basic hu hf
        generalize fs.toList=fl at h
        induction fl generalizing l b with
        | nil =>
          simp only[List.foldr_nil] at h
          injection h with h;subst h
          simp only[lq] at hb
          injection hb with hb;subst hb
          rfl
        | cons f fl ihf =>
          simp only[List.foldr_cons] at h
          split at h
          · rename_i l' fz hl' hfz
            split at h
            · cases h
            · rename_i hn
              obtain⟨hn1,hn2⟩:=not_or.1 hn
              cases hc:nE P n f.type (off+f.offset) with
              |none=>rw[hc] at h;cases h
              | some lf =>
                rw[hc] at h
                simp only[Option.map_some] at h
                injection h with h;subst h
                rw[uz] at hb
                have step:∀ b',lq xs ys lf=some b'→(Op.eqFields d (A.extract o (o+sz)) (B.extract o (o+sz)) (f :: fl)).run P w=(if (!b')=true then .ok false w else (Op.eqFields d (A.extract o (o+sz)) (B.extract o (o+sz)) fl).run P w):=by
                  intro b' hb'
                  obtain⟨p,q,hp,hq,he⟩:=ih f.type (off+f.offset) lf fz d b' (A.extract o (o+sz)) (B.extract o (o+sz)) f.offset hc hfz (by omega) hb'
                    (fun j hj=>hex A us hA _ fz (by omega) j hj) (fun j hj=>hex B vs hB _ fz (by omega) j hj)
                  simp[Op.eqFields,hn1,hp,hq,he]
                cases hlf:lq xs ys lf with
                |none=>rw[hlf] at hb;cases hb
                | some b' =>
                  rw[hlf] at hb
                  rw[step b' hlf]
                  cases b' with
                  |true=>simpa using ihf l' b hb hl'
                  |false=>simp only at hb;injection hb with hb;subst hb;rfl
          · cases h
    · cases h
theorem Y4 {X : Cx} {t : TypeId} {l : List (Nat × Nat)} {xs ys : List AV} {u v : Value} {b : Bool} (hc : nE P 20 t 0 = some l) (hg : P.eqGuardType P.depth t = false) (hst : ∃ fs, P.underlying t = some (.struct fs))
    (hx:VR X (.agg xs) u) (hy:VR X (.agg ys) v) (h:lq xs ys l=some b) (x y:Operand) :
    ∃ us vs,u=.agg us∧v=.agg vs∧(∀ op,(eqGuard op t x y u v).run P X.w=.ok () X.w)∧(us.size=((cC P t).getD 0)→vs.size=((cC P t).getD 0)→(Op.equal t u v).run P X.w=.ok b X.w):=by
  obtain⟨us,rfl,hx⟩:=hx
  obtain⟨vs,rfl,hy⟩:=hy
  refine⟨us,vs,rfl,rfl,fun op=>?_,fun hus hvs=>?_⟩
  · unfold eqGuard
    cases op<;>simp[hg]
  · obtain ⟨fs, hst⟩ := hst
    cases hsz:cC P t with
    |none=>simp[nE,hsz] at hc
    | some sz =>
      rw[hsz] at hus hvs
      obtain⟨p,q,hp,hq,he⟩:=JI (P:=P) hx hy X.w 20 t 0 l sz Op.maxDepth b us vs 0 hc hsz (by decide) h (fun j _=>by simp) (fun j _=>by simp)
      obtain⟨i,hi,hs⟩:∃ i,P.info? t=some i∧i.size=sz:=by
        unfold cC at hsz
        cases hi:P.info? t with
        |none=>rw[hi] at hsz;cases hsz
        |some i=>rw[hi] at hsz;exact⟨i,rfl,by simpa using hsz⟩
      have ag:∀ C:Array Value,C.size=sz→(part t C 0).run P X.w=.ok (.agg C) X.w:=by
        intro C hC
        simp[part,isAgg,run_underlying hst,sizeOf,typeInfo,hi,hs,←hC]
      simp_all;exact he
end
end Go.bq
namespace Go.bq
open Go Go.RowKit
theorem zG {w:World} {α : Type} {R : α→Value→Prop} {b o:Nat} : ∀ (cs:List α),(∀ (j:Nat) (x : α),cs[j]?=some x→∃ v,w.cell? ⟨b,o+j,none⟩=some v∧R x v)→
    ∃ vs:List Value,(∀ j u,vs[j]?=some u→w.cell? ⟨b,o+j,none⟩=some u)∧aq R cs vs:=by
  intro cs
  induction cs generalizing o with
  |nil=>exact fun _=>⟨[],by simp,trivial⟩
  | cons c cs ih =>
    intro h
    obtain⟨v,hv,hr⟩:=h 0 c rfl
    obtain⟨vs,h1,h2⟩:=ih (o:=o+1) fun j x hj=>by
      obtain⟨u,hu,hr⟩:=h (j+1) x (by simpa using hj)
      exact⟨u,by rw[←hu];congr 2;omega,hr⟩
    refine⟨v :: vs,fun j u hj=>?_,hr,h2⟩<;>grind
theorem dB {α : Type} {l:List α} {k n j:Nat} {x : α} (h:((l.drop k).take n)[j]?=some x):l[k+j]?=some x∧j<n:=by
  grind
theorem Er {X:Cx} {b o off sz:Nat} {e:List D} (h:∀ (j:Nat) (x:D),e[j]?=some x→∃ u,X.w.cell? ⟨b,o+j,none⟩=some u∧DR X.w X.F x u) :
    ∃ vs:List Value,(∀ j u,vs[j]?=some u→X.w.cell? ⟨b,(o+off)+j,none⟩=some u)∧aq (VC X) (((e.drop off).take sz).map .d) vs:=by
  refine zG _ fun j x hj=>?_
  rw[List.getElem?_map] at hj
  cases hq:((e.drop off).take sz)[j]? with
  |none=>grind
  | some y =>
    rw[hq] at hj
    cases hj
    obtain⟨u,hu,hd⟩:=h _ _ (dB hq).1
    exact⟨u,by rw[←hu,Nat.add_assoc],hd⟩
theorem GH {X : Cx} {m : List (Tr aZ)} {t : Tr Unit} (hm : aA X m t) {p : AV} {v : Value} {sz : Nat} {cs : List AV} (hv : VR X p v) (h : ql m sz p = some cs) :
    ∃ b o vs,v=.pointer (some ⟨b,o,none⟩)∧(∀ j u,vs[j]?=some u→X.w.cell? ⟨b,o+j,none⟩=some u)∧aq (VC X) cs vs∧cs.length=sz:=by
  unfold ql at h
  split at h
  · rename_i lv sl aa i off
    obtain⟨L,hL,rfl⟩:=hv
    split at h
    · rename_i v' cells hg
      split at h
      · rename_i lU hi
        split at h
        · have lU := beq_true.1 lU
          have hi:=beq_true.1 hi
          subst lU;obtain⟨L',hL',hE⟩:=hm.dW _ _ _ hg
          have:X.ρ v'=some L':=hL'
          rw[hL] at this
          cases this
          obtain⟨h1,h2,h3,h4⟩:=hE
          obtain⟨vs,g1,g2⟩:=zG (w:=X.w) (R:=VC X) (b:=L.b) (o:=L.o+off) ((cells.drop off).take sz) fun j x hj=>by
            obtain⟨u,hu,hr⟩:=h4 _ _ (dB hj).1
            exact⟨u,by rw[←hu,Nat.add_assoc],hr⟩
          grind
        grind
      grind
    · rename_i v' els hg
      split at h
      · rename_i lU
        split at h
        · rename_i e he
          split at h
          · have lU := beq_true.1 lU
            subst lU
            obtain⟨L',hL',hE⟩:=hm.dW _ _ _ hg
            have:X.ρ v'=some L':=hL'
            rw[hL] at this
            cases this
            obtain⟨h1,h2,h3,h4⟩:=hE
            obtain⟨vs,g1,g2⟩:=Er (X:=X) (b:=L.b) (o:=L.o+i*L.sz) (off:=off) (sz:=sz) (e:=e) fun j x hj=>h4 i e j x he hj<;>grind
          grind
        grind
      grind
    · rename_i v' els hg
      split at h
      · rename_i lU
        split at h
        · rename_i e he
          split at h
          · have lU := beq_true.1 lU
            subst lU
            obtain⟨L',hL',hE⟩:=hm.dW _ _ _ hg
            have:X.ρ v'=some L':=hL'
            rw[hL] at this
            cases this
            obtain⟨vs,g1,g2⟩:=Er (X:=X) (b:=L.b) (o:=L.o+i*L.sz) (off:=off) (sz:=sz) (e:=e) fun j x hj=>(hE.2.2 i e j x he hj).2<;>grind
          grind
        grind
      grind
    · cases h
    grind
  · rename_i e off
    split at h
    · obtain ⟨b, o, rfl, h4⟩ := hv
      obtain⟨vs,g1,g2⟩:=Er (X:=X) (b:=b) (o:=o) (off:=off) (sz:=sz) (e:=e) fun j x hj=>(h4 j x hj).2<;>grind
    grind
  grind
section
variable {P:Program}
theorem eD {t:TypeId} {sz:Nat} (h:cC P t=some sz):∃ i,P.info? t=some i∧i.size=sz:=by
  simp_all[cC]
theorem zH {t:TypeId} {b:Bool} (h:mL P t=some b) (w:World):(isAgg t).run P w=.ok b w:=by
  unfold mL at h
  split at h
  · rename_i hu;cases h;simp[isAgg,run_underlying hu]
  · rename_i hu;cases h;simp[isAgg,run_underlying hu]
  · rename_i d h1 h2 hu
    simp only[isAgg,Sem.run_bind,run_underlying hu,Result.andThen_ok]<;>simp_all
  grind
theorem zI {X : Cx} {t : TypeId} {sz : Nat} {agg : Bool} {b o : Nat} {cs : List AV} {vs : List Value} {r : AV} (hsz : cC P t = some sz) (hag : mL P t = some agg) (h1 : agg = true ∨ sz = 1)
    (hc:∀ j u,vs[j]?=some u→X.w.cell? ⟨b,o+j,none⟩=some u) (h2:aq (VC X) cs vs) (hl:cs.length=sz) (hr:fO agg cs=some r) :
    ∃ v,(loadVar t ⟨b,o,none⟩).run P X.w=.ok v X.w∧V1 X r v:=by
  obtain⟨i,hi,hs⟩:=eD hsz
  have hag:=zH hag X.w
  have Ci:∀ j u,vs[j]?=some u→X.w.cell? ((⟨b,o,none⟩:Addr).add j)=some u:=fun j u h=>by rw[Addr.add_lit];exact hc j u h
  cases agg with
  | true =>
    have hl':vs.length=sz:=by rw[←h2.length,hl]
    have:=run_loadCells_list (P:=P) X.w ⟨b,o,none⟩ vs Ci
    rw[hl'] at this
    cases hr
    exact⟨.agg vs.toArray,by simp[loadVar,hag,sizeOf,typeInfo,hi,hs,this],vs.toArray,rfl,by simpa using h2⟩
  | false =>
    simp[fO] at hr
    split at hr
    · simp_all
      match vs,h2 with
      | [u], h2 =>
        have:=hc 0 u rfl
        simp at this
        exact⟨u,by simp[loadVar,hag,this],.eL h2.1⟩
      |[],h2=>exact h2.elim
      |_ :: _ :: _,h2=>exact h2.2.elim
    grind
theorem iz (a:Addr) (w:World):(Instr.sureAddr (.pointer (some a))).run P w=.ok a w:=rfl
def Quiet (P:Program) (X:Cx) (o:Oper) (a:Act) (val:AV):Prop:=∃ v,(execOp a.eval o).run P X.w=.ok (.value v) X.w∧VR X val v
variable {X:Cx} {nt:Nat} {s:St} {a:Act}
theorem T6 (hs:eC X nt s a) {o:Oper} {t:TypeId} {x:Operand} {y:bA} {sz:Nat} {agg:Bool} {cs:List AV} {r:AV} (ho:o.op=.load t x) (hsz:cC P t=some sz) (hag:mL P t=some agg) (h1:agg=true∨sz=1)
    (hx:cr x=some y) (hl:ql s.mem sz (y.ev s.slots)=some cs) (hr:fO agg cs=some r):Quiet P X o a r:=by
  obtain⟨b,off,vs,hv,hc,h2,hlen⟩:=GH hs.mem (aU hs hx) hl
  obtain⟨v,hrun,hV⟩:=zI (P:=P) hsz hag h1 hc h2 hlen hr
  exact⟨v,by simp[execOp,ho,Instr.loadAt,hv,iz,hrun],.ux hV⟩
theorem T7 (hs:eC X nt s a) {o:Oper} {c x y:Operand} {c' x' y':bA} {b:Bool} (ho:o.op=.pick c x y) (hc:cr c=some c') (hx:cr x=some x') (hy:cr y=some y')
    (hb:iu (c'.ev s.slots)=some b):Quiet P X o a (if b then x'.ev s.slots else y'.ev s.slots):=by
  have:=mO hb (aU hs hc)
  refine⟨if b then a.eval x else a.eval y,by simp[execOp,ho,this,asBool],?_⟩
  cases b
  · exact aU hs hy
  · exact aU hs hx
theorem Y5 (hs:eC X nt s a) {o:Oper} {op:BinOp} {t u:TypeId} {x y:Operand} {x' y':bA} {r:Value} (ho:o.op=.binOp op t x y u) (hx:cr x=some x') (hy:cr y=some y')
    (h:PM op (x'.ev s.slots) (y'.ev s.slots)=some r):Quiet P X o a (lu r):=by
  obtain⟨h1,h2,h3⟩:=T5 (P:=P) t (aU hs hx) (aU hs hy) h
  refine⟨r,?_,.lu h2⟩
  have hg:(eqGuard op t x y (a.eval x) (a.eval y)).run P X.w=.ok () X.w:=by
    rcases h3 with⟨k,m,h3⟩|⟨m,h3⟩<;>rw[h3]<;>exact kV (by simp) (by simp)
  simp[execOp,ho,hg,h1]
theorem Y6 (hs:eC X nt s a) {o:Oper} {neg:Bool} {t u:TypeId} {x y:Operand} {x' y':bA} {p q:Bool} (ho:o.op=.binOp (if neg then .neq else .eql) t x y u) (ht:P.underlying t=some .bool) (hx:cr x=some x') (hy:cr y=some y')
    (hp:iu (x'.ev s.slots)=some p) (hq:iu (y'.ev s.slots)=some q):Quiet P X o a (lu (.bool (if neg then !(p==q) else p==q))):=by
  have h1:=mO hp (aU hs hx)
  have h2:=mO hq (aU hs hy)
  refine⟨.bool (if neg then !(p==q) else p==q),?_,.lu rfl⟩
  have hg:∀ op,(eqGuard op t x y (.bool p) (.bool q)).run P X.w=.ok () X.w:=fun op=>kV (by simp) (by simp)
  have he':∀ d,(Op.equalIn (d+1) t (.bool p) (.bool q)).run P X.w=.ok (p==q) X.w:=fun d=>by simp[Op.equalIn,run_underlying ht]
  have he:(Op.equal t (.bool p) (.bool q)).run P X.w=.ok (p==q) X.w:=he' 9999
  cases neg<;>simp[execOp,ho,h1,h2,hg,binOp,he]
theorem T8 {y : Operand} (h : cr y = some (.c (.d (.sc .nilIface)))) : y = .const .nilIface := by
  cases y with
  |tmp t=>simp[cr] at h
  |func f=>simp[cr] at h
  |global g=>simp[cr] at h
  | const v =>
    simp[cr] at h
    cases hc:tu v with
    |none=>grind
    | some z =>
      rw[hc] at h
      cases h
      have key:∀ {u:Value},gz u=some (.d (.sc .nilIface))→u=.nilIface:=by
        intro u hu
        unfold gz at hu
        split at hu
        · simp at hu
        · cases hu
        · cases hu
        · cases hu
        · rename_i fn first cap
          cases fn with
          | func f =>
            by_cases hz:first.size=0∧cap.size=0
            · simp at hu
            · simp at hu
          |_=>cases hu
        · simp at hu;exact hu
      unfold tu at hc
      split at hc
      · obtain ⟨_, _, h⟩ := Option.map_eq_some_iff.1 hc
        simp at h
      · split at hc
        · simp at hc
        · cases hc
      · rw[key hc]
theorem GI (hs:eC X nt s a) {o:Oper} {neg:Bool} {t u:TypeId} {ms:Array (String×TypeId)} {x y:Operand} {x':bA} (ho:o.op=.binOp (if neg then .neq else .eql) t x y u) (ht:P.underlying t=some (.interface ms)) (hx:cr x=some x') (hy:cr y=some (.c (.d (.sc .nilIface)))) :
    (x'.ev s.slots=.d .er→Quiet P X o a (lu (.bool neg)))∧(x'.ev s.slots=.d (.sc .nilIface)→Quiet P X o a (lu (.bool !neg))):=by
  have hyc:=T8 hy
  subst hyc
  have T9:a.eval (.const .nilIface)=.nilIface:=rfl
  constructor
  · intro hq
    have hv:=aU hs hx
    rw[hq] at hv
    have h0:∃ tt p,a.eval x=.iface tt p:=by
      revert hv
      intro hv
      cases hv with
      |er v h1=>exact h1
    obtain⟨tt,p,h1⟩:=h0
    refine⟨.bool neg,?_,.lu rfl⟩
    have hg:∀ op,(eqGuard op t x (.const .nilIface) (.iface tt p) .nilIface).run P X.w=.ok () X.w:=fun op=>kV (by simp) (by simp)
    have he':∀ d,(Op.equalIn (d+1) t (.iface tt p) .nilIface).run P X.w=.ok false X.w:=fun d=>by simp[Op.equalIn,run_underlying ht]
    have he:(Op.equal t (.iface tt p) .nilIface).run P X.w=.ok false X.w:=he' 9999
    cases neg<;>simp[execOp,ho,h1,T9,hg,binOp,he]
  · intro hq
    have hv:=aU hs hx
    rw[hq] at hv
    have h1:a.eval x=.nilIface:=by
      revert hv
      generalize a.eval x=u
      intro hv
      cases hv with
      |sc v h1=>rfl
    refine⟨.bool !neg,?_,.lu rfl⟩
    have hg:∀ op,(eqGuard op t x (.const .nilIface) .nilIface .nilIface).run P X.w=.ok () X.w:=fun op=>by cases op<;>simp[eqGuard]
    have he':∀ d,(Op.equalIn (d+1) t .nilIface .nilIface).run P X.w=.ok true X.w:=fun d=>by simp[Op.equalIn,run_underlying ht]
    have he:(Op.equal t .nilIface .nilIface).run P X.w=.ok true X.w:=he' 9999
    cases neg<;>simp[execOp,ho,h1,T9,hg,binOp,he]
theorem PW (hs:eC X nt s a) {o:Oper} {neg:Bool} {t u:TypeId} {fs:Array Field} {l:List (Nat×Nat)} {sz:Nat} {x y:Operand} {x' y':bA} {xs ys:List AV} {b:Bool} (ho:o.op=.binOp (if neg then .neq else .eql) t x y u)
    (ht:P.underlying t=some (.struct fs)) (hg:P.eqGuardType P.depth t=false) (hc:nE P 20 t 0=some l) (hsz:cC P t=some sz) (hx:cr x=some x') (hy:cr y=some y')
    (h1:x'.ev s.slots=.agg xs) (h2:y'.ev s.slots=.agg ys) (h3:xs.length=sz) (h4:ys.length=sz) (hb:lq xs ys l=some b):Quiet P X o a (lu (.bool (if neg then !b else b))):=by
  have g1:=aU hs hx
  have g2:=aU hs hy
  rw[h1] at g1;rw[h2] at g2
  have s1:∃ us,a.eval x=.agg us∧us.size=sz:=by obtain⟨us,e,hh⟩:=g1;exact⟨us,e,by rw[←h3,hh.length,Array.length_toList]⟩
  have s2:∃ us,a.eval y=.agg us∧us.size=sz:=by obtain⟨us,e,hh⟩:=g2;exact⟨us,e,by rw[←h4,hh.length,Array.length_toList]⟩
  obtain⟨us,vs,e1,e2,he1,he2⟩:=Y4 (P:=P) hc hg ⟨fs,ht⟩ g1 g2 hb x y
  obtain⟨us',e1',s1⟩:=s1
  obtain⟨vs',e2',s2⟩:=s2
  rw[e1] at e1';rw[e2] at e2'
  injection e1' with e1';injection e2' with e2'
  subst e1';subst e2'
  have he:=he2 (by rw[hsz];exact s1) (by rw[hsz];exact s2)
  refine⟨.bool (if neg then !b else b),?_,.lu rfl⟩
  rw[e1,e2] at he1 he
  cases neg<;>simp[execOp,ho,e1,e2,he1,binOp,he]
theorem acQ (hs:eC X nt s a) {o:Oper} {op:UnOp} {t:TypeId} {x:Operand} {x':bA} {r:Value} (ho:o.op=.unOp op t x) (hx:cr x=some x') (h:unA op (x'.ev s.slots)=some r):Quiet P X o a (lu r):=by
  have hv:=aU hs hx
  unfold unA at h
  split at h
  · rename_i hq
    rw[hq] at hv
    have hv:=hv.sc
    cases op<;>simp only at h<;>first
      |(cases h;done)
      |(cases h;exact⟨_,by simp[execOp,ho,hv,Op.unary],.lu rfl⟩)
  · rename_i hq
    rw[hq] at hv
    have hv:=hv.sc
    cases op<;>simp only[CC,Option.map_some] at h<;>first
      |(cases h;done)
      |(injection h with h;subst h;exact⟨_,by simp[execOp,ho,hv,Op.unary,Op.intArith,Op.intBits],.lu rfl⟩)
  grind
theorem Ua (hs:eC X nt s a) {o:Oper} {src dst:TypeId} {k:IntKind} {x:Operand} {x':bA} {n:Int} (ho:o.op=.convert src dst x) (ht:P.underlying dst=some (.int k)) (hsrc:(P.underlying src).isSome=true)
    (hx:cr x=some x') (h:qC (x'.ev s.slots)=some n):Quiet P X o a (lu (.int k (k.wrap n))):=by
  obtain⟨k',hv⟩:=CH h (aU hs hx)
  obtain⟨d,hd⟩:=Option.isSome_iff_exists.1 hsrc
  refine⟨.int k (k.wrap n),?_,.lu rfl⟩
  simp[execOp,ho,hv,convert,run_underlying ht,run_underlying hd,Conv.intToInt]
theorem JJ (hs:eC X nt s a) {o:Oper} {x:Operand} {x':bA} {i:Nat} {vs:List AV} {r:AV} (ho:o.op=.extract x i) (hx:cr x=some x') (h:x'.ev s.slots=.gN vs) (hr:vs[i]?=some r):Quiet P X o a r:=by
  have hv:=aU hs hx
  rw[h] at hv
  obtain⟨us,e,h2⟩:=hv
  obtain⟨u,hu,h3⟩:=h2.get _ _ hr
  refine⟨u,?_,.ux h3⟩
  have:us[i]?=some u:=by grind
  simp[execOp,ho,e,Instr.extract,this]
theorem L0 {t : TypeId} {off sz : Nat} {agg : Bool} {cs : List AV} {us : Array Value} {r : AV} (hsz : cC P t = some sz) (hag : mL P t = some agg) (h1 : agg = true ∨ sz = 1) (hc : aq (VC X) cs us.toList) (hle : off + sz ≤ cs.length)
    (hr:fO agg ((cs.drop off).take sz)=some r):∃ v,(part t us off).run P X.w=.ok v X.w∧V1 X r v:=by
  obtain⟨i,hi,hs⟩:=eD hsz
  have hag:=zH hag X.w
  cases agg with
  | true =>
    cases hr
    refine⟨.agg (us.extract off (off+sz)),by simp[part,hag,sizeOf,typeInfo,hi,hs],us.extract off (off+sz),rfl,?_⟩
    have:=(hc.drop off).take sz<;>simp_all
  | false =>
    have hsz:sz=1:=h1.resolve_left (by simp)
    subst hsz
    simp[fO] at hr
    split at hr
    · rename_i v hv
      simp_all;subst hr
      have:cs[off]?=some v:=by
        have:((cs.drop off).take 1)[0]?=some v:=by grind
        grind
      obtain⟨u,hu,h3⟩:=hc.get _ _ this
      refine⟨u,?_,.eL h3⟩
      have:us[off]?=some u:=by grind
      simp[part,hag,this]
    grind
theorem PX (hs:eC X nt s a) {o:Oper} {t:TypeId} {fs:Array Field} {f:Field} {j sz:Nat} {agg:Bool} {x:Operand} {x':bA} {cs:List AV} {r:AV} (ho:o.op=.field t x j) (ht:P.underlying t=some (.struct fs)) (hf:fs[j]?=some f)
    (hsz:cC P f.type=some sz) (hag:mL P f.type=some agg) (h1:agg=true∨sz=1) (hx:cr x=some x') (h:x'.ev s.slots=.agg cs) (hle:f.offset+sz≤cs.length) (hr:fO agg ((cs.drop f.offset).take sz)=some r):Quiet P X o a r:=by
  have hv:=aU hs hx
  rw[h] at hv
  obtain⟨us,e,h2⟩:=hv
  obtain⟨v,hrun,hV⟩:=L0 (P:=P) hsz hag h1 h2 hle hr
  refine⟨v,?_,.ux hV⟩
  simp[execOp,ho,e,Instr.field,run_underlying ht,hf,asAgg,hrun]
theorem Nh (hs:eC X nt s a) {o:Oper} {t e:TypeId} {n k sz:Nat} {agg:Bool} {x i:Operand} {x' i':bA} {cs:List AV} {r:AV} (ho:o.op=.index t x i) (ht:P.underlying t=some (.array n e))
    (hsz:cC P e=some sz) (hag:mL P e=some agg) (h1:agg=true∨sz=1) (hx:cr x=some x') (hi:cr i=some i') (h:x'.ev s.slots=.agg cs) (hk:fo (i'.ev s.slots)=some k) (hkn:k<n) (hle:k*sz+sz≤cs.length)
    (hr:fO agg ((cs.drop (k*sz)).take sz)=some r):Quiet P X o a r:=by
  have hv:=aU hs hx
  rw[h] at hv
  obtain⟨us,he,h2⟩:=hv
  obtain⟨kd,hik⟩:=jo hk (aU hs hi)
  obtain⟨v,hrun,hV⟩:=L0 (P:=P) hsz hag h1 h2 hle hr
  obtain⟨j,hj,Es⟩:=eD hsz
  refine⟨v,?_,.ux hV⟩
  simp[execOp,ho,he,hik,Instr.index,asIntOf,run_underlying ht,sizeOf,typeInfo,hj,Es,hkn,hrun]
theorem Ni (hs:eC X nt s a) {o:Oper} {t:TypeId} {k:Nat} {x i:Operand} {x' i':bA} {b:ByteArray} {c:UInt8} (ho:o.op=.index t x i) (ht:P.underlying t=some .string)
    (hx:cr x=some x') (hi:cr i=some i') (h:x'.ev s.slots=.d (.sc (.string b))) (hk:fo (i'.ev s.slots)=some k) (hc:b.data.toList[k]?=some c):Quiet P X o a (lu (.int .u8 c.toNat)):=by
  have hv:=aU hs hx
  rw[h] at hv
  have hv:=hv.sc
  obtain⟨kd,hik⟩:=jo hk (aU hs hi)
  refine⟨_,?_,.lu rfl⟩
  have hlt:k<b.size:=by
    have:=(List.getElem?_eq_some_iff.1 hc).1<;>simp_all
  have hb:b[k]?=some c:=by
    rw[getElem?_pos b k hlt]
    have:=(List.getElem?_eq_some_iff.1 hc).2
    congr 1
  simp[execOp,ho,hv,hik,Instr.index,asIntOf,run_underlying ht,hb]
theorem uA (hs:eC X nt s a) {o:Oper} {t:TypeId} {fs:Array Field} {f:Field} {j sz:Nat} {x:Operand} {x':bA} {r:AV} (ho:o.op=.fieldAddr t x j) (ht:P.underlying t=some (.struct fs)) (hf:fs[j]?=some f)
    (hsz:cC P f.type=some sz) (h0:sz≠0) (hx:cr x=some x')
    (hr:(∃ lv sl aa i off,x'.ev s.slots=.ptr lv sl aa i off∧r=.ptr lv sl aa i (off+f.offset))∨∃ e off,x'.ev s.slots=.eW e off∧r=.eW e (off+f.offset)):Quiet P X o a r:=by
  have hv:=aU hs hx
  obtain⟨i,hi,hsi⟩:=eD hsz
  have run:∀ b off,(execOp a.eval o).run P X.w=(Sem.run P (do let v ←Instr.fieldAt t (.pointer (some ⟨b,off,none⟩)) j;pure (Next.value v)) X.w)→(execOp a.eval o).run P X.w=.ok (.value (.pointer (some ⟨b,off+f.offset,none⟩))) X.w:=by
    intro b off h
    rw[h]
    simp[Instr.fieldAt,run_underlying ht,hf,iz,fieldPlace,sizeOf,typeInfo,hi,hsi,h0,Addr.add_lit]
  rcases hr with⟨lv,sl,aa,i',off,hq,rfl⟩|⟨e,off,hq,rfl⟩
  · rw [hq] at hv
    obtain⟨L,hL,hv⟩:=hv
    refine⟨_,run L.b (L.o+i'*L.sz+off) (by simp only[execOp,ho,hv]),L,hL,by rw[Nat.add_assoc]⟩
  · rw [hq] at hv
    obtain⟨b,o',hv,h⟩:=hv
    exact⟨_,run b (o'+off) (by simp only[execOp,ho,hv]),b,o',by rw[Nat.add_assoc],h⟩
end
end Go.bq
