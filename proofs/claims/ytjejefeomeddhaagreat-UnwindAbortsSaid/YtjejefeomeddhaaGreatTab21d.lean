/- A part of the proof: SymL, SymM, SymN, SymO, Plain, Plain2, EngSort, EngCompact, Lay21a, SymClip, SymP, Tab21d. -/
import Derived.Test.YtjejefeomeddhaaGreatSymK
import Derived.Test.YtjejefeomeddhaaGreatSymD
import Derived.RowKit
import Derived.Carry
import Derived.ChangeOld
import Derived.Laws.Rows
import Derived.ChangeSame
import Derived.JoinedOf
import Derived.JoinedAt
import Derived.JoinedStill
import Derived.ProofKit
import GoSem.Claim
import GoSem.ClaimJoined
import GoSem.ClaimMapViews
import Derived.JoinedTies
import Derived.KernelRfl
import Derived.IntWalk
import Derived.Test.YtjejefeomeddhaaGreatEngS
import Derived.Shelf.Sort.Plain
import Derived.Shelf.Slices.In.SortNone
import Derived.Shelf.Slices.CompactI
import Derived.Shelf.Lays
import Derived.Shelf.LaysM
import Derived.Shelf.LaysC
import Derived.Ground.NamesProg
import Derived.Ground.Names2Prog
import Derived.Test.YtjejefeomeddhaaGreatRows
import Derived.Test.YtjejefeomeddhaaGreatChecked
import Derived.Test.YtjejefeomeddhaaGreatSymJ
set_option linter.unusedVariables false
set_option linter.unusedSimpArgs false
variable [Go.Eng.Rho]
set_option linter.unusedSectionVars false
namespace Go.Sym
open Go Go.Eng Go.RowKit
mutual
def Val.ok:Val→Prop
  |.mk k i s l _=>(IntKind.u8.min≤k∧k≤IntKind.u8.max)∧(IntKind.i64.min≤i∧i≤IntKind.i64.max)∧s.length≤maxLen∧l.length≤maxLen∧Val.oks l
def Val.oks:List Val→Prop
  |[]=>True
  |v :: r=>Val.ok v∧Val.oks r
end
def Ty.ok : (t : Ty) → t.den → Prop
  |.val,v=>Val.ok v
  |.int k,a=>k.min≤a∧a≤k.max
  |.bool,_=>True
  |.str,s=>s.length≤maxLen
  |.sl t,l=>l.length≤maxLen∧∀ x∈l,Ty.ok t x
  |.unit,_=>True
  |.prod a b,x=>Ty.ok a x.1∧Ty.ok b x.2
  | .sum a b, x => match x with
    |.inl y=>Ty.ok a y
    |.inr y=>Ty.ok b y
theorem Val.oks_iff:∀ {l:List Val},Val.oks l↔∀ v∈l,Val.ok v
  |[]=>by simp[Val.oks]
  |v :: r=>by simp[Val.oks,Val.oks_iff (l:=r)]
mutual
def tyP (P : Program) (rv : Option TypeId) : Nat → TypeId → Option Ty
  |0,_=>none
  | n + 1, t => if rv = some t then some .val else
    match P.underlying t with
    |some .bool=>some .bool
    |some (.int k)=>some (.int k)
    |some .string=>some .str
    | some (.slice e) => match tyP P rv n e with
      |some T=>if 0<P.cellsOf e∧T.size=P.cellsOf e then some (.sl T) else none
      |none=>none
    | some (.struct fs) => match tyF P rv n 0 fs.toList with
      |some (Ts,k)=>if k=P.cellsOf t then some (tyL Ts) else none
      |none=>none
    | some (.array m e) => match tyP P rv n e with
      |some T=>if T.size=P.cellsOf e∧m*P.cellsOf e=P.cellsOf t then some (tyL (List.replicate m T)) else none
      |none=>none
    |_=>none
def tyF (P : Program) (rv : Option TypeId) : Nat → Nat → List Field → Option (List Ty × Nat)
  |_,off,[]=>some ([],off)
  |0,_,_ :: _=>none
  | n + 1, off, f :: r => match tyP P rv n f.type, tyF P rv n (off + P.cellsOf f.type) r with
    |some T,some (Ts,k)=>if f.offset=off∧T.size=P.cellsOf f.type then some (T :: Ts,k) else none
    |_,_=>none
end
def RvOK (P:Program) (rv:Option TypeId):Prop:=∀ t,rv=some t→∃ fs n,P.underlying t=some (.struct fs)∧tyF P rv n 0 fs.toList=some ([.int .u8,.int .i64,.str,.sl .val,.bool],5)∧P.cellsOf t=5
section
variable {H:Type} {enc:TypeId×Value→H} {P:Program} {w:World} {base:Nat} {sp:Nat→Bool} {held:Bool} {rv:Option TypeId}
def inPs (ps:List MemPlace):Nat→Nat→Prop:=fun b o=>MemPlace.cell b o∈ps
theorem mapM_some {α β : Type} {f : α→Option β} : ∀ {l:List α} {r:List β},l.mapM f=some r→r.length=l.length∧∀ (i:Nat) (x : α),l[i]?=some x→∃ y,r[i]?=some y∧f x=some y
  | [], r, h => by
    grind
  | a :: l, r, h => by
    simp at h
    obtain⟨y,h1,h⟩:=opt_bind h
    obtain⟨ys,h2,h⟩:=opt_bind h
    obtain⟨h3,h4⟩:=mapM_some h2<;>grind
theorem add_cell {a:Addr} {n:Nat} {v:Value} (h:w.cell? (a.add n)=some v):w.cell? ⟨a.block,a.off+n,none⟩=some v∧(n=0→a.spot=none):=by
  unfold Addr.add at h
  split at h
  · have hs : a.spot = none := by
      unfold World.cell? at h
      split at h<;>simp_all
    obtain⟨b,o,sp⟩:=a<;>grind
  grind
theorem exists_list {α β : Type} {Q:Nat→α→β→Prop} : ∀ {l:List α} , (∀ (i:Nat) (x : α),l[i]?=some x→∃ y,Q i x y)→∃ r:List β,r.length=l.length∧∀ (i:Nat) (x : α),l[i]?=some x→∃ y,r[i]?=some y∧Q i x y:=by
  intro l h
  classical
  have:∀ i:Fin l.length,∃ y,Q i l[i] y:=fun i=>h i _ (List.getElem?_eq_getElem i.2)
  let f:Fin l.length→β:=fun i=>Classical.choose (this i)
  refine⟨List.ofFn f,by simp,fun i x hi=>?_⟩<;>grind
theorem encs_val (x:(tyL [.int .u8,.int .i64,.str,.sl .val,.bool]).den):encs .val (.mk x.1 x.2.1 x.2.2.1 x.2.2.2.1 x.2.2.2.2)=encs (tyL [.int .u8,.int .i64,.str,.sl .val,.bool]) x:=by
  simp[encs,encV,encVs_map]
theorem all2_drop_take {α β : Type} {R : α→β→Prop} {l:List α} {m:List β} {n k:Nat} (h:All2 R l ((m.drop n).take k)) {l':List α} {j:Nat} (h':All2 R l' ((m.drop (n+k)).take j)):All2 R (l++l') ((m.drop n).take (k+j)):=by
  have:=h.append h'
  rw[List.take_add,List.drop_drop]
  exact this
theorem rep_data {T:Ty} {R:D→Value→Prop} {cs:List Value} {c:Nat} : ∀ (m off:Nat),(∀ i,i<m→∃ x:T.den,T.ok x∧All2 R (encs T x) ((cs.drop (off+i*c)).take c))→
    ∃ x:(tyL (List.replicate m T)).den,(tyL (List.replicate m T)).ok x∧All2 R (encs (tyL (List.replicate m T)) x) ((cs.drop off).take (m*c))
  |0,off,_=>⟨(),trivial,by simp[encs,All2]⟩
  | 1, off, h => by
    simp_all
  | m + 2, off, h => by
    obtain⟨x,ox,hx⟩:=h 0 (by omega)
    simp at hx
    obtain⟨z,oz,hz⟩:=rep_data (m+1) (off+c) fun i hi=>by
      have:=h (i+1) (by omega)
      rwa[show off+(i+1)*c=off+c+i*c by rw[Nat.add_mul,Nat.one_mul];omega] at this
    refine⟨(x,z),⟨ox,oz⟩,?_⟩
    have hj:=all2_drop_take hx hz
    rw[show c+(m+1)*c=(m+2)*c by rw[Nat.add_mul,Nat.add_mul];omega] at hj
    exact hj
theorem trod_data (hrv : RvOK P rv) : ∀ (fuel : Nat) (t : TypeId) (cs : List Value) (d : DataW H) (ps : List MemPlace), DataW.trod enc P w base sp held fuel t cs = some (d, ps) → ∀ (k : Nat) (T : Ty), tyP P rv k t = some T → ∃ x : T.den, T.ok x ∧ All2 (DR w (inPs ps)) (encs T x) cs
  |0,_,_,_,_,h=>by simp[DataW.trod] at h
  | fuel + 1, t, cs, d, ps, h => by
    have ih:=trod_data hrv fuel
    have fields : ∀ (l : List Field) (k off e : Nat) (Ts : List Ty) (xs : List (DataW H × List MemPlace)), tyF P rv k off l = some (Ts, e) → (l.mapM fun f => DataW.trod enc P w base sp held fuel f.type ((cs.drop f.offset).take (P.cellsOf f.type))) = some xs → (∀ x ∈ xs, ∀ q ∈ x.2, q ∈ ps) →
        off≤e∧∃ x:(tyL Ts).den,(tyL Ts).ok x∧All2 (DR w (inPs ps)) (encs (tyL Ts) x) ((cs.drop off).take (e-off)):=by
      intro l
      induction l with
      | nil =>
        intro k off e Ts xs hk hxs _
        cases k<;>(simp only[tyF,Option.some.injEq,Prod.mk.injEq] at hk;obtain⟨rfl,rfl⟩:=hk;exact⟨Nat.le_refl _,(),trivial,by simp[encs,All2]⟩)
      | cons f l ihl =>
        intro k off e Ts xs hk hxs hps
        cases k with
        |zero=>simp[tyF] at hk
        | succ k =>
          simp[tyF] at hk
          split at hk
          · rename_i T Ts' e' h1 h2
            split at hk
            · rename_i hc
              simp at hk
              obtain⟨rfl,rfl⟩:=hk
              obtain⟨rfl,hsz⟩:=hc
              simp at hxs
              obtain⟨y,g1,hxs⟩:=opt_bind hxs
              obtain⟨ys,g2,hxs⟩:=opt_bind hxs
              cases hxs
              obtain⟨x,ox,hx⟩:=ih _ _ y.1 y.2 g1 _ _ h1
              have hx:All2 (DR w (inPs ps)) (encs T x) ((cs.drop f.offset).take (P.cellsOf f.type)):=hx.mono fun _ _=>DR.mono fun b o hb=>hps y List.mem_cons_self _ hb
              obtain⟨hle,z,oz,hz⟩:=ihl _ _ _ _ _ h2 g2 fun x hx=>hps x (List.mem_cons_of_mem _ hx)
              refine⟨by omega,?_⟩
              have hj:=all2_drop_take hx hz
              rw[show P.cellsOf f.type+(e'-(f.offset+P.cellsOf f.type))=e'-f.offset from by omega] at hj
              cases Ts' with
              | nil =>
                refine⟨x,ox,?_⟩
                simpa[encs] using hj
              |cons T2 Ts2=>exact⟨(x,z),⟨ox,oz⟩,hj⟩
            grind
          grind
    intro k T hT
    cases k with
    |zero=>simp[tyP] at hT
    |succ k=>
    unfold DataW.trod at h
    simp only[tyP] at hT
    split at hT
    ·
      rename_i hr
      injection hT with hT;subst hT
      obtain⟨fs,n,hu,hF,hc⟩:=hrv t hr
      rw[hu] at h
      simp only at h
      split at h
      · rename_i hlen
        obtain⟨xs,hxs,he⟩:=opt_map h
        simp only[Prod.mk.injEq] at he
        obtain⟨_,rfl⟩:=he
        obtain⟨_,x,ox,hx⟩:=fields _ _ _ _ _ _ hF hxs fun x hx q hq=>List.mem_flatMap.2 ⟨x,hx,hq⟩
        refine⟨.mk x.1 x.2.1 x.2.2.1 x.2.2.2.1 x.2.2.2.2,?_,?_⟩
        · obtain ⟨o1, o2, o3, o4, o5⟩ := ox
          exact⟨o1,o2,o3,o4.1,Val.oks_iff.2 o4.2⟩
        · rw [encs_val]
          rw[hc] at hlen
          simpa[List.take_of_length_le,hlen] using hx
      · cases h
    · rename_i hr
      cases hu:P.underlying t with
      |none=>rw[hu] at hT;cases hT
      | some desc =>
        rw[hu] at hT h
        cases desc with
        | bool =>
          injection hT with hT;subst hT
          simp only at h
          split at h<;>first|(exfalso;have q:=‹some TypeDesc.bool=some _›;injection q with q;cases q;done)|cases h|skip
          rename_i b _
          exact⟨b,trivial,.sc _ rfl,trivial⟩
        | int kd =>
          injection hT with hT;subst hT
          simp only at h
          split at h<;>first|(exfalso;have q:=‹some (TypeDesc.int kd)=some _›;injection q with q;cases q;done)|cases h|skip
          rename_i k k' n heq
          injection heq with heq;injection heq with heq;subst heq
          split at h
          · rename_i hc
            obtain⟨rfl,hw⟩:=hc
            simp only[Lit.wf,Bool.and_eq_true,decide_eq_true_eq] at hw
            exact⟨n,hw,.sc _ rfl,trivial⟩
          · cases h
        | string =>
          injection hT with hT;subst hT
          simp only at h
          split at h<;>first|(exfalso;have q:=‹some TypeDesc.string=some _›;injection q with q;cases q;done)|cases h|skip
          rename_i s _
          split at h
          · rename_i hc
            refine⟨s.data.toList,(by show s.data.toList.length≤maxLen;rw[Array.length_toList];exact hc),?_,trivial⟩
            exact .sc _ rfl
          · cases h
        | slice e =>
          simp only at hT h
          split at hT
          · rename_i T' hT'
            split at hT
            · rename_i hc
              injection hT with hT;subst hT
              obtain⟨hpos,hsz⟩:=hc
              split at h<;>first|(exfalso;have q:=‹some (TypeDesc.slice e)=some _›;injection q with q;cases q;done)|cases h|skip
              · refine ⟨[], ⟨by simp, fun x hx => by cases hx⟩, ?_, trivial⟩
                exact .sl [] none 0 0 0 0 0 (fun _ _=>.bool false) rfl (Nat.le_refl _) (fun e h=>by cases h) (fun h=>by cases h) (fun i e j x h=>by simp at h) (fun i e j x h=>by simp at h) (fun i e j x h=>by simp at h)
              · rename_i e' a len cap heq
                injection heq with heq;injection heq with heq;subst heq
                split at h
                · rename_i hb
                  obtain⟨elems,hel,h⟩:=opt_bind h
                  obtain⟨rest,hrest,he⟩:=opt_map h
                  simp only[Prod.mk.injEq] at he
                  obtain⟨_,rfl⟩:=he
                  obtain⟨hlen,hget⟩:=mapM_some hel
                  rw[List.length_range] at hlen
                  have elem:∀ i y,elems[i]?=some y→∃ x:T'.den,T'.ok x∧∃ csi,w.cells? base (a.add (i*P.cellsOf e)) (P.cellsOf e)=some csi∧All2 (DR w (inPs (MemPlace.row a ((elems.length+rest.length)*P.cellsOf e)++(elems++rest).flatMap (·.2)))) (encs T' x) csi:=by
                    intro i y hi
                    have hil:i<len:=by rw[←hlen];exact (List.getElem?_eq_some_iff.1 hi).1
                    obtain⟨y',hy',hf⟩:=hget i i (by simp[hil])
                    rw[hi] at hy'
                    injection hy' with hy';subst hy'
                    obtain⟨csi,h1,h2⟩:=opt_bind hf
                    obtain⟨x,ox,hx⟩:=ih _ _ y.1 y.2 h2 _ _ hT'
                    refine⟨x,ox,csi,h1,hx.mono fun _ _=>DR.mono fun b o hb=>?_⟩
                    refine List.mem_append_right _ (List.mem_flatMap.2 ⟨y,List.mem_append_left _ (List.mem_of_getElem? hi),hb⟩)
                  obtain⟨xs,hxl,hxs⟩:=exists_list elem
                  have hxlen:xs.length=len:=by rw[hxl,hlen]
                  refine⟨xs,⟨by rw[hxlen];omega,fun x hx=>?_⟩,?_,trivial⟩
                  · obtain ⟨i, hi⟩ := List.getElem?_of_mem hx
                    have hi':i<elems.length:=by rw[←hxl];exact (List.getElem?_eq_some_iff.1 hi).1
                    obtain⟨y,hy,oy,_⟩:=hxs i _ (List.getElem?_eq_getElem hi')
                    rw[hi] at hy
                    injection hy with hy;subst hy
                    exact oy
                  ·
                    have cell:∀ i e' j x',(xs.map (encs T'))[i]?=some e'→e'[j]?=some x'→j<P.cellsOf e∧i<len∧∃ v,w.cell? ⟨a.block,a.off+i*P.cellsOf e+j,none⟩=some v∧(i=0→j=0→a.spot=none)∧DR w (inPs (MemPlace.row a ((elems.length+rest.length)*P.cellsOf e)++(elems++rest).flatMap (·.2))) x' v:=by
                      intro i e' j x' hi hj
                      rw[List.getElem?_map] at hi
                      obtain⟨x,hx,rfl⟩:=opt_map hi
                      have hi':i<elems.length:=by rw[←hxl];exact (List.getElem?_eq_some_iff.1 hx).1
                      obtain⟨y,hy,oy,csi,h1,h2⟩:=hxs i _ (List.getElem?_eq_getElem hi')
                      rw[hx] at hy
                      injection hy with hy;subst hy
                      obtain⟨v,hv,hd⟩:=h2.get j x' hj
                      have hjl:j<P.cellsOf e:=by
                        have:=(List.getElem?_eq_some_iff.1 hj).1
                        rw[encs_length,hsz] at this
                        exact this
                      unfold World.cells? at h1
                      split at h1
                      · obtain ⟨_, hg⟩ := mapM_some h1
                        obtain⟨v',hv',hcell⟩:=hg j j (by simp[hjl])
                        rw[hv] at hv'
                        injection hv' with hv';subst hv'
                        obtain⟨c1,c2⟩:=add_cell hcell
                        have e1:(a.add (i*P.cellsOf e)).block=a.block∧(a.add (i*P.cellsOf e)).off=a.off+i*P.cellsOf e:=by
                          unfold Addr.add
                          split
                          · rename_i h0;rw[h0];exact⟨rfl,rfl⟩
                          · exact⟨rfl,rfl⟩
                        rw[e1.1,e1.2] at c1
                        refine⟨hjl,by omega,v,c1,fun h0 h0'=>?_,hd⟩
                        have:=c2 h0'
                        subst h0
                        simpa[Addr.add] using this
                      · cases h1
                    have hl:Lies w (inPs (MemPlace.row a ((elems.length+rest.length)*P.cellsOf e)++(elems++rest).flatMap (·.2))) (inPs (MemPlace.row a ((elems.length+rest.length)*P.cellsOf e)++(elems++rest).flatMap (·.2))) (xs.map (encs T')) a.block a.off (P.cellsOf e):=by
                      refine⟨fun e' he'=>?_,fun i e' j x' hi hj=>?_⟩
                      · obtain ⟨x, _, rfl⟩ := List.mem_map.1 he'
                        rw[encs_length,hsz]
                      · obtain ⟨c1, c2, v, c3, _, c4⟩ := cell i e' j x' hi hj
                        refine⟨List.mem_append_left _ ?_,v,c3,c4⟩
                        unfold MemPlace.row
                        rw[List.mem_map]
                        refine⟨i*P.cellsOf e+j,?_,by rw[Nat.add_assoc]⟩
                        rw[List.mem_range,hlen]
                        have:(i+1)*P.cellsOf e≤(len+rest.length)*P.cellsOf e:=Nat.mul_le_mul_right _ (by omega)
                        rw[Nat.add_mul,Nat.one_mul] at this
                        omega
                    refine DR.of_lies hl (by simp[hxlen]) hb.2.1 fun hn=>?_
                    have hx0:0<xs.length:=by omega
                    have h0:(xs.map (encs T'))[0]?=some (encs T' xs[0]):=by simp[hx0]
                    have hs0:0<(encs T' xs[0]).length:=by rw[encs_length,hsz];exact hpos
                    obtain⟨_,_,v,_,hsp,_⟩:=cell 0 _ 0 _ h0 (List.getElem?_eq_getElem hs0)
                    have:=hsp rfl rfl
                    obtain⟨ab,ao,asp⟩:=a
                    simp only at this
                    subst this
                    rfl
                · cases h
            · cases hT
          · cases hT
        | struct fs =>
          simp only at hT h
          split at hT
          · rename_i Ts e hF
            split at hT
            · rename_i hc
              injection hT with hT;subst hT
              split at h
              · rename_i hlen
                obtain⟨xs,hxs,he⟩:=opt_map h
                simp only[Prod.mk.injEq] at he
                obtain⟨_,rfl⟩:=he
                obtain⟨_,x,ox,hx⟩:=fields _ _ _ _ _ _ hF hxs fun x hx q hq=>List.mem_flatMap.2 ⟨x,hx,hq⟩
                refine⟨x,ox,?_⟩
                rw[hc] at hx
                simpa[List.take_of_length_le,hlen] using hx
              · cases h
            · cases hT
          · cases hT
        | array m e =>
          simp only at hT h
          split at hT
          · rename_i T' hT'
            split at hT
            · rename_i hc
              injection hT with hT;subst hT
              obtain⟨hsz,hm⟩:=hc
              split at h
              · rename_i hlen
                obtain⟨xs,hxs,he⟩:=opt_map h
                simp only[Prod.mk.injEq] at he
                obtain⟨_,rfl⟩:=he
                obtain⟨hl,hget⟩:=mapM_some hxs
                obtain⟨x,ox,hx⟩:=rep_data (T:=T') (R:=DR w (inPs (xs.flatMap (·.2)))) (cs:=cs) (c:=P.cellsOf e) m 0 fun i hi=>by
                  obtain⟨y,hy,hf⟩:=hget i i (by simp[hi])
                  obtain⟨x,ox,hx⟩:=ih _ _ y.1 y.2 hf _ _ hT'
                  refine⟨x,ox,?_⟩
                  rw[Nat.zero_add]
                  exact hx.mono fun _ _=>DR.mono fun b o hb=>List.mem_flatMap.2 ⟨y,List.mem_of_getElem? hy,hb⟩
                refine⟨x,ox,?_⟩
                rw[hm] at hx
                simpa[List.take_of_length_le,hlen] using hx
              · cases h
            · cases hT
          · cases hT
        |_=>cases hT
end
end Go.Sym
set_option linter.unusedSectionVars false
namespace Go.Sym
open Go Go.Eng Go.RowKit
def tysOf:Ty→List Ty
  |.val=>[.int .u8,.int .i64,.str,.sl .val,.bool]
  |.int k=>[.int k]
  |.bool=>[.bool]
  |.str=>[.str]
  |.sl t=>[.sl t]
  |.unit=>[]
  |.prod a b=>tysOf a++tysOf b
  |.sum _ _=>[]
def cshOf:Ty→List CSh
  |.val=>[.int .u8,.int .i64,.str,.sl .val .d,.bool]
  |.int k=>[.int k]
  |.bool=>[.bool]
  |.str=>[.str]
  |.sl t=>[.sl t .d]
  |.unit=>[]
  |.prod a b=>cshOf a++cshOf b
  |.sum _ _=>[]
def flat:(T:Ty)→T.den→List Dyn
  |.val,v=>[⟨.int .u8,v.kind⟩,⟨.int .i64,v.int⟩,⟨.str,v.text⟩,⟨.sl .val,v.list⟩,⟨.bool,v.cut⟩]
  |.int k,a=>[⟨.int k,a⟩]
  |.bool,b=>[⟨.bool,b⟩]
  |.str,s=>[⟨.str,s⟩]
  |.sl t,l=>[⟨.sl t,l⟩]
  |.unit,_=>[]
  |.prod a b,x=>flat a x.1++flat b x.2
  |.sum _ _,_=>[]
theorem flat_tys:∀ (T:Ty) (x:T.den),(flat T x).map (·.t)=tysOf T
  |.val,_=>rfl
  |.int _,_=>rfl
  |.bool,_=>rfl
  |.str,_=>rfl
  |.sl _,_=>rfl
  |.unit,_=>rfl
  |.prod a b,x=>by simp[flat,tysOf,flat_tys a,flat_tys b]
  |.sum _ _,_=>rfl
theorem fillCs_append : ∀ {l l' : List CSh} {r r' r'' : List Dyn} {xs ys : List Cell}, fillCs l r = some (xs, r') → fillCs l' r' = some (ys, r'') → fillCs (l ++ l') r = some (xs ++ ys, r'')
  | [], l', r, r', r'', xs, ys, h, h' => by
    cases h<;>grind
  | c :: l, l', r, r', r'', xs, ys, h, h' => by
    simp[fillCs] at h
    split at h
    · rename_i x r1 h1
      split at h
      · rename_i xs1 r2 h2
        cases h
        simp[List.cons_append,fillCs,h1,fillCs_append h2 h']
      grind
    grind
theorem flat_fill:∀ (T:Ty) (x:T.den) (rest:List Dyn),fillCs (cshOf T) (flat T x++rest)=some (cellsT T x,rest)
  |.val,_,_=>rfl
  |.int _,_,_=>rfl
  |.bool,_,_=>rfl
  |.str,_,_=>rfl
  |.sl _,_,_=>rfl
  |.unit,_,_=>rfl
  | .prod a b, x, rest => by
    simp[cshOf,flat,List.append_assoc,cellsT]
    exact fillCs_append (flat_fill a x.1 _) (flat_fill b x.2 rest)
  |.sum _ _,_,_=>rfl
def okD (ds:List Dyn):Prop:=∀ d∈ds,d.t.ok d.v
theorem flat_ok:∀ (T:Ty) (x:T.den),T.ok x→okD (flat T x)
  | .val, v, h => by
    cases v
    obtain⟨h1,h2,h3,h4,h5⟩:=h
    intro d hd
    simp[flat,List.mem_cons,List.not_mem_nil,or_false] at hd
    rcases hd with rfl|rfl|rfl|rfl|rfl
    · exact h1
    · exact h2
    · exact h3
    · exact⟨h4,Val.oks_iff.1 h5⟩
    · trivial
  |.int _,_,h=>fun d hd=>by simp[flat] at hd<;>grind
  |.bool,_,h=>fun d hd=>by simp[flat] at hd<;>grind
  |.str,_,h=>fun d hd=>by simp[flat] at hd<;>grind
  |.sl _,_,h=>fun d hd=>by simp[flat] at hd<;>grind
  |.unit,_,_=>fun d hd=>by simp[flat] at hd
  | .prod a b, x, h => fun d hd => by
    simp[flat,List.mem_append] at hd
    rcases hd with hd|hd
    · exact flat_ok a x.1 h.1 d hd
    · exact flat_ok b x.2 h.2 d hd
  |.sum _ _,_,_=>fun d hd=>by simp[flat] at hd
theorem castTy_refl (a:Ty) (x:a.den):castTy a a x=some x:=by
  unfold castTy
  split<;>grind
theorem pack_self:∀ ds:List Dyn,∃ x,pack (ds.map (·.t)) ds=some x
  |[]=>⟨(),rfl⟩
  |[d]=>⟨d.v,castTy_refl _ _⟩
  | d :: e :: r => by
    obtain⟨y,hy⟩:=pack_self (e :: r)
    refine⟨(d.v,y),?_⟩
    have hy':pack (e.t :: r.map (·.t)) (e :: r)=some y:=hy
    show pack (d.t :: e.t :: r.map (·.t)) (d :: e :: r)=some (d.v,y)
    simp[pack,castTy_refl,hy']
abbrev Par:=TypeId×Bool×Ty
def Par.sh (p:Par):PSh:=
  match p.2.1,cshOf p.2.2 with
  |false,[c]=>.c c
  |_,l=>.agg l
def parTys (l:List Par):List Ty:=l.flatMap fun p=>tysOf p.2.2
def okL (ts:List Ty) (x:(tyL ts).den):Prop:=okD (unpack ts x)
def parFit (P:Program) (p:Par):Bool:=
  match P.underlying p.1 with
  |some (.struct _)=>p.2.1
  |some (.array _ _)=>p.2.1
  |some .bool|some (.int _)|some .string|some (.slice _)=>!p.2.1
  |_=>false
def parOK (P:Program) (rv:Option TypeId) (k:Nat) (p:Par):Prop:=tyP P rv k p.1=some p.2.2∧parFit P p=true
section
variable {H:Type} {enc:TypeId×Value→H} {P:Program} {w:World} {sp:Nat→Bool} {held:Bool} {rv:Option TypeId}
theorem okWide_agg {t:TypeId} {v:Value} {b:Nat} {fs:Array Field} (h:Value.okWide P w .any b t v) (hu:P.underlying t=some (.struct fs)):∃ cs,v=.agg cs:=by
  simp[Value.okWide,hu] at h<;>grind
theorem okWide_arr {t:TypeId} {v:Value} {b n:Nat} {e:TypeId} (h:Value.okWide P w .any b t v) (hu:P.underlying t=some (.array n e)):∃ cs,v=.agg cs:=by
  simp[Value.okWide,hu] at h<;>grind
theorem okWide_cell {t:TypeId} {v:Value} {b:Nat} {d:TypeDesc} (h:Value.okWide P w .any b t v) (hu:P.underlying t=some d) (hd:d=.bool∨(∃ k,d=.int k)∨d=.string∨∃ e,d=.slice e):v.cells = #[v]:=by
  rcases hd with rfl|⟨k,rfl⟩|rfl|⟨e,rfl⟩<;>cases v<;>first|rfl|(simp[Value.okWide,hu,Cell.okWide,Cell.ok] at h)
def fit1 (P:Program) (B:Nat) (t:TypeId):(T:Ty)→T.den→Prop
  |.sl _,l=>∀ e,P.underlying t=some (.slice e)→l.length*P.bytesOf e≤B
  |.str,s=>P.underlying t=some .string→s.length≤B
  |_,_=>True
theorem fit_ok {fuel : Nat} {t : TypeId} {cs : List Value} {d : DataW H} {ps : List MemPlace} (hf : DataW.trod enc P w 0 sp held fuel t cs = some (d, ps)) {T : Ty} {x : T.den} {F : Nat → Nat → Prop} (hx : All2 (DR w F) (encs T x) cs)
    {B:Nat} (hw:(d.weights P t).all (fun b=>decide (b≤B))=true):fit1 P B t T x:=by
  cases fuel with
  |zero=>simp[DataW.trod] at hf
  |succ fuel=>
  cases T with
  | sl T' =>
    intro e he
    match cs,hx with
    | [c], hx =>
      have hd:DR w F (.sl (List.map (encs T') x)) c:=hx.1
      cases hd with
      | sl els a n cap sz b o g hn hcap hsz ha hF hc hr =>
        unfold DataW.trod at hf
        rw[he] at hf
        split at hf<;>first|(exfalso;have q:=‹some (TypeDesc.slice e)=some _›;injection q with q;cases q;done)|cases hf|skip
        · grind
        · subst_vars
          split at hf
          · obtain ⟨elems, hel, hf⟩ := opt_bind hf
            obtain⟨rest,hrest,heq⟩:=opt_map hf
            cases heq
            have hlen:=(mapM_some hel).1
            simp[DataW.weights,he,List.all_cons,Bool.and_eq_true,decide_eq_true_eq,List.length_map] at hw<;>grind
          grind
  | str =>
    intro he
    match cs,hx with
    | [c], hx =>
      have hd:DR w F (.sc (.string ⟨x.toArray⟩)) c:=hx.1
      cases hd with
      | sc v h1 =>
        unfold DataW.trod at hf
        rw[he] at hf
        simp only at hf
        split at hf<;>first|(exfalso;have q:=‹some TypeDesc.string=some _›;injection q with q;cases q;done)|cases hf|skip
        simpa[DataW.weights] using hw
  |_=>trivial
def fitD (P:Program) (B:Nat):List Par→List Dyn→Prop
  |[],_=>True
  |p :: l,ds=>(∃ x:p.2.2.den,(∃ rest,ds=flat p.2.2 x++rest)∧fit1 P B p.1 p.2.2 x)∧fitD P B l (ds.drop (tysOf p.2.2).length)
def fitL (P:Program) (B:Nat) (l:List Par) (x:(tyL (parTys l)).den):Prop:=fitD P B l (unpack (parTys l) x)
def cxA (w:World) (ps:List MemPlace):Cx:={ w,F:=inPs ps,ρ:=fun _=>none,old:=fun b=>b<w.heap.size }
theorem cxA_mem (hg:(∀ b,gblk b→b<w.heap.size)∧gok w) (ps:List MemPlace) (hlt:∀ x∈ps,x.block<w.heap.size):MemOK (cxA w ps) [.lf] .lf where
  ents lv sl e he:=by rw[memGet_lf] at he;cases he
  tips v hv:=by simp at hv
  apart k k' v v' L L' a b:=by
    rcases a with⟨_,_,_,_,he,_⟩|⟨_,he⟩
    · rw[memGet_lf] at he;cases he
    · simp at he
  inF b o h:=hlt _ h
  lows:=⟨fun _ h=>h,hg.1,hg.2⟩
theorem all2_V1 {X:Cx} : ∀ {ds:List D} {cs:List Value},All2 (DR X.w X.F) ds cs→All2 (VC X) (ds.map .d) cs
  |[],[],_=>trivial
  |_ :: _,_ :: _,h=>⟨h.1,all2_V1 h.2⟩
  |[],_ :: _,h=>h.elim
  |_ :: _,[],h=>h.elim
theorem par_ok (hrv : RvOK P rv) {k : Nat} {p : Par} (hp : parOK P rv k p) {v : Value} {d : DataW H} {qs ps : List MemPlace} {b : Nat} (hv : Value.okWide P w .any b p.1 v) (h : DataW.Trod enc P w 0 sp held p.1 v d qs) (hsub : ∀ q ∈ qs, q ∈ ps) :
    ∃ (x:p.2.2.den) (a:AV) (u:V2),p.2.2.ok x∧V1 (cxA w ps) a v∧RV ρ0 0 [] u a∧(∀ rest,fillP [p.sh] (flat p.2.2 x++rest)=some ([u],rest))∧(∀ B,(d.weights P p.1).all (fun b=>decide (b≤B))=true→fit1 P B p.1 p.2.2 x):=by
  obtain⟨t,ag,T⟩:=p
  obtain⟨hT,hfit⟩:=hp
  obtain⟨fuel,hf⟩:=h
  obtain⟨x,ox,hx⟩:=trod_data hrv fuel _ _ _ _ hf _ _ hT
  have hfit1:=fun (B:Nat) hw=>fit_ok (x:=x) hf hx (B:=B) hw
  have hx:All2 (DR (cxA w ps).w (cxA w ps).F) (encs T x) v.cells.toList:=hx.mono fun _ _=>DR.mono fun b o hb=>hsub _ hb
  have hfill:=flat_fill T x
  have aggcase:(∃ cs,v=.agg cs)→ag=true→∃ (a:AV) (u:V2),V1 (cxA w ps) a v∧RV ρ0 0 [] u a∧∀ rest,fillP [Par.sh (t,ag,T)] (flat T x++rest)=some ([u],rest):=by
    rintro⟨cs,rfl⟩ rfl
    refine⟨.agg ((encs T x).map .d),.agg (cellsT T x),⟨cs,rfl,all2_V1 hx⟩,⟨_,rfl,cellsT_ok T x⟩,fun rest=>?_⟩
    simp[Par.sh,fillP,VSh.fill,hfill]
  have cellcase:v.cells = #[v]→ag=false→(∃ c,cshOf T=[c])→∃ (a:AV) (u:V2),V1 (cxA w ps) a v∧RV ρ0 0 [] u a∧∀ rest,fillP [Par.sh (t,ag,T)] (flat T x++rest)=some ([u],rest):=by
    rintro hc rfl ⟨c,hcs⟩
    rw[hc] at hx
    have hl:=hx.length
    match he:encs T x,hl with
    | [y], _ =>
      rw[he] at hx
      have hcell:=cellsT_ok (ρ:=ρ0) (B:=0) (m:=[]) T x
      rw[he] at hcell
      match hct:cellsT T x,hcell with
      | [z], hcell =>
        refine⟨.d y,.c z,?_,hcell.1,fun rest=>?_⟩
        · exact hx.1
        · have := hfill rest
          rw[hcs] at this
          simp[fillCs] at this
          simp[Par.sh,hcs,fillP,VSh.fill]<;>grind
  have fin:(∃ (a:AV) (u:V2),V1 (cxA w ps) a v∧RV ρ0 0 [] u a∧∀ rest,fillP [Par.sh (t,ag,T)] (flat T x++rest)=some ([u],rest))→∃ (x:T.den) (a:AV) (u:V2),T.ok x∧V1 (cxA w ps) a v∧RV ρ0 0 [] u a∧(∀ rest,fillP [Par.sh (t,ag,T)] (flat T x++rest)=some ([u],rest))∧(∀ B,(d.weights P t).all (fun b=>decide (b≤B))=true→fit1 P B t T x):=by
    grind
  apply fin
  unfold parFit at hfit
  cases hu:P.underlying t with
  |none=>grind
  | some desc =>
    rw[hu] at hfit
    cases k with
    |zero=>simp[tyP] at hT
    |succ k=>
    have one:∀ {d:TypeDesc},desc=d→(d=.bool∨(∃ k,d=.int k)∨d=.string∨∃ e,d=.slice e)→∃ c,cshOf T=[c]:=by
      intro d hd hq
      subst hd
      simp[tyP] at hT
      split at hT
      · rename_i hr
        obtain⟨fs,_,hu',_⟩:=hrv t hr<;>grind
      · rw [hu] at hT
        rcases hq with rfl|⟨k,rfl⟩|rfl|⟨e,rfl⟩
        · cases hT;exact⟨_,rfl⟩
        · cases hT;exact⟨_,rfl⟩
        · cases hT;exact⟨_,rfl⟩
        · simp at hT
          split at hT
          · split at hT
            · cases hT;exact⟨_,rfl⟩
            · cases hT
          · cases hT
    cases desc with
    |struct fs=>exact aggcase (okWide_agg hv hu) hfit
    |array n e=>exact aggcase (okWide_arr hv hu) hfit
    |bool=>exact cellcase (okWide_cell hv hu (.inl rfl)) (by simpa using hfit) (one rfl (.inl rfl))
    |int kd=>exact cellcase (okWide_cell hv hu (.inr (.inl ⟨kd,rfl⟩))) (by simpa using hfit) (one rfl (.inr (.inl ⟨kd,rfl⟩)))
    |string=>exact cellcase (okWide_cell hv hu (.inr (.inr (.inl rfl)))) (by simpa using hfit) (one rfl (.inr (.inr (.inl rfl))))
    |slice e=>exact cellcase (okWide_cell hv hu (.inr (.inr (.inr ⟨e,rfl⟩)))) (by simpa using hfit) (one rfl (.inr (.inr (.inr ⟨e,rfl⟩))))
    |_=>cases hfit
theorem fillP_append : ∀ {l l' : List PSh} {r r' r'' : List Dyn} {xs ys : List V2}, fillP l r = some (xs, r') → fillP l' r' = some (ys, r'') → fillP (l ++ l') r = some (xs ++ ys, r'')
  | [], l', r, r', r'', xs, ys, h, h' => by
    cases h<;>grind
  | c :: l, l', r, r', r'', xs, ys, h, h' => by
    simp[fillP] at h
    simp[List.cons_append,fillP]
    split at h
    · split at h
      · rename_i xs1 r2 h2
        cases h
        simp only[fillP_append h2 h']
        rfl
      grind
    grind
theorem pars_ok (hrv : RvOK P rv) {k b : Nat} {ps : List MemPlace} : ∀ {l : List Par} {vs : List Value} {ds : List (DataW H)} {qs : List MemPlace}, (∀ p ∈ l, parOK P rv k p) → (∀ (j : Nat) (p : Par) v, l[j]? = some p → vs[j]? = some v → Value.okWide P w .any b p.1 v) → DataW.TrodAll enc P w 0 sp held (l.map (·.1)) vs ds qs → (∀ q ∈ qs, q ∈ ps) →
    ∃ (dd:List Dyn) (aSz:List AV) (us:List V2),okD dd∧dd.map (·.t)=parTys l∧All2 (V1 (cxA w ps)) aSz vs∧All2 (RV ρ0 0 []) us aSz∧(∀ rest,fillP (l.map Par.sh) (dd++rest)=some (us,rest))∧(∀ B,(DataW.weightsEach P (l.map (·.1)) ds).all (fun b=>decide (b≤B))=true→fitD P B l dd)
  | [], vs, ds, qs, _, _, h, _ => by
    match vs,ds,h with
    |[],[],_=>exact⟨[],[],[],fun d hd=>(by cases hd),rfl,trivial,trivial,fun _=>rfl,fun _ _=>trivial⟩
  | p :: l, vs, ds, qs, hp, hv, h, hsub => by
    match vs,ds,h with
    | v :: vs, d :: ds, h =>
      obtain⟨p1,q1,h1,h2,rfl⟩:=h
      obtain⟨x,a,u,g1,g2,g3,g4,g4'⟩:=par_ok hrv (hp p List.mem_cons_self) (hv 0 p v rfl rfl) h1 (fun q hq=>hsub q (List.mem_append_left _ hq))
      obtain⟨dd,aSz,us,g5,g6,g7,g8,g9,g9'⟩:=pars_ok hrv (l:=l) (fun q hq=>hp q (List.mem_cons_of_mem _ hq)) (fun j p' v' hj hj'=>hv (j+1) p' v' (by simpa using hj) (by simpa using hj')) h2 (fun q hq=>hsub q (List.mem_append_right _ hq))
      refine⟨flat p.2.2 x++dd,a :: aSz,u :: us,?_,?_,⟨g2,g7⟩,⟨g3,g8⟩,fun rest=>?_,fun B hw=>?_⟩
      · intro e he
        rcases List.mem_append.1 he with he|he
        · exact flat_ok _ x g1 e he
        · exact g5 e he
      · simp[parTys,flat_tys,g6]
      · rw [List.append_assoc]
        exact fillP_append (g4 _) (g9 rest)
      · simp only [List.map_cons, DataW.weightsEach, List.all_append, Bool.and_eq_true] at hw
        refine⟨⟨x,⟨dd,rfl⟩,g4' B hw.1⟩,?_⟩
        have e:(tysOf p.2.2).length=(flat p.2.2 x).length:=by rw[←flat_tys p.2.2 x,List.length_map]
        grind
theorem impR_bool {cm:List (Tr Ent)} {lv sl ver:Nat} {rv:AV} {b:Bool} (h:impR cm 0 0 lv sl ver rv=some (.d (.sc (.bool b)),[])):rv=.d (.sc (.bool b)):=by
  cases rv with
  | d x =>
    simp only[impR,imp1,impCell,Option.some.injEq,Prod.mk.injEq,and_true] at h
    exact h
  |own els o=>cases o<;>simp[impR,imp1,impCell,keepOwn] at h
  | agg cs =>
    obtain⟨z,_,he⟩:=opt_map h<;>grind
  | tup vs =>
    simp_all[impR]
  | ref lv' sl' ver' off len sz =>
    simp[impR,imp1,impCell] at h<;>grind
  |ptr lv'=>simp[impR,imp1,impCell,Nat.ble_eq_true_of_le (Nat.zero_le lv')] at h
  |bref lv'=>simp[impR,imp1,impCell,Nat.ble_eq_true_of_le (Nat.zero_le lv')] at h
  |mp=>simp[impR,imp1,impCell] at h
  |dptr=>simp[impR,imp1,impCell] at h
  |clo f cs=>cases cs<;>simp[impR,imp1,impCell] at h
theorem law_calls {lib:Nat→Option TypeId} {md:Nat→Eng.Mode} {Fs:Tb} {f:Nat} (hmix:P.follows .mixedOrders=true) (hlib:∀ f T,lib f=some T→IsLib P f T) (hFs:TabQ P lib md Fs.fs) (hO:CallOK P Fs.O) (hg:(∀ b,gblk b→b<w.heap.size)∧gok w)
    (hrv:RvOK P rv) {k b:Nat} {l:List Par} (hp:∀ p∈l,parOK P rv k p) {F:(tyL (parTys l)).den→Option Bool} (hcal:CalOK Fs f ⟨l.map Par.sh,parTys l,[(false,[.bool])],[.bool],0,F⟩)
    (hF:∀ x,okL (parTys l) x→F x=some true)
    {args:Array Value} {ds:List (DataW H)} {ps:List MemPlace} (hval:∀ (j:Nat) (p:Par) v,l[j]?=some p→args[j]?=some v→Value.okWide P w .any b p.1 v)
    (hargs:DataW.TrodAll enc P w 0 sp held (l.map (·.1)) args.toList ds ps) (hlt:∀ x∈ps,x.block<w.heap.size) :
    Calls P f args w fun e w'=>e=.returned (.bool true)∧Below w.heap.size w w':=by
  obtain⟨dd,aSz,us,g1,g2,g3,g4,g5,_⟩:=pars_ok hrv (ps:=ps) hp (fun j p v hj hv=>hval j p v hj (by simpa using hv)) hargs (fun _ h=>h)
  obtain⟨x,hx⟩:∃ x,pack (parTys l) dd=some x:=g2 ▸ pack_self dd
  have hu:=unpack_pack hx
  have hok:okL (parTys l) x:=by unfold okL;rw[hu];exact g1
  obtain⟨vs,h1,h2⟩:=hcal x true (hF x hok)
  simp[hu] at h1
  have h5:=g5 []
  rw[List.append_nil,h1] at h5
  cases h5
  obtain⟨n0,r,cm,ts,nv,h3,h4⟩:=h2 aSz g4 (fun q=>by cases q)
  obtain⟨a',h6,h7⟩:=(h4 [(false,[.bool true])] rfl).1 (show (0:Nat)≠65535 by decide) (.c (.bool true)) rfl 0 0 0
  have ha:a'=.d (.sc (.bool true)):=h7 ρ0 0 []
  subst ha
  have hr:=impR_bool h6
  subst hr
  obtain⟨_,hc⟩:=runG_ok hO hmix hlib hFs n0 f aSz [.lf] .lf 0 _ cm ts nv (h3 n0 (Nat.le_refl _)) (cxA w ps) args (cxA_mem hg ps hlt) (fun _ _=>rfl) g3
  refine hc.mono ?_
  rintro e w' ⟨Y,u,rfl,rfl,hx,hv,_⟩
  cases hv
  exact⟨rfl,hx.below.toBelow⟩
theorem law_calls_sized {B:Nat} {lib:Nat→Option TypeId} {md:Nat→Eng.Mode} {Fs:Tb} {f:Nat} (hmix:P.follows .mixedOrders=true) (hlib:∀ f T,lib f=some T→IsLib P f T) (hFs:TabQ P lib md Fs.fs) (hO:CallOK P Fs.O) (hg:(∀ b,gblk b→b<w.heap.size)∧gok w)
    (hrv:RvOK P rv) {k b:Nat} {l:List Par} (hp:∀ p∈l,parOK P rv k p) {F:(tyL (parTys l)).den→Option Bool} (hcal:CalOK Fs f ⟨l.map Par.sh,parTys l,[(false,[.bool])],[.bool],0,F⟩)
    (hF:∀ x,okL (parTys l) x→fitL P B l x→F x=some true)
    {args:Array Value} {ds:List (DataW H)} {ps:List MemPlace} (hval:∀ (j:Nat) (p:Par) v,l[j]?=some p→args[j]?=some v→Value.okWide P w .any b p.1 v)
    (hargs:DataW.TrodAll enc P w 0 sp held (l.map (·.1)) args.toList ds ps) (hlt:∀ x∈ps,x.block<w.heap.size) (hwt:(DataW.weightsEach P (l.map (·.1)) ds).all (fun b=>decide (b≤B))=true) :
    Calls P f args w fun e w'=>e=.returned (.bool true)∧Below w.heap.size w w':=by
  obtain⟨dd,aSz,us,g1,g2,g3,g4,g5,g6⟩:=pars_ok hrv (ps:=ps) hp (fun j p v hj hv=>hval j p v hj (by simpa using hv)) hargs (fun _ h=>h)
  obtain⟨x,hx⟩:∃ x,pack (parTys l) dd=some x:=g2 ▸ pack_self dd
  have hu:=unpack_pack hx
  have hok:okL (parTys l) x:=by unfold okL;rw[hu];exact g1
  obtain⟨vs,h1,h2⟩:=hcal x true (hF x hok (by unfold fitL;rw[hu];exact g6 B hwt))
  simp[hu] at h1
  have h5:=g5 []
  rw[List.append_nil,h1] at h5
  cases h5
  obtain⟨n0,r,cm,ts,nv,h3,h4⟩:=h2 aSz g4 (fun q=>by cases q)
  obtain⟨a',h6,h7⟩:=(h4 [(false,[.bool true])] rfl).1 (show (0:Nat)≠65535 by decide) (.c (.bool true)) rfl 0 0 0
  have ha:a'=.d (.sc (.bool true)):=h7 ρ0 0 []
  subst ha
  have hr:=impR_bool h6
  subst hr
  obtain⟨_,hc⟩:=runG_ok hO hmix hlib hFs n0 f aSz [.lf] .lf 0 _ cm ts nv (h3 n0 (Nat.le_refl _)) (cxA w ps) args (cxA_mem hg ps hlt) (fun _ _=>rfl) g3
  refine hc.mono ?_
  rintro e w' ⟨Y,u,rfl,rfl,hx,hv,_⟩
  cases hv
  exact⟨rfl,hx.below.toBelow⟩
theorem args_stay (hl:laidOutB P=true) {W W':World} (hb:Below W.heap.size W W'):∀ {ts:List TypeId} {vs:List Value} {ds:List (DataW H)} {ps:List MemPlace},(ts.all fun t=>P.readableRec t&&decide (t<P.types.size))=true→DataW.TrodAll enc P W 0 (fun _=>true) true ts vs ds ps→(∀ x∈ps,x.block<W.heap.size)→
    DataW.TrodAll enc P W' 0 (fun b=>decide (b<W.heap.size)) true ts vs ds ps
  | [], vs, ds, ps, _, h, _ => by
    match vs,ds,h with
    |[],[],h=>exact h
  | t :: ts, vs, ds, ps, ht, h, hlt => by
    match vs,ds,h with
    | v :: vs, d :: ds, h =>
      obtain⟨p,q,h1,h2,rfl⟩:=h
      rw[List.all_cons,Bool.and_eq_true,Bool.and_eq_true] at ht
      exact⟨p,q,Below.trod hl ht.1.1 (of_decide_eq_true ht.1.2) h1 hb (fun x hx=>hlt x (List.mem_append_left _ hx)),args_stay hl hb ht.2 h2 (fun x hx=>hlt x (List.mem_append_right _ hx)),rfl⟩
end
end Go.Sym
set_option linter.unusedSectionVars false
namespace Go.Sym
open Go Go.Eng
def fuelW:Nat:=400
def SEnv.base (tab:Nat→Option AFn) (cuts ccut:Nat→Nat→Option Outs) (bcut:Nat→Nat→Option (Nat×Ty)) (unr:Nat→Nat→Bool) (ety:Nat→Nat→Option Ty):SEnv:=
  { fns:=tab,cal:=fun _=>none,loops:=fun _ _ _=>none,cuts,ccut,bcut,unr,ety }
def SEnv.addCal (E : SEnv) (f : Nat) (c : Callee) : SEnv :=
  { E with cal := fun g => match Nat.beq g f with
    |true=>some c
    |false=>E.cal g }
def SEnv.addLoop (E : SEnv) (N ctx i : Nat) (T : Tmpl) (outs : Outs) : SEnv :=
  { E with loops := fun ctx' i' c => match Nat.beq ctx' ctx && Nat.beq i' i with
    |true=>some ⟨T,outs,loopF (loopStep E fuelW ctx i c T outs) N⟩
    |false=>E.loops ctx' i' c }
theorem base_ok (tab:Tb) (cuts ccut:Nat→Nat→Option Outs) (bcut:Nat→Nat→Option (Nat×Ty)) (unr:Nat→Nat→Bool) (ety:Nat→Nat→Option Ty):EnvOK tab (SEnv.base tab cuts ccut bcut unr ety):=
  ⟨rfl,fun _ _ h=>(by cases h),fun _ _ _ _ h=>(by cases h)⟩
theorem EnvOK.addCal {tab:Tb} {E:SEnv} (h:EnvOK tab E) {f:Nat} {c:Callee} (hc:CalOK tab f c):EnvOK tab (E.addCal f c):=by
  refine⟨h.fns,fun g d hd=>?_,h.loops⟩
  simp only[SEnv.addCal] at hd
  split at hd
  · rename_i he
    rw[Nat.eq_of_beq_eq_true he]
    injection hd with hd;subst hd
    exact hc
  · exact h.cal g d hd
theorem EnvOK.addLoop {tab:Tb} {E:SEnv} (h:EnvOK tab E) (N ctx i:Nat) (T:Tmpl) (outs:Outs):EnvOK tab (E.addLoop N ctx i T outs):=by
  refine⟨h.fns,h.cal,fun ctx' i' c L hL=>?_⟩
  simp only[SEnv.addLoop] at hL
  split at hL
  · injection hL with hL; subst hL
    exact loop_ok h fuelW ctx i c T outs N
  · exact h.loops ctx' i' c L hL
theorem CalOK.plain {Fs:Tb} {f:Nat} {args:List PSh} {ta tr:List Ty} {res:List (Bool×List CSh)} {rk:Nat} {F G:(tyL ta).den→Option (tyL tr).den} (h:CalOK Fs f ⟨args,ta,res,tr,rk,F⟩) (e:G=F):CalOK Fs f ⟨args,ta,res,tr,rk,G⟩:=by
  subst e
  exact h
def tabAt : List (Nat × AFn) → Nat → Option AFn
  |[],_=>none
  | (g, fn) :: r, f => match Nat.beq g f with
    |true=>some fn
    |false=>tabAt r f
inductive TabOK (P:Program) (lib:Nat→Option TypeId) (md:Nat→Eng.Mode):List (Nat×AFn)→Prop where
  |nil:TabOK P lib md []
  |cons {g:Nat} {fn:AFn} {r:List (Nat×AFn)} : fnP P lib md g=some fn→TabOK P lib md r→TabOK P lib md ((g,fn) :: r)
theorem tabAt_ok {P:Program} {lib:Nat→Option TypeId} {md:Nat→Eng.Mode} {l:List (Nat×AFn)} (h:TabOK P lib md l):∀ f fn,tabAt l f=some fn→fnP P lib md f=some fn:=by
  induction h with
  |nil=>intro f fn h;cases h
  | @cons g fn' r h1 _ ih =>
    intro f fn h
    simp only[tabAt] at h
    split at h
    · rename_i hb
      have e:=Nat.eq_of_beq_eq_true hb
      subst e
      injection h with h;subst h
      exact h1
    · exact ih f fn h
def fixF {α β : Type} (step:Nat→(α→Option β)→α→Option β):Nat→α→Option β
  |0,_=>none
  |n+1,x=>step n (fixF step n) x
def loopAt (t : Nat) : AC → Nat → Option AC
  | .seq a b, i => match Nat.blt t (i + cntC a) with
    |true=>loopAt t a i
    |false=>loopAt t b (i+cntC a)
  | .cond _ a b, i => match Nat.blt t (i + 1 + cntC a) with
    |true=>loopAt t a (i+1)
    |false=>loopAt t b (i+1+cntC a)
  |.block _ c,i=>loopAt t c (i+1)
  | .loop c, i => match Nat.beq t i with
    |true=>some c
    |false=>loopAt t c (i+1)
  |_,_=>none
def bodyAt (fn:AFn) (t:Nat):AC:=(loopAt t fn.body 0).getD .skip
def CSh.tys:CSh→List Ty
  |.int k=>[.int k]
  |.bool=>[.bool]
  |.er=>[.bool]
  |.str=>[.str]
  |.sl t _=>[.sl t]
  |.dptr t _=>[t]
  |_=>[]
def CSh.lent:CSh→CSh
  |.sl t _=>.sl t .bor
  |c=>c
def shB (T:Ty):List CSh:=(cshOf T).map CSh.lent
def PSh.tys:PSh→List Ty
  |.c x=>x.tys
  |.agg l=>l.flatMap CSh.tys
  |.box l=>l.flatMap CSh.tys
  |.clo _=>[]
def VSh.tys:VSh→List Ty
  |.c x=>x.tys
  |.agg l=>l.flatMap CSh.tys
  |.clo _ l=>l.flatMap CSh.tys
def ESh.tys:ESh→List Ty
  |.row _ t=>[.sl t]
  |.box _ l=>l.flatMap CSh.tys
  |.set _=>[.sl .str]
def sTys (l:List (Nat×VSh)):List Ty:=l.flatMap fun x=>x.2.tys
def tm (slots:List (Nat×VSh)) (outer:List (List (Nat×VSh))) (mem:List (Nat×Nat×ESh)) (lvs:Nat) (tips:List Nat) (nv:Nat):Tmpl:=
  ⟨slots,outer,mem,lvs,tips,nv,sTys slots++(outer.flatMap sTys++mem.flatMap fun x=>x.2.2.tys)⟩
structure Sig where
  a:List PSh
  r:List (Bool×List CSh)
  k:Nat
  b:List (Nat×Nat×Nat×Ty)
  u:List (Nat×Nat)
  e:List (Nat×Nat×Ty)
  c:List (Nat×Nat×Outs)
abbrev sg (a:List PSh) (r:List (Bool×List CSh)):Sig:=⟨a,r,0,[],[],[],[]⟩
def Sig.ta (s:Sig):List Ty:=s.a.flatMap PSh.tys
def Sig.tr (s:Sig):List Ty:=s.r.flatMap fun x=>x.2.flatMap CSh.tys
def Sig.cal (s:Sig) (F:(tyL s.ta).den→Option (tyL s.tr).den):Callee:=⟨s.a,s.ta,s.r,s.tr,s.k,F⟩
def lk {β : Type} : List (Nat × Nat × β) → Nat → Nat → Option β
  |[],_,_=>none
  | (a, b, x) :: r, c, i => match Nat.beq a c && Nat.beq b i with
    |true=>some x
    |false=>lk r c i
def lkU:List (Nat×Nat)→Nat→Nat→Bool
  |[],_,_=>false
  |(a,b) :: r,c,i=>Nat.beq a c&&Nat.beq b i||lkU r c i
def SEnv.on (E:SEnv) (s:Sig):SEnv:={ E with cuts:=lk s.c,bcut:=lk s.b,unr:=lkU s.u,ety:=lk s.e }
def SEnv.fn (E:SEnv) (f:Nat) (s:Sig):(tyL s.ta).den→Option (tyL s.tr).den:=fnRun E fuelW f s.a s.ta s.r s.tr s.k
def SEnv.put (E:SEnv) (f:Nat) (s:Sig) (F:(tyL s.ta).den→Option (tyL s.tr).den):SEnv:=E.addCal f (s.cal F)
theorem EnvOK.on {tab:Tb} {E:SEnv} (h:EnvOK tab E) (s:Sig):EnvOK tab (E.on s):=⟨h.fns,h.cal,h.loops⟩
theorem EnvOK.put {tab:Tb} {E E':SEnv} (h:EnvOK tab E) (h':EnvOK tab E') (f:Nat) (s:Sig) (F:(tyL s.ta).den→Option (tyL s.tr).den) (e:F=E'.fn f s):EnvOK tab (E.put f s F):=
  h.addCal ((fn_ok h' fuelW f s.a s.ta s.r s.tr s.k).plain e)
def lp (E:SEnv) (c i:Nat) (fn:AFn) (t:Nat) (T:Tmpl) (O:Outs):Nat→(tyL T.tys).den→Option (outTy O).den:=loopF (loopStep E fuelW c i (bodyAt fn t) T O)
def memN:List Nat→Nat→Bool
  |[],_=>false
  |a :: r,f=>Nat.beq a f||memN r f
def tabO (l:List Nat) (tq:Nat→AFn) (f:Nat):Option AFn:=match memN l f with
  |true=>some (tq f)
  |false=>none
theorem tabO_q {P:Program} {lib:Nat→Option TypeId} {md:Nat→Eng.Mode} {tq:Nat→AFn} {l:List Nat} (hq:∀ f,tq f=(fnQ P lib md f).getD default) (h:l.all (fun f=>(fnQ P lib md f).isSome)=true):∀ f fn,tabO l tq f=some fn→fnQ P lib md f=some fn:=by
  have key:∀ l:List Nat,l.all (fun f=>(fnQ P lib md f).isSome)=true→∀ f,memN l f=true→(fnQ P lib md f).isSome=true:=by
    intro l h f hm
    induction l with
    |nil=>cases hm
    | cons a r ih =>
      simp only[List.all_cons,Bool.and_eq_true] at h
      simp only[memN,Bool.or_eq_true] at hm
      rcases hm with hm|hm
      · rw[←Nat.eq_of_beq_eq_true hm];exact h.1
      · exact ih h.2 hm
  intro f fn hf
  unfold tabO at hf
  split at hf
  · rename_i hm
    have:=key l h f hm
    injection hf with hf
    subst hf
    rw[hq]
    cases he:fnQ P lib md f with
    |none=>rw[he] at this;cases this
    |some x=>rfl
  · cases hf
def dfrOK (P:Program) (lib:Nat→Option TypeId) (md:Nat→Eng.Mode) (l:List Nat) (f:Nat):Bool:=match dfnP P lib md f with
  |some d=>memN l d.g
  |none=>true
theorem tabO_ok {P : Program} {lib : Nat → Option TypeId} {md : Nat → Eng.Mode} {tq : Nat → AFn} {l : List Nat} (hq : ∀ f, tq f = (fnQ P lib md f).getD default) (h : l.all (fun f => (fnQ P lib md f).isSome) = true)
    (hd:l.all (dfrOK P lib md l)=true):TabQ P lib md (tabO l tq):=by
  refine⟨tabO_q hq h,fun f d hf hdf=>?_⟩
  have hm:memN l f=true:=by
    unfold tabO at hf
    split at hf
    · rename_i hm;exact hm
    · cases hf
  have key:∀ r:List Nat,(r.all (dfrOK P lib md l)=true)→memN r f=true→memN l d.g=true:=by
    intro r h hm
    induction r with
    |nil=>cases hm
    | cons a r ih =>
      simp only[List.all_cons,Bool.and_eq_true] at h
      simp only[memN,Bool.or_eq_true] at hm
      rcases hm with hm|hm
      · have := h.1
        unfold dfrOK at this
        rw[Nat.eq_of_beq_eq_true hm,hdf] at this
        exact this
      · exact ih h.2 hm
  simp[tabO,key l hd hm]
abbrev wu8 (a:Int):Int:=IntKind.u8.wrap a
abbrev wu16 (a:Int):Int:=IntKind.u16.wrap a
abbrev wu32 (a:Int):Int:=IntKind.u32.wrap a
abbrev wu64 (a:Int):Int:=IntKind.u64.wrap a
abbrev wi8 (a:Int):Int:=IntKind.i8.wrap a
abbrev wi16 (a:Int):Int:=IntKind.i16.wrap a
abbrev wi32 (a:Int):Int:=IntKind.i32.wrap a
abbrev wi64 (a:Int):Int:=IntKind.i64.wrap a
def iand (k:IntKind) (a b:Int):Int:=k.wrap (BitVec.ofInt k.bits a &&& BitVec.ofInt k.bits b).toNat
def ior (k:IntKind) (a b:Int):Int:=k.wrap (BitVec.ofInt k.bits a ||| BitVec.ofInt k.bits b).toNat
def ixor (k:IntKind) (a b:Int):Int:=k.wrap (BitVec.ofInt k.bits a ^^^ BitVec.ofInt k.bits b).toNat
def iandnot (k:IntKind) (a b:Int):Int:=k.wrap (BitVec.ofInt k.bits a &&& ~~~(BitVec.ofInt k.bits b)).toNat
end Go.Sym
set_option linter.unusedSectionVars false
namespace Go.Sym
open Go Go.Eng
theorem trodAll_len {H:Type} {enc:TypeId×Value→H} {P:Program} {w:World} {base:Nat} {sp:Nat→Bool} {held:Bool} : ∀ {ts:List TypeId} {vs:List Value} {ds:List (DataW H)} {ps:List MemPlace},DataW.TrodAll enc P w base sp held ts vs ds ps→ds.length=ts.length
  |[],[],[],_,_=>rfl
  | _ :: _, _ :: _, _ :: _, _, h => by
    obtain⟨p,q,_,h2,_⟩:=h
    simp[trodAll_len h2]
  |[],_ :: _,_,_,h=>h.elim
  |[],[],_ :: _,_,h=>h.elim
  |_ :: _,[],_,_,h=>h.elim
  |_ :: _,_ :: _,[],_,h=>h.elim
theorem hval_of {P:Program} {W:World} {b:Nat} {args:Array Value} {params:Array TypeId} {l:List Par} (hp:params=(l.map (·.1)).toArray) (h:∀ (j:Nat) t v,params[j]?=some t→args[j]?=some v→Value.okWide P W .any b t v) :
    ∀ (j:Nat) (p:Par) v,l[j]?=some p→args[j]?=some v→Value.okWide P W .any b p.1 v:=fun j p v hj hv=>h j p.1 v (by grind) hv
end Go.Sym
set_option linter.unusedSectionVars false
namespace Go.Sym
open Go Go.Eng
theorem wi64_in {n:Int} (h : -9223372036854775808≤n∧n≤9223372036854775807):wi64 n=n:=IntWalk.i64_in n h
theorem wu64_in {n:Int} (h:0≤n∧n≤18446744073709551615):wu64 n=n:=IntWalk.u64_in n h
theorem idx_mid {α : Type} (pre:List α) (x : α) (r:List α):idx (pre++x :: r) (pre.length:Int)=some x:=by
  simp[idx]
theorem idx_of_get {α : Type} {l:List α} {i:Int} {x : α} (h0:0≤i) (h:l[i.toNat]?=some x):idx l i=some x:=by
  simp[idx,h0,h]
theorem room_of {n b:Nat} (h1:n≤9223372036854775807) (h2:n*b≤140737488355328):room n b=true:=by
  simp[room,maxLenA,roomA,h1,h2]
theorem chk_true {α : Type} (k:Option α):chk true k=k:=rfl
theorem chkE {α : Type} {b:Bool} {k r:Option α} (h1:b=true) (h2:k=r):chk b k=r:=by rw[h1];exact h2
theorem loop_up {β : Type} {n:Nat} {Lf:Nat→Int→Option β} {g:Nat→Option β} (h0:∀ k,Lf (k+1) (n:Int)=g n)
    (hs:∀ k i,i<n→Lf k ((i+1:Nat):Int)=g (i+1)→Lf (k+1) (i:Int)=g i):∀ k i,i≤n→n-i<k→Lf k (i:Int)=g i
  |0,_,_,h=>by omega
  | k + 1, i, hi, hk => by
    by_cases he:i=n
    · grind
    · exact hs k i (by omega) (loop_up h0 hs k (i+1) (by omega) (by omega))
theorem loop_st {σ β : Type} {n:Nat} {I:Nat→σ→Prop} {Lf:Nat→Int→σ→Option β} {g:Nat→σ→Option β} (h0:∀ k s,I n s→Lf (k+1) (n:Int) s=g n s)
    (hs:∀ k i s,i<n→I i s→(∀ s',I (i+1) s'→Lf k ((i+1:Nat):Int) s'=g (i+1) s')→Lf (k+1) (i:Int) s=g i s):∀ k i s,I i s→i≤n→n-i<k→Lf k (i:Int) s=g i s
  |0,_,_,_,_,h=>by omega
  | k + 1, i, s, hI, hi, hk => by
    by_cases he:i=n
    · grind
    · exact hs k i s (by omega) hI fun s' hI'=>loop_st h0 hs k (i+1) s' hI' (by omega) (by omega)
theorem loop_eq {α β : Type} [DecidableEq α] {l m:List α} [Decidable (l=m)] {a b : β} {Lf:Nat→Int→Option β} (hl:l.length=m.length) (h0:∀ k,Lf (k+1) (l.length:Int)=some a)
    (hs:∀ (k i:Nat) x y,x∈l→y∈m→l[i]?=some x→m[i]?=some y→Lf (k+1) (i:Int)=if x=y then Lf k ((i+1:Nat):Int) else some b):∀ k,l.length<k→Lf k 0=some (if l=m then a else b):=by
  classical
  intro k hk
  have:=loop_up (n:=l.length) (Lf:=Lf) (g:=fun i=>some (if l.drop i=m.drop i then a else b)) (fun k=>by rw[h0 k];simp[hl]) (fun k i hi ih=>by
    have e1:=List.getElem?_eq_getElem hi
    have e2:=List.getElem?_eq_getElem (l:=m) (i:=i) (by omega)
    rw[hs k i _ _ (List.getElem_mem hi) (List.getElem_mem _) e1 e2,ih,List.drop_eq_getElem_cons hi,List.drop_eq_getElem_cons (l:=m) (i:=i) (by omega)]
    simp only[List.cons.injEq]
    by_cases h:l[i]=m[i]'(by omega)
    · simp only[h,if_true,true_and]
    · simp only[h,if_false,false_and]) k 0 (by omega) (by omega)
  grind
theorem loop_any {α β : Type} {l:List α} {a b : β} {p : α→Bool} {Lf:Nat→Int→Option β} (h0:∀ k,Lf (k+1) (l.length:Int)=some a)
    (hs:∀ (k i:Nat) x,x∈l→l[i]?=some x→Lf (k+1) (i:Int)=if p x then some b else Lf k ((i+1:Nat):Int)):∀ k,l.length<k→Lf k 0=some (if l.any p then b else a):=by
  intro k hk
  have:=loop_up (n:=l.length) (Lf:=Lf) (g:=fun i=>some (if (l.drop i).any p then b else a)) (fun k=>by rw[h0 k];simp) (fun k i hi ih=>by
    have e1:=List.getElem?_eq_getElem hi
    rw[hs k i _ (List.getElem_mem hi) e1,ih,List.drop_eq_getElem_cons hi]
    rw[List.any_cons]
    by_cases h:p l[i]=true
    · rw[h];rfl
    · rw[Bool.not_eq_true] at h;rw[h];rfl) k 0 (by omega) (by omega)
  grind
theorem loop_find {α β : Type} {l : List α} {a b : β} {P : α → Prop} {n : Nat} {Lf : Nat → Int → Option β} (hn : n ≤ l.length) (h0 : ∀ k, Lf (k + 1) (n : Int) = some a)
    (hs:∀ (k i:Nat) x,i<n→x∈l→l[i]?=some x→Lf (k+1) (i:Int)=some b∨(P x∧Lf (k+1) (i:Int)=Lf k ((i+1:Nat):Int))):∀ k,n<k→Lf k 0=some b∨(Lf k 0=some a∧∀ (i:Nat) x,i<n→l[i]?=some x→P x):=by
  have key:∀ k i,i≤n→n-i<k→Lf k (i:Int)=some b∨(Lf k (i:Int)=some a∧∀ (j:Nat) x,i≤j→j<n→l[j]?=some x→P x):=by
    intro k
    induction k with
    |zero=>omega
    | succ k ih =>
      intro i hi hk
      by_cases he:i=n
      · subst he
        exact .inr ⟨h0 k,fun j x h1 h2=>by omega⟩
      · have hl : i < l.length := by omega
        have e1:=List.getElem?_eq_getElem hl
        rcases hs k i _ (by omega) (List.getElem_mem hl) e1 with h|⟨hp,h⟩
        · exact .inl h
        · rw [h]
          rcases ih (i+1) (by omega) (by omega) with h|⟨h,h2⟩
          · exact .inl h
          · refine .inr ⟨h, fun j x h3 h4 h5 => ?_⟩
            by_cases hj:j=i
            · subst hj;simp_all
            · exact h2 j x (by omega) h4 h5
  intro k hk
  rcases key k 0 (by omega) (by omega) with h|⟨h,h2⟩<;>grind
theorem idx_get {α : Type} {l:List α} {i:Nat} {x : α} (h:l[i]?=some x):idx l (i:Int)=some x:=idx_of_get (by omega) (by grind)
theorem inR_lt {n i:Nat} (h:i<n):inR (i:Int) n=true:=by simp[inR,h]
theorem wi64_succ {i:Nat} (h:i<9223372036854775807):wi64 ((i:Int)+1)=((i+1:Nat):Int):=by rw[wi64_in (by omega)];rfl
theorem lt_dec {i n:Nat} (h:i<n):decide ((i:Int)<(n:Int))=true:=decide_eq_true (by omega)
theorem ge_dec (n:Nat):decide ((n:Int)<(n:Int))=false:=decide_eq_false (by omega)
end Go.Sym
set_option linter.unusedSectionVars false
namespace Go.Sym
open Go Go.Eng
theorem len_pos {α : Type} {l:List α} {i:Nat} {x : α} (h:l[i]?=some x):i<l.length:=(List.getElem?_eq_some_iff.1 h).1
theorem mem_of_get {α : Type} {l:List α} {i:Nat} {x : α} (h:l[i]?=some x):x∈l:=List.mem_of_getElem? h
theorem take_succ {α : Type} {l:List α} {i:Nat} {x : α} (h:l[i]?=some x):l.take (i+1)=l.take i++[x]:=by
  obtain⟨h1,h2⟩:=List.getElem?_eq_some_iff.1 h
  rw[List.take_succ_eq_append_getElem h1,h2]
theorem room_small {n b:Nat} (h1:n≤10000000) (h2:b≤1000):room n b=true:=by
  refine room_of (by omega) ?_
  have:=Nat.mul_le_mul h1 h2
  omega
theorem get_of_lt {α : Type} {l:List α} {i:Nat} (h:i<l.length):∃ x,l[i]?=some x:=⟨_,List.getElem?_eq_getElem h⟩
open Classical in
theorem loop_rng {β : Type} {n : Nat} {a b : β} {q : Nat → Bool} {Lf : Nat → Int → Option β} (h0 : ∀ k, (∀ j, j < n → q j = false) → Lf (k + 1) (n : Int) = some a)
    (hs:∀ (k i:Nat),i<n→(∀ j,j<i→q j=false)→Lf (k+1) (i:Int)=if q i=true then some b else Lf k ((i+1:Nat):Int)) {k:Nat} (hk:n<k) :
    Lf k 0=some (if ∃ i,i<n∧q i=true then b else a):=by
  have key:∀ k i,i≤n→n-i<k→(∀ j,j<i→q j=false)→Lf k (i:Int)=some (if ∃ j,j<n∧q j=true then b else a):=by
    intro k
    induction k with
    |zero=>omega
    | succ k ih =>
      intro i hi hk hq
      by_cases he:i=n
      · subst he
        rw[h0 k hq,if_neg (fun⟨j,h1,h2⟩=>by rw[hq j h1] at h2;cases h2)]
      · rw [hs k i (by omega) hq]
        by_cases hb:q i=true
        · rw[if_pos hb,if_pos ⟨i,by omega,hb⟩]
        · rw [if_neg hb]
          refine ih (i+1) (by omega) (by omega) fun j hj=>?_
          by_cases hji:j=i
          · subst hji;simpa using hb
          · exact hq j (by omega)
  exact key k 0 (by omega) (by omega) fun j hj=>by omega
open Classical in
theorem loop_lst {α β : Type} {l:List α} {a b : β} {p : α→Bool} {Lf:Nat→Int→Option β} (h0:∀ k,(∀ x,x∈l→p x=false)→Lf (k+1) (l.length:Int)=some a)
    (hs:∀ (k i:Nat) x,l[i]?=some x→x∈l→Lf (k+1) (i:Int)=if p x=true then some b else Lf k ((i+1:Nat):Int)) {k:Nat} (hk:l.length<k) :
    Lf k 0=some (if ∃ x,x∈l∧p x=true then b else a):=by
  rw[loop_rng (n:=l.length) (a:=a) (b:=b) (q:=fun i=>((l[i]?).map p).getD false) (Lf:=Lf) (fun k hq=>h0 k fun x hx=>?_) (fun k i hi _=>?_) hk]
  · have hiff : (∃ i, i < l.length ∧ ((l[i]?).map p).getD false = true) ↔ ∃ x, x ∈ l ∧ p x = true := ⟨fun ⟨i, h1, h2⟩ => by
      obtain⟨x,hx⟩:=get_of_lt h1
      rw[hx] at h2
      exact⟨x,mem_of_get hx,h2⟩,fun⟨x,h1,h2⟩=>by
      obtain⟨i,h3,rfl⟩:=List.mem_iff_getElem.1 h1
      exact⟨i,h3,by rw[List.getElem?_eq_getElem h3];exact h2⟩⟩
    simp_all
  · obtain⟨i,h3,rfl⟩:=List.mem_iff_getElem.1 hx<;>grind
  grind
theorem loop_out {α β γ : Type} {l : List α} {Lf : Nat → Int → List γ → Option β} {enc : α → List γ} {g : List γ → β} {B m : Nat} (h0 : ∀ k s, Lf (k + 1) (l.length : Int) s = some (g s))
    (hs:∀ k (i:Nat) x s,l[i]?=some x→x∈l→s.length≤B→Lf (k+1) (i:Int) s=Lf k ((i+1:Nat):Int) (s++enc x)) (hm:∀ x,x∈l→(enc x).length≤m) {k:Nat} {s:List γ} (hk:l.length<k) (hB:s.length+l.length*m≤B) :
    Lf k 0 s=some (g (s++l.flatMap enc)):=by
  have key:∀ k (i:Nat) s,i≤l.length→l.length-i<k→s.length+(l.length-i)*m≤B→Lf k (i:Int) s=some (g (s++(l.drop i).flatMap enc)):=by
    intro k
    induction k with
    |zero=>omega
    | succ k ih =>
      intro i s hi hk hB
      by_cases he:i=l.length
      · grind
      · have hl : i < l.length := by omega
        have e1:=List.getElem?_eq_getElem hl
        have hmx:=hm _ (List.getElem_mem hl)
        have e3:(l.length-i)*m=m+(l.length-(i+1))*m:=by
          rw[show l.length-i=1+(l.length-(i+1)) by omega,Nat.add_mul,Nat.one_mul]
        rw[hs k i _ s e1 (List.getElem_mem hl) (by omega),ih (i+1) _ (by omega) (by omega) (by rw[List.length_append];omega)]
        rw[List.drop_eq_getElem_cons hl,List.flatMap_cons,List.append_assoc]
  have:=key k 0 s (by omega) (by omega) (by rw[Nat.sub_zero];exact hB)<;>grind
theorem flatMap_len {α γ : Type} {l:List α} {enc : α→List γ} {m:Nat} (h:∀ x,x∈l→(enc x).length≤m):(l.flatMap enc).length≤l.length*m:=by
  induction l with
  |nil=>simp
  | cons x r ih =>
    rw[List.flatMap_cons,List.length_append,List.length_cons,Nat.add_mul]<;>grind
theorem loop_inv {α σ β : Type} {l:List α} {Lf:Nat→Int→σ→Option β} {Inv:Nat→σ→Prop} {g : σ→β} (h0:∀ k s,Inv l.length s→Lf (k+1) (l.length:Int) s=some (g s))
    (hs:∀ k (i:Nat) x s,l[i]?=some x→Inv i s→∃ s',Inv (i+1) s'∧Lf (k+1) (i:Int) s=Lf k ((i+1:Nat):Int) s') {k:Nat} {s : σ} (h:Inv 0 s) (hk:l.length<k) :
    ∃ s',Inv l.length s'∧Lf k 0 s=some (g s'):=by
  have key:∀ k (i:Nat) s,i≤l.length→l.length-i<k→Inv i s→∃ s',Inv l.length s'∧Lf k (i:Int) s=some (g s'):=by
    intro k
    induction k with
    |zero=>omega
    | succ k ih =>
      intro i s hi hk hI
      by_cases he:i=l.length
      · grind
      · obtain⟨s',h1,h2⟩:=hs k i _ s (List.getElem?_eq_getElem (by omega)) hI<;>grind
  exact key k 0 s (by omega) (by omega) h
theorem loop_inv_out {α σ β : Type} {l:List α} {Lf:Nat→Int→σ→Option β} {Inv:Nat→σ→Prop} {Out : β→Prop} {g : σ→β} (h0:∀ k s,Inv l.length s→Lf (k+1) (l.length:Int) s=some (g s))
    (hs:∀ k (i:Nat) x s,l[i]?=some x→Inv i s→(∃ r,Out r∧Lf (k+1) (i:Int) s=some r)∨∃ s',Inv (i+1) s'∧Lf (k+1) (i:Int) s=Lf k ((i+1:Nat):Int) s') {k:Nat} {s : σ} (h:Inv 0 s) (hk:l.length<k) :
    (∃ r,Out r∧Lf k 0 s=some r)∨∃ s',Inv l.length s'∧Lf k 0 s=some (g s'):=by
  have key:∀ k (i:Nat) s,i≤l.length→l.length-i<k→Inv i s→(∃ r,Out r∧Lf k (i:Int) s=some r)∨∃ s',Inv l.length s'∧Lf k (i:Int) s=some (g s'):=by
    intro k
    induction k with
    |zero=>omega
    | succ k ih =>
      intro i s hi hk hI
      by_cases he:i=l.length
      · grind
      · rcases hs k i _ s (List.getElem?_eq_getElem (by omega)) hI with h|⟨s',h1,h2⟩<;>grind
  exact key k 0 s (by omega) (by omega) h
def vary:Nat→Nat→List Int
  |0,n=>[(n:Int)]
  |k+1,n=>if n<128 then [(n:Int)] else ((n % 128+128:Nat):Int) :: vary k (n / 128)
def V (n:Nat):List Int:=vary 9 n
theorem vary_len:∀ k n,1≤(vary k n).length∧(vary k n).length≤k+1
  |0,n=>by simp[vary]
  | k + 1, n => by
    have:=vary_len k (n / 128)<;>grind[vary]
theorem V_len (n:Nat):1≤(V n).length∧(V n).length≤10:=vary_len 9 n
theorem wu8_nat (n:Nat):wu8 (n:Int)=((n % 256:Nat):Int):=by
  show IntKind.u8.wrap (n:Int)=_
  rw[IntKind.wrap_u8];omega
theorem wu64_nat {n:Nat} (h:n<18446744073709551616):wu64 (n:Int)=(n:Int):=wu64_in (by omega)
theorem ior128:∀ a:Nat,a<256→ior .u8 ((a:Nat):Int) (128:Int)=((a % 128+128:Nat):Int):=by decide +kernel
theorem fdiv_nat (a b:Nat):Int.fdiv (a:Int) (b:Int)=((a / b:Nat):Int):=by
  grind
theorem tdiv_nat (a b:Nat):Int.tdiv (a:Int) (b:Int)=((a / b:Nat):Int):=by
  rfl
theorem tmod_nat (a b:Nat):Int.tmod (a:Int) (b:Int)=((a % b:Nat):Int):=by
  rfl
def zig (n:Int):Nat:=if 0≤n then (2*n).toNat else (-2*n-1).toNat
theorem zig_lt {n:Int} (h : -9223372036854775808≤n∧n≤9223372036854775807):zig n<18446744073709551616:=by
  grind[zig]
theorem ite_iff {α : Type} {p q:Prop} {ip:Decidable p} {iq:Decidable q} {a b : α} (h:p↔q) : @ite α p ip a b = @ite α q iq a b:=by
  grind
theorem decT {p:Prop} {i:Decidable p} (h:p) : @decide p i=true:=decide_eq_true h
theorem decF {p:Prop} {i:Decidable p} (h:¬p) : @decide p i=false:=decide_eq_false h
theorem bytesL_len (s:List UInt8):(bytesL s).length=s.length:=by simp[bytesL]
end Go.Sym
set_option linter.unusedSectionVars false
namespace Go.Eng
open Go Go.RowKit Go.Sort
theorem insI_perm (x:Int):∀ l,(insI x l).Perm (x :: l)
  |[]=>List.Perm.refl _
  | y :: r => by
    unfold insI
    split
    · exact List.Perm.refl _
    · exact ((insI_perm x r).cons y).trans (List.Perm.swap x y r)
theorem sortI_perm:∀ l,(sortI l).Perm l
  |[]=>List.Perm.refl _
  | x :: r => by
    rw[sortI]
    exact (insI_perm x _).trans ((sortI_perm r).cons x)
theorem insI_sorted (x:Int):∀ l:List Int,l.Pairwise (·≤·)→(insI x l).Pairwise (·≤·)
  |[],_=>by simp[insI]
  | y :: r, h => by
    rw[List.pairwise_cons] at h
    unfold insI
    split
    · rename_i hc
      have hc:=of_decide_eq_true hc
      rw[List.pairwise_cons]
      refine⟨fun z hz=>?_,List.pairwise_cons.2 h⟩
      rcases List.mem_cons.1 hz with rfl|hz
      · exact hc
      · exact Int.le_trans hc (h.1 z hz)
    · rename_i hc
      have hc:=of_decide_eq_false hc
      rw[List.pairwise_cons]
      refine⟨fun z hz=>?_,insI_sorted x r h.2⟩
      rcases List.mem_cons.1 ((insI_perm x r).mem_iff.1 hz) with rfl|hz
      · omega
      · exact h.1 z hz
theorem sortI_sorted:∀ l:List Int,(sortI l).Pairwise (·≤·)
  |[]=>List.Pairwise.nil
  |x :: r=>insI_sorted x _ (sortI_sorted r)
theorem mergeSort_eq (l:List Int):(l.mergeSort fun x y=>decide (x≤y))=sortI l:=by
  refine List.Perm.eq_of_pairwise (le:=fun a b=>a≤b) (fun a b _ _ h1 h2=>Int.le_antisymm h1 h2) ?_ (sortI_sorted l) ((List.mergeSort_perm _ _).trans (sortI_perm l).symm)
  have:=List.pairwise_mergeSort (le:=fun x y:Int=>decide (x≤y)) (fun a b c h1 h2=>by simp only[decide_eq_true_eq] at *;omega) (fun a b=>by simp only[Bool.or_eq_true,decide_eq_true_eq];omega) l
  exact this.imp fun h=>of_decide_eq_true h
theorem sortW_of {w : World} {b off n : Nat} {zs : List Int} {os : Array Obj} (hz : ∀ C e, w.heap[b]? = some (.cells C e (0, 0)) → off + zs.length ≤ C.size) (hb : b < w.heap.size) : SortW w (grow (putRow (Value.int .i64) (Go.Sort.ahead w n) b off zs.toArray) os) b off zs := by
  refine⟨rfl,rfl,rfl,?_,fun k hk hne=>?_,fun C e hC=>?_⟩
  · simp[grow,putRow,mapBlock,Go.Sort.ahead]
  · simp only [grow, putRow, mapBlock, Go.Sort.ahead]
    rw[Array.getElem?_append_left (by simpa using hk),Array.getElem?_modify,if_neg (Ne.symm hne)]
  · refine ⟨putCells (Value.int .i64) off zs.toArray C, ?_, by simp [putCells], fun j z hj => ?_⟩
    · simp only [grow, putRow, mapBlock, Go.Sort.ahead]
      rw[Array.getElem?_append_left (by simpa using hb),Array.getElem?_modify,if_pos rfl,hC]
      rfl
    · have hlt := (List.getElem?_eq_some_iff.1 hj).1
      have hs:=hz C e hC
      have hlt2:off+j<C.size:=by omega
      simp only[putCells]
      rw[Array.getElem?_mapIdx,Array.getElem?_eq_getElem hlt2]
      simp only[Option.map_some]
      rw[if_pos ⟨by omega,by simpa using hlt⟩]
      rw[show off+j-off=j by omega]
      have:zs.toArray[j]! = z:=by
        rw[getElem!_pos zs.toArray j (by simpa using hlt)]
        have:=(List.getElem?_eq_some_iff.1 hj).2
        simpa using this
      rw[this]
theorem isSort_of {P:Program} {ρ : Go.Shelf.Ren} (L:Go.Proofs.Lays.n189 P ρ) (hf:∃ fn,P.funcs[ρ.f 189]?=some fn∧fn.body.isSome=true∧(fn.name == "runtime.NumGoroutine")=false):IsSort P (ρ.f 189):=by
  refine⟨hf,fun p cap w=>Go.Proofs.Any.slices_Sort_int_none L p cap w,fun b off cap zs w C e hC hz h0 hlt=>?_⟩
  have hb:b<w.heap.size:=(Array.getElem?_eq_some_iff.1 hC).1
  have hH:Go.Sort.Holds (Value.int .i64) w b off zs.toArray:=by
    intro j hj
    have hj:j<zs.length:=by simpa using hj
    have h1:=hz j zs[j] (List.getElem?_eq_getElem hj)
    refine⟨?_,?_⟩
    · rw [getElem!_pos zs.toArray j (by simpa using hj)]
      simp[World.cell?,hC,h1]
    · simp[World.frozen?,hC]
  refine Calls.mono (Go.Proofs.Any.slices_Sort_int L b off cap zs w hH hb hlt) ?_
  rintro en w' ⟨rfl,n,os,rfl⟩
  refine⟨rfl,?_⟩
  rw[mergeSort_eq]
  refine sortW_of (fun C' e' hC'=>?_) hb
  rw[hC] at hC'
  injection hC' with hC'
  injection hC' with hC' _ _
  subst hC'
  rw[sortI_length]
  have:=hz (zs.length-1) zs[zs.length-1] (List.getElem?_eq_getElem (by omega))
  have:=(Array.getElem?_eq_some_iff.1 this).1
  omega
end Go.Eng
set_option linter.unusedSectionVars false
namespace Go.Eng
open Go Go.RowKit Go.Sort
def keptAfter (x:Int):List Int→List Int
  |[]=>[]
  |y :: r=>if y≠x then y :: keptAfter y r else keptAfter y r
theorem compI_kept (x:Int):∀ r,compI (x :: r)=x :: keptAfter x r
  |[]=>rfl
  | y :: r => by
    rw[compI]
    by_cases h:x=y
    · subst h
      rw[decide_eq_true rfl,compI_kept x r,keptAfter,if_neg (by simp)]
    · rw[decide_eq_false h,compI_kept y r,keptAfter,if_pos (Ne.symm h)]
theorem kept_range:∀ (r:List Int) (x:Int),((List.range r.length).filter fun j=>Lib.keeps (x :: r).toArray (j+1)).map (fun j=>(x :: r).toArray[j+1]!)=keptAfter x r
  |[],_=>rfl
  | y :: r, x => by
    have ih:=kept_range r y
    have h0:Lib.keeps (x :: y :: r).toArray (0+1)=decide (y≠x):=by simp[Lib.keeps]
    have hs:∀ j,Lib.keeps (x :: y :: r).toArray (j+1+1)=Lib.keeps (y :: r).toArray (j+1):=by
      intro j
      simp[Lib.keeps]
    have hg:∀ j,(x :: y :: r).toArray[j+1+1]! = (y :: r).toArray[j+1]!:=by intro j;simp
    have hrest:(((List.range r.length).map Nat.succ).filter fun j=>Lib.keeps (x :: y :: r).toArray (j+1)).map (fun j=>(x :: y :: r).toArray[j+1]!)=keptAfter y r:=by
      rw[List.filter_map,List.map_map,←ih]
      have e1:((fun j=>Lib.keeps (x :: y :: r).toArray (j+1)) ∘ Nat.succ)=fun j=>Lib.keeps (y :: r).toArray (j+1):=funext fun j=>hs j
      have e2:((fun j=>(x :: y :: r).toArray[j+1]!) ∘ Nat.succ)=fun j=>(y :: r).toArray[j+1]!:=funext fun j=>hg j
      rw[e1,e2]
    rw[List.length_cons,List.range_succ_eq_map,List.filter_cons]
    rw[h0,keptAfter]
    by_cases h:y≠x
    · rw [if_pos h, if_pos (decide_eq_true h), List.map_cons, hrest]
      simp
    · rw[if_neg h,if_neg (by simpa using h),hrest]
theorem compact_eq:∀ zs:List Int,Lib.compact zs=compI zs
  |[]=>rfl
  | x :: r => by
    rw[compI_kept,←kept_range r x]
    unfold Lib.compact Lib.compactUpTo
    rw[List.length_cons,List.range_succ_eq_map,List.filter_cons]
    rw[if_pos (by simp[Lib.keeps])]
    rw[List.map_cons,List.filter_map,List.map_map]
    rfl
theorem isCompact_of {P:Program} {ρ : Go.Shelf.Ren} (L:Go.Proofs.Lays2.n20 P ρ) (hf:∃ fn,P.funcs[ρ.f 20]?=some fn∧fn.body.isSome=true∧(fn.name == "runtime.NumGoroutine")=false):IsCompact P (ρ.f 20):=by
  refine⟨hf,fun p cap w=>Go.Proofs.Any.slices_Compact_int_empty L p cap w,fun b off cap zs w C e hC hz h0 hlt hcap=>?_⟩
  have hb:b<w.heap.size:=(Array.getElem?_eq_some_iff.1 hC).1
  have hH:Go.Sort.Holds (Value.int .i64) w b off zs.toArray:=by
    intro j hj
    have hj:j<zs.length:=by simpa using hj
    have h1:=hz j zs[j] (List.getElem?_eq_getElem hj)
    refine⟨?_,?_⟩
    · rw [getElem!_pos zs.toArray j (by simpa using hj)]
      simp[World.cell?,hC,h1]
    · simp[World.frozen?,hC]
  refine Calls.mono (Go.Proofs.Any.slices_Compact_int L b off cap zs w hH (by omega) hcap) ?_
  rintro en w' ⟨rfl,q,rfl⟩
  rw[compact_eq]
  refine⟨rfl,?_⟩
  have hle:=compI_length zs
  have:=sortW_of (w:=w) (b:=b) (off:=off) (n:=q) (zs:=compI zs++List.replicate (zs.length-(compI zs).length) 0) (os:=#[]) (fun C' e' hC'=>by
    rw[hC] at hC'
    injection hC' with hC'
    injection hC' with hC' _ _
    subst hC'
    have h2:=hz (zs.length-1) zs[zs.length-1] (List.getElem?_eq_getElem (by omega))
    have h2:=(Array.getElem?_eq_some_iff.1 h2).1
    simp only[List.length_append,List.length_replicate]
    omega) hb
  rw[grow_empty] at this
  refine⟨this.os,this.tape,this.output,this.size,this.other,fun C e hC=>?_⟩
  obtain⟨C',h1,h2,h3⟩:=this.row C e hC
  refine⟨C',h1,h2,fun j z hj=>h3 j z ?_⟩
  rw[List.getElem?_append_left (List.getElem?_eq_some_iff.1 hj).1]
  exact hj
end Go.Eng
namespace Go.Proofs
open Go.Shelf
def Tryz.lays189_ren:Go.Shelf.Ren:=⟨fun|189=>328|125=>334|257=>333|128=>345|129=>346|294=>336|295=>337|296=>338|297=>339|298=>340|299=>341|216=>342|300=>343|301=>344|328=>347|329=>348|330=>349|331=>350|332=>351|215=>352|343=>353|n=>n,fun|28=>82|3=>3|46=>241|0=>0|51=>425|53=>29|4=>4|183=>419|182=>418|131=>262|5=>5|9=>9|218=>427|222=>431|228=>433|229=>88|n=>n,fun|n=>n⟩
theorem Tryz.lays189:Go.Proofs.Lays.n189 Tryz.prog Tryz.lays189_ren:={
  mixed:=by kernel_rfl
  f125:=Tryz.func334.trans (congrArg some (by kernel_rfl))
  f128:=Tryz.func345.trans (congrArg some (by kernel_rfl))
  f129:=Tryz.func346.trans (congrArg some (by kernel_rfl))
  f189:=Tryz.func328.trans (congrArg some (by kernel_rfl))
  f215:=Tryz.func352.trans (congrArg some (by kernel_rfl))
  f216:=Tryz.func342.trans (congrArg some (by kernel_rfl))
  f257:=Tryz.func333.trans (congrArg some (by kernel_rfl))
  f294:=Tryz.func336.trans (congrArg some (by kernel_rfl))
  f295:=Tryz.func337.trans (congrArg some (by kernel_rfl))
  f296:=Tryz.func338.trans (congrArg some (by kernel_rfl))
  f297:=Tryz.func339.trans (congrArg some (by kernel_rfl))
  f298:=Tryz.func340.trans (congrArg some (by kernel_rfl))
  f299:=Tryz.func341.trans (congrArg some (by kernel_rfl))
  f300:=Tryz.func343.trans (congrArg some (by kernel_rfl))
  f301:=Tryz.func344.trans (congrArg some (by kernel_rfl))
  f328:=Tryz.func347.trans (congrArg some (by kernel_rfl))
  f329:=Tryz.func348.trans (congrArg some (by kernel_rfl))
  f330:=Tryz.func349.trans (congrArg some (by kernel_rfl))
  f331:=Tryz.func350.trans (congrArg some (by kernel_rfl))
  f332:=Tryz.func351.trans (congrArg some (by kernel_rfl))
  f343:=Tryz.func353.trans (congrArg some (by kernel_rfl))
  t0:=Tryz.underlying0
  a0:=Tryz.isAgg0
  z0:=Tryz.sizeOf0
  v0:=Tryz.zeroValue0
  t3:=Tryz.underlying3
  a3:=Tryz.isAgg3
  z3:=Tryz.sizeOf3
  v3:=Tryz.zeroValue3
  t4:=Tryz.underlying4
  a4:=Tryz.isAgg4
  z4:=Tryz.sizeOf4
  v4:=Tryz.zeroValue4
  t5:=Tryz.underlying5
  a5:=Tryz.isAgg5
  z5:=Tryz.sizeOf5
  v5:=Tryz.zeroValue5
  t9:=Tryz.underlying9
  a9:=Tryz.isAgg9
  z9:=Tryz.sizeOf9
  v9:=Tryz.zeroValue9
  t28:=Tryz.underlying82
  a28:=Tryz.isAgg82
  z28:=Tryz.sizeOf82
  v28:=Tryz.zeroValue82
  t46:=Tryz.underlying241
  a46:=Tryz.isAgg241
  z46:=Tryz.sizeOf241
  v46:=Tryz.zeroValue241
  t51:=Tryz.underlying425
  a51:=Tryz.isAgg425
  z51:=Tryz.sizeOf425
  v51:=Tryz.zeroValue425
  t53:=Tryz.underlying29
  a53:=Tryz.isAgg29
  z53:=Tryz.sizeOf29
  v53:=Tryz.zeroValue29
  t131:=Tryz.underlying262
  a131:=Tryz.isAgg262
  z131:=Tryz.sizeOf262
  v131:=Tryz.zeroValue262
  t182:=Tryz.underlying418
  a182:=Tryz.isAgg418
  z182:=Tryz.sizeOf418
  v182:=Tryz.zeroValue418
  t183:=Tryz.underlying419
  a183:=Tryz.isAgg419
  z183:=Tryz.sizeOf419
  v183:=Tryz.zeroValue419
  t218:=Tryz.underlying427
  a218:=Tryz.isAgg427
  z218:=Tryz.sizeOf427
  v218:=Tryz.zeroValue427
  t222:=Tryz.underlying431
  a222:=Tryz.isAgg431
  z222:=Tryz.sizeOf431
  v222:=Tryz.zeroValue431
  t228:=Tryz.underlying433
  a228:=Tryz.isAgg433
  z228:=Tryz.sizeOf433
  v228:=Tryz.zeroValue433
  t229:=Tryz.underlying88
  a229:=Tryz.isAgg88
  z229:=Tryz.sizeOf88
  v229:=Tryz.zeroValue88 }
def Tryz.lays20_ren:Go.Shelf.Ren:=⟨fun|20=>329|n=>n,fun|22=>82|3=>3|4=>4|0=>0|n=>n,fun|n=>n⟩
theorem Tryz.lays20:Go.Proofs.Lays2.n20 Tryz.prog Tryz.lays20_ren:={
  mixed:=by kernel_rfl
  f20:=Tryz.func329.trans (congrArg some (by kernel_rfl))
  t0:=Tryz.underlying0
  a0:=Tryz.isAgg0
  z0:=Tryz.sizeOf0
  v0:=Tryz.zeroValue0
  t3:=Tryz.underlying3
  a3:=Tryz.isAgg3
  z3:=Tryz.sizeOf3
  v3:=Tryz.zeroValue3
  t4:=Tryz.underlying4
  a4:=Tryz.isAgg4
  z4:=Tryz.sizeOf4
  v4:=Tryz.zeroValue4
  t22:=Tryz.underlying82
  a22:=Tryz.isAgg82
  z22:=Tryz.sizeOf82
  v22:=Tryz.zeroValue82
  i3:=by kernel_rfl }
end Go.Proofs
set_option linter.unusedSectionVars false
namespace Go.Sym
open Go Go.Eng
noncomputable section
def clipFn (sz:Nat):AFn:=⟨1,9,[.t 2],
 (.seq
  (.region [⟨(some 2),.mov (.c (.own [] .full)),none,0,0⟩] false)
  (.seq
   (.region [⟨(some 3),.mov (.t 0),none,0,0⟩,
     ⟨(some 4),.mov (.t 0),none,0,0⟩,
     ⟨(some 5),.len (.t 4),none,0,0⟩,
     ⟨(some 6),.mov (.t 0),none,0,0⟩,
     ⟨(some 7),.len (.t 6),none,0,0⟩,
     ⟨(some 8),.slice sz (.t 3) none (some (.t 5)) (some (.t 7)),none,0,0⟩,
     ⟨(some 2),.mov (.t 8),none,0,0⟩] false)
   .ret)),false⟩
def clipSt (a:AV) (n:Nat):St:={ slots:=putS (putS (putS (putS (putS (putS (argSlots 0 [a] .lf) (some 2) (.own [] .full)) (some 3) a) (some 4) a) (some 5) (intA n)) (some 6) a) (some 7) (intA n),mem:=[.lf],tips:=.lf,nv:=8 }
def clipG (a : AV) (n : Nat) (call : Eng.Call) (sh : Nat → Bool) (o : Option AV) : Option (AV × List (Tr Ent) × Tr Unit × Nat) :=
  match (match Option.map (fun s'=>(AX.normal,s')) (match o.bind Eff.pure with
    |none=>none
    |some e=>runOps call sh 1 6 [⟨(some 2),.mov (.t 8),none,0,0⟩] ((clipSt a n).app (some 8) e)) with
    |some (.normal,s')=>exec call sh 47 .ret s'
    |r=>r) with
  |some (.normal,s)|some (.ret,s)=>(resAll s [.t 2]).map fun vs=>(tupOf vs,s.mem,s.tips,s.nv)
  |_=>none
def libClip (t:Ty):Callee:=⟨[.c (.sl t .d)],[.sl t],[(false,[.sl t .full])],[.sl t],65535,fun l=>some l⟩
end
end Go.Sym
set_option linter.unusedSectionVars false
namespace Go.Sym
open Go Go.Eng
def runCal:Callee:=⟨[],[],[(false,[.bool])],[.bool],0,fun _=>some true⟩
end Go.Sym
set_option linter.unusedSectionVars false
namespace Go.Proofs.YtjejefeomeddhaaGreat
open Go Go.Eng Go.Sym
def md:Nat→Eng.Mode:=fun f=>match f with
  |103=>⟨[(2,65540),(19,1),(3,65540),(12,1)],false⟩
  |100=>⟨[(2,65540),(5,65537)],false⟩
  |102=>⟨[(6,65537)],false⟩
  |101=>⟨[(7,65537)],false⟩
  |106=>⟨[(9,65537)],false⟩
  |45=>⟨[(13,65537)],false⟩
  |225=>⟨[],true⟩
  |140=>⟨[],true⟩
  |233=>⟨[(27,2),(44,2),(65,2),(104,2)],false⟩
  |234=>⟨[(3,6),(17,1)],false⟩
  |153=>⟨[(13,1)],false⟩
  |152=>⟨[(9,1)],false⟩
  |332=>⟨[],true⟩
  |335=>⟨[],true⟩
  |331=>⟨[],true⟩
  |321=>⟨[],true⟩
  |327=>⟨[(6,1371930629)],true⟩
  |312=>⟨[(2,65540)],false⟩
  |274=>⟨[],true⟩
  |275=>⟨[],true⟩
  |311=>⟨[],true⟩
  |273=>⟨[],true⟩
  |315=>⟨[(20,65537)],false⟩
  |276=>⟨[],true⟩
  |295=>⟨[(6,2)],true⟩
  |294=>⟨[],true⟩
  |297=>⟨[(6,2)],true⟩
  |298=>⟨[(11,2)],false⟩
  |319=>⟨[(6,2)],true⟩
  |265=>⟨[(37,2),(86,2),(119,2),(126,2),(133,2),(139,2),(152,2),(165,2),(182,2),(218,2)],false⟩
  |_=>⟨[],false⟩
def lib:Nat→Option TypeId:=fun f=>match f with
  |78=>some 41
  |79=>some 50
  |80=>some 51
  |328=>some 1000000
  |329=>some 1000001
  |_=>none
def tabL:List Nat:=[241,175,176,172,240,173,97,120,174,98,115,116,179,107,177,99,44,103,100,102,101,104,178,105,106,45,17,181,182,183,184,185,186,110,277,225,140,316,278,279,233,234,151,153,152,161,89,332,335,331,326,321,322,323,324,325,308,309,307,154,155,84,310,272,327,312,274,275,311,273,313,314,315,276,231,148,290,293,330,318,296,295,294,297,298,299,319,300,265]
@[irreducible] noncomputable def tq (f:Nat):AFn:=(fnQ Tryz.prog lib md f).getD default
def lib0:Go.Eng.Call:=noCall
noncomputable def tab:Tb:=⟨tabO tabL tq,lib0⟩
theorem tq_eq (f:Nat):tq f=(fnQ Tryz.prog lib md f).getD default:=by kernel_rfl
set_option maxRecDepth 100000 in
theorem tab_all:tabL.all (fun f=>(fnQ Tryz.prog lib md f).isSome)=true:=by kernel_rfl
set_option maxRecDepth 100000 in
theorem tab_dfr:tabL.all (dfrOK Tryz.prog lib md tabL)=true:=by kernel_rfl
theorem tabOK:TabQ Tryz.prog lib md tab.fs:=tabO_ok tq_eq tab_all tab_dfr
theorem clone78:IsLib Tryz.prog 78 41:=⟨fun _ _=>⟨_,Tryz.func78,by kernel_rfl,by kernel_rfl,by kernel_rfl,by kernel_rfl⟩,fun h=>absurd h (by decide),fun h=>absurd h (by decide)⟩
theorem clone79:IsLib Tryz.prog 79 50:=⟨fun _ _=>⟨_,Tryz.func79,by kernel_rfl,by kernel_rfl,by kernel_rfl,by kernel_rfl⟩,fun h=>absurd h (by decide),fun h=>absurd h (by decide)⟩
theorem clone80:IsLib Tryz.prog 80 51:=⟨fun _ _=>⟨_,Tryz.func80,by kernel_rfl,by kernel_rfl,by kernel_rfl,by kernel_rfl⟩,fun h=>absurd h (by decide),fun h=>absurd h (by decide)⟩
theorem clone328:IsLib Tryz.prog 328 1000000:=⟨fun h=>absurd rfl h,fun _=>isSort_of Tryz.lays189 ⟨_,Tryz.func328,by kernel_rfl,by kernel_rfl⟩,fun h=>absurd h (by decide)⟩
theorem clone329:IsLib Tryz.prog 329 1000001:=⟨fun _ h=>absurd rfl h,fun h=>absurd h (by decide),fun _=>isCompact_of Tryz.lays20 ⟨_,Tryz.func329,by kernel_rfl,by kernel_rfl⟩⟩
theorem libOK:∀ f T,lib f=some T→IsLib Tryz.prog f T:=by
  intro f T h
  unfold lib at h
  split at h
  · injection h with h;subst h;exact clone78
  · injection h with h;subst h;exact clone79
  · injection h with h;subst h;exact clone80
  · injection h with h;subst h;exact clone328
  · injection h with h;subst h;exact clone329
  · cases h
end Go.Proofs.YtjejefeomeddhaaGreat
