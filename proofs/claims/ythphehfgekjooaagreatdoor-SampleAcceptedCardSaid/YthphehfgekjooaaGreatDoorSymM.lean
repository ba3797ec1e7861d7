/- A part of the proof: SymL, SymM. -/
import Derived.Test.YthphehfgekjooaaGreatDoorSymK
import Derived.Test.YthphehfgekjooaaGreatDoorSymB
import Derived.RowKit
import Derived.Carry
import Derived.ChangeOld
set_option linter.unusedVariables false
set_option linter.unusedSimpArgs false
namespace Go.Sym
open Go Go.bq Go.RowKit
mutual
def oW.ok:oW→Prop
 |.mk k i s l _=>(IntKind.u8.min≤k∧k≤IntKind.u8.max)∧(IntKind.i64.min≤i∧i≤IntKind.i64.max)∧s.length≤maxLen∧l.length≤maxLen∧oW.oks l
def oW.oks:List oW→Prop
 |[]=>True
 |v :: r=>oW.ok v∧oW.oks r
end
def Ty.ok:(t:Ty)→t.den→Prop
 |.val,v=>oW.ok v
 |.int k,a=>k.min≤a∧a≤k.max
 |.bool,_=>True
 |.str,s=>s.length≤maxLen
 |.sl t,l=>l.length≤maxLen∧∀ x∈l,Ty.ok t x
 |.unit,_=>True
 |.prod a b,x=>Ty.ok a x.1∧Ty.ok b x.2
 |.sum a b,x=>match x with
  |.inl y=>Ty.ok a y
  |.inr y=>Ty.ok b y
theorem oW.Fh:∀ {l:List oW},oW.oks l↔∀ v∈l,oW.ok v
 |[]=>by simp[oW.oks]
 |v :: r=>by simp[oW.oks,oW.Fh (l:=r)]
mutual
def U0 (P:Program) (rv:Option TypeId):Nat→TypeId→Option Ty
 |0,_=>none
 | n + 1, t => if rv = some t then some .val else
  match P.underlying t with
  |some .bool=>some .bool
  |some (.int k)=>some (.int k)
  |some .string=>some .str
  |some (.slice e)=>match U0 P rv n e with
   |some T=>if 0<P.cellsOf e∧T.size=P.cellsOf e then some (.sl T) else none
   |none=>none
  |some (.struct fs)=>match ZO P rv n 0 fs.toList with
   |some (Ts,k)=>if k=P.cellsOf t then some (qn Ts) else none
   |none=>none
  |some (.array m e)=>match U0 P rv n e with
   |some T=>if T.size=P.cellsOf e∧m*P.cellsOf e=P.cellsOf t then some (qn (List.replicate m T)) else none
   |none=>none
  |_=>none
def ZO (P:Program) (rv:Option TypeId):Nat→Nat→List Field→Option (List Ty×Nat)
 |_,off,[]=>some ([],off)
 |0,_,_ :: _=>none
 |n+1,off,f :: r=>match U0 P rv n f.type,ZO P rv n (off+P.cellsOf f.type) r with
  |some T,some (Ts,k)=>if f.offset=off∧T.size=P.cellsOf f.type then some (T :: Ts,k) else none
  |_,_=>none
end
def Oh (P:Program) (rv:Option TypeId):Prop:=∀ t,rv=some t→∃ fs n,P.underlying t=some (.struct fs)∧ZO P rv n 0 fs.toList=some ([.int .u8,.int .i64,.str,.sl .val,.bool],5)∧P.cellsOf t=5
section
variable {H:Type} {enc:TypeId×Value→H} {P:Program} {w:World} {base:Nat} {sp:Nat→Bool} {held:Bool} {rv:Option TypeId}
def Fi (ps:List MemPlace):Nat→Nat→Prop:=fun b o=>MemPlace.cell b o∈ps
theorem mapM_some {α β : Type} {f : α→Option β} : ∀ {l:List α} {r:List β},l.mapM f=some r→r.length=l.length∧∀ (i:Nat) (x : α),l[i]?=some x→∃ y,r[i]?=some y∧f x=some y
 |[],r,h=>by
  grind
 |a :: l,r,h=>by
  simp at h
  obtain⟨y,h1,h⟩:=aJ h
  obtain⟨ys,h2,h⟩:=aJ h
  obtain⟨h3,h4⟩:=mapM_some h2<;>grind
theorem Ri {a:Addr} {n:Nat} {v:Value} (h:w.cell? (a.add n)=some v):w.cell? ⟨a.block,a.off+n,none⟩=some v∧(n=0→a.spot=none):=by
 unfold Addr.add at h
 split at h
 ·have hs : a.spot = none := by
   unfold World.cell? at h
   split at h<;>simp_all
  obtain⟨b,o,sp⟩:=a<;>grind
 grind
theorem Ib {α β : Type} {Q:Nat→α→β→Prop} : ∀ {l:List α} , (∀ (i:Nat) (x : α),l[i]?=some x→∃ y,Q i x y)→∃ r:List β,r.length=l.length∧∀ (i:Nat) (x : α),l[i]?=some x→∃ y,r[i]?=some y∧Q i x y:=by
 intro l h
 classical
 have:∀ i:Fin l.length,∃ y,Q i l[i] y:=fun i=>h i _ (List.getElem?_eq_getElem i.2)
 let f:Fin l.length→β:=fun i=>Classical.choose (this i)
 refine⟨List.ofFn f,by simp,fun i x hi=>?_⟩<;>grind
theorem Rj (x:(qn [.int .u8,.int .i64,.str,.sl .val,.bool]).den):dX .val (.mk x.1 x.2.1 x.2.2.1 x.2.2.2.1 x.2.2.2.2)=dX (qn [.int .u8,.int .i64,.str,.sl .val,.bool]) x:=by
 simp[dX,Kb,oA]
theorem rJ {α β : Type} {R : α→β→Prop} {l:List α} {m:List β} {n k:Nat} (h:aq R l ((m.drop n).take k)) {l':List α} {j:Nat} (h':aq R l' ((m.drop (n+k)).take j)):aq R (l++l') ((m.drop n).take (k+j)):=by
 have:=h.append h'
 rw[List.take_add,List.drop_drop]
 exact this
theorem Ic {T:Ty} {R:D→Value→Prop} {cs:List Value} {c:Nat} : ∀ (m off:Nat),(∀ i,i<m→∃ x:T.den,T.ok x∧aq R (dX T x) ((cs.drop (off+i*c)).take c))→
  ∃ x:(qn (List.replicate m T)).den,(qn (List.replicate m T)).ok x∧aq R (dX (qn (List.replicate m T)) x) ((cs.drop off).take (m*c))
 |0,off,_=>⟨(),trivial,by simp[dX,aq]⟩
 |1,off,h=>by
  simp_all
 | m + 2, off, h => by
  obtain⟨x,ox,hx⟩:=h 0 (by omega)
  simp at hx
  obtain⟨z,oz,hz⟩:=Ic (m+1) (off+c) fun i hi=>by
   have:=h (i+1) (by omega)
   rwa[show off+(i+1)*c=off+c+i*c by rw[Nat.add_mul,Nat.one_mul];omega] at this
  refine⟨(x,z),⟨ox,oz⟩,?_⟩
  have hj:=rJ hx hz
  rw[show c+(m+1)*c=(m+2)*c by rw[Nat.add_mul,Nat.add_mul];omega] at hj
  exact hj
theorem DF (PG : Oh P rv) : ∀ (fuel : Nat) (t : TypeId) (cs : List Value) (d : DataW H) (ps : List MemPlace), DataW.trod enc P w base sp held fuel t cs = some (d, ps) → ∀ (k : Nat) (T : Ty), U0 P rv k t = some T → ∃ x : T.den, T.ok x ∧ aq (DR w (Fi ps)) (dX T x) cs
 |0,_,_,_,_,h=>by simp[DataW.trod] at h
 | fuel + 1, t, cs, d, ps, h => by
  have ih:=DF PG fuel
  have fields : ∀ (l : List Field) (k off e : Nat) (Ts : List Ty) (xs : List (DataW H × List MemPlace)), ZO P rv k off l = some (Ts, e) → (l.mapM fun f => DataW.trod enc P w base sp held fuel f.type ((cs.drop f.offset).take (P.cellsOf f.type))) = some xs → (∀ x ∈ xs, ∀ q ∈ x.2, q ∈ ps) →
    off≤e∧∃ x:(qn Ts).den,(qn Ts).ok x∧aq (DR w (Fi ps)) (dX (qn Ts) x) ((cs.drop off).take (e-off)):=by
   intro l
   induction l with
   |nil=>
    intro k off e Ts xs hk hxs _
    cases k<;>(simp only[ZO,Option.some.injEq,Prod.mk.injEq] at hk;obtain⟨rfl,rfl⟩:=hk;exact⟨Nat.le_refl _,(),trivial,by simp[dX,aq]⟩)
   | cons f l ihl =>
    intro k off e Ts xs hk hxs hps
    cases k with
    |zero=>simp[ZO] at hk
    | succ k =>
     simp[ZO] at hk
     split at hk
     ·rename_i T Ts' e' h1 h2
      split at hk
      ·rename_i hc
       simp at hk
       obtain⟨rfl,rfl⟩:=hk
       obtain⟨rfl,hsz⟩:=hc
       simp at hxs
       obtain⟨y,g1,hxs⟩:=aJ hxs
       obtain⟨ys,g2,hxs⟩:=aJ hxs
       cases hxs
       obtain⟨x,ox,hx⟩:=ih _ _ y.1 y.2 g1 _ _ h1
       have hx:aq (DR w (Fi ps)) (dX T x) ((cs.drop f.offset).take (P.cellsOf f.type)):=hx.mono fun _ _=>DR.mono fun b o hb=>hps y List.mem_cons_self _ hb
       obtain⟨hle,z,oz,hz⟩:=ihl _ _ _ _ _ h2 g2 fun x hx=>hps x (List.mem_cons_of_mem _ hx)
       refine⟨by omega,?_⟩
       have hj:=rJ hx hz
       rw[show P.cellsOf f.type+(e'-(f.offset+P.cellsOf f.type))=e'-f.offset from by omega] at hj
       cases Ts' with
       |nil=>
        refine⟨x,ox,?_⟩
        simpa[dX] using hj
       |cons T2 Ts2=>exact⟨(x,z),⟨ox,oz⟩,hj⟩
      grind
     grind
  intro k T hT
  cases k with
  |zero=>simp[U0] at hT
  |succ k=>
  unfold DataW.trod at h
  simp only[U0] at hT
  split at hT
  ·
   rename_i hr
   injection hT with hT;subst hT
   obtain⟨fs,n,hu,hF,hc⟩:=PG t hr
   rw[hu] at h
   simp only at h
   split at h
   ·rename_i hlen
    obtain⟨xs,hxs,he⟩:=aG h
    simp only[Prod.mk.injEq] at he
    obtain⟨_,rfl⟩:=he
    obtain⟨_,x,ox,hx⟩:=fields _ _ _ _ _ _ hF hxs fun x hx q hq=>List.mem_flatMap.2 ⟨x,hx,hq⟩
    refine⟨.mk x.1 x.2.1 x.2.2.1 x.2.2.2.1 x.2.2.2.2,?_,?_⟩
    ·obtain ⟨o1, o2, o3, o4, o5⟩ := ox
     exact⟨o1,o2,o3,o4.1,oW.Fh.2 o4.2⟩
    ·rw [Rj]
     rw[hc] at hlen
     simpa[List.take_of_length_le,hlen] using hx
   ·cases h
  ·rename_i hr
   cases hu:P.underlying t with
   |none=>rw[hu] at hT;cases hT
   | some desc =>
    rw[hu] at hT h
    cases desc with
    |bool=>
     injection hT with hT;subst hT
     simp only at h
     split at h<;>first|(exfalso;have q:=‹some TypeDesc.bool=some _›;injection q with q;cases q;done)|cases h|skip
     rename_i b _
     exact⟨b,trivial,.sc _ rfl,trivial⟩
    | int kd =>
     injection hT with hT;subst hT
     simp only at h
     split at h<;>first|(exfalso;have q:=‹some (TypeDesc.int kd)=some _›;injection q with q;cases q;done)|cases h|skip
     rename_i k k' n heq
     injection heq with heq;injection heq with heq;subst heq
     split at h
     ·rename_i hc
      obtain⟨rfl,hw⟩:=hc
      simp only[Lit.wf,Bool.and_eq_true,decide_eq_true_eq] at hw
      exact⟨n,hw,.sc _ rfl,trivial⟩
     ·cases h
    | string =>
     injection hT with hT;subst hT
     simp only at h
     split at h<;>first|(exfalso;have q:=‹some TypeDesc.string=some _›;injection q with q;cases q;done)|cases h|skip
     rename_i s _
     split at h
     ·rename_i hc
      refine⟨s.data.toList,(by show s.data.toList.length≤maxLen;rw[Array.length_toList];exact hc),?_,trivial⟩
      exact .sc _ rfl
     ·cases h
    | slice e =>
     simp only at hT h
     split at hT
     ·rename_i T' hT'
      split at hT
      ·rename_i hc
       injection hT with hT;subst hT
       obtain⟨hpos,hsz⟩:=hc
       split at h<;>first|(exfalso;have q:=‹some (TypeDesc.slice e)=some _›;injection q with q;cases q;done)|cases h|skip
       ·refine ⟨[], ⟨by simp, fun x hx => by cases hx⟩, ?_, trivial⟩
        exact .sl [] none 0 0 0 0 0 (fun _ _=>.bool false) rfl (Nat.le_refl _) (fun e h=>by cases h) (fun h=>by cases h) (fun i e j x h=>by simp at h) (fun i e j x h=>by simp at h) (fun i e j x h=>by simp at h)
       ·rename_i e' a len cap heq
        injection heq with heq;injection heq with heq;subst heq
        split at h
        ·rename_i hb
         obtain⟨elems,hel,h⟩:=aJ h
         obtain⟨rest,AR,he⟩:=aG h
         simp only[Prod.mk.injEq] at he
         obtain⟨_,rfl⟩:=he
         obtain⟨hlen,od⟩:=mapM_some hel
         rw[List.length_range] at hlen
         have elem:∀ i y,elems[i]?=some y→∃ x:T'.den,T'.ok x∧∃ csi,w.cells? base (a.add (i*P.cellsOf e)) (P.cellsOf e)=some csi∧aq (DR w (Fi (MemPlace.row a ((elems.length+rest.length)*P.cellsOf e)++(elems++rest).flatMap (·.2)))) (dX T' x) csi:=by
          intro i y hi
          have Jy:i<len:=by rw[←hlen];exact (List.getElem?_eq_some_iff.1 hi).1
          obtain⟨y',hy',hf⟩:=od i i (by simp[Jy])
          rw[hi] at hy'
          injection hy' with hy';subst hy'
          obtain⟨csi,h1,h2⟩:=aJ hf
          obtain⟨x,ox,hx⟩:=ih _ _ y.1 y.2 h2 _ _ hT'
          refine⟨x,ox,csi,h1,hx.mono fun _ _=>DR.mono fun b o hb=>?_⟩
          refine List.mem_append_right _ (List.mem_flatMap.2 ⟨y,List.mem_append_left _ (List.mem_of_getElem? hi),hb⟩)
         obtain⟨xs,hxl,hxs⟩:=Ib elem
         have Xn:xs.length=len:=by rw[hxl,hlen]
         refine⟨xs,⟨by rw[Xn];omega,fun x hx=>?_⟩,?_,trivial⟩
         ·obtain ⟨i, hi⟩ := List.getElem?_of_mem hx
          have hi':i<elems.length:=by rw[←hxl];exact (List.getElem?_eq_some_iff.1 hi).1
          obtain⟨y,hy,oy,_⟩:=hxs i _ (List.getElem?_eq_getElem hi')
          rw[hi] at hy
          injection hy with hy;subst hy
          exact oy
         ·
          have cell:∀ i e' j x',(xs.map (dX T'))[i]?=some e'→e'[j]?=some x'→j<P.cellsOf e∧i<len∧∃ v,w.cell? ⟨a.block,a.off+i*P.cellsOf e+j,none⟩=some v∧(i=0→j=0→a.spot=none)∧DR w (Fi (MemPlace.row a ((elems.length+rest.length)*P.cellsOf e)++(elems++rest).flatMap (·.2))) x' v:=by
           intro i e' j x' hi hj
           rw[List.getElem?_map] at hi
           obtain⟨x,hx,rfl⟩:=aG hi
           have hi':i<elems.length:=by rw[←hxl];exact (List.getElem?_eq_some_iff.1 hx).1
           obtain⟨y,hy,oy,csi,h1,h2⟩:=hxs i _ (List.getElem?_eq_getElem hi')
           rw[hx] at hy
           injection hy with hy;subst hy
           obtain⟨v,hv,hd⟩:=h2.get j x' hj
           have hjl:j<P.cellsOf e:=by
            have:=(List.getElem?_eq_some_iff.1 hj).1
            rw[dM,hsz] at this
            exact this
           unfold World.cells? at h1
           split at h1
           ·obtain ⟨_, hg⟩ := mapM_some h1
            obtain⟨v',lU,hcell⟩:=hg j j (by simp[hjl])
            rw[hv] at lU
            injection lU with lU;subst lU
            obtain⟨c1,c2⟩:=Ri hcell
            have e1:(a.add (i*P.cellsOf e)).block=a.block∧(a.add (i*P.cellsOf e)).off=a.off+i*P.cellsOf e:=by
             unfold Addr.add
             split
             ·rename_i h0;rw[h0];exact⟨rfl,rfl⟩
             ·exact⟨rfl,rfl⟩
            rw[e1.1,e1.2] at c1
            refine⟨hjl,by omega,v,c1,fun h0 h0'=>?_,hd⟩
            have:=c2 h0'
            subst h0
            simpa[Addr.add] using this
           ·cases h1
          have hl:dH w (Fi (MemPlace.row a ((elems.length+rest.length)*P.cellsOf e)++(elems++rest).flatMap (·.2))) (Fi (MemPlace.row a ((elems.length+rest.length)*P.cellsOf e)++(elems++rest).flatMap (·.2))) (xs.map (dX T')) a.block a.off (P.cellsOf e):=by
           refine⟨fun e' he'=>?_,fun i e' j x' hi hj=>?_⟩
           ·obtain ⟨x, _, rfl⟩ := List.mem_map.1 he'
            rw[dM,hsz]
           ·obtain ⟨c1, c2, v, c3, _, c4⟩ := cell i e' j x' hi hj
            refine⟨List.mem_append_left _ ?_,v,c3,c4⟩
            unfold MemPlace.row
            rw[List.mem_map]
            refine⟨i*P.cellsOf e+j,?_,by rw[Nat.add_assoc]⟩
            rw[List.mem_range,hlen]
            have:(i+1)*P.cellsOf e≤(len+rest.length)*P.cellsOf e:=Nat.mul_le_mul_right _ (by omega)
            rw[Nat.add_mul,Nat.one_mul] at this
            omega
          refine DR.fD hl (by simp[Xn]) hb.2.1 fun hn=>?_
          have hx0:0<xs.length:=by omega
          have h0:(xs.map (dX T'))[0]?=some (dX T' xs[0]):=by simp[hx0]
          have hs0:0<(dX T' xs[0]).length:=by rw[dM,hsz];exact hpos
          obtain⟨_,_,v,_,hsp,_⟩:=cell 0 _ 0 _ h0 (List.getElem?_eq_getElem hs0)
          have:=hsp rfl rfl
          obtain⟨ab,ao,asp⟩:=a
          simp only at this
          subst this
          rfl
        ·cases h
      ·cases hT
     ·cases hT
    | struct fs =>
     simp only at hT h
     split at hT
     ·rename_i Ts e hF
      split at hT
      ·rename_i hc
       injection hT with hT;subst hT
       split at h
       ·rename_i hlen
        obtain⟨xs,hxs,he⟩:=aG h
        simp only[Prod.mk.injEq] at he
        obtain⟨_,rfl⟩:=he
        obtain⟨_,x,ox,hx⟩:=fields _ _ _ _ _ _ hF hxs fun x hx q hq=>List.mem_flatMap.2 ⟨x,hx,hq⟩
        refine⟨x,ox,?_⟩
        rw[hc] at hx
        simpa[List.take_of_length_le,hlen] using hx
       ·cases h
      ·cases hT
     ·cases hT
    | array m e =>
     simp only at hT h
     split at hT
     ·rename_i T' hT'
      split at hT
      ·rename_i hc
       injection hT with hT;subst hT
       obtain⟨hsz,hm⟩:=hc
       split at h
       ·rename_i hlen
        obtain⟨xs,hxs,he⟩:=aG h
        simp only[Prod.mk.injEq] at he
        obtain⟨_,rfl⟩:=he
        obtain⟨hl,od⟩:=mapM_some hxs
        obtain⟨x,ox,hx⟩:=Ic (T:=T') (R:=DR w (Fi (xs.flatMap (·.2)))) (cs:=cs) (c:=P.cellsOf e) m 0 fun i hi=>by
         obtain⟨y,hy,hf⟩:=od i i (by simp[hi])
         obtain⟨x,ox,hx⟩:=ih _ _ y.1 y.2 hf _ _ hT'
         refine⟨x,ox,?_⟩
         rw[Nat.zero_add]
         exact hx.mono fun _ _=>DR.mono fun b o hb=>List.mem_flatMap.2 ⟨y,List.mem_of_getElem? hy,hb⟩
        refine⟨x,ox,?_⟩
        rw[hm] at hx
        simpa[List.take_of_length_le,hlen] using hx
       ·cases h
      ·cases hT
     ·cases hT
    |_=>cases hT
end
end Go.Sym
namespace Go.Sym
open Go Go.bq Go.RowKit
def A1:Ty→List Ty
 |.val=>[.int .u8,.int .i64,.str,.sl .val,.bool]
 |.int k=>[.int k]
 |.bool=>[.bool]
 |.str=>[.str]
 |.sl t=>[.sl t]
 |.unit=>[]
 |.prod a b=>A1 a++A1 b
 |.sum _ _=>[]
def aL:Ty→List fC
 |.val=>[.int .u8,.int .i64,.str,.sl .val .d,.bool]
 |.int k=>[.int k]
 |.bool=>[.bool]
 |.str=>[.str]
 |.sl t=>[.sl t .d]
 |.unit=>[]
 |.prod a b=>aL a++aL b
 |.sum _ _=>[]
def flat:(T:Ty)→T.den→List eS
 |.val,v=>[⟨.int .u8,v.kind⟩,⟨.int .i64,v.int⟩,⟨.str,v.text⟩,⟨.sl .val,v.list⟩,⟨.bool,v.cut⟩]
 |.int k,a=>[⟨.int k,a⟩]
 |.bool,b=>[⟨.bool,b⟩]
 |.str,s=>[⟨.str,s⟩]
 |.sl t,l=>[⟨.sl t,l⟩]
 |.unit,_=>[]
 |.prod a b,x=>flat a x.1++flat b x.2
 |.sum _ _,_=>[]
theorem vk:∀ (T:Ty) (x:T.den),(flat T x).map (·.t)=A1 T
 |.val,_=>rfl
 |.int _,_=>rfl
 |.bool,_=>rfl
 |.str,_=>rfl
 |.sl _,_=>rfl
 |.unit,_=>rfl
 |.prod a b,x=>by simp[flat,A1,vk a,vk b]
 |.sum _ _,_=>rfl
theorem td:∀ {l l':List fC} {r r' r'':List eS} {xs ys:List Cell},cj l r=some (xs,r')→cj l' r'=some (ys,r'')→cj (l++l') r=some (xs++ys,r'')
 |[],l',r,r',r'',xs,ys,h,h'=>by
  cases h<;>grind
 | c :: l, l', r, r', r'', xs, ys, h, h' => by
  simp[cj] at h
  split at h
  ·rename_i x r1 h1
   split at h
   ·rename_i ZK r2 h2
    cases h
    simp[List.cons_append,cj,h1,td h2 h']
   grind
  grind
theorem wM:∀ (T:Ty) (x:T.den) (rest:List eS),cj (aL T) (flat T x++rest)=some (gS T x,rest)
 |.val,_,_=>rfl
 |.int _,_,_=>rfl
 |.bool,_,_=>rfl
 |.str,_,_=>rfl
 |.sl _,_,_=>rfl
 |.unit,_,_=>rfl
 |.prod a b,x,rest=>by
  simp[aL,flat,List.append_assoc,gS]
  exact td (wM a x.1 _) (wM b x.2 rest)
 |.sum _ _,_,_=>rfl
def Xo (ds:List eS):Prop:=∀ d∈ds,d.t.ok d.v
theorem Fj:∀ (T:Ty) (x:T.den),T.ok x→Xo (flat T x)
 |.val,v,h=>by
  cases v
  obtain⟨h1,h2,h3,h4,h5⟩:=h
  intro d hd
  simp[flat,List.mem_cons,List.not_mem_nil,or_false] at hd
  rcases hd with rfl|rfl|rfl|rfl|rfl
  ·exact h1
  ·exact h2
  ·exact h3
  ·exact⟨h4,oW.Fh.1 h5⟩
  ·trivial
 |.int _,_,h=>fun d hd=>by simp[flat] at hd<;>grind
 |.bool,_,h=>fun d hd=>by simp[flat] at hd<;>grind
 |.str,_,h=>fun d hd=>by simp[flat] at hd<;>grind
 |.sl _,_,h=>fun d hd=>by simp[flat] at hd<;>grind
 |.unit,_,_=>fun d hd=>by simp[flat] at hd
 |.prod a b,x,h=>fun d hd=>by
  simp[flat,List.mem_append] at hd
  rcases hd with hd|hd
  ·exact Fj a x.1 h.1 d hd
  ·exact Fj b x.2 h.2 d hd
 |.sum _ _,_,_=>fun d hd=>by simp[flat] at hd
theorem x7 (a:Ty) (x:a.den):tI a a x=some x:=by
 unfold tI
 split<;>grind
theorem wN:∀ ds:List eS,∃ x,pack (ds.map (·.t)) ds=some x
 |[]=>⟨(),rfl⟩
 |[d]=>⟨d.v,x7 _ _⟩
 |d :: e :: r=>by
  obtain⟨y,hy⟩:=wN (e :: r)
  refine⟨(d.v,y),?_⟩
  have hy':pack (e.t :: r.map (·.t)) (e :: r)=some y:=hy
  show pack (d.t :: e.t :: r.map (·.t)) (d :: e :: r)=some (d.v,y)
  simp[pack,x7,hy']
abbrev vl:=TypeId×Bool×Ty
def vl.sh (p:vl):qy:=
 match p.2.1,aL p.2.2 with
 |false,[c]=>.c c
 |_,l=>.agg l
def jg (l:List vl):List Ty:=l.flatMap fun p=>A1 p.2.2
def ZP (ts:List Ty) (x:(qn ts).den):Prop:=Xo (unpack ts x)
theorem Xp:∀ l:List vl,EZ (l.map vl.sh)=none
 |[]=>rfl
 |p :: l=>by
  simp[List.map_cons,vl.sh]
  split<;>rfl
def Rk (P:Program) (p:vl):Bool:=
 match P.underlying p.1 with
 |some (.struct _)=>p.2.1
 |some (.array _ _)=>p.2.1
 |some .bool|some (.int _)|some .string|some (.slice _)=>!p.2.1
 |_=>false
def Ie (P:Program) (rv:Option TypeId) (k:Nat) (p:vl):Prop:=U0 P rv k p.1=some p.2.2∧Rk P p=true
section
variable {H:Type} {enc:TypeId×Value→H} {P:Program} {w:World} {sp:Nat→Bool} {held:Bool} {rv:Option TypeId}
theorem KC {t:TypeId} {v:Value} {b:Nat} {fs:Array Field} (h:Value.okWide P w .any b t v) (hu:P.underlying t=some (.struct fs)):∃ cs,v=.agg cs:=by
 simp[Value.okWide,hu] at h<;>grind
theorem KD {t:TypeId} {v:Value} {b n:Nat} {e:TypeId} (h:Value.okWide P w .any b t v) (hu:P.underlying t=some (.array n e)):∃ cs,v=.agg cs:=by
 simp[Value.okWide,hu] at h<;>grind
theorem nN {t:TypeId} {v:Value} {b:Nat} {d:TypeDesc} (h:Value.okWide P w .any b t v) (hu:P.underlying t=some d) (hd:d=.bool∨(∃ k,d=.int k)∨d=.string∨∃ e,d=.slice e):v.cells = #[v]:=by
 rcases hd with rfl|⟨k,rfl⟩|rfl|⟨e,rfl⟩<;>cases v<;>first|rfl|(simp[Value.okWide,hu,Cell.okWide,Cell.ok] at h)
def U1 (P:Program) (B:Nat) (t:TypeId):(T:Ty)→T.den→Prop
 |.sl _,l=>∀ e,P.underlying t=some (.slice e)→l.length*P.bytesOf e≤B
 |.str,s=>P.underlying t=some .string→s.length≤B
 |_,_=>True
theorem ZQ {fuel:Nat} {t:TypeId} {cs:List Value} {d:DataW H} {ps:List MemPlace} (hf:DataW.trod enc P w 0 sp held fuel t cs=some (d,ps)) {T:Ty} {x:T.den} {F:Nat→Nat→Prop} (hx:aq (DR w F) (dX T x) cs)
  {B:Nat} (hw:(d.weights P t).all (fun b=>decide (b≤B))=true):U1 P B t T x:=by
 cases fuel with
 |zero=>simp[DataW.trod] at hf
 |succ fuel=>
 cases T with
 | sl T' =>
  intro e he
  match cs,hx with
  | [c], hx =>
   have hd:DR w F (.sl (List.map (dX T') x)) c:=hx.1
   cases hd with
   | sl els a n cap sz b o g hn hcap hsz ha hF hc hr =>
    unfold DataW.trod at hf
    rw[he] at hf
    split at hf<;>first|(exfalso;have q:=‹some (TypeDesc.slice e)=some _›;injection q with q;cases q;done)|cases hf|skip
    ·grind
    ·subst_vars
     split at hf
     ·obtain ⟨elems, hel, hf⟩ := aJ hf
      obtain⟨rest,AR,heq⟩:=aG hf
      cases heq
      have hlen:=(mapM_some hel).1
      simp[DataW.weights,he,List.all_cons,Bool.and_eq_true,decide_eq_true_eq,List.length_map] at hw<;>grind
     grind
 | str =>
  intro he
  match cs,hx with
  | [c], hx =>
   have hd:DR w F (.sc (.string ⟨x.toArray⟩)) c:=hx.1
   cases hd with
   |sc v h1=>
    unfold DataW.trod at hf
    rw[he] at hf
    simp only at hf
    split at hf<;>first|(exfalso;have q:=‹some TypeDesc.string=some _›;injection q with q;cases q;done)|cases hf|skip
    simpa[DataW.weights] using hw
 |_=>trivial
def ZR (P:Program) (B:Nat):List vl→List eS→Prop
 |[],_=>True
 |p :: l,ds=>(∃ x:p.2.2.den,(∃ rest,ds=flat p.2.2 x++rest)∧U1 P B p.1 p.2.2 x)∧ZR P B l (ds.drop (A1 p.2.2).length)
def ady (P:Program) (B:Nat) (l:List vl) (x:(qn (jg l)).den):Prop:=ZR P B l (unpack (jg l) x)
def Rl (w:World) (ps:List MemPlace):Cx:={ w,F:=Fi ps,ρ:=fun _=>none,old:=fun b=>b<w.heap.size }
theorem MG (hg:(∀ b,vY b→b<w.heap.size)∧LY w) (ps:List MemPlace) (hlt:∀ x∈ps,x.block<w.heap.size):aA (Rl w ps) [.lf] .lf where
 dW lv sl e he:=by rw[wD] at he;cases he
 aB v hv:=by simp at hv
 apart k k' v v' L L' a b:=by
  rcases a with⟨_,_,_,_,he,_⟩|⟨_,he⟩
  ·rw[wD] at he;cases he
  ·simp at he
 ni b o h:=hlt _ h
 pz:=⟨fun _ h=>h,hg.1,hg.2⟩
theorem MH {X:Cx} : ∀ {ds:List D} {cs:List Value},aq (DR X.w X.F) ds cs→aq (VC X) (ds.map .d) cs
 |[],[],_=>trivial
 |_ :: _,_ :: _,h=>⟨h.1,MH h.2⟩
 |[],_ :: _,h=>h.elim
 |_ :: _,[],h=>h.elim
theorem ZS (PG:Oh P rv) {k:Nat} {p:vl} (hp:Ie P rv k p) {v:Value} {d:DataW H} {qs ps:List MemPlace} {b:Nat} (hv:Value.okWide P w .any b p.1 v) (h:DataW.Trod enc P w 0 sp held p.1 v d qs) (hsub:∀ q∈qs,q∈ps) :
  ∃ (x:p.2.2.den) (a:AV) (u:V2),p.2.2.ok x∧V1 (Rl w ps) a v∧RV ρ0 0 [] u a∧(∀ rest,cE [p.sh] (flat p.2.2 x++rest)=some ([u],rest))∧(∀ B,(d.weights P p.1).all (fun b=>decide (b≤B))=true→U1 P B p.1 p.2.2 x):=by
 obtain⟨t,ag,T⟩:=p
 obtain⟨hT,hfit⟩:=hp
 obtain⟨fuel,hf⟩:=h
 obtain⟨x,ox,hx⟩:=DF PG fuel _ _ _ _ hf _ _ hT
 have aju:=fun (B:Nat) hw=>ZQ (x:=x) hf hx (B:=B) hw
 have hx:aq (DR (Rl w ps).w (Rl w ps).F) (dX T x) v.cells.toList:=hx.mono fun _ _=>DR.mono fun b o hb=>hsub _ hb
 have Xq:=wM T x
 have MI:(∃ cs,v=.agg cs)→ag=true→∃ (a:AV) (u:V2),V1 (Rl w ps) a v∧RV ρ0 0 [] u a∧∀ rest,cE [vl.sh (t,ag,T)] (flat T x++rest)=some ([u],rest):=by
  rintro⟨cs,rfl⟩ rfl
  refine⟨.agg ((dX T x).map .d),.agg (gS T x),⟨cs,rfl,MH hx⟩,⟨_,rfl,kz T x⟩,fun rest=>?_⟩
  simp[vl.sh,cE,sA.fill,Xq]
 have vm:v.cells = #[v]→ag=false→(∃ c,aL T=[c])→∃ (a:AV) (u:V2),V1 (Rl w ps) a v∧RV ρ0 0 [] u a∧∀ rest,cE [vl.sh (t,ag,T)] (flat T x++rest)=some ([u],rest):=by
  rintro hc rfl ⟨c,hcs⟩
  rw[hc] at hx
  have hl:=hx.length
  match he:dX T x,hl with
  | [y], _ =>
   rw[he] at hx
   have hcell:=kz (ρ:=ρ0) (B:=0) (m:=[]) T x
   rw[he] at hcell
   match hct:gS T x,hcell with
   | [z], hcell =>
    refine⟨.d y,.c z,?_,hcell.1,fun rest=>?_⟩
    ·exact hx.1
    ·have := Xq rest
     rw[hcs] at this
     simp[cj] at this
     simp[vl.sh,hcs,cE,sA.fill]<;>grind
 have fin:(∃ (a:AV) (u:V2),V1 (Rl w ps) a v∧RV ρ0 0 [] u a∧∀ rest,cE [vl.sh (t,ag,T)] (flat T x++rest)=some ([u],rest))→∃ (x:T.den) (a:AV) (u:V2),T.ok x∧V1 (Rl w ps) a v∧RV ρ0 0 [] u a∧(∀ rest,cE [vl.sh (t,ag,T)] (flat T x++rest)=some ([u],rest))∧(∀ B,(d.weights P t).all (fun b=>decide (b≤B))=true→U1 P B t T x):=by
  grind
 apply fin
 unfold Rk at hfit
 cases hu:P.underlying t with
 |none=>grind
 | some desc =>
  rw[hu] at hfit
  cases k with
  |zero=>simp[U0] at hT
  |succ k=>
  have one:∀ {d:TypeDesc},desc=d→(d=.bool∨(∃ k,d=.int k)∨d=.string∨∃ e,d=.slice e)→∃ c,aL T=[c]:=by
   intro d hd hq
   subst hd
   simp[U0] at hT
   split at hT
   ·rename_i hr
    obtain⟨fs,_,j7,_⟩:=PG t hr<;>grind
   ·rw [hu] at hT
    rcases hq with rfl|⟨k,rfl⟩|rfl|⟨e,rfl⟩
    ·cases hT;exact⟨_,rfl⟩
    ·cases hT;exact⟨_,rfl⟩
    ·cases hT;exact⟨_,rfl⟩
    ·simp at hT
     split at hT
     ·split at hT
      ·cases hT;exact⟨_,rfl⟩
      ·cases hT
     ·cases hT
  cases desc with
  |struct fs=>exact MI (KC hv hu) hfit
  |array n e=>exact MI (KD hv hu) hfit
  |bool=>exact vm (nN hv hu (.inl rfl)) (by simpa using hfit) (one rfl (.inl rfl))
  |int kd=>exact vm (nN hv hu (.inr (.inl ⟨kd,rfl⟩))) (by simpa using hfit) (one rfl (.inr (.inl ⟨kd,rfl⟩)))
  |string=>exact vm (nN hv hu (.inr (.inr (.inl rfl)))) (by simpa using hfit) (one rfl (.inr (.inr (.inl rfl))))
  |slice e=>exact vm (nN hv hu (.inr (.inr (.inr ⟨e,rfl⟩)))) (by simpa using hfit) (one rfl (.inr (.inr (.inr ⟨e,rfl⟩))))
  |_=>cases hfit
theorem vn:∀ {l l':List qy} {r r' r'':List eS} {xs ys:List V2},cE l r=some (xs,r')→cE l' r'=some (ys,r'')→cE (l++l') r=some (xs++ys,r'')
 |[],l',r,r',r'',xs,ys,h,h'=>by
  cases h<;>grind
 | c :: l, l', r, r', r'', xs, ys, h, h' => by
  simp[cE] at h
  simp[List.cons_append,cE]
  split at h
  ·split at h
   ·rename_i ZK r2 h2
    cases h
    simp only[vn h2 h']
    rfl
   grind
  grind
theorem Fk (PG:Oh P rv) {k b:Nat} {ps:List MemPlace} : ∀ {l:List vl} {vs:List Value} {ds:List (DataW H)} {qs:List MemPlace},(∀ p∈l,Ie P rv k p)→(∀ (j:Nat) (p:vl) v,l[j]?=some p→vs[j]?=some v→Value.okWide P w .any b p.1 v)→DataW.TrodAll enc P w 0 sp held (l.map (·.1)) vs ds qs→(∀ q∈qs,q∈ps)→
  ∃ (dd:List eS) (aD:List AV) (us:List V2),Xo dd∧dd.map (·.t)=jg l∧aq (V1 (Rl w ps)) aD vs∧aq (RV ρ0 0 []) us aD∧(∀ rest,cE (l.map vl.sh) (dd++rest)=some (us,rest))∧(∀ B,(DataW.weightsEach P (l.map (·.1)) ds).all (fun b=>decide (b≤B))=true→ZR P B l dd)
 |[],vs,ds,qs,_,_,h,_=>by
  match vs,ds,h with
  |[],[],_=>exact⟨[],[],[],fun d hd=>(by cases hd),rfl,trivial,trivial,fun _=>rfl,fun _ _=>trivial⟩
 | p :: l, vs, ds, qs, hp, hv, h, hsub => by
  match vs,ds,h with
  | v :: vs, d :: ds, h =>
   obtain⟨p1,q1,h1,h2,rfl⟩:=h
   obtain⟨x,a,u,g1,g2,g3,g4,g4'⟩:=ZS PG (hp p List.mem_cons_self) (hv 0 p v rfl rfl) h1 (fun q hq=>hsub q (List.mem_append_left _ hq))
   obtain⟨dd,aD,us,g5,g6,g7,g8,g9,g9'⟩:=Fk PG (l:=l) (fun q hq=>hp q (List.mem_cons_of_mem _ hq)) (fun j p' v' hj hj'=>hv (j+1) p' v' (by simpa using hj) (by simpa using hj')) h2 (fun q hq=>hsub q (List.mem_append_right _ hq))
   refine⟨flat p.2.2 x++dd,a :: aD,u :: us,?_,?_,⟨g2,g7⟩,⟨g3,g8⟩,fun rest=>?_,fun B hw=>?_⟩
   ·intro e he
    rcases List.mem_append.1 he with he|he
    ·exact Fj _ x g1 e he
    ·exact g5 e he
   ·simp[jg,vk,g6]
   ·rw [List.append_assoc]
    exact vn (g4 _) (g9 rest)
   ·simp only [List.map_cons, DataW.weightsEach, List.all_append, Bool.and_eq_true] at hw
    refine⟨⟨x,⟨dd,rfl⟩,g4' B hw.1⟩,?_⟩
    have e:(A1 p.2.2).length=(flat p.2.2 x).length:=by rw[←vk p.2.2 x,List.length_map]
    grind
theorem DG {cm:List (Tr aZ)} {lv sl aa:Nat} {rv:AV} {b:Bool} (h:fF cm 0 0 lv sl aa rv=some (.d (.sc (.bool b)),[])):rv=.d (.sc (.bool b)):=by
 cases rv with
 |d x=>
  simp only[fF,kj,aW,Option.some.injEq,Prod.mk.injEq,and_true] at h
  exact h
 |own els o=>cases o<;>simp[fF,kj,aW,nA] at h
 |agg cs=>
  obtain⟨z,_,he⟩:=aG h<;>grind
 |gN vs=>
  simp_all[fF]
 |ref bV cS fN off len sz=>
  simp[fF,kj,aW] at h<;>grind
 |ptr=>simp[fF,kj,aW] at h
 |eA=>simp[fF,kj,aW] at h
 |mp=>simp[fF,kj,aW] at h
 |eW=>simp[fF,kj,aW] at h
 |fB f cs=>cases cs<;>simp[fF,kj,aW] at h
theorem Oi {dP:Nat→Option TypeId} {md:Nat→bq.Mode} {Fs:Tb} {f:Nat} (ZT:P.follows .mixedOrders=true) (iS:∀ f T,dP f=some T→kf P f T) (NP:∀ f fn,Fs f=some fn→Ch P dP md f=some fn) (hO:bX P Fs.O) (hg:(∀ b,vY b→b<w.heap.size)∧LY w)
  (PG:Oh P rv) {k b:Nat} {l:List vl} (hp:∀ p∈l,Ie P rv k p) {F:(qn (jg l)).den→Option Bool} (ZU:nL Fs f ⟨l.map vl.sh,jg l,[(false,[.bool])],[.bool],0,F⟩)
  (hF:∀ x,ZP (jg l) x→F x=some true)
  {args:Array Value} {ds:List (DataW H)} {ps:List MemPlace} (hval:∀ (j:Nat) (p:vl) v,l[j]?=some p→args[j]?=some v→Value.okWide P w .any b p.1 v)
  (hargs:DataW.TrodAll enc P w 0 sp held (l.map (·.1)) args.toList ds ps) (hlt:∀ x∈ps,x.block<w.heap.size) :
  Calls P f args w fun e w'=>e=.returned (.bool true)∧Below w.heap.size w w':=by
 obtain⟨dd,aD,us,g1,g2,g3,g4,g5,_⟩:=Fk PG (ps:=ps) hp (fun j p v hj hv=>hval j p v hj (by simpa using hv)) hargs (fun _ h=>h)
 obtain⟨x,hx⟩:∃ x,pack (jg l) dd=some x:=g2 ▸ wN dd
 have hu:=cw hx
 have hok:ZP (jg l) x:=by unfold ZP;rw[hu];exact g1
 obtain⟨vs,h1,h2⟩:=ZU.1 (Xp l) x true (hF x hok)
 simp[hu] at h1
 have h5:=g5 []
 rw[List.append_nil,h1] at h5
 cases h5
 obtain⟨n0,r,cm,ts,nv,h3,h4⟩:=h2 aD g4
 obtain⟨a',h6,h7⟩:=(h4 [(false,[.bool true])] rfl).1 (show (0:Nat)≠65535 by decide) (.c (.bool true)) rfl 0 0 0
 have ha:a'=.d (.sc (.bool true)):=h7 ρ0 0 []
 subst ha
 have hr:=DG h6
 subst hr
 obtain⟨_,hc⟩:=E3 hO ZT iS NP n0 f aD [.lf] .lf 0 _ cm ts nv (h3 n0 (Nat.le_refl _)) (Rl w ps) args (MG hg ps hlt) (fun _ _=>rfl) g3
 refine hc.mono ?_
 rintro e w' ⟨Y,u,rfl,rfl,hx,hv,_⟩
 cases hv
 exact⟨rfl,hx.below.toBelow⟩
theorem PI {B:Nat} {dP:Nat→Option TypeId} {md:Nat→bq.Mode} {Fs:Tb} {f:Nat} (ZT:P.follows .mixedOrders=true) (iS:∀ f T,dP f=some T→kf P f T) (NP:∀ f fn,Fs f=some fn→Ch P dP md f=some fn) (hO:bX P Fs.O) (hg:(∀ b,vY b→b<w.heap.size)∧LY w)
  (PG:Oh P rv) {k b:Nat} {l:List vl} (hp:∀ p∈l,Ie P rv k p) {F:(qn (jg l)).den→Option Bool} (ZU:nL Fs f ⟨l.map vl.sh,jg l,[(false,[.bool])],[.bool],0,F⟩)
  (hF:∀ x,ZP (jg l) x→ady P B l x→F x=some true)
  {args:Array Value} {ds:List (DataW H)} {ps:List MemPlace} (hval:∀ (j:Nat) (p:vl) v,l[j]?=some p→args[j]?=some v→Value.okWide P w .any b p.1 v)
  (hargs:DataW.TrodAll enc P w 0 sp held (l.map (·.1)) args.toList ds ps) (hlt:∀ x∈ps,x.block<w.heap.size) (hwt:(DataW.weightsEach P (l.map (·.1)) ds).all (fun b=>decide (b≤B))=true) :
  Calls P f args w fun e w'=>e=.returned (.bool true)∧Below w.heap.size w w':=by
 obtain⟨dd,aD,us,g1,g2,g3,g4,g5,g6⟩:=Fk PG (ps:=ps) hp (fun j p v hj hv=>hval j p v hj (by simpa using hv)) hargs (fun _ h=>h)
 obtain⟨x,hx⟩:∃ x,pack (jg l) dd=some x:=g2 ▸ wN dd
 have hu:=cw hx
 have hok:ZP (jg l) x:=by unfold ZP;rw[hu];exact g1
 obtain⟨vs,h1,h2⟩:=ZU.1 (Xp l) x true (hF x hok (by unfold ady;rw[hu];exact g6 B hwt))
 simp[hu] at h1
 have h5:=g5 []
 rw[List.append_nil,h1] at h5
 cases h5
 obtain⟨n0,r,cm,ts,nv,h3,h4⟩:=h2 aD g4
 obtain⟨a',h6,h7⟩:=(h4 [(false,[.bool true])] rfl).1 (show (0:Nat)≠65535 by decide) (.c (.bool true)) rfl 0 0 0
 have ha:a'=.d (.sc (.bool true)):=h7 ρ0 0 []
 subst ha
 have hr:=DG h6
 subst hr
 obtain⟨_,hc⟩:=E3 hO ZT iS NP n0 f aD [.lf] .lf 0 _ cm ts nv (h3 n0 (Nat.le_refl _)) (Rl w ps) args (MG hg ps hlt) (fun _ _=>rfl) g3
 refine hc.mono ?_
 rintro e w' ⟨Y,u,rfl,rfl,hx,hv,_⟩
 cases hv
 exact⟨rfl,hx.below.toBelow⟩
theorem DH (hl:laidOutB P=true) {W W':World} (hb:Below W.heap.size W W'):∀ {ts:List TypeId} {vs:List Value} {ds:List (DataW H)} {ps:List MemPlace},(ts.all fun t=>P.readableRec t&&decide (t<P.types.size))=true→DataW.TrodAll enc P W 0 (fun _=>true) true ts vs ds ps→(∀ x∈ps,x.block<W.heap.size)→
  DataW.TrodAll enc P W' 0 (fun b=>decide (b<W.heap.size)) true ts vs ds ps
 |[],vs,ds,ps,_,h,_=>by
  match vs,ds,h with
  |[],[],h=>exact h
 | t :: ts, vs, ds, ps, ht, h, hlt => by
  match vs,ds,h with
  |v :: vs,d :: ds,h=>
   obtain⟨p,q,h1,h2,rfl⟩:=h
   rw[List.all_cons,Bool.and_eq_true,Bool.and_eq_true] at ht
   exact⟨p,q,Below.trod hl ht.1.1 (of_decide_eq_true ht.1.2) h1 hb (fun x hx=>hlt x (List.mem_append_left _ hx)),DH hl hb ht.2 h2 (fun x hx=>hlt x (List.mem_append_right _ hx)),rfl⟩
end
end Go.Sym
