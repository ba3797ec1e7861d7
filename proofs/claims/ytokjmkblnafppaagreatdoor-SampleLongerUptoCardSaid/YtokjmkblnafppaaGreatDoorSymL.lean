/- What a reading of an argument says: its value stands for typed data. -/
import Derived.Test.YtokjmkblnafppaaGreatDoorSymK
import Derived.Test.YtokjmkblnafppaaGreatDoorEngTb
import Derived.RowKit
import Derived.Carry
import Derived.ChangeOld
set_option linter.unusedVariables false
set_option linter.unusedSimpArgs false
namespace Go.Sym
open Go Go.bI Go.RowKit
mutual
def n7.ok:n7→Prop
 |.mk k i s l _=>(IntKind.u8.min≤k∧k≤IntKind.u8.max)∧(IntKind.i64.min≤i∧i≤IntKind.i64.max)∧s.length≤maxLen∧l.length≤maxLen∧n7.oks l
def n7.oks:List n7→Prop
 |[]=>True
 |v :: r=>n7.ok v∧n7.oks r
end
def Ty.ok:(t:Ty)→t.den→Prop
 |.val,v=>n7.ok v
 |.int k,a=>k.min≤a∧a≤k.max
 |.bool,_=>True
 |.str,s=>s.length≤maxLen
 |.sl t,l=>l.length≤maxLen∧∀ x∈l,Ty.ok t x
 |.unit,_=>True
 |.prod a b,x=>Ty.ok a x.1∧Ty.ok b x.2
 |.sum a b,x=>match x with
  |.inl y=>Ty.ok a y
  |.inr y=>Ty.ok b y
theorem n7.D5:∀ {l:List n7},n7.oks l↔∀ v∈l,n7.ok v
 |[]=>by simp[n7.oks]
 |v :: r=>by simp[n7.oks,n7.D5 (l:=r)]
mutual
def R5 (P:Program) (rv:Option TypeId):Nat→TypeId→Option Ty
 |0,_=>none
 | n + 1, t => if rv = some t then some .val else
  match P.underlying t with
  |some .bool=>some .bool
  |some (.int k)=>some (.int k)
  |some .string=>some .str
  |some (.slice e)=>match R5 P rv n e with
   |some T=>if 0<P.cellsOf e∧T.size=P.cellsOf e then some (.sl T) else none
   |none=>none
  |some (.struct fs)=>match VG P rv n 0 fs.toList with
   |some (Ts,k)=>if k=P.cellsOf t then some (tv Ts) else none
   |none=>none
  |some (.array m e)=>match R5 P rv n e with
   |some T=>if T.size=P.cellsOf e∧m*P.cellsOf e=P.cellsOf t then some (tv (List.replicate m T)) else none
   |none=>none
  |_=>none
def VG (P:Program) (rv:Option TypeId):Nat→Nat→List Field→Option (List Ty×Nat)
 |_,off,[]=>some ([],off)
 |0,_,_ :: _=>none
 |n+1,off,f :: r=>match R5 P rv n f.type,VG P rv n (off+P.cellsOf f.type) r with
  |some T,some (Ts,k)=>if f.offset=off∧T.size=P.cellsOf f.type then some (T :: Ts,k) else none
  |_,_=>none
end
def L7 (P:Program) (rv:Option TypeId):Prop:=∀ t,rv=some t→∃ fs n,P.underlying t=some (.struct fs)∧VG P rv n 0 fs.toList=some ([.int .u8,.int .i64,.str,.sl .val,.bool],5)∧P.cellsOf t=5
section
variable {H:Type} {enc:TypeId×Value→H} {P:Program} {w:World} {base:Nat} {sp:Nat→Bool} {held:Bool} {rv:Option TypeId}
def D6 (ps:List MemPlace):Nat→Nat→Prop:=fun b o=>MemPlace.cell b o∈ps
theorem mapM_some {α β : Type} {f : α→Option β} : ∀ {l:List α} {r:List β},l.mapM f=some r→r.length=l.length∧∀ (i:Nat) (x : α),l[i]?=some x→∃ y,r[i]?=some y∧f x=some y
 |[],r,h=>by
  simp at h;subst h
  exact⟨rfl,fun i x h=>by simp at h⟩
 |a :: l,r,h=>by
  rw[List.mapM_cons] at h
  obtain⟨y,h1,h⟩:=aT h
  obtain⟨ys,h2,h⟩:=aT h
  injection h with h;subst h
  obtain⟨h3,h4⟩:=mapM_some h2
  refine⟨by simp[h3],fun i x hi=>?_⟩
  cases i with
  |zero=>simp at hi;subst hi;exact⟨y,rfl,h1⟩
  |succ i=>simpa using h4 i x (by simpa using hi)
theorem Ot {a:Addr} {n:Nat} {v:Value} (h:w.cell? (a.add n)=some v):w.cell? ⟨a.block,a.off+n,none⟩=some v∧(n=0→a.spot=none):=by
 unfold Addr.add at h
 split at h
 ·rename_i h0
  subst h0
  have hs:a.spot=none:=by
   unfold World.cell? at h
   split at h
   ·cases hs : a.spot with
    |none=>rfl
    |some x=>rw[hs] at h;simp at h
   ·cases h
  obtain⟨b,o,sp⟩:=a
  simp only at hs
  subst hs
  exact⟨by simpa using h,fun _=>rfl⟩
 ·rename_i h0
  exact⟨h,fun h=>absurd h h0⟩
theorem Gl {α β : Type} {Q:Nat→α→β→Prop} : ∀ {l:List α} , (∀ (i:Nat) (x : α),l[i]?=some x→∃ y,Q i x y)→∃ r:List β,r.length=l.length∧∀ (i:Nat) (x : α),l[i]?=some x→∃ y,r[i]?=some y∧Q i x y:=by
 intro l h
 classical
 have:∀ i:Fin l.length,∃ y,Q i l[i] y:=fun i=>h i _ (List.getElem?_eq_getElem i.2)
 let f:Fin l.length→β:=fun i=>Classical.choose (this i)
 refine⟨List.ofFn f,by simp,fun i x hi=>?_⟩
 obtain⟨hlt,rfl⟩:=List.getElem?_eq_some_iff.1 hi
 refine⟨f ⟨i,hlt⟩,by simp[hlt],?_⟩
 exact Classical.choose_spec (this ⟨i,hlt⟩)
theorem Ou (x:(tv [.int .u8,.int .i64,.str,.sl .val,.bool]).den):ef .val (.mk x.1 x.2.1 x.2.2.1 x.2.2.2.1 x.2.2.2.2)=ef (tv [.int .u8,.int .i64,.str,.sl .val,.bool]) x:=by
 simp[ef,Im,nO]
theorem qA {α β : Type} {R : α→β→Prop} {l:List α} {m:List β} {n k:Nat} (h:az R l ((m.drop n).take k)) {l':List α} {j:Nat} (h':az R l' ((m.drop (n+k)).take j)):az R (l++l') ((m.drop n).take (k+j)):=by
 have:=h.append h'
 rw[List.take_add,List.drop_drop]
 exact this
theorem Gm {T:Ty} {R:D→Value→Prop} {cs:List Value} {c:Nat} : ∀ (m off:Nat),(∀ i,i<m→∃ x:T.den,T.ok x∧az R (ef T x) ((cs.drop (off+i*c)).take c))→
  ∃ x:(tv (List.replicate m T)).den,(tv (List.replicate m T)).ok x∧az R (ef (tv (List.replicate m T)) x) ((cs.drop off).take (m*c))
 |0,off,_=>⟨(),trivial,by simp[ef,az]⟩
 |1,off,h=>by
  obtain⟨x,ox,hx⟩:=h 0 (by omega)
  rw[Nat.zero_mul,Nat.add_zero] at hx
  exact⟨x,ox,by rw[Nat.one_mul];exact hx⟩
 | m + 2, off, h => by
  obtain⟨x,ox,hx⟩:=h 0 (by omega)
  rw[Nat.zero_mul,Nat.add_zero] at hx
  obtain⟨z,oz,hz⟩:=Gm (m+1) (off+c) fun i hi=>by
   have:=h (i+1) (by omega)
   rwa[show off+(i+1)*c=off+c+i*c by rw[Nat.add_mul,Nat.one_mul];omega] at this
  refine⟨(x,z),⟨ox,oz⟩,?_⟩
  have hj:=qA hx hz
  rw[show c+(m+1)*c=(m+2)*c by rw[Nat.add_mul,Nat.add_mul];omega] at hj
  exact hj
theorem CM (MT : L7 P rv) : ∀ (fuel : Nat) (t : TypeId) (cs : List Value) (d : DataW H) (ps : List MemPlace), DataW.trod enc P w base sp held fuel t cs = some (d, ps) → ∀ (k : Nat) (T : Ty), R5 P rv k t = some T → ∃ x : T.den, T.ok x ∧ az (DR w (D6 ps)) (ef T x) cs
 |0,_,_,_,_,h=>by simp[DataW.trod] at h
 | fuel + 1, t, cs, d, ps, h => by
  have ih:=CM MT fuel
  have fields : ∀ (l : List Field) (k off e : Nat) (Ts : List Ty) (xs : List (DataW H × List MemPlace)), VG P rv k off l = some (Ts, e) → (l.mapM fun f => DataW.trod enc P w base sp held fuel f.type ((cs.drop f.offset).take (P.cellsOf f.type))) = some xs → (∀ x ∈ xs, ∀ q ∈ x.2, q ∈ ps) →
    off≤e∧∃ x:(tv Ts).den,(tv Ts).ok x∧az (DR w (D6 ps)) (ef (tv Ts) x) ((cs.drop off).take (e-off)):=by
   intro l
   induction l with
   |nil=>
    intro k off e Ts xs hk hxs _
    cases k<;>(simp only[VG,Option.some.injEq,Prod.mk.injEq] at hk;obtain⟨rfl,rfl⟩:=hk;exact⟨Nat.le_refl _,(),trivial,by simp[ef,az]⟩)
   | cons f l ihl =>
    intro k off e Ts xs hk hxs hps
    cases k with
    |zero=>simp[VG] at hk
    | succ k =>
     simp only[VG] at hk
     split at hk
     ·rename_i T Ts' e' h1 h2
      split at hk
      ·rename_i hc
       simp only[Option.some.injEq,Prod.mk.injEq] at hk
       obtain⟨rfl,rfl⟩:=hk
       obtain⟨rfl,hsz⟩:=hc
       rw[List.mapM_cons] at hxs
       obtain⟨y,g1,hxs⟩:=aT hxs
       obtain⟨ys,g2,hxs⟩:=aT hxs
       injection hxs with hxs;subst hxs
       obtain⟨x,ox,hx⟩:=ih _ _ y.1 y.2 g1 _ _ h1
       have hx:az (DR w (D6 ps)) (ef T x) ((cs.drop f.offset).take (P.cellsOf f.type)):=hx.mono fun _ _=>DR.mono fun b o hb=>hps y List.mem_cons_self _ hb
       obtain⟨hle,z,oz,hz⟩:=ihl _ _ _ _ _ h2 g2 fun x hx=>hps x (List.mem_cons_of_mem _ hx)
       refine⟨by omega,?_⟩
       have hj:=qA hx hz
       rw[show P.cellsOf f.type+(e'-(f.offset+P.cellsOf f.type))=e'-f.offset from by omega] at hj
       cases Ts' with
       |nil=>
        refine⟨x,ox,?_⟩
        simpa[ef] using hj
       |cons T2 Ts2=>exact⟨(x,z),⟨ox,oz⟩,hj⟩
      ·cases hk
     ·cases hk
  intro k T hT
  cases k with
  |zero=>simp[R5] at hT
  |succ k=>
  unfold DataW.trod at h
  simp only[R5] at hT
  split at hT
  ·
   rename_i hr
   injection hT with hT;subst hT
   obtain⟨fs,n,hu,hF,hc⟩:=MT t hr
   rw[hu] at h
   simp only at h
   split at h
   ·rename_i hlen
    obtain⟨xs,hxs,he⟩:=aM h
    simp only[Prod.mk.injEq] at he
    obtain⟨_,rfl⟩:=he
    obtain⟨_,x,ox,hx⟩:=fields _ _ _ _ _ _ hF hxs fun x hx q hq=>List.mem_flatMap.2 ⟨x,hx,hq⟩
    refine⟨.mk x.1 x.2.1 x.2.2.1 x.2.2.2.1 x.2.2.2.2,?_,?_⟩
    ·obtain ⟨o1, o2, o3, o4, o5⟩ := ox
     exact⟨o1,o2,o3,o4.1,n7.D5.2 o4.2⟩
    ·rw [Ou]
     rw[hc] at hlen
     simpa[List.take_of_length_le,hlen] using hx
   ·cases h
  ·rename_i hr
   cases hu:P.underlying t with
   |none=>rw[hu] at hT;cases hT
   | some desc =>
    rw[hu] at hT h
    cases desc with
    |bool=>
     injection hT with hT;subst hT
     simp only at h
     split at h<;>first|(exfalso;have q:=‹some TypeDesc.bool=some _›;injection q with q;cases q;done)|cases h|skip
     rename_i b _
     exact⟨b,trivial,.sc _ rfl,trivial⟩
    | int kd =>
     injection hT with hT;subst hT
     simp only at h
     split at h<;>first|(exfalso;have q:=‹some (TypeDesc.int kd)=some _›;injection q with q;cases q;done)|cases h|skip
     rename_i k k' n heq
     injection heq with heq;injection heq with heq;subst heq
     split at h
     ·rename_i hc
      obtain⟨rfl,hw⟩:=hc
      simp only[Lit.wf,Bool.and_eq_true,decide_eq_true_eq] at hw
      exact⟨n,hw,.sc _ rfl,trivial⟩
     ·cases h
    | string =>
     injection hT with hT;subst hT
     simp only at h
     split at h<;>first|(exfalso;have q:=‹some TypeDesc.string=some _›;injection q with q;cases q;done)|cases h|skip
     rename_i s _
     split at h
     ·rename_i hc
      refine⟨s.data.toList,(by show s.data.toList.length≤maxLen;rw[Array.length_toList];exact hc),?_,trivial⟩
      exact .sc _ rfl
     ·cases h
    | slice e =>
     simp only at hT h
     split at hT
     ·rename_i T' hT'
      split at hT
      ·rename_i hc
       injection hT with hT;subst hT
       obtain⟨hpos,hsz⟩:=hc
       split at h<;>first|(exfalso;have q:=‹some (TypeDesc.slice e)=some _›;injection q with q;cases q;done)|cases h|skip
       ·refine ⟨[], ⟨by simp, fun x hx => by cases hx⟩, ?_, trivial⟩
        exact .sl [] none 0 0 0 0 0 (fun _ _=>.bool false) rfl (Nat.le_refl _) (fun e h=>by cases h) (fun h=>by cases h) (fun i e j x h=>by simp at h) (fun i e j x h=>by simp at h) (fun i e j x h=>by simp at h)
       ·rename_i e' a len cap heq
        injection heq with heq;injection heq with heq;subst heq
        split at h
        ·rename_i hb
         obtain⟨elems,hel,h⟩:=aT h
         obtain⟨rest,zw,he⟩:=aM h
         simp only[Prod.mk.injEq] at he
         obtain⟨_,rfl⟩:=he
         obtain⟨hlen,tR⟩:=mapM_some hel
         rw[List.length_range] at hlen
         have elem:∀ i y,elems[i]?=some y→∃ x:T'.den,T'.ok x∧∃ csi,w.cells? base (a.add (i*P.cellsOf e)) (P.cellsOf e)=some csi∧az (DR w (D6 (MemPlace.row a ((elems.length+rest.length)*P.cellsOf e)++(elems++rest).flatMap (·.2)))) (ef T' x) csi:=by
          intro i y hi
          have Fg:i<len:=by rw[←hlen];exact (List.getElem?_eq_some_iff.1 hi).1
          obtain⟨y',hy',hf⟩:=tR i i (by simp[Fg])
          rw[hi] at hy'
          injection hy' with hy';subst hy'
          obtain⟨csi,h1,h2⟩:=aT hf
          obtain⟨x,ox,hx⟩:=ih _ _ y.1 y.2 h2 _ _ hT'
          refine⟨x,ox,csi,h1,hx.mono fun _ _=>DR.mono fun b o hb=>?_⟩
          refine List.mem_append_right _ (List.mem_flatMap.2 ⟨y,List.mem_append_left _ (List.mem_of_getElem? hi),hb⟩)
         obtain⟨xs,hxl,hxs⟩:=Gl elem
         have Ul:xs.length=len:=by rw[hxl,hlen]
         refine⟨xs,⟨by rw[Ul];omega,fun x hx=>?_⟩,?_,trivial⟩
         ·obtain ⟨i, hi⟩ := List.getElem?_of_mem hx
          have hi':i<elems.length:=by rw[←hxl];exact (List.getElem?_eq_some_iff.1 hi).1
          obtain⟨y,hy,oy,_⟩:=hxs i _ (List.getElem?_eq_getElem hi')
          rw[hi] at hy
          injection hy with hy;subst hy
          exact oy
         ·
          have cell:∀ i e' j x',(xs.map (ef T'))[i]?=some e'→e'[j]?=some x'→j<P.cellsOf e∧i<len∧∃ v,w.cell? ⟨a.block,a.off+i*P.cellsOf e+j,none⟩=some v∧(i=0→j=0→a.spot=none)∧DR w (D6 (MemPlace.row a ((elems.length+rest.length)*P.cellsOf e)++(elems++rest).flatMap (·.2))) x' v:=by
           intro i e' j x' hi hj
           rw[List.getElem?_map] at hi
           obtain⟨x,hx,rfl⟩:=aM hi
           have hi':i<elems.length:=by rw[←hxl];exact (List.getElem?_eq_some_iff.1 hx).1
           obtain⟨y,hy,oy,csi,h1,h2⟩:=hxs i _ (List.getElem?_eq_getElem hi')
           rw[hx] at hy
           injection hy with hy;subst hy
           obtain⟨v,hv,hd⟩:=h2.get j x' hj
           have hjl:j<P.cellsOf e:=by
            have:=(List.getElem?_eq_some_iff.1 hj).1
            rw[dQ,hsz] at this
            exact this
           unfold World.cells? at h1
           split at h1
           ·obtain ⟨_, hg⟩ := mapM_some h1
            obtain⟨v',jd,hcell⟩:=hg j j (by simp[hjl])
            rw[hv] at jd
            injection jd with jd;subst jd
            obtain⟨c1,c2⟩:=Ot hcell
            have e1:(a.add (i*P.cellsOf e)).block=a.block∧(a.add (i*P.cellsOf e)).off=a.off+i*P.cellsOf e:=by
             unfold Addr.add
             split
             ·rename_i h0;rw[h0];exact⟨rfl,rfl⟩
             ·exact⟨rfl,rfl⟩
            rw[e1.1,e1.2] at c1
            refine⟨hjl,by omega,v,c1,fun h0 h0'=>?_,hd⟩
            have:=c2 h0'
            subst h0
            simpa[Addr.add] using this
           ·cases h1
          have hl:eW w (D6 (MemPlace.row a ((elems.length+rest.length)*P.cellsOf e)++(elems++rest).flatMap (·.2))) (D6 (MemPlace.row a ((elems.length+rest.length)*P.cellsOf e)++(elems++rest).flatMap (·.2))) (xs.map (ef T')) a.block a.off (P.cellsOf e):=by
           refine⟨fun e' he'=>?_,fun i e' j x' hi hj=>?_⟩
           ·obtain ⟨x, _, rfl⟩ := List.mem_map.1 he'
            rw[dQ,hsz]
           ·obtain ⟨c1, c2, v, c3, _, c4⟩ := cell i e' j x' hi hj
            refine⟨List.mem_append_left _ ?_,v,c3,c4⟩
            unfold MemPlace.row
            rw[List.mem_map]
            refine⟨i*P.cellsOf e+j,?_,by rw[Nat.add_assoc]⟩
            rw[List.mem_range,hlen]
            have:(i+1)*P.cellsOf e≤(len+rest.length)*P.cellsOf e:=Nat.mul_le_mul_right _ (by omega)
            rw[Nat.add_mul,Nat.one_mul] at this
            omega
          refine DR.fL hl (by simp[Ul]) hb.2.1 fun hn=>?_
          have hx0:0<xs.length:=by omega
          have h0:(xs.map (ef T'))[0]?=some (ef T' xs[0]):=by simp[hx0]
          have hs0:0<(ef T' xs[0]).length:=by rw[dQ,hsz];exact hpos
          obtain⟨_,_,v,_,hsp,_⟩:=cell 0 _ 0 _ h0 (List.getElem?_eq_getElem hs0)
          have:=hsp rfl rfl
          obtain⟨ab,ao,asp⟩:=a
          simp only at this
          subst this
          rfl
        ·cases h
      ·cases hT
     ·cases hT
    | struct fs =>
     simp only at hT h
     split at hT
     ·rename_i Ts e hF
      split at hT
      ·rename_i hc
       injection hT with hT;subst hT
       split at h
       ·rename_i hlen
        obtain⟨xs,hxs,he⟩:=aM h
        simp only[Prod.mk.injEq] at he
        obtain⟨_,rfl⟩:=he
        obtain⟨_,x,ox,hx⟩:=fields _ _ _ _ _ _ hF hxs fun x hx q hq=>List.mem_flatMap.2 ⟨x,hx,hq⟩
        refine⟨x,ox,?_⟩
        rw[hc] at hx
        simpa[List.take_of_length_le,hlen] using hx
       ·cases h
      ·cases hT
     ·cases hT
    | array m e =>
     simp only at hT h
     split at hT
     ·rename_i T' hT'
      split at hT
      ·rename_i hc
       injection hT with hT;subst hT
       obtain⟨hsz,hm⟩:=hc
       split at h
       ·rename_i hlen
        obtain⟨xs,hxs,he⟩:=aM h
        simp only[Prod.mk.injEq] at he
        obtain⟨_,rfl⟩:=he
        obtain⟨hl,tR⟩:=mapM_some hxs
        obtain⟨x,ox,hx⟩:=Gm (T:=T') (R:=DR w (D6 (xs.flatMap (·.2)))) (cs:=cs) (c:=P.cellsOf e) m 0 fun i hi=>by
         obtain⟨y,hy,hf⟩:=tR i i (by simp[hi])
         obtain⟨x,ox,hx⟩:=ih _ _ y.1 y.2 hf _ _ hT'
         refine⟨x,ox,?_⟩
         rw[Nat.zero_add]
         exact hx.mono fun _ _=>DR.mono fun b o hb=>List.mem_flatMap.2 ⟨y,List.mem_of_getElem? hy,hb⟩
        refine⟨x,ox,?_⟩
        rw[hm] at hx
        simpa[List.take_of_length_le,hlen] using hx
       ·cases h
      ·cases hT
     ·cases hT
    |_=>cases hT
end
end Go.Sym
