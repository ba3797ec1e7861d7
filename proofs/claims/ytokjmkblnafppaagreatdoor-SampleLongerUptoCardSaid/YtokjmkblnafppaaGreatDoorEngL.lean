/- A part of the proof: EngK, EngL. -/
import Derived.Test.YtokjmkblnafppaaGreatDoorEngJ
set_option linter.unusedVariables false
set_option linter.unusedSimpArgs false
namespace Go.bI
open Go Go.RowKit
section
variable {P:Program} {X:Cx} {nt:Nat} {s:St} {a:Act} {o:Oper} {dst:Option Nat} {aR:Nat}
theorem Ni {X:Cx} {m:List (Tr bH)} {t:Tr Unit} {v:Nat} (h:aB X m (t.set v (some ()))):aB X m t:=
 h.less (fun _ _ _ h=>h) fun u hu=>by rw[Tr.cr];split<;>first|rfl|exact hu
theorem Bx (hs:eL X nt s a) (hfr:X.ρ aR=none) {t e:TypeId} {n sz d:Nat} {ps:Array (Nat×Operand)} {z:List D} {zl:List Value} {l:List (Nat×bR)} {els:List (List D)} {ks:List (Nat×Nat)} {rd:List (Nat×Nat×Nat)} (ho:o.op=.buildSlice t n ps)
  (ht:P.underlying t=some (.slice e)) (hsz:cY P e=some sz) (hz:l7 P e=some zl) (Bq:iH zl=some z) (hl:kE ps.toList=some l) (h24:n*sz≤16777216) (hzl:z.length=sz) (h0:0<sz)
  (hf:mO s.mem s.slots sz (List.replicate n z) l=some (els,ks)) :
  cU P X s a o dst aR (.bS { val:=.own els .full,cK:=dy s.mem ks,cx:=[],rd })∧
  ((s.mem.length-1,d) ∉ ks→cU P X s a o dst aR (.bS { val:=.ref (s.mem.length-1) d aR 0 n sz,cK:=dy s.mem ks++[(s.mem.length-1,d,some (.row aR els))],cx:=[],rd })):=by
 obtain⟨i,zv,hi,Bp,rfl⟩:=iK hz
 obtain⟨i',hi',HL⟩:=eM hsz
 rw[hi] at hi';injection hi' with hi';subst hi'
 have hZ:az (DR X.w (X.j5 s.mem ks).F) z zv.cells.toList:=j7 Bq
 have pZ:=hU hZ hzl h0 n (n*sz) (Nat.le_refl _)
 rw[mY] at pZ
 obtain⟨C',h1,h2,h3,h4⟩:=ER hs ps.toList l _ els ks (madeCells zv.cells (n*sz)) hl (fun e he=>by rw[(List.mem_replicate.1 he).2];exact hzl) pZ hf fun p hp=>hp
 have hrun:=pY (P:=P) (X:=X) ho ht hi HL Bp h24 h1
 have wu:=Dn hs.mem ks
 have hx1:=oA hs.mem ks
 have hen:els.length=n:=by simpa using h4
 have hC:C'.size=n*sz:=by rw[←hen,←bf h3,h2.length,Array.length_toList]
 refine⟨?_,fun hnk=>?_⟩
 ·have nt := JO (X := X.j5 s.mem ks) wu (C := C') (e := e) (v := aR) (els := els) (sz := sz) (cap := n) (vs := C'.toList) hfr h3 (by omega) (by omega) (fun j u hj => by simpa using hj) h2
  obtain⟨g1,g2,g3,g4⟩:=nt
  refine .value hrun (hx1.trans g1) ⟨some ⟨X.w.heap.size,0,none⟩,X.w.heap.size,0,sz,?_,fun _=>rfl,g3⟩ (Ni g2) ⟨Nat.le_refl _,fun v L h=>?_⟩
  ·rw[hen]
  ·rcases g4.2 v L h with h | h | h
   ·exact .inl h
   ·exact .inr (.inl h)
   ·omega
 ·have nr := Dq (X := X.j5 s.mem ks) wu (C := C') (e := e) (v := aR) (els := els) (sz := sz) (cap := n) (vs := C'.toList) (s.mem.length - 1) d hfr h3 (by omega) (by omega) (fun j u hj => by simpa using hj) h2
  refine .value (Y:=(X.j5 s.mem ks).alloc C' e aR ⟨X.w.heap.size,0,sz,n⟩) hrun (hx1.trans (Ext.alloc wu.mI wu.low hfr)) ⟨⟨X.w.heap.size,0,sz,n⟩,some ⟨X.w.heap.size,0,none⟩,n,tP _ _ _ _ _,rfl,rfl,Nat.le_refl _,fun _=>⟨by simp,by simp⟩⟩ ?_ (lV (X:=X.j5 s.mem ks))
  show aB _ (bB s.mem (dy s.mem ks++_)) s.aE
  rw[jo]
  exact nr
theorem tS {sz:Nat} : ∀ {ps:List (Nat×Operand)} {l:List (Nat×bR)},kE ps=some l→oo (fun i=>some (i*sz,sz)) ps=some (l.map fun p=>(p.1*sz,sz,p.2))
 |[],l,h=>by simp only[kE,Option.some.injEq] at h;subst h;rfl
 | (i, x) :: r, l, h => by
  simp only[kE] at h
  split at h
  ·rename_i y ys h1 h2
   injection h with h;subst h
   simp only[oo,h1,tS h2,List.map_cons]
  ·cases h
theorem az.U1 {X:Cx} : ∀ {ds:List D} {vs:List Value},az (DR X.w X.F) ds vs→az (VC X) (ds.map .d) vs
 |[],[],_=>trivial
 |_ :: _,_ :: _,h=>⟨h.1,az.U1 h.2⟩
 |[],_ :: _,h=>h.elim
 |_ :: _,[],h=>h.elim
theorem ES (hs:eL X nt s a) (hfr:X.ρ aR=none) {t e:TypeId} {n sz d:Nat} {ps:Array (Nat×Operand)} {z:List D} {zl:List Value} {l:List (Nat×bR)} {cs:List AV} {rd:List (Nat×Nat×Nat)} (ho:o.op=.buildSlice t n ps)
  (ht:P.underlying t=some (.slice e)) (hsz:cY P e=some sz) (hz:l7 P e=some zl) (Bq:iH zl=some z) (hl:kE ps.toList=some l) (h24:n*sz≤16777216) (hzl:z.length=sz) (h0:0<sz) (hn:n≠0)
  (hf:mN s.slots ((List.replicate n z).flatten.map .d) (l.map fun p=>(p.1*sz,sz,p.2))=some cs) :
  cU P X s a o dst aR (.bS { val:=.eH (s.mem.length-1) d aR 0 n sz,cK:=[(s.mem.length-1,d,some (.box aR cs))],cx:=[],rd }):=by
 obtain⟨i,zv,hi,Bp,rfl⟩:=iK hz
 obtain⟨i',hi',HL⟩:=eM hsz
 rw[hi] at hi';injection hi' with hi';subst hi'
 have hZ:az (DR X.w X.F) z zv.cells.toList:=j7 Bq
 have pZ:=hU hZ hzl h0 n (n*sz) (Nat.le_refl _)
 rw[mY] at pZ
 obtain⟨C',h1,h2⟩:=ze hs (fun i=>some (i*sz,sz)) ps.toList _ _ cs (madeCells zv.cells (n*sz)) (tS hl) pZ.U1 hf
 have hrun:=pY (P:=P) (X:=X) ho ht hi HL Bp h24 h1
 exact .value (Y:=X.alloc C' e aR ⟨X.w.heap.size,0,C'.size,1⟩) hrun (Ext.alloc hs.mem.mI hs.mem.low hfr) ⟨_,tP _ _ _ _ _,by simp,by omega⟩ (JN hs.mem _ _ hfr h2) lV
theorem Ds (hs:eL X nt s a) (hfr:X.ρ aR=none) {t e:TypeId} {l c d:Nat} {i:TypeInfo} {ln cp:Operand} {ln' cp':bR} {z:List D} {zl:List Value} {rd:List (Nat×Nat×Nat)} (ho:o.op=.makeSlice t ln cp)
  (ht:P.underlying t=some (.slice e)) (hi:P.info? e=some i) (hz:l7 P e=some zl) (Bq:iH zl=some z) (hzl:z.length=i.size) (h0:0<i.size)
  (hln:cL ln=some ln') (hcp:cL cp=some cp') (hl:fN (ln'.ev s.slots)=some l) (hc:fN (cp'.ev s.slots)=some c) (hlc:l≤c) (hby:i.bytes*c≤j0) (h63:c≤eU) :
  cU P X s a o dst aR (.bS { val:=.ref (s.mem.length-1) d aR 0 l i.size,cK:=[(s.mem.length-1,d,some (.row aR (List.replicate l z)))],cx:=[],rd }):=by
 obtain⟨i',zv,hi',Bp,rfl⟩:=iK hz
 rw[hi] at hi';injection hi' with hi';subst hi'
 obtain⟨kl,hle⟩:=jv hl (bw hs hln)
 obtain⟨kc,hce⟩:=jv hc (bw hs hcp)
 have hr:=run_make (P:=P) X.w t e i zv ht hi Bp kl kc l c (by omega) (by omega) (by
  have:((i.bytes*c:Nat):Int)≤281474976710656:=by unfold j0 at hby;omega
  rwa[Int.natCast_mul] at this) (by unfold eU at h63;omega)
 simp only[Int.toNat_natCast] at hr
 have hZ:az (DR X.w X.F) z zv.cells.toList:=j7 Bq
 have pZ:=hU hZ hzl h0 l (c*i.size) (Nat.mul_le_mul_right _ hlc)
 have nr:=Dq hs.mem (C:=madeCells zv.cells (c*i.size)) (e:=e) (v:=aR) (els:=List.replicate l z) (sz:=i.size) (cap:=c) (s.mem.length-1) d hfr (fun e he=>by rw[(List.mem_replicate.1 he).2];exact hzl) (by simp[madeCells]) (by simpa using hlc)
  (vs := (madeCells zv.cells (c * i.size)).toList.take (l * i.size)) (fun j u hj => by
   rw[List.getElem?_take] at hj
   split at hj
   ·simpa using hj
   ·cases hj) pZ
 refine .value (Y:=X.alloc (madeCells zv.cells (c*i.size)) e aR ⟨X.w.heap.size,0,i.size,c⟩) ?_ (Ext.alloc hs.mem.mI hs.mem.low hfr) ⟨⟨X.w.heap.size,0,i.size,c⟩,some ⟨X.w.heap.size,0,none⟩,c,tP _ _ _ _ _,rfl,rfl,hlc,fun _=>⟨by simp,by simp⟩⟩ nr lV
 simp[execOp,ho,hle,hce,hr]
 rfl
theorem yh {X:Cx} {m:List (Tr bH)} {t:Tr Unit} (h:aB X m t) {y:AV} {news:List (List D)} {v:Value} {sz:Nat} (he:gQ m y=some news) (hv:VR X y v) (hl:∀ e∈news,e.length=sz) (h0:0<sz) :
  ∃ vs:List Value,az (DR X.w X.F) news.flatten vs∧(∀ w:World,(Builtin.lenOf v).run P w=.ok news.length w)∧
   (∀ w:World,(∀ b o,w.cell? ⟨b,o,none⟩=X.w.cell? ⟨b,o,none⟩)→∀ n,n≤news.length→(Builtin.firstCells sz n v).run P w=.ok (vs.take (n*sz)).toArray w):=by
 have data:∀ els,dK m y=some els→els=news→∃ vs:List Value,az (DR X.w X.F) news.flatten vs∧(∀ w:World,(Builtin.lenOf v).run P w=.ok news.length w)∧
   (∀ w:World,(∀ b o,w.cell? ⟨b,o,none⟩=X.w.cell? ⟨b,o,none⟩)→∀ n,n≤news.length→(Builtin.firstCells sz n v).run P w=.ok (vs.take (n*sz)).toArray w):=by
  rintro els he' rfl
  clear he
  have he:=he'
  obtain⟨ad,cap,sz',b,o,rfl,h2,h3,h4⟩:=pX h he hv
  obtain⟨vs,h5,h6⟩:=tN h4
  refine⟨vs,h6,fun w=>rfl,fun w hw n hn=>?_⟩
  by_cases hz:els.length=0
  ·have hn : n = 0 := by omega
   subst hn
   cases ad with
   |none=>simp[Builtin.firstCells]
   |some ad=>simp[Builtin.firstCells,loadCells,loadCellsFrom]
  ·have hlt : 0 < els.length := by omega
   have:=h3 hlt
   subst this
   have hs':sz'=sz:=by
    have hm:=List.getElem_mem hlt
    rw[←h4.1 _ hm,hl _ hm]
   subst hs'
   have hlen:(vs.take (n*sz')).length=n*sz':=by
    have:vs.length=els.length*sz':=by rw[←h6.length,bf hl]
    rw[List.length_take,this]
    have:=Nat.mul_le_mul_right sz' hn
    omega
   have:=run_loadCells_list (P:=P) w ⟨b,o,none⟩ (vs.take (n*sz')) fun j u hj=>by
    rw[Addr.add_lit,hw]
    rw[List.getElem?_take] at hj
    split at hj
    ·exact h5 j u hj
    ·cases hj
   rw[hlen] at this
   simpa[Builtin.firstCells] using this
 unfold gQ at he
 split at he
 ·rename_i bs
  injection he with he
  have hv:=hv.sc
  subst hv
  have hlen:news.length=bs.size:=by rw[←he];simp
  refine⟨bs.data.toList.map fun c=>.int .u8 c.toNat,?_,fun w=>by rw[hlen];rfl,fun w _ n hn=>?_⟩
  ·rw [← he]
   clear he hl hlen
   generalize bs.data.toList=l
   induction l with
   |nil=>trivial
   |cons c l ih=>exact⟨DR.sc _ rfl,ih⟩
  ·by_cases hz : news.length = 0
   ·have hn : n = 0 := by omega
    have HM:bs.data = #[]:=by
     have:bs.size=0:=by omega
     exact Array.size_eq_zero_iff.1 this
    subst hn
    simp[Builtin.firstCells]
   ·have hs1 : sz = 1 := by
     have hlt:0<news.length:=by omega
     have h1:=hl _ (List.getElem_mem hlt)
     subst he
     simp at h1
     omega
    subst hs1
    simp only[Builtin.firstCells,Sem.run_pure,Nat.mul_one]
    congr 1
    apply Array.ext'
    simp
 ·exact data news he rfl
end
end Go.bI
namespace Go.bI
open Go Go.RowKit
section
variable {P:Program}
def Dt (P:Program) (u:TypeId):Prop:=(∃ e,P.underlying u=some (.slice e))∨P.underlying u=some .string
inductive Src (P:Program) (u:TypeId) (i:TypeInfo) (w:World) (y:Value) (m:Nat) (new:List Value):Prop
 |val (hu:Dt P u) (hl:(Builtin.lenOf y).run P w=.ok m w) (hf:(Builtin.firstCells i.size m y).run P w=.ok new.toArray w) (hf':(Builtin.firstCells i.size m y).run P w.drew=.ok new.toArray w.drew)
 |zero (k k':IntKind) (z:Value) (hu:P.underlying u=some (.int k)) (hz:i.zero=some z) (hzs:z.cells.size=i.size) (hy:y=.int k' m) (h63:m≤eU) (hby:m*i.bytes≤j0) (hn:new=(Builtin.zeroCells z.cells m).toList)
theorem ET {m:Nat} (h:m≤eU):IntKind.i64.wrap (m:Int)=m:=by
 unfold eU at h
 rw[IntKind.wrap_i64];omega
theorem jw {t u ty e:TypeId} {i:TypeInfo} {w:World} {ad:Option Addr} {n cap m:Nat} {y:Value} {new:List Value} (ht:P.underlying t=some (.slice e)) (hs:Src P u i w y m new) (hi:P.info? e=some i) (hroom:n+m≤cap) :
  (Builtin.append_ #[t, u] ty #[.slice ad n cap, y]).run P w = match ad with
   |some a=>((storeCells (a.add (n*i.size)) new).run P w).andThen fun _ w'=>.ok (.slice ad (n+m) cap) w'
   |none=>.ok (.slice none (n+m) cap) w:=by
 cases hs with
 |val hu hl hf=>
  rcases hu with⟨e',hd⟩|hd
  ·cases ad<;>simp[Builtin.append_,run_underlying ht,run_underlying hd,sizeOf,typeInfo,hi,hl,hroom,hf]
  ·cases ad<;>simp[Builtin.append_,run_underlying ht,run_underlying hd,sizeOf,typeInfo,hi,hl,hroom,hf]
 | zero k k' z hu hz hzs hy h63 hby hn =>
  subst hy hn
  have hw:=ET h63
  have h0:¬((m:Int)<0):=by omega
  have h48:¬(281474976710656<((m:Int)*i.bytes)):=by
   rw[←Int.natCast_mul];unfold j0 at hby;omega
  by_cases T6:m*i.size=0
  ·have hc : Builtin.zeroCells z.cells m = #[] := by
    have:m*z.cells.size=0:=by rw[hzs];exact T6
    simp[Builtin.zeroCells,this]
   cases ad<;>simp[Builtin.append_,run_underlying ht,run_underlying hu,sizeOf,typeInfo,hi,asInt,asIntOf,hw,h0,h48,T6,hroom,hc]
  ·cases ad<;>simp[Builtin.append_,run_underlying ht,run_underlying hu,sizeOf,typeInfo,zeroValue,hi,hz,asInt,asIntOf,hw,h0,h48,T6,hroom]
theorem EU {t u ty e:TypeId} {i:TypeInfo} {z:Value} {w:World} {ad:Option Addr} {n cap m:Nat} {y:Value} {old new:List Value} (ht:P.underlying t=some (.slice e)) (hs:Src P u i w y m new) (hi:P.info? e=some i) (hz:i.zero=some z)
  (ho:(Builtin.firstCells i.size n (.slice ad n cap)).run P w.drew=.ok old.toArray w.drew) (hgrow:cap<n+m)
  (h63:n+m≤eU) (hby:(n+m)*i.bytes≤j0) :
  (Builtin.append_ #[t,u] ty #[.slice ad n cap,y]).run P w=.ok (.slice (some ⟨w.heap.size,0,none⟩) (n+m) (grownCap w (n+m) cap e))
    (w.drew.alloc (.cells (old.toArray++new.toArray++Builtin.zeroCells z.cells (grownCap w (n+m) cap e-(n+m))) e)):=by
 have hn:¬(n+m≤cap):=by omega
 have h63':¬(9223372036854775807<((n:Int)+(m:Int))):=by unfold eU at h63;omega
 have Re:¬(281474976710656<Builtin.nextslicecap (n+m) cap*i.bytes):=by
  have:=growslice_fits (need:=n+m) (old:=cap) (bytes:=i.bytes) hgrow (by unfold j0 at hby;omega)
  omega
 cases hs with
 | val hu hl _ hf =>
  rcases hu with⟨e',hd⟩|hd
  ·simp [Builtin.append_, run_underlying ht, sizeOf, typeInfo, zeroValue, hi, hz, run_underlying hd, hl, hn, h63', Re, Question.forced, ho, hf, newRow, grownCap]
   congr 2
   apply Array.ext'
   simp
  ·simp [Builtin.append_, run_underlying ht, sizeOf, typeInfo, zeroValue, hi, hz, run_underlying hd, hl, hn, h63', Re, Question.forced, ho, hf, newRow, grownCap]
   congr 2
   apply Array.ext'
   simp
 | zero k k' z' hu Hy hzs hy adZ ad0 hnew =>
  rw[hz] at Hy;injection Hy with Hy;subst Hy
  subst hy hnew
  have hw:=ET adZ
  have h0:¬((m:Int)<0):=by omega
  have h48:¬(281474976710656<((m:Int)*i.bytes)):=by
   rw[←Int.natCast_mul];unfold j0 at ad0;omega
  by_cases T6:m*i.size=0
  ·have hc : Builtin.zeroCells z.cells m = #[] := by
    have:m*z.cells.size=0:=by rw[hzs];exact T6
    simp[Builtin.zeroCells,this]
   simp[Builtin.append_,run_underlying ht,run_underlying hu,sizeOf,typeInfo,zeroValue,hi,hz,asInt,asIntOf,hw,h0,h48,hc,hn,h63',Re,Question.forced,ho,newRow,grownCap]
  ·simp[Builtin.append_,run_underlying ht,run_underlying hu,sizeOf,typeInfo,zeroValue,hi,hz,asInt,asIntOf,hw,h0,h48,T6,hn,h63',Re,Question.forced,ho,newRow,grownCap]
variable {X:Cx} {nt:Nat} {s:St} {a:Act} {o:Oper} {dst:Option Nat} {aR:Nat}
def Cx.name (X:Cx) (v:Nat) (L:Loc):Cx:={ X with ρ:=fun u=>if u=v then some L else X.ρ u }
theorem cZ {X:Cx} {v:Nat} {L:Loc} (hv:X.ρ v=none):Ext X (X.name v L):=
 ⟨rfl, dO.refl _ _, fun _ _ h => h, fun _ _ _ => rfl, fun u M hu => by
  show (if u=v then some L else X.ρ u)=some M
  rw[if_neg (by rintro rfl;rw[hv] at hu;cases hu)]
  exact hu,fun _ _ h=>.inl h⟩
theorem fR {X:Cx} {m:List (Tr bH)} {t:Tr Unit} {v:Nat} {L:Loc} (h:aB X m t) (hv:X.ρ v=none):aB (X.name v L) m t:=
 h.move (cZ hv) (fun _ _ _ _ _ _=>rfl) (fun _ _ _ _ _ _ _ h=>h) h.mI
theorem dP {X:Cx} {v:Nat} {L:Loc} : (X.name v L).ρ v=some L:=if_pos rfl
theorem fS {X:Cx} {v n:Nat} {L:Loc} : eC X (X.name v L) v n n:=
 ⟨Nat.le_refl _, fun u M h => by
  change (if u=v then some L else X.ρ u)=some M at h
  by_cases hu:u=v
  ·exact .inr (.inl hu)
  ·rw[if_neg hu] at h;exact .inl h⟩
def Cx.drew (X:Cx):Cx:={ X with w:=X.w.drew }
theorem nC {X:Cx} : Ext X X.drew:=⟨rfl,(dO.refl _ _).drew,fun _ _ h=>h,fun _ _ _=>rfl,fun _ _ h=>h,fun _ _ h=>.inl h⟩
theorem zi {X:Cx} {m:List (Tr bH)} {t:Tr Unit} (h:aB X m t):aB X.drew m t:=h.move nC (fun _ _ _ _ _ _=>rfl) (fun _ _ _ _ _ _ _ h=>h) h.mI
theorem wA {x y:Operand} {t u:TypeId} {v:Value} {w:World} (ho:o.op=.call { callee:=.builtin .append,args:=#[x,y],argTypes:=#[t,u] }) (hr:(Builtin.append_ #[t,u] o.type #[a.eval x,a.eval y]).run P X.w=.ok v w) :
  (execOp a.eval o).run P X.w=.ok (.value v) w:=by
 simp[execOp,ho,resolve,invoke,builtin,hr]
theorem EV {old new:List Value} {Z:Array Value} {k:Nat} (j:Nat) (v:Value) (h:(old++new)[j]?=some v):(old.toArray++new.toArray++Builtin.zeroCells Z k)[j]?=some v:=by
 have hlt:=(List.getElem?_eq_some_iff.1 h).1
 rw[Array.getElem?_append_left (by simpa using hlt)]
 simpa using h
theorem HN {old new:List Value} {Z:Array Value} {n m k sz:Nat} (h1:old.length=n*sz) (h2:new.length=m*sz) (hZ:Z.size=sz) (hk:n+m≤k):k*sz≤(old.toArray++new.toArray++Builtin.zeroCells Z (k-(n+m))).size:=by
 simp only[Array.size_append,List.size_toArray,size_zeroCells,hZ,h1,h2,←Nat.add_mul]
 rw[show n+m+(k-(n+m))=k by omega]
 exact Nat.le_refl _
theorem mc {els:List (List D)} {b off sz sz' n cap:Nat} {ad:Option Addr} {w:World} (hw:∀ b o,w.cell? ⟨b,o,none⟩=X.w.cell? ⟨b,o,none⟩) {R:Nat→Nat→Prop} (h:eW X.w X.F R els b off sz') (hsz:∀ e∈els,e.length=sz) (hn:els.length=n) (had:0<n→ad=some ⟨b,off,none⟩) :
  ∃ old:List Value,(Builtin.firstCells sz n (.slice ad n cap)).run P w=.ok old.toArray w∧az (DR X.w X.F) els.flatten old:=by
 obtain⟨vs,h1,h2⟩:=tN h
 refine⟨vs,?_,h2⟩
 have hlen:vs.length=n*sz:=by rw[←h2.length,bf hsz,hn]
 by_cases h0:n=0
 ·subst h0
  have:vs=[]:=List.eq_nil_of_length_eq_zero (by simpa using hlen)
  subst this
  cases ad with
  |none=>simp[Builtin.firstCells]
  |some ad=>simp[Builtin.firstCells,loadCells,loadCellsFrom]
 ·have := had (by omega)
  subst this
  have:=run_loadCells_list (P:=P) w ⟨b,off,none⟩ vs fun j u hj=>by
   rw[Addr.add_lit,hw]
   exact h1 j u hj
  rw[hlen] at this
  simpa[Builtin.firstCells] using this
def zj (P:Program) (X:Cx) (s:St) (t u ty:TypeId) (xv yv:Value) (aR n:Nat) (e:eX):Prop:=
 ∃ Y v,(Builtin.append_ #[t,u] ty #[xv,yv]).run P X.w=.ok v Y.w∧Ext X Y∧VR Y e.val v∧aB Y (bB s.mem e.cK) (dL s.aE e.cx)∧eC X Y aR n n
theorem K3 {X:Cx} {m:List (Tr bH)} {t:Tr Unit} (h:aB X m t) {v:Nat} {L:Loc} (hL:X.ρ v=some L) (h0:L.cap=0):aB X m (t.set v (some ())):=
 h.Q0 hL (fun hc=>by omega) fun _ _ _ _ _ _ _ hc=>by omega
theorem sF {t u ty e:TypeId} {i:TypeInfo} {z:Value} {ad:Option Addr} {cap:Nat} {yv:Value} {els news:List (List D)} {old new:List Value} (ht:P.underlying t=some (.slice e)) (hs:Src P u i X.w yv news.length new) (hi:P.info? e=some i) (hz:i.zero=some z) (hzs:z.cells.size=i.size)
  (ho:(Builtin.firstCells i.size els.length (.slice ad els.length cap)).run P X.w.drew=.ok old.toArray X.w.drew) (hgrow:cap<els.length+news.length)
  (h63:els.length+news.length≤eU) (hby:(els.length+news.length)*i.bytes≤j0) (T7:az (DR X.w X.F) els.flatten old) (Br:az (DR X.w X.F) news.flatten new) (hel:∀ e∈els,e.length=i.size) (hnl:∀ e∈news,e.length=i.size) :
  ∃ C G,els.length+news.length≤G∧(Builtin.append_ #[t,u] ty #[.slice ad els.length cap,yv]).run P X.w=.ok (.slice (some ⟨X.w.heap.size,0,none⟩) (els.length+news.length) G) (X.w.drew.alloc (.cells C e))∧
   G*i.size≤C.size∧(∀ (j:Nat) (u:Value),(old++new)[j]?=some u→C[j]?=some u)∧az (DR X.w X.F) (els++news).flatten (old++new)∧(∀ e∈els++news,e.length=i.size):=by
 refine⟨_,_,grownCap_ge X.w (els.length+news.length) cap e,EU ht hs hi hz ho hgrow h63 hby,?_,fun j u hj=>EV j u hj,?_,?_⟩
 ·exact HN (by rw[←T7.length,bf hel]) (by rw[←Br.length,bf hnl]) hzs (grownCap_ge _ _ _ _)
 ·rw [xR]
  exact T7.append Br
 ·intro e he
  rcases List.mem_append.1 he with he|he
  ·exact hel e he
  ·exact hnl e he
end
end Go.bI
