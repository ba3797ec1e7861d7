/- A part of the proof: EngK, EngL. -/
import Derived.Test.YthphehfgekjooaaGreatDoorEngJ
set_option linter.unusedVariables false
set_option linter.unusedSimpArgs false
namespace Go.bq
open Go Go.RowKit
section
variable {P:Program} {X:Cx} {nt:Nat} {s:St} {a:Act} {o:Oper} {dst:Option Nat} {aH:Nat}
theorem P7 {X:Cx} {m:List (Tr aZ)} {t:Tr Unit} {v:Nat} (h:aA X m (t.set v (some ()))):aA X m t:=
 h.less (fun _ _ _ h=>h) fun u hu=>by rw[Tr.bQ]<;>grind
theorem Ck (hs:eC X nt s a) (hfr:X.ρ aH=none) {t e:TypeId} {n sz d:Nat} {ps:Array (Nat×Operand)} {z:List D} {zl:List Value} {l:List (Nat×bA)} {els:List (List D)} {ks:List (Nat×Nat)} {rd:List (Nat×Nat×Nat)} (ho:o.op=.buildSlice t n ps)
  (ht:P.underlying t=some (.slice e)) (hsz:cC P e=some sz) (hz:mM P e=some zl) (Cl:iy zl=some z) (hl:nF ps.toList=some l) (h24:n*sz≤16777216) (hzl:z.length=sz) (h0:0<sz)
  (hf:n9 s.mem s.slots sz (List.replicate n z) l=some (els,ks)) :
  cD P X s a o dst aH (.bC { val:=.own els .full,cv:=di s.mem ks,bR:=[],rd })∧
  ((s.mem.length-1,d) ∉ ks→cD P X s a o dst aH (.bC { val:=.ref (s.mem.length-1) d aH 0 n sz,cv:=di s.mem ks++[(s.mem.length-1,d,some (.row aH els))],bR:=[],rd })):=by
 obtain⟨i,zv,hi,Ez,rfl⟩:=iB hz
 obtain⟨i',hi',P6⟩:=eD hsz
 rw[hi] at hi';simp_all
 have hZ:aq (DR X.w (X.lz s.mem ks).F) z zv.cells.toList:=kr Cl
 have qP:=gQ hZ hzl h0 n (n*sz) (Nat.le_refl _)
 rw[nT] at qP
 obtain⟨C',h1,h2,h3,h4⟩:=GM hs ps.toList l _ els ks (madeCells zv.cells (n*sz)) hl (fun e he=>by rw[(List.mem_replicate.1 he).2];exact hzl) qP hf fun p hp=>hp
 have hrun:=qO (P:=P) (X:=X) ho ht hi P6 Ez h24 h1
 have CP:=Eu hs.mem ks
 have hx1:=pG hs.mem ks
 have hen:els.length=n:=by grind
 have hC:C'.size=n*sz:=by rw[←hen,←aP h3,h2.length,Array.length_toList]
 refine⟨?_,fun hnk=>?_⟩
 ·have nt := L5 (X := X.lz s.mem ks) CP (C := C') (e := e) (v := aH) (els := els) (sz := sz) (cap := n) (vs := C'.toList) hfr h3 (by omega) (by omega) (fun j u hj => by simpa using hj) h2
  obtain⟨g1,g2,g3,g4⟩:=nt
  refine .value hrun (hx1.trans g1) ⟨some ⟨X.w.heap.size,0,none⟩,X.w.heap.size,0,sz,?_,fun _=>rfl,g3⟩ (P7 g2) ⟨Nat.le_refl _,fun v L h=>?_⟩
  ·rw[hen]
  ·rcases g4.2 v L h with h | h | h
   ·exact .inl h
   ·grind
   ·omega
 ·have nr := Ey (X := X.lz s.mem ks) CP (C := C') (e := e) (v := aH) (els := els) (sz := sz) (cap := n) (vs := C'.toList) (s.mem.length - 1) d hfr h3 (by omega) (by omega) (fun j u hj => by simpa using hj) h2
  refine .value (Y:=(X.lz s.mem ks).alloc C' e aH ⟨X.w.heap.size,0,sz,n⟩) hrun (hx1.trans (Ext.alloc CP.ni CP.low hfr)) ⟨⟨X.w.heap.size,0,sz,n⟩,some ⟨X.w.heap.size,0,none⟩,n,uE _ _ _ _ _,rfl,rfl,Nat.le_refl _,fun _=>⟨by simp,by simp⟩⟩ ?_ (mF (X:=X.lz s.mem ks))
  show aA _ (aX s.mem (di s.mem ks++_)) s.aB
  rw[jd]
  exact nr
theorem uG {sz:Nat} : ∀ {ps:List (Nat×Operand)} {l:List (Nat×bA)},nF ps=some l→qH (fun i=>some (i*sz,sz)) ps=some (l.map fun p=>(p.1*sz,sz,p.2))
 |[],l,h=>by cases h;rfl
 | (i, x) :: r, l, h => by
  simp[nF] at h
  split at h
  ·rename_i y ys h1 h2
   cases h
   simp[qH,h1,uG h2,List.map_cons]
  grind
theorem aq.Zb {X:Cx} : ∀ {ds:List D} {vs:List Value},aq (DR X.w X.F) ds vs→aq (VC X) (ds.map .d) vs
 |[],[],_=>trivial
 |_ :: _,_ :: _,h=>⟨h.1,aq.Zb h.2⟩
 |[],_ :: _,h=>h.elim
 |_ :: _,[],h=>h.elim
theorem GN (hs:eC X nt s a) (hfr:X.ρ aH=none) {t e:TypeId} {n sz d:Nat} {ps:Array (Nat×Operand)} {z:List D} {zl:List Value} {l:List (Nat×bA)} {cs:List AV} {rd:List (Nat×Nat×Nat)} (ho:o.op=.buildSlice t n ps)
  (ht:P.underlying t=some (.slice e)) (hsz:cC P e=some sz) (hz:mM P e=some zl) (Cl:iy zl=some z) (hl:nF ps.toList=some l) (h24:n*sz≤16777216) (hzl:z.length=sz) (h0:0<sz) (hn:n≠0)
  (hf:n8 s.slots ((List.replicate n z).flatten.map .d) (l.map fun p=>(p.1*sz,sz,p.2))=some cs) :
  cD P X s a o dst aH (.bC { val:=.eA (s.mem.length-1) d aH 0 n sz,cv:=[(s.mem.length-1,d,some (.box aH cs))],bR:=[],rd }):=by
 obtain⟨i,zv,hi,Ez,rfl⟩:=iB hz
 obtain⟨i',hi',P6⟩:=eD hsz
 rw[hi] at hi';cases hi'
 have hZ:aq (DR X.w X.F) z zv.cells.toList:=kr Cl
 have qP:=gQ hZ hzl h0 n (n*sz) (Nat.le_refl _)
 rw[nT] at qP
 obtain⟨C',h1,h2⟩:=zJ hs (fun i=>some (i*sz,sz)) ps.toList _ _ cs (madeCells zv.cells (n*sz)) (uG hl) qP.Zb hf
 have hrun:=qO (P:=P) (X:=X) ho ht hi P6 Ez h24 h1
 exact .value (Y:=X.alloc C' e aH ⟨X.w.heap.size,0,C'.size,1⟩) hrun (Ext.alloc hs.mem.ni hs.mem.low hfr) ⟨_,uE _ _ _ _ _,by simp,by omega⟩ (L4 hs.mem _ _ hfr h2) mF
theorem EB (hs:eC X nt s a) (hfr:X.ρ aH=none) {t e:TypeId} {l c d:Nat} {i:TypeInfo} {ln cp:Operand} {ln' cp':bA} {z:List D} {zl:List Value} {rd:List (Nat×Nat×Nat)} (ho:o.op=.makeSlice t ln cp)
  (ht:P.underlying t=some (.slice e)) (hi:P.info? e=some i) (hz:mM P e=some zl) (Cl:iy zl=some z) (hzl:z.length=i.size) (h0:0<i.size)
  (hln:cr ln=some ln') (hcp:cr cp=some cp') (hl:fo (ln'.ev s.slots)=some l) (hc:fo (cp'.ev s.slots)=some c) (hlc:l≤c) (hby:i.bytes*c≤jl) (h63:c≤dU) :
  cD P X s a o dst aH (.bC { val:=.ref (s.mem.length-1) d aH 0 l i.size,cv:=[(s.mem.length-1,d,some (.row aH (List.replicate l z)))],bR:=[],rd }):=by
 obtain⟨i',zv,hi',Ez,rfl⟩:=iB hz
 rw[hi] at hi';cases hi'
 obtain⟨kl,hle⟩:=jo hl (aU hs hln)
 obtain⟨kc,hce⟩:=jo hc (aU hs hcp)
 have hr:=run_make (P:=P) X.w t e i zv ht hi Ez kl kc l c (by omega) (by omega) (by
  have:((i.bytes*c:Nat):Int)≤281474976710656:=by unfold jl at hby;omega
  rwa[Int.natCast_mul] at this) (by unfold dU at h63;omega)
 have hZ:aq (DR X.w X.F) z zv.cells.toList:=kr Cl
 have qP:=gQ hZ hzl h0 l (c*i.size) (Nat.mul_le_mul_right _ hlc)
 have nr:=Ey hs.mem (C:=madeCells zv.cells (c*i.size)) (e:=e) (v:=aH) (els:=List.replicate l z) (sz:=i.size) (cap:=c) (s.mem.length-1) d hfr (fun e he=>by rw[(List.mem_replicate.1 he).2];exact hzl) (by simp[madeCells]) (by simpa using hlc)
  (vs := (madeCells zv.cells (c * i.size)).toList.take (l * i.size)) (fun j u hj => by
   rw[List.getElem?_take] at hj
   split at hj
   ·simpa using hj
   ·cases hj) qP
 refine .value (Y:=X.alloc (madeCells zv.cells (c*i.size)) e aH ⟨X.w.heap.size,0,i.size,c⟩) ?_ (Ext.alloc hs.mem.ni hs.mem.low hfr) ⟨⟨X.w.heap.size,0,i.size,c⟩,some ⟨X.w.heap.size,0,none⟩,c,uE _ _ _ _ _,rfl,rfl,hlc,fun _=>⟨by simp,by simp⟩⟩ nr mF
 simp[execOp,ho,hle,hce,hr]
 rfl
theorem yY {X:Cx} {m:List (Tr aZ)} {t:Tr Unit} (h:aA X m t) {y:AV} {news:List (List D)} {v:Value} {sz:Nat} (he:fq m y=some news) (hv:VR X y v) (hl:∀ e∈news,e.length=sz) (h0:0<sz) :
  ∃ vs:List Value,aq (DR X.w X.F) news.flatten vs∧(∀ w:World,(Builtin.lenOf v).run P w=.ok news.length w)∧
   (∀ w:World,(∀ b o,w.cell? ⟨b,o,none⟩=X.w.cell? ⟨b,o,none⟩)→∀ n,n≤news.length→(Builtin.firstCells sz n v).run P w=.ok (vs.take (n*sz)).toArray w):=by
 have data:∀ els,cH m y=some els→els=news→∃ vs:List Value,aq (DR X.w X.F) news.flatten vs∧(∀ w:World,(Builtin.lenOf v).run P w=.ok news.length w)∧
   (∀ w:World,(∀ b o,w.cell? ⟨b,o,none⟩=X.w.cell? ⟨b,o,none⟩)→∀ n,n≤news.length→(Builtin.firstCells sz n v).run P w=.ok (vs.take (n*sz)).toArray w):=by
  rintro els he' rfl
  have he:=he'
  obtain⟨ad,cap,sz',b,o,rfl,h2,h3,h4⟩:=qM h he hv
  obtain⟨vs,h5,h6⟩:=uD h4
  refine⟨vs,h6,fun w=>rfl,fun w hw n hn=>?_⟩
  by_cases hz:els.length=0
  ·have hn : n = 0 := by omega
   subst hn
   cases ad with
   |none=>simp[Builtin.firstCells]
   |some ad=>simp[Builtin.firstCells,loadCells,loadCellsFrom]
  ·have hlt : 0 < els.length := by omega
   have:=h3 hlt
   subst this
   have hs':sz'=sz:=by
    have hm:=List.getElem_mem hlt
    rw[←h4.1 _ hm,hl _ hm]
   subst hs'
   have hlen:(vs.take (n*sz')).length=n*sz':=by
    have:vs.length=els.length*sz':=by rw[←h6.length,aP hl]
    simp_all
   have:=run_loadCells_list (P:=P) w ⟨b,o,none⟩ (vs.take (n*sz')) fun j u hj=>by
    rw[Addr.add_lit,hw]
    rw[List.getElem?_take] at hj
    split at hj
    ·exact h5 j u hj
    ·cases hj
   rw[hlen] at this
   simpa[Builtin.firstCells] using this
 unfold fq at he
 split at he
 ·rename_i bs
  simp_all
  have hv:=hv.sc
  subst hv
  have hlen:news.length=bs.size:=by rw[←he];simp
  refine⟨bs.data.toList.map fun c=>.int .u8 c.toNat,?_,fun w=>by rw[hlen];rfl,fun w _ n hn=>?_⟩
  ·rw [← he]
   generalize bs.data.toList=l
   induction l with
   |nil=>trivial
   |cons c l ih=>exact⟨DR.sc _ rfl,ih⟩
  ·by_cases hz : news.length = 0
   ·have hn : n = 0 := by omega
    subst hn
    simp[Builtin.firstCells]
   ·have hs1 : sz = 1 := by
     have hlt:0<news.length:=by omega
     have h1:=hl _ (List.getElem_mem hlt)<;>grind
    simp[Builtin.firstCells,Sem.run_pure,Nat.mul_one]<;>grind
 grind
end
end Go.bq
namespace Go.bq
open Go Go.RowKit
section
variable {P:Program}
def EC (P:Program) (u:TypeId):Prop:=(∃ e,P.underlying u=some (.slice e))∨P.underlying u=some .string
inductive Src (P:Program) (u:TypeId) (i:TypeInfo) (w:World) (y:Value) (m:Nat) (new:List Value):Prop
 |val (hu:EC P u) (hl:(Builtin.lenOf y).run P w=.ok m w) (hf:(Builtin.firstCells i.size m y).run P w=.ok new.toArray w) (hf':(Builtin.firstCells i.size m y).run P w.drew=.ok new.toArray w.drew)
 |zero (k k':IntKind) (z:Value) (hu:P.underlying u=some (.int k)) (hz:i.zero=some z) (hzs:z.cells.size=i.size) (hy:y=.int k' m) (h63:m≤dU) (hby:m*i.bytes≤jl) (hn:new=(Builtin.zeroCells z.cells m).toList)
theorem GO {m:Nat} (h:m≤dU):IntKind.i64.wrap (m:Int)=m:=by
 unfold dU at h
 rw[IntKind.wrap_i64];omega
theorem jq {t u ty e:TypeId} {i:TypeInfo} {w:World} {ad:Option Addr} {n cap m:Nat} {y:Value} {new:List Value} (ht:P.underlying t=some (.slice e)) (hs:Src P u i w y m new) (hi:P.info? e=some i) (hroom:n+m≤cap) :
  (Builtin.append_ #[t, u] ty #[.slice ad n cap, y]).run P w = match ad with
   |some a=>((storeCells (a.add (n*i.size)) new).run P w).andThen fun _ w'=>.ok (.slice ad (n+m) cap) w'
   |none=>.ok (.slice none (n+m) cap) w:=by
 cases hs with
 |val hu hl hf=>
  rcases hu with⟨e',hd⟩|hd
  ·cases ad<;>simp[Builtin.append_,run_underlying ht,run_underlying hd,sizeOf,typeInfo,hi,hl,hroom,hf]
  ·cases ad<;>simp[Builtin.append_,run_underlying ht,run_underlying hd,sizeOf,typeInfo,hi,hl,hroom,hf]
 | zero k k' z hu hz hzs hy h63 hby hn =>
  subst hy hn
  have hw:=GO h63
  have h0:¬((m:Int)<0):=by omega
  have h48:¬(281474976710656<((m:Int)*i.bytes)):=by
   rw[←Int.natCast_mul];unfold jl at hby;omega
  by_cases W6:m*i.size=0
  ·have hc : Builtin.zeroCells z.cells m = #[] := by
    have:m*z.cells.size=0:=by rw[hzs];exact W6
    simp[Builtin.zeroCells,this]
   cases ad<;>simp[Builtin.append_,run_underlying ht,run_underlying hu,sizeOf,typeInfo,hi,asInt,asIntOf,hw,h0,h48,W6,hroom,hc]
  ·cases ad<;>simp[Builtin.append_,run_underlying ht,run_underlying hu,sizeOf,typeInfo,zeroValue,hi,hz,asInt,asIntOf,hw,h0,h48,W6,hroom]
theorem GP {t u ty e:TypeId} {i:TypeInfo} {z:Value} {w:World} {ad:Option Addr} {n cap m:Nat} {y:Value} {old new:List Value} (ht:P.underlying t=some (.slice e)) (hs:Src P u i w y m new) (hi:P.info? e=some i) (hz:i.zero=some z)
  (ho:(Builtin.firstCells i.size n (.slice ad n cap)).run P w.drew=.ok old.toArray w.drew) (hgrow:cap<n+m)
  (h63:n+m≤dU) (hby:(n+m)*i.bytes≤jl) :
  (Builtin.append_ #[t,u] ty #[.slice ad n cap,y]).run P w=.ok (.slice (some ⟨w.heap.size,0,none⟩) (n+m) (grownCap w (n+m) cap e))
    (w.drew.alloc (.cells (old.toArray++new.toArray++Builtin.zeroCells z.cells (grownCap w (n+m) cap e-(n+m))) e)):=by
 have hn:¬(n+m≤cap):=by omega
 have h63':¬(9223372036854775807<((n:Int)+(m:Int))):=by grind[jl,dU]
 have Ue:¬(281474976710656<Builtin.nextslicecap (n+m) cap*i.bytes):=by
  have:=growslice_fits (need:=n+m) (old:=cap) (bytes:=i.bytes) hgrow (by unfold jl at hby;omega)
  omega
 cases hs with
 | val hu hl _ hf =>
  rcases hu with⟨e',hd⟩|hd
  ·simp [Builtin.append_, run_underlying ht, sizeOf, typeInfo, zeroValue, hi, hz, run_underlying hd, hl, hn, h63', Ue, Question.forced, ho, hf, newRow, grownCap]
   congr 2
   apply Array.ext'
   simp
  ·simp [Builtin.append_, run_underlying ht, sizeOf, typeInfo, zeroValue, hi, hz, run_underlying hd, hl, hn, h63', Ue, Question.forced, ho, hf, newRow, grownCap]
   congr 2
   apply Array.ext'
   simp
 | zero k k' z' hu JM hzs hy agX agY hnew =>
  rw[hz] at JM;injection JM with JM;subst JM
  subst hy hnew
  have hw:=GO agX
  have h0:¬((m:Int)<0):=by omega
  have h48:¬(281474976710656<((m:Int)*i.bytes)):=by
   rw[←Int.natCast_mul];unfold jl at agY;omega
  by_cases W6:m*i.size=0
  ·have hc : Builtin.zeroCells z.cells m = #[] := by
    have:m*z.cells.size=0:=by rw[hzs];exact W6
    simp[Builtin.zeroCells,this]
   simp[Builtin.append_,run_underlying ht,run_underlying hu,sizeOf,typeInfo,zeroValue,hi,hz,asInt,asIntOf,hw,h0,h48,hc,hn,h63',Ue,Question.forced,ho,newRow,grownCap]
  ·simp[Builtin.append_,run_underlying ht,run_underlying hu,sizeOf,typeInfo,zeroValue,hi,hz,asInt,asIntOf,hw,h0,h48,W6,hn,h63',Ue,Question.forced,ho,newRow,grownCap]
variable {X:Cx} {nt:Nat} {s:St} {a:Act} {o:Oper} {dst:Option Nat} {aH:Nat}
def Cx.name (X:Cx) (v:Nat) (L:Loc):Cx:={ X with ρ:=fun u=>if u=v then some L else X.ρ u }
theorem dn {X:Cx} {v:Nat} {L:Loc} (hv:X.ρ v=none):Ext X (X.name v L):=
 ⟨rfl, dK.refl _ _, fun _ _ h => h, fun _ _ _ => rfl, fun u M hu => by
  grind[Cx.name],fun _ _ h=>.inl h⟩
theorem fG {X:Cx} {m:List (Tr aZ)} {t:Tr Unit} {v:Nat} {L:Loc} (h:aA X m t) (hv:X.ρ v=none):aA (X.name v L) m t:=
 h.move (dn hv) (fun _ _ _ _ _ _=>rfl) (fun _ _ _ _ _ _ _ h=>h) h.ni
theorem dL {X:Cx} {v:Nat} {L:Loc} : (X.name v L).ρ v=some L:=if_pos rfl
theorem gx {X:Cx} {v n:Nat} {L:Loc} : ew X (X.name v L) v n n:=
 ⟨Nat.le_refl _, fun u M h => by
  grind[Cx.name]⟩
def Cx.drew (X:Cx):Cx:={ X with w:=X.w.drew }
theorem og {X:Cx} : Ext X X.drew:=⟨rfl,(dK.refl _ _).drew,fun _ _ h=>h,fun _ _ _=>rfl,fun _ _ h=>h,fun _ _ h=>.inl h⟩
theorem zM {X:Cx} {m:List (Tr aZ)} {t:Tr Unit} (h:aA X m t):aA X.drew m t:=h.move og (fun _ _ _ _ _ _=>rfl) (fun _ _ _ _ _ _ _ h=>h) h.ni
theorem xj {x y:Operand} {t u:TypeId} {v:Value} {w:World} (ho:o.op=.call { callee:=.builtin .append,args:=#[x,y],argTypes:=#[t,u] }) (hr:(Builtin.append_ #[t,u] o.type #[a.eval x,a.eval y]).run P X.w=.ok v w) :
  (execOp a.eval o).run P X.w=.ok (.value v) w:=by
 simp[execOp,ho,resolve,invoke,builtin,hr]
theorem GQ {old new:List Value} {Z:Array Value} {k:Nat} (j:Nat) (v:Value) (h:(old++new)[j]?=some v):(old.toArray++new.toArray++Builtin.zeroCells Z k)[j]?=some v:=by
 grind
theorem JN {old new:List Value} {Z:Array Value} {n m k sz:Nat} (h1:old.length=n*sz) (h2:new.length=m*sz) (hZ:Z.size=sz) (hk:n+m≤k):k*sz≤(old.toArray++new.toArray++Builtin.zeroCells Z (k-(n+m))).size:=by
 simp[Array.size_append,List.size_toArray,size_zeroCells,hZ,h1,h2,←Nat.add_mul]<;>grind
theorem mQ {els:List (List D)} {b off sz sz' n cap:Nat} {ad:Option Addr} {w:World} (hw:∀ b o,w.cell? ⟨b,o,none⟩=X.w.cell? ⟨b,o,none⟩) {R:Nat→Nat→Prop} (h:dH X.w X.F R els b off sz') (hsz:∀ e∈els,e.length=sz) (hn:els.length=n) (had:0<n→ad=some ⟨b,off,none⟩) :
  ∃ old:List Value,(Builtin.firstCells sz n (.slice ad n cap)).run P w=.ok old.toArray w∧aq (DR X.w X.F) els.flatten old:=by
 obtain⟨vs,h1,h2⟩:=uD h
 refine⟨vs,?_,h2⟩
 have hlen:vs.length=n*sz:=by rw[←h2.length,aP hsz,hn]
 by_cases h0:n=0
 ·subst h0
  have:vs=[]:=List.eq_nil_of_length_eq_zero (by simpa using hlen)
  subst this
  cases ad with
  |none=>simp[Builtin.firstCells]
  |some ad=>simp[Builtin.firstCells,loadCells,loadCellsFrom]
 ·have := had (by omega)
  subst this
  have:=run_loadCells_list (P:=P) w ⟨b,off,none⟩ vs fun j u hj=>by
   rw[Addr.add_lit,hw]
   exact h1 j u hj
  rw[hlen] at this
  simpa[Builtin.firstCells] using this
def zN (P:Program) (X:Cx) (s:St) (t u ty:TypeId) (xv yv:Value) (aH n:Nat) (e:eU):Prop:=
 ∃ Y v,(Builtin.append_ #[t,u] ty #[xv,yv]).run P X.w=.ok v Y.w∧Ext X Y∧VR Y e.val v∧aA Y (aX s.mem e.cv) (dh s.aB e.bR)∧ew X Y aH n n
theorem Nq {X:Cx} {m:List (Tr aZ)} {t:Tr Unit} (h:aA X m t) {v:Nat} {L:Loc} (hL:X.ρ v=some L) (h0:L.cap=0):aA X m (t.set v (some ())):=
 h.T0 hL (fun hc=>by omega) fun _ _ _ _ _ _ _ hc=>by omega
theorem tB {t u ty e:TypeId} {i:TypeInfo} {z:Value} {ad:Option Addr} {cap:Nat} {yv:Value} {els news:List (List D)} {old new:List Value} (ht:P.underlying t=some (.slice e)) (hs:Src P u i X.w yv news.length new) (hi:P.info? e=some i) (hz:i.zero=some z) (hzs:z.cells.size=i.size)
  (ho:(Builtin.firstCells i.size els.length (.slice ad els.length cap)).run P X.w.drew=.ok old.toArray X.w.drew) (hgrow:cap<els.length+news.length)
  (h63:els.length+news.length≤dU) (hby:(els.length+news.length)*i.bytes≤jl) (hd1:aq (DR X.w X.F) els.flatten old) (Cc:aq (DR X.w X.F) news.flatten new) (hel:∀ e∈els,e.length=i.size) (hnl:∀ e∈news,e.length=i.size) :
  ∃ C G,els.length+news.length≤G∧(Builtin.append_ #[t,u] ty #[.slice ad els.length cap,yv]).run P X.w=.ok (.slice (some ⟨X.w.heap.size,0,none⟩) (els.length+news.length) G) (X.w.drew.alloc (.cells C e))∧
   G*i.size≤C.size∧(∀ (j:Nat) (u:Value),(old++new)[j]?=some u→C[j]?=some u)∧aq (DR X.w X.F) (els++news).flatten (old++new)∧(∀ e∈els++news,e.length=i.size):=by
 refine⟨_,_,grownCap_ge X.w (els.length+news.length) cap e,GP ht hs hi hz ho hgrow h63 hby,?_,fun j u hj=>GQ j u hj,?_,?_⟩
 ·exact JN (by rw[←hd1.length,aP hel]) (by rw[←Cc.length,aP hnl]) hzs (grownCap_ge _ _ _ _)
 ·rw [yF]
  exact hd1.append Cc
 grind
end
end Go.bq
