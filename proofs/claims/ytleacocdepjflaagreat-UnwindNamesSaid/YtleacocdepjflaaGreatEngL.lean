/- append and copy. -/
import Derived.Test.YtleacocdepjflaaGreatEngK
namespace Go.Eng
open Go Go.RowKit
section
variable {P:Program}
def notInt (P:Program) (u:TypeId):Prop:=(∃ e,P.underlying u=some (.slice e))∨P.underlying u=some .string
inductive Src (P:Program) (u:TypeId) (i:TypeInfo) (w:World) (y:Value) (m:Nat) (new:List Value):Prop
 |val (hu:notInt P u) (hl:(Builtin.lenOf y).run P w=.ok m w) (hf:(Builtin.firstCells i.size m y).run P w=.ok new.toArray w) (hf':(Builtin.firstCells i.size m y).run P w.drew=.ok new.toArray w.drew)
 |zero (k k':IntKind) (z:Value) (hu:P.underlying u=some (.int k)) (hz:i.zero=some z) (hzs:z.cells.size=i.size) (hy:y=.int k' m) (h63:m≤maxLenA) (hby:m*i.bytes≤roomA) (hn:new=(Builtin.zeroCells z.cells m).toList)
theorem wrap_len {m:Nat} (h:m≤maxLenA):IntKind.i64.wrap (m:Int)=m:=by
 unfold maxLenA at h
 rw[IntKind.wrap_i64];omega
theorem append_room {t u ty e:TypeId} {i:TypeInfo} {w:World} {ad:Option Addr} {n cap m:Nat} {y:Value} {new:List Value} (ht:P.underlying t=some (.slice e)) (hs:Src P u i w y m new) (hi:P.info? e=some i) (hroom:n+m≤cap) :
  (Builtin.append_ #[t, u] ty #[.slice ad n cap, y]).run P w = match ad with
   |some a=>((storeCells (a.add (n*i.size)) new).run P w).andThen fun _ w'=>.ok (.slice ad (n+m) cap) w'
   |none=>.ok (.slice none (n+m) cap) w:=by
 cases hs with
 |val hu hl hf=>
  rcases hu with⟨e',hd⟩|hd
  ·cases ad<;>simp[Builtin.append_,run_underlying ht,run_underlying hd,sizeOf,typeInfo,hi,hl,hroom,hf]
  ·cases ad<;>simp[Builtin.append_,run_underlying ht,run_underlying hd,sizeOf,typeInfo,hi,hl,hroom,hf]
 | zero k k' z hu hz hzs hy h63 hby hn =>
  subst hy hn
  have hw:=wrap_len h63
  have h0:¬((m:Int)<0):=by omega
  have h48:¬(281474976710656<((m:Int)*i.bytes)):=by
   rw[←Int.natCast_mul];unfold roomA at hby;omega
  by_cases hms:m*i.size=0
  ·have hc : Builtin.zeroCells z.cells m = #[] := by
    have:m*z.cells.size=0:=by rw[hzs];exact hms
    simp[Builtin.zeroCells,this]
   cases ad<;>simp[Builtin.append_,run_underlying ht,run_underlying hu,sizeOf,typeInfo,hi,asInt,asIntOf,hw,h0,h48,hms,hroom,hc]
  ·cases ad<;>simp[Builtin.append_,run_underlying ht,run_underlying hu,sizeOf,typeInfo,zeroValue,hi,hz,asInt,asIntOf,hw,h0,h48,hms,hroom]
theorem append_grow {t u ty e:TypeId} {i:TypeInfo} {z:Value} {w:World} {ad:Option Addr} {n cap m:Nat} {y:Value} {old new:List Value} (ht:P.underlying t=some (.slice e)) (hs:Src P u i w y m new) (hi:P.info? e=some i) (hz:i.zero=some z)
  (ho:(Builtin.firstCells i.size n (.slice ad n cap)).run P w.drew=.ok old.toArray w.drew) (hgrow:cap<n+m)
  (h63:n+m≤maxLenA) (hby:(n+m)*i.bytes≤roomA) :
  (Builtin.append_ #[t,u] ty #[.slice ad n cap,y]).run P w=.ok (.slice (some ⟨w.heap.size,0,none⟩) (n+m) (grownCap w (n+m) cap e))
    (w.drew.alloc (.cells (old.toArray++new.toArray++Builtin.zeroCells z.cells (grownCap w (n+m) cap e-(n+m))) e)):=by
 have hn:¬(n+m≤cap):=by omega
 have h63':¬(9223372036854775807<((n:Int)+(m:Int))):=by unfold maxLenA at h63;omega
 have h48':¬(281474976710656<Builtin.nextslicecap (n+m) cap*i.bytes):=by
  have:=growslice_fits (need:=n+m) (old:=cap) (bytes:=i.bytes) hgrow (by unfold roomA at hby;omega)
  omega
 cases hs with
 | val hu hl _ hf =>
  rcases hu with⟨e',hd⟩|hd
  ·simp [Builtin.append_, run_underlying ht, sizeOf, typeInfo, zeroValue, hi, hz, run_underlying hd, hl, hn, h63', h48', Question.forced, ho, hf, newRow, grownCap]
   congr 2
   apply Array.ext'
   simp
  ·simp [Builtin.append_, run_underlying ht, sizeOf, typeInfo, zeroValue, hi, hz, run_underlying hd, hl, hn, h63', h48', Question.forced, ho, hf, newRow, grownCap]
   congr 2
   apply Array.ext'
   simp
 | zero k k' z' hu hz' hzs hy h63m hbym hnew =>
  rw[hz] at hz';injection hz' with hz';subst hz'
  subst hy hnew
  have hw:=wrap_len h63m
  have h0:¬((m:Int)<0):=by omega
  have h48:¬(281474976710656<((m:Int)*i.bytes)):=by
   rw[←Int.natCast_mul];unfold roomA at hbym;omega
  by_cases hms:m*i.size=0
  ·have hc : Builtin.zeroCells z.cells m = #[] := by
    have:m*z.cells.size=0:=by rw[hzs];exact hms
    simp[Builtin.zeroCells,this]
   simp[Builtin.append_,run_underlying ht,run_underlying hu,sizeOf,typeInfo,zeroValue,hi,hz,asInt,asIntOf,hw,h0,h48,hc,hn,h63',h48',Question.forced,ho,newRow,grownCap]
  ·simp[Builtin.append_,run_underlying ht,run_underlying hu,sizeOf,typeInfo,zeroValue,hi,hz,asInt,asIntOf,hw,h0,h48,hms,hn,h63',h48',Question.forced,ho,newRow,grownCap]
variable {X:Cx} {nt:NT} {s:St} {a:Act} {o:Oper} {dst:Option Nat} {nvi:Nat}
def Cx.name (X:Cx) (v:Nat) (L:Loc):Cx:={ X with ρ:=fun u=>if u=v then some L else X.ρ u }
theorem name_ext {X:Cx} {v:Nat} {L:Loc} (hv:X.ρ v=none):Ext X (X.name v L):=
 ⟨rfl, Stays.refl _ _, fun _ _ h => h, fun _ _ _ => rfl, fun u M hu => by
  show (if u=v then some L else X.ρ u)=some M
  rw[if_neg (by rintro rfl;rw[hv] at hu;cases hu)]
  exact hu,fun _ _ h=>.inl h⟩
theorem name_mem {X:Cx} {m:List (Tr Ent)} {t:Tr Unit} {v:Nat} {L:Loc} (h:MemOK X m t) (hv:X.ρ v=none):MemOK (X.name v L) m t:=
 h.move (name_ext hv) (fun _ _ _ _ _ _=>rfl) (fun _ _ _ _ _ _ _ h=>h) h.inF
theorem name_ρ {X:Cx} {v:Nat} {L:Loc} : (X.name v L).ρ v=some L:=if_pos rfl
theorem name_dom {X:Cx} {v n:Nat} {L:Loc} : DomOK X (X.name v L) v n n:=
 ⟨Nat.le_refl _, fun u M h => by
  change (if u=v then some L else X.ρ u)=some M at h
  by_cases hu:u=v
  ·exact .inr (.inl hu)
  ·rw[if_neg hu] at h;exact .inl h⟩
def Cx.drew (X:Cx):Cx:={ X with w:=X.w.drew }
theorem drew_ext {X:Cx} : Ext X X.drew:=⟨rfl,(Stays.refl _ _).drew,fun _ _ h=>h,fun _ _ _=>rfl,fun _ _ h=>h,fun _ _ h=>.inl h⟩
theorem drew_mem {X:Cx} {m:List (Tr Ent)} {t:Tr Unit} (h:MemOK X m t):MemOK X.drew m t:=h.move drew_ext (fun _ _ _ _ _ _=>rfl) (fun _ _ _ _ _ _ _ h=>h) h.inF
theorem append_call {x y:Operand} {t u:TypeId} {v:Value} {w:World} (ho:o.op=.call { callee:=.builtin .append,args:=#[x,y],argTypes:=#[t,u] }) (hr:(Builtin.append_ #[t,u] o.type #[a.eval x,a.eval y]).run P X.w=.ok v w) :
  (execOp a.eval o).run P X.w=.ok (.value v) w:=by
 simp[execOp,ho,resolve,invoke,builtin,hr]
theorem grown_cells {old new:List Value} {Z:Array Value} {k:Nat} (j:Nat) (v:Value) (h:(old++new)[j]?=some v):(old.toArray++new.toArray++Builtin.zeroCells Z k)[j]?=some v:=by
 have hlt:=(List.getElem?_eq_some_iff.1 h).1
 rw[Array.getElem?_append_left (by simpa using hlt)]
 simpa using h
theorem grown_size {old new:List Value} {Z:Array Value} {n m k sz:Nat} (h1:old.length=n*sz) (h2:new.length=m*sz) (hZ:Z.size=sz) (hk:n+m≤k):k*sz≤(old.toArray++new.toArray++Builtin.zeroCells Z (k-(n+m))).size:=by
 simp only[Array.size_append,List.size_toArray,size_zeroCells,hZ,h1,h2,←Nat.add_mul]
 rw[show n+m+(k-(n+m))=k by omega]
 exact Nat.le_refl _
theorem firstCells_own {els:List (List D)} {b off sz sz' n cap:Nat} {ad:Option Addr} {w:World} (hw:∀ b o,w.cell? ⟨b,o,none⟩=X.w.cell? ⟨b,o,none⟩) {R:Nat→Nat→Prop} (h:Lies X.w X.F R els b off sz') (hsz:∀ e∈els,e.length=sz) (hn:els.length=n) (had:0<n→ad=some ⟨b,off,none⟩) :
  ∃ old:List Value,(Builtin.firstCells sz n (.slice ad n cap)).run P w=.ok old.toArray w∧All2 (DR X.w X.F) els.flatten old:=by
 obtain⟨vs,h1,h2⟩:=flat_of_lies h
 refine⟨vs,?_,h2⟩
 have hlen:vs.length=n*sz:=by rw[←h2.length,flatten_length hsz,hn]
 by_cases h0:n=0
 ·subst h0
  have:vs=[]:=List.eq_nil_of_length_eq_zero (by simpa using hlen)
  subst this
  cases ad with
  |none=>simp[Builtin.firstCells]
  |some ad=>simp[Builtin.firstCells,loadCells,loadCellsFrom]
 ·have := had (by omega)
  subst this
  have:=run_loadCells_list (P:=P) w ⟨b,off,none⟩ vs fun j u hj=>by
   rw[Addr.add_lit,hw]
   exact h1 j u hj
  rw[hlen] at this
  simpa[Builtin.firstCells] using this
def Appended (P:Program) (X:Cx) (s:St) (t u ty:TypeId) (xv yv:Value) (nvi n:Nat) (e:Eff):Prop:=
 ∃ Y v,(Builtin.append_ #[t,u] ty #[xv,yv]).run P X.w=.ok v Y.w∧Ext X Y∧VR Y e.val v∧MemOK Y (applyUpd s.mem e.upd) (applyTip s.tips e.tip)∧DomOK X Y nvi n n
theorem tip_fresh {X:Cx} {m:List (Tr Ent)} {t:Tr Unit} (h:MemOK X m t) {v:Nat} {L:Loc} (hL:X.ρ v=some L) (h0:L.cap=0):MemOK X m (t.set v (some ())):=
 h.addT hL (fun hc=>by omega) fun _ _ _ _ _ _ _ hc=>by omega
theorem append_new {t u ty e:TypeId} {i:TypeInfo} {z:Value} {ad:Option Addr} {cap:Nat} {yv:Value} {els news:List (List D)} {old new:List Value} (ht:P.underlying t=some (.slice e)) (hs:Src P u i X.w yv news.length new) (hi:P.info? e=some i) (hz:i.zero=some z) (hzs:z.cells.size=i.size)
  (ho:(Builtin.firstCells i.size els.length (.slice ad els.length cap)).run P X.w.drew=.ok old.toArray X.w.drew) (hgrow:cap<els.length+news.length)
  (h63:els.length+news.length≤maxLenA) (hby:(els.length+news.length)*i.bytes≤roomA) (hd1:All2 (DR X.w X.F) els.flatten old) (hd2:All2 (DR X.w X.F) news.flatten new) (hel:∀ e∈els,e.length=i.size) (hnl:∀ e∈news,e.length=i.size) :
  ∃ C G,els.length+news.length≤G∧(Builtin.append_ #[t,u] ty #[.slice ad els.length cap,yv]).run P X.w=.ok (.slice (some ⟨X.w.heap.size,0,none⟩) (els.length+news.length) G) (X.w.drew.alloc (.cells C e))∧
   G*i.size≤C.size∧(∀ (j:Nat) (u:Value),(old++new)[j]?=some u→C[j]?=some u)∧All2 (DR X.w X.F) (els++news).flatten (old++new)∧(∀ e∈els++news,e.length=i.size):=by
 refine⟨_,_,grownCap_ge X.w (els.length+news.length) cap e,append_grow ht hs hi hz ho hgrow h63 hby,?_,fun j u hj=>grown_cells j u hj,?_,?_⟩
 ·exact grown_size (by rw[←hd1.length,flatten_length hel]) (by rw[←hd2.length,flatten_length hnl]) hzs (grownCap_ge _ _ _ _)
 ·rw [flatten_append']
  exact hd1.append hd2
 ·intro e he
  rcases List.mem_append.1 he with he|he
  ·exact hel e he
  ·exact hnl e he
end
end Go.Eng
