/- A part of the proof: EngG, EngH, EngI, EngJ, EngK, EngL. -/
import Derived.Test.YtjejefeomeddhaaGreatEngF
import Derived.Laws.MakeOwn
import Derived.Laws.Append
import Derived.Laws.AppendOwn
import Derived.Laws.CopyOwn
set_option linter.unusedVariables false
set_option linter.unusedSimpArgs false
variable [Go.Eng.Rho]
set_option linter.unusedSectionVars false
namespace Go.Eng
open Go Go.RowKit
theorem flatten_get {α : Type} {sz:Nat} : ∀ {els:List (List α)},(∀ e∈els,e.length=sz)→∀ (i j:Nat) (e:List α),els[i]?=some e→j<sz→els.flatten[i*sz+j]?=e[j]?
 |[],_,i,j,e,h,_=>by simp at h
 |f :: els,hl,0,j,e,h,hj=>by
  grind
 |f :: els,hl,i+1,j,e,h,hj=>by
  simp[List.flatten_cons]
  have hf:=hl f (by simp)
  rw[List.getElem?_append_right (by rw[hf,Nat.add_mul];omega),hf,show (i+1)*sz+j-sz=i*sz+j by rw[Nat.add_mul];omega]
  exact flatten_get (fun e he=>hl e (by simp[he])) i j e (by simpa using h) hj
theorem flatten_length {α : Type} {sz:Nat} : ∀ {els:List (List α)},(∀ e∈els,e.length=sz)→els.flatten.length=els.length*sz
 |[],_=>by simp
 |f :: els,hl=>by
  simp only[List.flatten_cons,List.length_append,List.length_cons,Nat.add_mul]
  rw[flatten_length (fun e he=>hl e (by simp[he])),hl f (by simp)]
  omega
theorem flatten_append' {α : Type} (a b:List (List α)):(a++b).flatten=a.flatten++b.flatten:=by simp
theorem flatten_set {α : Type} {sz:Nat} : ∀ {els:List (List α)},(∀ e∈els,e.length=sz)→∀ (i:Nat) (e:List α),i<els.length→e.length=sz→(els.set i e).flatten=splice els.flatten (i*sz) e
 |[],_,i,e,h,_=>by simp at h
 |f :: els,hl,0,e,_,he=>by
  grind[splice]
 |f :: els,hl,i+1,e,h,he=>by
  have hf:=hl f (by simp)
  simp[List.set_cons_succ,List.flatten_cons]
  rw[flatten_set (fun e he=>hl e (by simp[he])) i e (by simpa using h) he]
  unfold splice
  rw[show (i+1)*sz=f.length+i*sz by rw[Nat.add_mul];omega]
  rw[List.take_append,List.take_of_length_le (l:=f) (by omega)]
  rw[List.drop_append,List.drop_of_length_le (l:=f) (by omega),show f.length+i*sz+e.length-f.length=i*sz+e.length by omega]
  simp[List.append_assoc]
theorem lies_of_flat {w:World} {F R:Nat→Nat→Prop} {els:List (List D)} {b o sz:Nat} {C:Array Value} {e:TypeId} {vs:List Value} (hb:w.heap[b]?=some (.cells C e (0,0))) (hl:∀ e∈els,e.length=sz)
  (hv:∀ j v,vs[j]?=some v→C[o+j]?=some v) (h:All2 (DR w F) els.flatten vs) (hR:∀ k,k<els.length*sz→R b (o+k)):Lies w F R els b o sz:=by
 refine⟨hl,fun i e j x h1 h2=>?_⟩
 have hj:j<sz:=by grind
 have hg:=flatten_get hl i j e h1 hj
 rw[h2] at hg
 obtain⟨v,h3,h4⟩:=h.get _ _ hg
 have hlt:i*sz+j<els.length*sz:=by
  have:=(List.getElem?_eq_some_iff.1 hg).1
  rwa[flatten_length hl] at this
 rw[Nat.add_assoc]
 exact⟨hR _ hlt,v,by rw[cell_of_row _ _ _ _ _ _ hb];exact hv _ _ h3,h4⟩
theorem flat_of_lies {w:World} {F R:Nat→Nat→Prop} {els:List (List D)} {b o sz:Nat} (h:Lies w F R els b o sz):∃ vs:List Value,(∀ j v,vs[j]?=some v→w.cell? ⟨b,o+j,none⟩=some v)∧All2 (DR w F) els.flatten vs:=by
 refine cells_of els.flatten fun k x hk=>?_
 have hlen:=flatten_length h.1
 have hk':k<els.length*sz:=by grind
 have hsz:0<sz:=Nat.pos_of_ne_zero fun e=>by subst e;omega
 have hi:k / sz<els.length:=(Nat.div_lt_iff_lt_mul hsz).2 hk'
 have hj:k % sz<sz:=Nat.mod_lt _ hsz
 have he:els[k / sz]?=some els[k / sz]:=List.getElem?_eq_getElem hi
 have hg:=flatten_get h.1 (k / sz) (k % sz) _ he hj
 have hkk:k / sz*sz+k % sz=k:=by rw[Nat.mul_comm];exact Nat.div_add_mod k sz
 grind[Lies]
def Cx.alloc (X:Cx) (C:Array Value) (e:TypeId) (v:Nat) (L:Loc):Cx:={ X with w:=X.w.alloc (.cells C e),ρ:=fun u=>if u=v then some L else X.ρ u }
theorem MemOK.holds_ρ {X:Cx} {m:List (Tr Ent)} {t:Tr Unit} (h:MemOK X m t) {k:Nat×Nat×Nat} {v:Nat} (hk:Holds m t k v):∃ L,X.ρ v=some L∧(0<L.cap→L.b<X.w.heap.size∧¬X.old L.b):=by
 rcases hk with⟨lv,sl,e,_,he,rfl,hz⟩|⟨_,he⟩
 ·obtain ⟨L, hL, hE⟩ := h.ents lv sl e he
  refine⟨L,hL,fun hc=>?_⟩
  cases e with
  |fro _ _=>cases hz
  |row _ _=>exact⟨(hE.2.2.1 hc).1.lt,(hE.2.2.1 hc).1.1⟩
  |box _ _=>exact⟨hE.2.1.lt,hE.2.1.1⟩
  |mp _ _=>
   grind[EntOK,Ent.ver,Ent.fz,memGet,keyE]
 ·obtain ⟨L, hL, hT⟩ := h.tips v he
  exact⟨L,hL,fun hc=>⟨(hT hc).1.lt,(hT hc).1.1⟩⟩
theorem cell_alloc {w:World} {b o:Nat} {ob:Obj} (h:b<w.heap.size):(w.alloc ob).cell? ⟨b,o,none⟩=w.cell? ⟨b,o,none⟩:=World.cell?_alloc_lt w ob ⟨b,o,none⟩ h
theorem Ext.alloc {X:Cx} {C:Array Value} {e:TypeId} {v:Nat} {L:Loc} (hin:∀ b o,X.F b o→b<X.w.heap.size) (hlow:∀ b,X.old b→b<X.w.heap.size) (hv:X.ρ v=none):Ext X (X.alloc C e v L):=
 ⟨rfl, (Stays.refl _ _).alloc hlow _, fun _ _ h => h, fun b o h => cell_alloc (hin b o h), fun u M hu => by
  grind[Cx.alloc],fun _ _ h=>.inl h⟩
theorem MemOK.alloc {X:Cx} {m:List (Tr Ent)} {t:Tr Unit} {C:Array Value} {e:TypeId} {v:Nat} {L:Loc} (h:MemOK X m t) (hv:X.ρ v=none):MemOK (X.alloc C e v L) m t:=
 h.move (Ext.alloc h.inF h.low hv) (fun k u M hk hu hc=>by
   obtain⟨M',hM',h2⟩:=h.holds_ρ hk
   rw[hu] at hM';cases hM'
   exact heap_alloc_old _ _ _ (h2 hc).1) (fun _ _ _ _ _ _ _ h=>h) (fun b o hb=>by
   have:=h.inF b o hb
   show b<(X.w.alloc _).heap.size
   rw[World.size_alloc];omega)
def Cx.more (X:Cx) (G:Nat→Nat→Prop):Cx:={ X with F:=fun b o=>X.F b o∨G b o }
theorem Ext.more {X:Cx} {G:Nat→Nat→Prop} (hG:∀ b o,G b o→¬X.old b):Ext X (X.more G):=
 ⟨rfl,Stays.refl _ _,fun _ _=>.inl,fun _ _ _=>rfl,fun _ _ h=>h,fun b o h=>h.elim .inl fun h=>.inr (hG b o h)⟩
theorem MemOK.more {X:Cx} {m:List (Tr Ent)} {t:Tr Unit} {G:Nat→Nat→Prop} (h:MemOK X m t) (hG:∀ b o,G b o→¬X.old b∧b<X.w.heap.size)
  (hk:∀ k v L o,Holds m t k v→X.ρ v=some L→0<L.cap→¬G L.b o):MemOK (X.more G) m t:=
 h.move (Ext.more fun b o h=>(hG b o h).1) (fun _ _ _ _ _ _=>rfl) (fun k v L o a b c h=>h.elim id fun h=>absurd h (hk k v L o a b c)) fun b o hb=>hb.elim (h.inF b o) fun hb=>(hG b o hb).2
def blockOf (X:Cx) (m:List (Tr Ent)) (k:Nat×Nat):Option Nat:=(memGet m k.1 k.2).bind fun e=>(X.ρ e.ver).bind fun L=>if 0<L.cap∧e.fz=false then some L.b else none
def Cx.frz (X:Cx) (m:List (Tr Ent)) (ks:List (Nat×Nat)):Cx:=X.more fun b _=>∃ k∈ks,blockOf X m k=some b
theorem blockOf_some {X:Cx} {m:List (Tr Ent)} {k:Nat×Nat} {b:Nat} (h:blockOf X m k=some b):∃ e L,memGet m k.1 k.2=some e∧X.ρ e.ver=some L∧0<L.cap∧L.b=b∧e.fz=false:=by
 unfold blockOf at h
 cases he:memGet m k.1 k.2 with
 |none=>grind
 | some e =>
  rw[he] at h
  cases hL:X.ρ e.ver with
  |none=>grind
  |some L=>
   grind
theorem memGet_frees0 (m0:List (Tr Ent)):∀ (ks:List (Nat×Nat)) (m:List (Tr Ent)) (lv sl:Nat),m.length=m0.length→memGet (applyUpd m (frees m0 ks)) lv sl=if (lv,sl)∈ks then (memGet m0 lv sl).bind Ent.frz else memGet m lv sl
 |[],m,lv,sl,_=>by simp[frees,applyUpd]
 | k :: ks, m, lv, sl, hl0 => by
  have ih:=memGet_frees0 m0 ks (memSet m k.1 k.2 ((memGet m0 k.1 k.2).bind Ent.frz)) lv sl (by simpa[memSet] using hl0)
  simp[frees,List.map_cons,applyUpd] at ih ⊢
  rw[ih]
  by_cases h1:(lv,sl)∈ks
  ·simp[h1]
  ·simp [h1, if_false, List.mem_cons, or_false]
   rw[memGet_set]
   by_cases h2:(lv,sl)=k
   ·subst h2
    simp only[if_true,true_and]
    split
    ·rfl
    ·unfold memGet
     rw[List.getElem?_eq_none (by omega),List.getElem?_eq_none (by omega)]
     rfl
   ·rw [if_neg h2, if_neg]
    rintro⟨rfl,rfl,_⟩
    exact h2 rfl
theorem memGet_frees (ks:List (Nat×Nat)) (m:List (Tr Ent)) (lv sl:Nat):memGet (applyUpd m (frees m ks)) lv sl=if (lv,sl)∈ks then (memGet m lv sl).bind Ent.frz else memGet m lv sl:=memGet_frees0 m ks m lv sl rfl
theorem frz_fz {e e':Ent} (h:e.frz=some e'):e'.fz=true:=by
 cases e<;>simp only[Ent.frz] at h<;>first|(cases h;rfl)|cases h
theorem frz_ext {X:Cx} {m:List (Tr Ent)} {t:Tr Unit} (h:MemOK X m t) (ks:List (Nat×Nat)):Ext X (X.frz m ks):=
 Ext.more fun b _ ⟨k,_,hb⟩=>by
  obtain⟨e,L,he,hL,hc,rfl,hz⟩:=blockOf_some hb
  obtain⟨L',hL',h2⟩:=h.holds_ρ (.inl ⟨k.1,k.2,e,rfl,he,rfl,hz⟩)<;>grind
theorem frz_mem {X:Cx} {m:List (Tr Ent)} {t:Tr Unit} (h:MemOK X m t) (ks:List (Nat×Nat)):MemOK (X.frz m ks) (applyUpd m (frees m ks)) t:=by
 let era:List (Nat×Nat)→List (Tr Ent)→List (Tr Ent):=fun ks m=>applyUpd m (ks.map fun k=>(k.1,k.2,none))
 have hera:∀ (ks:List (Nat×Nat)) (m:List (Tr Ent)) (lv sl:Nat),memGet (era ks m) lv sl=if (lv,sl)∈ks then none else memGet m lv sl:=by
  intro ks
  induction ks with
  |nil=>simp[era,applyUpd]
  |cons k ks ih=>
   intro m lv sl
   simp[era,List.map_cons,applyUpd] at ih ⊢
   rw[ih]
   by_cases h1:(lv,sl)∈ks
   ·simp[h1]
   ·rw[memGet_set]<;>grind[applyUpd,memSet,memGet]
 have hless:MemOK X (era ks m) t:=h.less (fun lv sl e he=>by
  rw[hera] at he
  split at he
  ·cases he
  ·exact he) fun _ h=>h
 have hm0:MemOK (X.frz m ks) (era ks m) t:=by
  refine hless.more (fun b o ⟨k,_,hb⟩=>?_) fun k v L o hk hv hc ⟨k',hk',hb⟩=>?_
  ·obtain ⟨e, L, he, hL, hc, rfl, hz⟩ := blockOf_some hb
   obtain⟨L',hL',h2⟩:=h.holds_ρ (.inl ⟨k.1,k.2,e,rfl,he,rfl,hz⟩)<;>grind
  ·obtain ⟨e, M, he, hM, hMc, hMb, hz⟩ := blockOf_some hb
   have hh:Holds m t k v∧k≠keyE k'.1 k'.2:=by
    rcases hk with⟨lv,sl,e',rfl,he',hv'⟩|⟨rfl,he'⟩
    ·grind[Ent.fz,Ent.ver,blockOf,memGet,keyE,Holds]
    ·exact⟨.inr ⟨rfl,he'⟩,fun hq=>keyE_ne_keyT hq.symm⟩
   exact h.apart _ _ _ _ _ _ hh.1 (.inl ⟨k'.1,k'.2,e,rfl,he,rfl,hz⟩) hh.2 hv hM hc hMc hMb.symm
 have hh:∀ k v,Holds (applyUpd m (frees m ks)) t k v→Holds (era ks m) t k v:=by
  rintro k v (⟨lv,sl,e,rfl,he,hv,hz⟩|⟨rfl,he⟩)
  ·rw [memGet_frees] at he
   split at he
   ·obtain ⟨e0, _, he0⟩ := Option.bind_eq_some_iff.1 he
    rw[frz_fz he0] at hz;cases hz
   grind[Ent.fz,Ent.ver,Cx.frz,memGet,keyE,Holds]
  ·exact .inr ⟨rfl,he⟩
 refine⟨fun lv sl e he=>?_,hm0.tips,fun k k' v v' L L' a b=>hm0.apart k k' v v' L L' (hh _ _ a) (hh _ _ b),hm0.inF,hm0.lows⟩
 rw[memGet_frees] at he
 split at he
 ·rename_i hk
  obtain⟨e0,he1,he0⟩:=Option.bind_eq_some_iff.1 he
  obtain⟨L,hL,hE⟩:=h.ents _ _ _ he1
  cases e0 with
  |box v cs=>cases he0
  |mp v ks=>cases he0
  |fro v els=>
   cases he0
   exact⟨L,hL,hE.1,hE.2.ext (frz_ext h ks)⟩
  | row v els =>
   cases he0
   refine⟨L,hL,hE.1,hE.2.1,fun i e j x h1 h2=>?_⟩
   obtain⟨u,hu,hd⟩:=hE.2.2.2 i e j x h1 h2
   have hc:0<L.cap:=by
    have:i<els.length:=(List.getElem?_eq_some_iff.1 h1).1
    have:=hE.1<;>omega
   refine⟨.inr ⟨(lv,sl),hk,?_⟩,u,hu,hd.ext (frz_ext h ks)⟩
   have hL':X.ρ v=some L:=hL
   simp[blockOf,he1,Ent.ver,hL',Ent.fz,hc]
 ·rename_i hn
  exact hm0.ents lv sl e (by rw[hera,if_neg hn];exact he)
theorem rowRd_ok {X:Cx} {m:List (Tr Ent)} {t:Tr Unit} (h:MemOK X m t) {lv sl ver:Nat} {els:List (List D)} (hr:rowRd m lv sl ver=some els) :
  ∃ L,X.ρ ver=some L∧els.length≤L.cap∧Lies X.w X.F (fun b o=>X.F b o∨blockOf X m (lv,sl)=some b) els L.b L.o L.sz:=by
 unfold rowRd at hr
 split at hr
 ·rename_i v els' hg
  split at hr
  ·rename_i hv
   simp_all
   subst hv
   obtain⟨L,hL,hE⟩:=h.ents _ _ _ hg
   refine⟨L,hL,hE.1,hE.2.1,fun i e j x h1 h2=>⟨.inr ?_,hE.2.2.2 i e j x h1 h2⟩⟩
   have hc:0<L.cap:=by
    grind[EntOK,Ent.ver,memGet]
   have hL':X.ρ v=some L:=hL
   simp[blockOf,hg,Ent.ver,hL',Ent.fz,hc]
  grind
 ·rename_i v els' hg
  split at hr
  ·simp_all
   obtain⟨L,hL,hE⟩:=h.ents _ _ _ hg
   grind[EntOK,Ent.ver,memGet,blockOf,Lies]
  grind
 grind
theorem row_lies {X:Cx} {m:List (Tr Ent)} {t:Tr Unit} (h:MemOK X m t) {lv sl ver:Nat} {els:List (List D)} (hr:rowAt m lv sl ver=some els) :
  ∃ L,X.ρ ver=some L∧EntOK X (.row ver els) L∧memGet m lv sl=some (.row ver els):=by
 unfold rowAt at hr
 split at hr
 ·rename_i v els' hg
  split at hr
  ·rename_i hv
   cases hr
   have hv:=beq_true.1 hv
   subst hv
   obtain⟨L,hL,hE⟩:=h.ents _ _ _ hg
   exact⟨L,hL,hE,hg⟩
  grind
 grind
theorem EntOK.lies {X:Cx} {ver:Nat} {els:List (List D)} {L:Loc} {R:Nat→Nat→Prop} (h:EntOK X (.row ver els) L) (hR:0<L.cap→∀ o,R L.b o):Lies X.w X.F R els L.b L.o L.sz:=
 ⟨h.2.1, fun i e j x h1 h2 => ⟨hR (by
  grind[EntOK]) _,h.2.2.2 i e j x h1 h2⟩⟩
theorem Lies.ext' {X Y:Cx} (hx:Ext X Y) {R:Nat→Nat→Prop} {els:List (List D)} {b o sz:Nat} (h:Lies X.w X.F R els b o sz) (hc:∀ o,Y.w.cell? ⟨b,o,none⟩=X.w.cell? ⟨b,o,none⟩):Lies Y.w Y.F R els b o sz:=
 ⟨h.1, fun i e j x h1 h2 => by
  obtain⟨hF,v,hv,hd⟩:=h.2 i e j x h1 h2
  exact⟨hF,v,(hc _).trans hv,hd.ext hx⟩⟩
theorem elsOf_ok {X:Cx} {m:List (Tr Ent)} {t:Tr Unit} (h:MemOK X m t) {x:AV} {els:List (List D)} {v:Value} (he:elsOf m x=some els) (hv:VR X x v) :
  ∃ a cap sz b o,v=.slice a els.length cap∧els.length≤cap∧(0<els.length→a=some ⟨b,o,none⟩)∧Lies X.w X.F (fun b o=>X.F b o∨X.old b∨∃ lv sl ver off len sz,x=.ref lv sl ver off len sz∧blockOf X m (lv,sl)=some b) els b o sz:=by
 cases x with
 | d x =>
  cases x with
  |sc v=>cases he
  |er=>cases he
  |rg=>cases he
  |sl els'=>
   cases he
   obtain⟨a,cap,sz,b,o,h1,h2,h3,h4⟩:=els_lies (.inl rfl) hv<;>grind
 |own els' ow=>
  cases he
  obtain⟨a,cap,sz,b,o,h1,h2,h3,h4⟩:=els_lies (.inr ⟨_,rfl⟩) hv<;>grind
 | ref lv sl ver off len sz =>
  simp[elsOf] at he
  cases hr:rowRd m lv sl ver with
  |none=>grind
  | some els' =>
   rw[hr] at he
   simp only[Option.bind_some] at he
   split at he
   ·cases he
    obtain⟨L,hL,hE1,hE⟩:=rowRd_ok h hr
    obtain⟨L',a,cap,hL',h1,h2,h3,h4⟩:=hv
    rw[hL] at hL';have hlen:((els'.drop off).take len).length=len:=by grind
    refine⟨a,cap,L.sz,L.b,L.o+off*L.sz,by rw[hlen];exact h2,by omega,fun h0=>?_,?_⟩<;>grind[rowRd,blockOf,Lies]
   grind
 |_=>cases he
theorem toD_ok {X:Cx} {m:List (Tr Ent)} {t:Tr Unit} (h:MemOK X m t) {ks k:List (Nat×Nat)} {x:AV} {y:D} {v:Value} (hx:toD m x=some (y,k)) (hv:VC X x v) (hk:∀ p∈k,p∈ks):DR X.w (X.frz m ks).F y v:=by
 have hex:=frz_ext h ks
 cases x with
 |d x=>cases hx;exact DR.ext hex hv
 | own els ow =>
  cases ow with
  |full=>
   cases hx
   obtain⟨a,b,o,sz,rfl,h3,h4⟩:=hv
   exact DR.of_lies (h4.ext hex) rfl (Nat.le_refl _) h3
  |tip ver tz=>
   cases hx
   obtain⟨a,b,o,sz,cap,rfl,h2,h3,h4,_⟩:=hv
   exact DR.of_lies (h4.ext hex) rfl h2 fun h=>h3 (by omega)
  |bor=>cases hx
 | ref lv sl ver off len sz =>
  simp only[toD] at hx
  cases he:elsOf m (.ref lv sl ver off len sz) with
  |none=>grind
  | some els =>
   rw[he] at hx
   injection hx with hx;injection hx with h1 h2;subst h1
   obtain⟨L',a,cap,hL',g1,g2,g3,g4⟩:=hv
   simp[elsOf] at he
   cases hr:rowRd m lv sl ver with
   |none=>grind
   | some els' =>
    rw[hr] at he
    simp only[Option.bind_some] at he
    split at he
    ·cases he
     obtain⟨L,hL,hE1,hE⟩:=rowRd_ok h hr
     rw[hL] at hL';cases hL'
     subst g2
     have hlen:((els'.drop off).take len).length=len:=by grind
     have hl:=(hE.region (S:=(X.frz m ks).F) fun b o hq=>hq.elim .inl fun hq=>.inr ⟨(lv,sl),hk _ (by rw[←h2];simp),hq⟩).sub off len
     exact DR.of_lies (hl.ext' hex fun _=>rfl) hlen g3 fun h0=>by rw[(g4 (by omega)).1,g1]
    grind
 |_=>cases hx
theorem toDs_ok {X:Cx} {m:List (Tr Ent)} {t:Tr Unit} (h:MemOK X m t) {ks:List (Nat×Nat)} : ∀ {xs:List AV} {ys:List D} {k:List (Nat×Nat)} {vs:List Value},toDs m xs=some (ys,k)→All2 (VC X) xs vs→(∀ p∈k,p∈ks)→
  All2 (DR X.w (X.frz m ks).F) ys vs
 |[],ys,k,[],hx,_,_=>by cases hx;trivial
 | x :: xs, ys, k, v :: vs, hx, hv, hk => by
  simp[toDs] at hx
  split at hx
  ·rename_i y k1 ys' k2 h1 h2
   cases hx
   exact⟨toD_ok h h1 hv.1 fun p hp=>hk p (by simp[hp]),toDs_ok h h2 hv.2 fun p hp=>hk p (by simp[hp])⟩
  grind
 |[],_,_,_ :: _,_,hv,_=>hv.elim
 |_ :: _,_,_,[],_,hv,_=>hv.elim
end Go.Eng
set_option linter.unusedSectionVars false
namespace Go.Eng
open Go Go.RowKit
def DomOK (X Y:Cx) (nvi n n':Nat):Prop:=n≤n'∧∀ v L,Y.ρ v=some L→X.ρ v=some L∨v=nvi∨(n≤v∧v<n')
theorem alloc_dom {X:Cx} {C:Array Value} {e:TypeId} {v:Nat} {L:Loc} {n:Nat} : DomOK X (X.alloc C e v L) v n n:=
 ⟨Nat.le_refl _, fun u M h => by
  grind[Cx.alloc]⟩
theorem DomOK.refl (X:Cx) (v n:Nat):DomOK X X v n n:=⟨Nat.le_refl _,fun _ _ h=>.inl h⟩
section
variable {X:Cx} {m:List (Tr Ent)} {t:Tr Unit}
theorem new_heap (X:Cx) (C:Array Value) (e:TypeId) (v:Nat) (L:Loc):(X.alloc C e v L).w.heap[X.w.heap.size]?=some (.cells C e (0,0)):=heap_alloc_new _ _
theorem new_ρ (X:Cx) (C:Array Value) (e:TypeId) (v:Nat) (L:Loc):(X.alloc C e v L).ρ v=some L:=if_pos rfl
theorem new_apart (h:MemOK X m t) {C:Array Value} {e:TypeId} {v:Nat} {L:Loc} (hv:X.ρ v=none) {k:Nat×Nat×Nat} {u:Nat} {M:Loc} (hk:Holds m t k u) (hu:(X.alloc C e v L).ρ u=some M) (hc:0<M.cap):M.b≠X.w.heap.size:=by
 obtain⟨M',hM',h2⟩:=h.holds_ρ hk<;>grind[Cx.alloc,Holds]
theorem new_box (h:MemOK X m t) {C:Array Value} {e:TypeId} {v:Nat} {cs:List AV} (lv sl:Nat) (hv:X.ρ v=none) (hc:All2 (VC X) cs C.toList) :
  MemOK (X.alloc C e v ⟨X.w.heap.size,0,C.size,1⟩) (memSet m lv sl (some (.box v cs))) t:=by
 have hx:Ext X (X.alloc C e v ⟨X.w.heap.size,0,C.size,1⟩):=Ext.alloc h.inF h.low hv
 refine (h.alloc hv).add (L:=⟨X.w.heap.size,0,C.size,1⟩) (new_ρ _ _ _ _ _) ⟨rfl,⟨h.fresh,C,e,new_heap _ _ _ _ _,by have:=hc.length;simp at this ⊢;omega⟩,fun o ho=>?_,fun j x hj=>?_⟩ fun k u M hk _ hu hc _=>new_apart h hv hk hu hc
 ·exact Nat.lt_irrefl _ (h.inF _ _ ho)
 ·obtain ⟨u, hu, hr⟩ := hc.get _ _ hj
  refine⟨u,?_,hr.ext hx⟩<;>simp_all[All2,VC,Cx.alloc]
theorem new_row (h:MemOK X m t) {C:Array Value} {e:TypeId} {v:Nat} {els:List (List D)} {sz cap:Nat} {vs:List Value} (lv sl:Nat) (hv:X.ρ v=none) (hl:∀ e∈els,e.length=sz) (hC:cap*sz≤C.size) (hle:els.length≤cap)
  (hvs:∀ (j:Nat) (u:Value),vs[j]?=some u→C[j]?=some u) (hd:All2 (DR X.w X.F) els.flatten vs) :
  MemOK (X.alloc C e v ⟨X.w.heap.size,0,sz,cap⟩) (memSet m lv sl (some (.row v els))) t:=by
 have hx:Ext X (X.alloc C e v ⟨X.w.heap.size,0,sz,cap⟩):=Ext.alloc h.inF h.low hv
 refine (h.alloc hv).add (L:=⟨X.w.heap.size,0,sz,cap⟩) (new_ρ _ _ _ _ _) ⟨hle,hl,fun _=>⟨⟨h.fresh,C,e,new_heap _ _ _ _ _,by simpa using hC⟩,fun o ho=>?_⟩,fun i f j x h1 h2=>?_⟩ fun k u M hk _ hu hc _=>new_apart h hv hk hu hc
 ·exact Nat.lt_irrefl _ (h.inF _ _ ho)
 ·have := lies_of_flat (R := fun _ _ => True) (o := 0) (new_heap X C e v ⟨X.w.heap.size, 0, sz, cap⟩) hl (fun j u hj => by rw [Nat.zero_add]; exact hvs j u hj) (hd.mono fun _ _ => DR.ext hx) (fun _ _ => trivial)
  grind[Lies,All2,Cx.alloc]
theorem new_tip (h:MemOK X m t) {C:Array Value} {e:TypeId} {v:Nat} {els:List (List D)} {sz cap:Nat} {vs:List Value} (hv:X.ρ v=none) (hl:∀ e∈els,e.length=sz) (hC:cap*sz≤C.size) (hle:els.length≤cap)
  (hvs:∀ (j:Nat) (u:Value),vs[j]?=some u→C[j]?=some u) (hd:All2 (DR X.w X.F) els.flatten vs) :
  let Y:=(X.alloc C e v ⟨X.w.heap.size,0+els.length*sz,sz,cap-els.length⟩).more fun b o=>b=X.w.heap.size∧o<els.length*sz
  Ext X Y∧MemOK Y m (t.set v (some ()))∧Lies Y.w Y.F Y.F els X.w.heap.size 0 sz∧DomOK X Y v 0 0:=by
 intro Y
 let Z:=X.alloc C e v ⟨X.w.heap.size,0+els.length*sz,sz,cap-els.length⟩
 have hz:Ext X Z:=Ext.alloc h.inF h.low hv
 have hm:Ext Z Y:=Ext.more fun b o hb=>by rw[hb.1];exact h.fresh
 have hmem:MemOK Y m t:=(h.alloc hv).more (fun b o hb=>⟨by rw[hb.1];exact h.fresh,by rw[hb.1];show _<(X.w.alloc _).heap.size;rw[World.size_alloc];omega⟩)
  fun k u M o hk hu hc hb=>new_apart (C:=C) (e:=e) (L:=⟨X.w.heap.size,0+els.length*sz,sz,cap-els.length⟩) h hv hk hu hc hb.1
 refine⟨hz.trans hm,hmem.addT (L:=⟨X.w.heap.size,0+els.length*sz,sz,cap-els.length⟩) (new_ρ X C e v _) (fun hc=>⟨⟨h.fresh,C,e,new_heap X C e v ⟨X.w.heap.size,0+els.length*sz,sz,cap-els.length⟩,?_⟩,fun o ho hF=>?_⟩) (fun k u M hk _ hu hc _=>new_apart (C:=C) (e:=e) (L:=⟨X.w.heap.size,0+els.length*sz,sz,cap-els.length⟩) h hv hk hu hc),?_,⟨Nat.le_refl _,fun u M hu=>?_⟩⟩
 ·rw[Nat.zero_add,←Nat.add_mul,Nat.add_sub_cancel' hle]<;>omega
 ·rcases hF with hF | hF
  ·exact Nat.lt_irrefl _ (h.inF _ _ hF)
  grind
 ·exact lies_of_flat (o:=0) (new_heap X C e v ⟨X.w.heap.size,0+els.length*sz,sz,cap-els.length⟩) hl (fun j u hj=>by rw[Nat.zero_add];exact hvs j u hj) (hd.mono fun _ _=>DR.ext (hz.trans hm)) (fun k hk=>.inr ⟨rfl,by omega⟩)
 ·exact (alloc_dom (C:=C) (e:=e) (n:=0)).2 u M hu
def Cx.set (X:Cx) (g:Nat) (C:Array Value):Cx:={ X with w:=X.w.setRow g C }
theorem set_heap {g:Nat} {C C':Array Value} {e:TypeId} (hg:X.w.heap[g]?=some (.cells C e (0,0))):(X.set g C').w.heap[g]?=some (.cells C' e (0,0)):=setRow_heap _ _ _ _ _ _ hg
theorem set_ext {g:Nat} {C C':Array Value} {e:TypeId} (hg:X.w.heap[g]?=some (.cells C e (0,0))) (hb:¬X.old g) (hF:∀ o,X.F g o→C'[o]?=C[o]?):Ext X (X.set g C'):=by
 refine⟨rfl,(Stays.refl _ _).setRow hb _,fun _ _ h=>h,fun b o h=>?_,fun _ _ h=>h,fun _ _ h=>.inl h⟩
 by_cases hbg:b=g
 ·subst hbg
  rw[cell_of_row _ _ _ _ _ _ (set_heap hg),cell_of_row _ _ _ _ _ _ hg]<;>grind
 ·have := setRow_other X.w g b C' hbg
  simp[World.cell?,Cx.set,this]
theorem set_mem (h:MemOK X m t) {g:Nat} {C C':Array Value} {e:TypeId} (hg:X.w.heap[g]?=some (.cells C e (0,0))) (hb:¬X.old g) (hF:∀ o,X.F g o→C'[o]?=C[o]?)
  (hk:∀ k v L,Holds m t k v→X.ρ v=some L→0<L.cap→L.b≠g):MemOK (X.set g C') m t:=
 h.move (set_ext hg hb hF) (fun k v L a b c=>setRow_other X.w g L.b C' (hk k v L a b c)) (fun _ _ _ _ _ _ _ h=>h) fun b o hb=>by
  have:=h.inF b o hb<;>simp_all[Holds,Cx.set]
end
end Go.Eng
set_option linter.unusedSectionVars false
namespace Go.Eng
open Go Go.RowKit
def Res.val:Res→AV
 |.eff e=>e.val
 |.all v _ _ _ _ _=>v
def After (P:Program) (X:Cx) (s:St) (a:Act) (o:Oper) (dst:Option Nat) (nvi:Nat) (r:Res):Prop:=
 ∀ (K:Act→World→Prop) (Q:Exit→Act→World→Prop),
  (∀ Y v,Ext X Y→VR Y r.val v→MemOK Y (s.app dst r).mem (s.app dst r).tips→DomOK X Y nvi s.nv (s.app dst r).nv→K (a.put o.dst v) Y.w)→Oper.wp P o a X.w K Q
section
variable {P:Program} {X:Cx} {nt:NT} {s:St} {a:Act} {o:Oper} {dst:Option Nat} {nvi:Nat}
theorem After.value {r:Res} {Y:Cx} {v:Value} (hrun:(execOp a.eval o).run P X.w=.ok (.value v) Y.w) (hx:Ext X Y) (hv:VR Y r.val v) (hm:MemOK Y (s.app dst r).mem (s.app dst r).tips) (hd:DomOK X Y nvi s.nv (s.app dst r).nv) :
  After P X s a o dst nvi r:=by
 intro K Q h
 unfold Oper.wp
 rw[hrun]
 exact h Y v hx hv hm hd
theorem After.skip {r:Res} {Y:Cx} (hrun:(execOp a.eval o).run P X.w=.ok .skip Y.w) (hx:Ext X Y) (hv:VR Y r.val undef) (hm:MemOK Y (s.app dst r).mem (s.app dst r).tips) (hd:DomOK X Y nvi s.nv (s.app dst r).nv) :
  After P X s a o dst nvi r:=by
 intro K Q h
 unfold Oper.wp
 rw[hrun]
 exact h Y undef hx hv hm hd
theorem After.quiet {val:AV} {rd:List (Nat×Nat×Nat)} (hs:Sim X nt s a) (h:Quiet P X o a val):After P X s a o dst nvi (.eff { val,upd:=[],tip:=[],rd }):=by
 obtain⟨v,hrun,hv⟩:=h
 exact .value hrun (Ext.refl X) hv hs.mem (DomOK.refl _ _ _)
theorem zeroP_run {t:TypeId} {z:List Value} (h:zeroP P t=some z):∃ i v,P.info? t=some i∧i.zero=some v∧z=v.cells.toList:=by
 unfold zeroP at h
 cases hi:P.info? t with
 |none=>grind
 |some i=>
  rw[hi] at h
  cases hz:i.zero with
  |none=>grind
  |some v=>grind
theorem box_after {lq:Nat} (hs:Sim X nt s a) (hv:X.ρ nvi=none) {d:Nat} {C:Array Value} {e:TypeId} {cs:List AV} {rd:List (Nat×Nat×Nat)}
  (hrun:(execOp a.eval o).run P X.w=.ok (.value (.pointer (some ⟨X.w.heap.size,0,none⟩))) (X.w.alloc (.cells C e))) (hc:All2 (VC X) cs C.toList) :
  After P X s a o dst nvi (.eff { val:=.ptr lq d nvi 0 0,upd:=[(lq,d,some (.box nvi cs))],tip:=[],rd }):=
 .value (Y:=X.alloc C e nvi ⟨X.w.heap.size,0,C.size,1⟩) hrun (Ext.alloc hs.mem.inF hs.mem.low hv) ⟨_,new_ρ _ _ _ _ _,by simp⟩ (new_box hs.mem _ _ hv hc) alloc_dom
theorem alloc_ok {lq:Nat} (hs:Sim X nt s a) (hv:X.ρ nvi=none) {t:TypeId} {z:List Value} {cs:List AV} {d:Nat} {rd:List (Nat×Nat×Nat)} (ho:o.op=.alloc t) (hz:zeroP P t=some z) (hc:constCells z=some cs) :
  After P X s a o dst nvi (.eff { val:=.ptr lq d nvi 0 0,upd:=[(lq,d,some (.box nvi cs))],tip:=[],rd }):=by
 obtain⟨i,v,hi,hiz,rfl⟩:=zeroP_run hz
 refine box_after hs hv (C:=v.cells) (e:=t) ?_ (constCells_ok hc)
 simp[execOp,ho,Instr.alloc,zeroValue,typeInfo,hi,hiz,newVar,newRow]
theorem box_ok {lq:Nat} (hs:Sim X nt s a) (hv:X.ρ nvi=none) {t:TypeId} {x:Operand} {x':Opd} {cs:List AV} {d:Nat} {rd:List (Nat×Nat×Nat)} (ho:o.op=.box t x) (hx:opd x=some x') (hc:cellsOf (x'.ev s.slots)=some cs) :
  After P X s a o dst nvi (.eff { val:=.ptr lq d nvi 0 0,upd:=[(lq,d,some (.box nvi cs))],tip:=[],rd }):=by
 refine box_after hs hv (C:=(a.eval x).cells) (e:=t) ?_ (cellsOf_ok hc (opd_ok hs hx))
 simp[execOp,ho,Instr.box,newVar,newRow]
theorem dAll_ok {X:Cx} : ∀ {cs:List AV} {ds:List D} {vs:List Value},dAll cs=some ds→All2 (VC X) cs vs→All2 (DR X.w X.F) ds vs
 |[],ds,[],h,_=>by simp only[dAll] at h;injection h with h;subst h;trivial
 |.d x :: r,ds,v :: vs,h,hv=>by
  simp only[dAll] at h
  obtain⟨ys,h1,rfl⟩:=Option.map_eq_some_iff.1 h
  exact⟨hv.1,dAll_ok h1 hv.2⟩
 |[],_,_ :: _,_,hv=>hv.elim
 |.d _ :: _,_,[],_,hv=>hv.elim
 |.own _ _ :: _,_,_,h,_=>by simp[dAll] at h
 |.agg _ :: _,_,_,h,_=>by simp[dAll] at h
 |.tup _ :: _,_,_,h,_=>by simp[dAll] at h
 |.ref .. :: _,_,_,h,_=>by simp[dAll] at h
 |.ptr .. :: _,_,_,h,_=>by simp[dAll] at h
 |.bref .. :: _,_,_,h,_=>by simp[dAll] at h
 |.dptr .. :: _,_,_,h,_=>by simp[dAll] at h
 |.clo .. :: _,_,_,h,_=>by simp[dAll] at h
 |.mp .. :: _,_,_,h,_=>by simp[dAll] at h
theorem boxD_ok (hs:Sim X nt s a) (hv:X.ρ nvi=none) {t:TypeId} {x:Operand} {x':Opd} {cs:List AV} {ds:List D} (ho:o.op=.box t x) (hx:opd x=some x') (hc:cellsOf (x'.ev s.slots)=some cs) (hd:dAll cs=some ds) :
  After P X s a o dst nvi (.eff { val:=.dptr ds 0,upd:=[],tip:=[],rd:=[] }):=by
 have hcs:=dAll_ok hd (cellsOf_ok hc (opd_ok hs hx))
 let C:=(a.eval x).cells
 let L:Loc:=⟨X.w.heap.size,0,C.size,1⟩
 let Z:=X.alloc C t nvi L
 have hz:Ext X Z:=Ext.alloc hs.mem.inF hs.mem.low hv
 let Y:=Z.more fun b _=>b=X.w.heap.size
 have hm:Ext Z Y:=Ext.more fun b o hb=>by rw[hb];exact hs.mem.fresh
 have hsz:X.w.heap.size<Z.w.heap.size:=by show _<(X.w.alloc _).heap.size;rw[World.size_alloc];omega
 have hmem:MemOK Y s.mem s.tips:=(hs.mem.alloc hv).more (fun b o hb=>⟨by rw[hb];exact hs.mem.fresh,by rw[hb];exact hsz⟩)
  fun k u M o hk hu hc hb=>new_apart (C:=C) (e:=t) (L:=L) hs.mem hv hk hu hc hb
 refine .value (Y:=Y) (v:=.pointer (some ⟨X.w.heap.size,0,none⟩)) ?_ (hz.trans hm) ⟨X.w.heap.size,0,by simp,fun j x hj=>?_⟩ hmem ⟨Nat.le_refl _,fun u M hu=>?_⟩
 ·simp [execOp, ho, Instr.box, newVar, newRow]
  rfl
 ·obtain ⟨u, hu, hr⟩ := hcs.get _ _ hj
  refine⟨.inl (.inr rfl),u,?_,hr.ext (hz.trans hm)⟩
  show (X.alloc C t nvi L).w.cell? _=_
  rw[cell_of_row _ _ _ _ _ _ (new_heap X C t nvi L),Nat.zero_add]
  simpa using hu
 ·exact (alloc_dom (X:=X) (C:=C) (e:=t) (v:=nvi) (L:=L) (n:=s.nv)).2 u M hu
theorem All2.one {X:Cx} : ∀ {cs:List AV} {vs:List Value},All2 (VC X) cs vs→∀ v∈vs,v.oneCell'=true
 |[],[],_,v,h=>by cases h
 |_ :: _,_ :: _,h,v,hv=>by
  rcases List.mem_cons.1 hv with rfl|hv
  ·exact VC.one h.1
  ·exact All2.one h.2 v hv
 |[],_ :: _,h,_,_=>h.elim
 |_ :: _,[],h,_,_=>h.elim
theorem All2.oneD {w:World} {F:Nat→Nat→Prop} : ∀ {cs:List D} {vs:List Value},All2 (DR w F) cs vs→∀ v∈vs,v.oneCell'=true
 |[],[],_,v,h=>by cases h
 |_ :: _,_ :: _,h,v,hv=>by
  rcases List.mem_cons.1 hv with rfl|hv
  ·exact DR.one h.1
  ·exact All2.oneD h.2 v hv
 |[],_ :: _,h,_,_=>h.elim
 |_ :: _,[],h,_,_=>h.elim
theorem getElem?_put {C:Array Value} {k:Nat} {vs:List Value} (h:k+vs.length≤C.size) (j:Nat):(C.toList.take k++vs++C.toList.drop (k+vs.length)).toArray[j]?=if k≤j∧j<k+vs.length then vs[j-k]? else C[j]?:=by
 grind
theorem box_block {X:Cx} {m:List (Tr Ent)} {t:Tr Unit} (h:MemOK X m t) {lv sl ver:Nat} {cells:List AV} (hg:memGet m lv sl=some (.box ver cells)) :
  ∃ L C e,X.ρ ver=some L∧L.cap=1∧X.w.heap[L.b]?=some (.cells C e (0,0))∧¬X.old L.b∧L.o+max cells.length L.sz≤C.size∧(∀ o,¬X.F L.b o)∧
   (∀ k v M,Holds (memSet m lv sl none) t k v→X.ρ v=some M→0<M.cap→M.b≠L.b)∧∀ j x,cells[j]?=some x→∃ v,C[L.o+j]?=some v∧VC X x v:=by
 obtain⟨L,hL,h1,⟨h2,C,e,h3,h4⟩,h5,h6⟩:=h.ents _ _ _ hg
 refine⟨L,C,e,hL,h1,h3,h2,h4,h5,fun k v M hk hv hc=>?_,fun j x hj=>?_⟩
 ·have hh : Holds m t k v ∧ k ≠ keyE lv sl := by
   rcases hk with⟨lv',sl',e',rfl,he',hv'⟩|⟨rfl,he'⟩
   ·rw [memGet_set] at he'
    grind[Ent.fz,VC,Ent.ver,memGet,keyE,Holds]
   ·exact⟨.inr ⟨rfl,he'⟩,fun hq=>keyE_ne_keyT hq.symm⟩
  exact h.apart _ _ _ _ _ _ hh.1 (.inl ⟨lv,sl,_,rfl,hg,rfl,rfl⟩) hh.2 hv hL hc (by omega)
 ·obtain ⟨v, hv, hr⟩ := h6 j x hj
  rw[cell_of_row _ _ _ _ _ _ h3] at hv<;>grind
theorem row_block {X:Cx} {m:List (Tr Ent)} {t:Tr Unit} (h:MemOK X m t) {lv sl ver:Nat} {els:List (List D)} (hg:memGet m lv sl=some (.row ver els)) {L:Loc} (hL:X.ρ ver=some L) (hc0:0<L.cap) :
  ∃ C e,X.w.heap[L.b]?=some (.cells C e (0,0))∧¬X.old L.b∧L.o+L.cap*L.sz≤C.size∧(∀ o,¬X.F L.b o)∧els.length≤L.cap∧(∀ e∈els,e.length=L.sz)∧
   (∀ k v M,Holds (memSet m lv sl none) t k v→X.ρ v=some M→0<M.cap→M.b≠L.b)∧∀ i e j x,els[i]?=some e→e[j]?=some x→∃ v,C[L.o+i*L.sz+j]?=some v∧DR X.w X.F x v:=by
 obtain⟨L',hL',h1,h2,h3,h4⟩:=h.ents _ _ _ hg
 have:X.ρ ver=some L':=hL'
 rw[hL] at this;cases this
 obtain⟨⟨h5,C,e,h6,h7⟩,h8⟩:=h3 hc0
 refine⟨C,e,h6,h5,h7,h8,h1,h2,fun k v M hk hv hc=>?_,fun i f j x hi hj=>?_⟩
 ·have hh : Holds m t k v ∧ k ≠ keyE lv sl := by
   rcases hk with⟨lv',sl',e',rfl,he',hv'⟩|⟨rfl,he'⟩
   ·rw [memGet_set] at he'
    grind[Ent.fz,Block,Ent.ver,memGet,keyE,Holds]
   ·exact⟨.inr ⟨rfl,he'⟩,fun hq=>keyE_ne_keyT hq.symm⟩
  exact h.apart _ _ _ _ _ _ hh.1 (.inl ⟨lv,sl,_,rfl,hg,rfl,rfl⟩) hh.2 hv hL hc hc0
 ·obtain ⟨v, hv, hr⟩ := h4 i f j x hi hj
  rw[cell_of_row _ _ _ _ _ _ h6] at hv<;>grind
theorem MemOK.reset {X:Cx} {m:List (Tr Ent)} {t:Tr Unit} {lv sl:Nat} {e:Ent} {L:Loc} (h:MemOK X (memSet m lv sl none) t) (hL:X.ρ e.ver=some L) (hE:EntOK X e L)
  (hap:∀ k v M,Holds (memSet m lv sl none) t k v→X.ρ v=some M→0<M.cap→0<L.cap→M.b≠L.b):MemOK X (memSet m lv sl (some e)) t:=
 (h.add (lv := lv) (sl := sl) hL hE fun k v M a _ b c d => hap k v M a b c d).congr (fun lv' sl' => by
  rw[memGet_set,memGet_set,memGet_set]<;>grind[Holds,EntOK,Ent.ver,memSet,memGet]) fun _=>rfl
theorem box_write {X:Cx} {m:List (Tr Ent)} {t:Tr Unit} (h:MemOK X m t) {lv sl ver off:Nat} {cells new:List AV} {vs:List Value} (hg:memGet m lv sl=some (.box ver cells)) (hoff:off+new.length≤cells.length) (hn:All2 (VC X) new vs) :
  ∃ L Y,X.ρ ver=some L∧Ext X Y∧Y.ρ = X.ρ∧MemOK Y (memSet m lv sl (some (.box ver (splice cells off new)))) t∧(storeCells ⟨L.b,L.o+off,none⟩ vs).run P X.w=.ok () Y.w:=by
 obtain⟨L,C,e,hL,h1,h2,h3,h4,h5,h6,h7⟩:=box_block h hg
 have hlen:=hn.length
 have hst:=run_storeCells_at P L.b (L.o+off) e vs 0 C X.w h2 (by omega) (All2.one hn)
 let C':=(C.toList.take (L.o+off)++vs++C.toList.drop (L.o+off+vs.length)).toArray
 have hget:∀ j,C'[j]?=if L.o+off≤j∧j<L.o+off+vs.length then vs[j-(L.o+off)]? else C[j]?:=getElem?_put (by omega)
 have hx:Ext X (X.set L.b C'):=set_ext h2 h3 fun o ho=>absurd ho (h5 o)
 refine⟨L,X.set L.b C',hL,hx,rfl,?_,hst⟩
 refine (set_mem (h.erase lv sl) h2 h3 (fun o ho=>absurd ho (h5 o)) h6).reset (e:=.box ver (splice cells off new)) (L:=L) hL ⟨h1,⟨h3,C',e,set_heap h2,?_⟩,h5,fun j x hj=>?_⟩ fun k v M a b c _=>h6 k v M a b c
 ·rw [length_splice' _ _ _ hoff]
  have hs:C'.size=C.size:=by
   show (C.toList.take (L.o+off)++vs++C.toList.drop (L.o+off+vs.length)).toArray.size=C.size
   simp
   omega
  omega
 ·rw [getElem?_splice _ _ _ hoff] at hj
  rw[cell_of_row _ _ _ _ _ _ (set_heap h2),hget]
  by_cases hb:off≤j∧j<off+new.length
  ·rw [if_pos hb] at hj
   obtain⟨v,hv,hr⟩:=hn.get _ _ hj
   rw[if_pos (by omega),show L.o+j-(L.o+off)=j-off by omega]
   exact⟨v,hv,hr.ext hx⟩
  ·rw [if_neg hb] at hj
   obtain⟨v,hv,hr⟩:=h7 j x hj
   rw[if_neg (by omega)]
   exact⟨v,hv,hr.ext hx⟩
theorem row_write {X:Cx} {m:List (Tr Ent)} {t:Tr Unit} (h:MemOK X m t) {lv sl ver k:Nat} {els els':List (List D)} {vs:List Value} {L:Loc} (hg:memGet m lv sl=some (.row ver els)) (hL:X.ρ ver=some L) (hc:0<L.cap)
  (hk:k+vs.length≤L.cap*L.sz) (hn:All2 (DR X.w X.F) ((els'.flatten.drop k).take vs.length) vs) (hl':∀ e∈els',e.length=L.sz) (hle:els'.length≤L.cap)
  (hold:∀ j x,els'.flatten[j]?=some x→(k≤j∧j<k+vs.length)∨els.flatten[j]?=some x) :
  ∃ Y,Ext X Y∧Y.ρ = X.ρ∧MemOK Y (memSet m lv sl (some (.row ver els'))) t∧(storeCells ⟨L.b,L.o+k,none⟩ vs).run P X.w=.ok () Y.w:=by
 obtain⟨C,e,h2,h3,h4,h5,h8,h9,h6,h7⟩:=row_block h hg hL hc
 have hst:=run_storeCells_at P L.b (L.o+k) e vs 0 C X.w h2 (by omega) (All2.oneD hn)
 let C':=(C.toList.take (L.o+k)++vs++C.toList.drop (L.o+k+vs.length)).toArray
 have hget:∀ j,C'[j]?=if L.o+k≤j∧j<L.o+k+vs.length then vs[j-(L.o+k)]? else C[j]?:=getElem?_put (by omega)
 have hx:Ext X (X.set L.b C'):=set_ext h2 h3 fun o ho=>absurd ho (h5 o)
 have hs:C'.size=C.size:=by
  show (C.toList.take (L.o+k)++vs++C.toList.drop (L.o+k+vs.length)).toArray.size=C.size
  simp
  omega
 refine⟨X.set L.b C',hx,rfl,?_,hst⟩
 refine (set_mem (h.erase lv sl) h2 h3 (fun o ho=>absurd ho (h5 o)) h6).reset (e:=.row ver els') (L:=L) hL ⟨hle,hl',fun _=>⟨⟨h3,C',e,set_heap h2,by omega⟩,h5⟩,fun i f j x hi hj=>?_⟩ fun k v M a b c _=>h6 k v M a b c
 have hjs:j<L.sz:=by rw[←hl' f (List.mem_of_getElem? hi)];exact (List.getElem?_eq_some_iff.1 hj).1
 have hf:=flatten_get hl' i j f hi hjs
 rw[hj] at hf
 rw[cell_of_row _ _ _ _ _ _ (set_heap h2),hget]
 by_cases hb:k≤i*L.sz+j∧i*L.sz+j<k+vs.length
 ·rw [if_pos (by omega)]
  have hq:((els'.flatten.drop k).take vs.length)[i*L.sz+j-k]?=some x:=by
   rw[List.getElem?_take,if_pos (by omega),List.getElem?_drop,show k+(i*L.sz+j-k)=i*L.sz+j by omega]
   exact hf
  obtain⟨v,hv,hr⟩:=hn.get _ _ hq
  rw[show L.o+i*L.sz+j-(L.o+k)=i*L.sz+j-k by omega]
  exact⟨v,hv,hr.ext hx⟩
 ·rw [if_neg (by omega)]
  have hq:=(hold _ _ hf).resolve_left hb
  have hlt:i*L.sz+j<els.length*L.sz:=by rw[←flatten_length h9];exact (List.getElem?_eq_some_iff.1 hq).1
  have hi':i<els.length:=by
   rcases Nat.lt_or_ge i els.length with hi'|hi'
   ·exact hi'
   ·have := Nat.mul_le_mul_right L.sz hi'
    omega
  have hg2:=flatten_get h9 i j _ (List.getElem?_eq_getElem hi') hjs
  rw[hq] at hg2
  obtain⟨v,hv,hr⟩:=h7 i _ j x (List.getElem?_eq_getElem hi') hg2.symm
  exact⟨v,hv,hr.ext hx⟩
end
end Go.Eng
set_option linter.unusedSectionVars false
namespace Go.Eng
open Go Go.RowKit
theorem applyUpd_append:∀ (u v:List (Nat×Nat×Option Ent)) (m:List (Tr Ent)),applyUpd m (u++v)=applyUpd (applyUpd m u) v
 |[],_,_=>rfl
 |(lv,sl,e) :: u,v,m=>by exact applyUpd_append u v _
theorem take_drop_splice {α : Type} (cs new:List α) (off:Nat) (h:off≤cs.length):((splice cs off new).drop off).take new.length=new:=by
 grind[splice]
theorem flat_set {sz:Nat} {els:List (List D)} (hl:∀ e∈els,e.length=sz) {i off:Nat} {e ds:List D} (hi:els[i]?=some e) (ho:off+ds.length≤sz):(els.set i (splice e off ds)).flatten=splice els.flatten (i*sz+off) ds:=by
 have he:=hl e (List.mem_of_getElem? hi)
 have hlt:i<els.length:=(List.getElem?_eq_some_iff.1 hi).1
 have hle:i*sz+sz≤els.flatten.length:=by
  rw[flatten_length hl]
  have:=Nat.mul_le_mul_right sz (show i+1≤els.length from hlt)
  rw[Nat.add_mul] at this
  omega
 have h1:(splice e off ds).length=sz:=by rw[length_splice' _ _ _ (by omega),he]
 rw[flatten_set hl i _ hlt h1]
 apply List.ext_getElem?
 intro j
 have q1:=getElem?_splice els.flatten (splice e off ds) (i*sz) (by omega) j
 have q2:=getElem?_splice els.flatten ds (i*sz+off) (by omega) j
 have q3:=getElem?_splice e ds off (by omega) (j-i*sz)
 rw[q1,q2,h1]
 by_cases hb:i*sz≤j∧j<i*sz+sz
 ·rw [if_pos hb, q3]
  by_cases hc:off≤j-i*sz∧j-i*sz<off+ds.length
  ·rw[if_pos hc,if_pos (by omega),show j-i*sz-off=j-(i*sz+off) by omega]
  ·rw [if_neg hc, if_neg (by omega)]
   have:=flatten_get hl i (j-i*sz) e hi (by omega)
   rw[show i*sz+(j-i*sz)=j by omega] at this
   exact this.symm
 ·rw[if_neg hb,if_neg (by omega)]
section
variable {P:Program} {X:Cx} {nt:NT} {s:St} {a:Act} {o:Oper} {dst:Option Nat} {nvi:Nat}
theorem DomOK.of_ρ {X Y:Cx} {v n:Nat} (h:Y.ρ = X.ρ):DomOK X Y v n n:=⟨Nat.le_refl _,fun u L hu=>.inl (by grind)⟩
theorem store_ok (hs : Sim X nt s a) {t : TypeId} {x v : Operand} {x' v' : Opd} {sz : Nat} {e : Eff} (ho : o.op = .store t x v) (hsz : sizeP P t = some sz) (hx : opd x = some x') (hv : opd v = some v') (hr : storeA s.mem sz (x'.ev s.slots) (v'.ev s.slots) = some e) :
  After P X s a o dst nvi (.eff e):=by
 obtain⟨i,hi,his⟩:=sizeP_run hsz
 have hp:=opd_ok hs hx
 have hval:=opd_ok hs hv
 have run:∀ (b off:Nat) (Y:Cx),a.eval x=.pointer (some ⟨b,off,none⟩)→(a.eval v).cells.size=sz→(storeCells ⟨b,off,none⟩ (a.eval v).cells.toList).run P X.w=.ok () Y.w→(execOp a.eval o).run P X.w=.ok .skip Y.w:=by
  intro b off Y h1 h2 h3
  simp[execOp,ho,Instr.storeAt,h1,sureAddr_run,storeVar,sizeOf,typeInfo,hi,his,h2,h3]
 unfold storeA at hr
 split at hr
 ·rename_i lv sl ver j off new hq hc
  rw[hq] at hp
  obtain⟨L,hL,hp⟩:=hp
  have hcells:=cellsOf_ok hc hval
  split at hr
  ·rename_i hlen
   have hsize:(a.eval v).cells.size=sz:=by rw[←hlen,hcells.length,Array.length_toList]
   split at hr
   ·rename_i ver' cs hg
    split at hr
    ·rename_i hver hj
     split at hr
     ·rename_i hle
      cases hr
      have hver:=beq_true.1 hver
      have hj:=beq_true.1 hj
      subst hver;subst hj
      obtain⟨L',Y,hL',hx',hρ,hm,hst⟩:=box_write (P:=P) hs.mem hg (by rw[hlen];exact hle) hcells
      rw[hL] at hL';cases hL'
      refine .skip (Y:=Y) (run L.b (L.o+off) Y (by rw[hp];simp) hsize hst) hx' undef_ok hm (DomOK.of_ρ hρ)
     grind
    grind
   ·rename_i ver' els hg
    split at hr
    ·rename_i hver
     split at hr
     ·rename_i el ds ks hel hds
      split at hr
      ·rename_i hle
       obtain⟨hle,hks⟩:=hle
       cases hr
       have hver:=beq_true.1 hver
       subst hver
       have hdr:=toDs_ok hs.mem (ks:=ks) hds hcells fun p hp=>hp
       have hm1:=frz_mem hs.mem ks
       have hx1:=frz_ext hs.mem ks
       have hg1:memGet (applyUpd s.mem (frees s.mem ks)) lv sl=some (.row ver' els):=by rw[memGet_frees,if_neg hks,hg]
       have hlt:j<els.length:=(List.getElem?_eq_some_iff.1 hel).1
       obtain⟨L',hL',hE⟩:=hs.mem.ents _ _ _ hg
       have:X.ρ ver'=some L':=hL'
       rw[hL] at this;cases this
       obtain⟨e1,e2,_,_⟩:=hE
       have hcap:0<L.cap:=by omega
       have hels:=e2 el (List.mem_of_getElem? hel)
       have hlen':ds.length=(a.eval v).cells.toList.length:=hdr.length
       have hsz2:(a.eval v).cells.toList.length=sz:=by grind
       have hfl:=flat_set (ds:=ds) e2 hel (off:=off) (by omega)
       have hfll:=flatten_length e2
       have hjl:j*L.sz+L.sz≤els.length*L.sz:=by
        have:=Nat.mul_le_mul_right L.sz (show j+1≤els.length from hlt)<;>grind
       have hjc:els.length*L.sz≤L.cap*L.sz:=Nat.mul_le_mul_right _ e1
       obtain⟨Y,hx',hρ,hm,hst⟩:=row_write (P:=P) hm1 (k:=j*L.sz+off) (els':=els.set j (splice el off ds)) (vs:=(a.eval v).cells.toList) hg1 hL hcap (by omega) (by
         rw[hfl,←hlen',take_drop_splice _ _ _ (by omega)]
         exact hdr) (fun f hf=>by
         rcases List.mem_or_eq_of_mem_set hf with hf|rfl
         ·exact e2 f hf
         ·rw[length_splice' _ _ _ (by omega),hels]) (by simpa using e1) (fun q y hq=>by
         rw[hfl,getElem?_splice _ _ _ (by omega)] at hq
         split at hq
         ·exact .inl (by omega)
         ·exact .inr hq)
       refine .skip (Y:=Y) (run L.b (L.o+j*L.sz+off) Y hp hsize (by rw[Nat.add_assoc];exact hst)) (hx1.trans hx') undef_ok ?_ (DomOK.of_ρ hρ)
       show MemOK Y (applyUpd s.mem (frees s.mem ks++_)) s.tips
       rw[applyUpd_append]
       exact hm
      grind
     grind
    grind
   ·cases hr
   ·cases hr
   grind
  grind
 grind
theorem constD_ok {w:World} {F:Nat→Nat→Prop} {v:Value} {x:D} (h:constD v=some x):DR w F x v:=by
 cases v with
 | slice a n c =>
  simp[constD] at h
  split at h
  ·rename_i hv
   cases hv
   cases h
   exact .sl [] none 0 0 0 0 0 (fun _ _=>undef) rfl (Nat.le_refl _) (by simp) (fun h=>absurd h (by simp)) (by simp) (by simp) (by simp)
  all_goals first|(cases h;done)|simp_all
 |agg cs=>simp[constD] at h
 |tuple cs=>simp[constD] at h
 |func fn first cap=>simp[constD] at h
 |_=>simp only[constD] at h;injection h with h;subst h;exact DR.sc _ rfl
theorem constDs_ok {w:World} {F:Nat→Nat→Prop} : ∀ {vs:List Value} {xs:List D},constDs vs=some xs→All2 (DR w F) xs vs
 |[],xs,h=>by grind[constDs,All2]
 | v :: r, xs, h => by
  simp[constDs] at h
  split at h
  ·rename_i x xs' h1 h2
   cases h
   exact⟨constD_ok h1,constDs_ok h2⟩
  grind
theorem replicate_flat {w:World} {F:Nat→Nat→Prop} {z:List D} {Z:Array Value} {sz:Nat} (hz:All2 (DR w F) z Z.toList) (hl:z.length=sz) (h0:0<sz) (n k:Nat) (hk:n*sz≤k) :
  All2 (DR w F) (List.replicate n z).flatten ((madeCells Z k).toList.take (n*sz)):=by
 have hu:∀ e∈List.replicate n z,e.length=sz:=fun e he=>by rw[(List.mem_replicate.1 he).2];exact hl
 refine .of_get (by rw[flatten_length hu];simp[madeCells];omega) fun i x v hx hv=>?_
 have hi:i<n*sz:=by
  grind
 have hq:i / sz<n:=(Nat.div_lt_iff_lt_mul h0).2 hi
 have hg:=flatten_get hu (i / sz) (i % sz) z (by rw[List.getElem?_replicate,if_pos hq]) (Nat.mod_lt _ h0)
 rw[show i / sz*sz+i % sz=i by rw[Nat.mul_comm];exact Nat.div_add_mod i sz,hx] at hg
 have hZ:Z.size=sz:=by rw[←hl,hz.length,Array.length_toList]
 obtain⟨u,hu',hr⟩:=hz.get _ _ hg.symm
 have:v=u:=by
  simp only[madeCells,Array.getElem?_toList,Array.getElem?_map] at hv<;>grind
 grind
theorem madeCells_all {Z:Array Value} {k:Nat} : (madeCells Z k).toList.take k=(madeCells Z k).toList:=List.take_of_length_le (by simp[madeCells])
theorem fillD_ok (hs : Sim X nt s a) {sz : Nat} {K : List (Nat × Nat)} : ∀ (ps : List (Nat × Operand)) (l : List (Nat × Opd)) (els els' : List (List D)) (ks : List (Nat × Nat)) (C : Array Value),
  partsSl ps=some l→(∀ e∈els,e.length=sz)→All2 (DR X.w (X.frz s.mem K).F) els.flatten C.toList→fillD s.mem s.slots sz els l=some (els',ks)→(∀ p∈ks,p∈K)→
   ∃ C',Instr.fill (fun i=>some (i*sz,sz)) C (ps.map fun p=>(p.1,a.eval p.2))=some C'∧All2 (DR X.w (X.frz s.mem K).F) els'.flatten C'.toList∧(∀ e∈els',e.length=sz)∧els'.length=els.length
 |[],l,els,els',ks,C,hp,hl,hd,hf,hk=>by
  cases hp
  cases hf
  exact⟨C,rfl,hd,hl,rfl⟩
 | (i, x) :: ps, l, els, els', ks, C, hp, hl, hd, hf, hk => by
  simp[partsSl] at hp
  split at hp
  ·rename_i y ys h2 h3
   cases hp
   simp[fillD] at hf
   split at hf
   ·rename_i e k1 he
    split at hf
    ·rename_i hc
     obtain⟨hc1,hc2⟩:=hc
     split at hf
     ·rename_i els1 k2 hf'
      injection hf with hf;injection hf with e1 e2;subst e1;subst e2
      unfold elemD at he
      cases hcs:cellsOf (y.ev s.slots) with
      |none=>grind
      | some cs =>
       rw[hcs] at he
       have hv:=toDs_ok hs.mem (ks:=K) he (cellsOf_ok hcs (opd_ok hs h2)) fun p hp=>hk p (by simp[hp])
       have hsz:(a.eval x).cells.size=sz:=by rw[←hc1,hv.length,Array.length_toList]
       have hC:C.size=els.length*sz:=by rw[←flatten_length hl,hd.length,Array.length_toList]
       have hle:i*sz+sz≤C.size:=by
        have:=Nat.mul_le_mul_right sz (show i+1≤els.length from hc2)<;>grind
       obtain⟨C',h4,h5,h6,h7⟩:=fillD_ok hs ps ys (els.set i e) els1 k2 ((a.eval x).cells.zipIdx.foldl (fun cs x=>match x with|(c,j)=>cs.setIfInBounds (i*sz+j) c) C) h3 (fun f hf=>by
         rcases List.mem_or_eq_of_mem_set hf with hf|rfl
         ·exact hl f hf
         ·exact hc1) (by
         rw[fill_step _ _ C (by omega),flatten_set hl i e hc2 hc1]
         exact hd.splice hv) hf' fun p hp=>hk p (by simp[hp])
       simp only[List.map_cons,Instr.fill,hsz,ne_eq,not_true_eq_false,decide_false,Bool.false_or]<;>grind
     grind
    grind
   grind
  grind
theorem buildSlice_run {t e:TypeId} {n sz:Nat} {ps:Array (Nat×Operand)} {i:TypeInfo} {zv:Value} {C':Array Value} (ho:o.op=.buildSlice t n ps) (ht:P.underlying t=some (.slice e)) (hi:P.info? e=some i) (his:i.size=sz) (hz:i.zero=some zv) (h24:n*sz≤16777216)
  (hf:Instr.fill (fun i=>some (i*sz,sz)) (madeCells zv.cells (n*sz)) (ps.toList.map fun p=>(p.1,a.eval p.2))=some C') :
  (execOp a.eval o).run P X.w=.ok (.value (.slice (some ⟨X.w.heap.size,0,none⟩) n n)) (X.w.alloc (.cells C' e)):=by
 have hn:¬(16777216<n*sz):=by omega
 have key:(Instr.buildSlice t n (ps.map fun (x:Nat×Operand)=>(x.1,a.eval x.2))).run P X.w=.ok (.slice (some ⟨X.w.heap.size,0,none⟩) n n) (X.w.alloc (.cells C' e)):=by
  unfold madeCells at hf
  by_cases h0:n*sz=0
  ·have e0 : Array.range 0 = #[] := rfl
   rw[h0,e0,Array.map_empty] at hf
   simp[Instr.buildSlice,run_underlying ht,sizeOf,typeInfo,hi,his,h0,newRow,e0,hf]
  ·simp[Instr.buildSlice,run_underlying ht,sizeOf,typeInfo,hi,his,hn,h0,zeroValue,hz,hf,newRow]
 simp[execOp,ho]
 simp[key]
end
end Go.Eng
set_option linter.unusedSectionVars false
namespace Go.Eng
open Go Go.RowKit
section
variable {P:Program} {X:Cx} {nt:NT} {s:St} {a:Act} {o:Oper} {dst:Option Nat} {nvi:Nat}
theorem tip_less {X:Cx} {m:List (Tr Ent)} {t:Tr Unit} {v:Nat} (h:MemOK X m (t.set v (some ()))):MemOK X m t:=
 h.less (fun _ _ _ h=>h) fun u hu=>by rw[Tr.get_set]<;>grind
theorem buildSlice_ok {lq:Nat} (hs:Sim X nt s a) (hfr:X.ρ nvi=none) {t e:TypeId} {n sz d:Nat} {ps:Array (Nat×Operand)} {z:List D} {zl:List Value} {l:List (Nat×Opd)} {els:List (List D)} {ks:List (Nat×Nat)} {rd:List (Nat×Nat×Nat)} (ho:o.op=.buildSlice t n ps)
  (ht:P.underlying t=some (.slice e)) (hsz:sizeP P e=some sz) (hz:zeroP P e=some zl) (hzd:constDs zl=some z) (hl:partsSl ps.toList=some l) (h24:n*sz≤16777216) (hzl:z.length=sz) (h0:0<sz)
  (hf:fillD s.mem s.slots sz (List.replicate n z) l=some (els,ks)) :
  After P X s a o dst nvi (.eff { val:=.own els .full,upd:=frees s.mem ks,tip:=[],rd })∧
  ((lq,d) ∉ ks→After P X s a o dst nvi (.eff { val:=.ref lq d nvi 0 n sz,upd:=frees s.mem ks++[(lq,d,some (.row nvi els))],tip:=[],rd })):=by
 obtain⟨i,zv,hi,hiz,rfl⟩:=zeroP_run hz
 obtain⟨i',hi',his⟩:=sizeP_run hsz
 rw[hi] at hi';simp_all
 have hZ:All2 (DR X.w (X.frz s.mem ks).F) z zv.cells.toList:=constDs_ok hzd
 have hrep:=replicate_flat hZ hzl h0 n (n*sz) (Nat.le_refl _)
 rw[madeCells_all] at hrep
 obtain⟨C',h1,h2,h3,h4⟩:=fillD_ok hs ps.toList l _ els ks (madeCells zv.cells (n*sz)) hl (fun e he=>by rw[(List.mem_replicate.1 he).2];exact hzl) hrep hf fun p hp=>hp
 have hrun:=buildSlice_run (P:=P) (X:=X) ho ht hi his hiz h24 h1
 have hm1:=frz_mem hs.mem ks
 have hx1:=frz_ext hs.mem ks
 have hen:els.length=n:=by grind
 have hC:C'.size=n*sz:=by rw[←hen,←flatten_length h3,h2.length,Array.length_toList]
 refine⟨?_,fun hnk=>?_⟩
 ·have nt := new_tip (X := X.frz s.mem ks) hm1 (C := C') (e := e) (v := nvi) (els := els) (sz := sz) (cap := n) (vs := C'.toList) hfr h3 (by omega) (by omega) (fun j u hj => by simpa using hj) h2
  obtain⟨g1,g2,g3,g4⟩:=nt
  refine .value hrun (hx1.trans g1) ⟨some ⟨X.w.heap.size,0,none⟩,X.w.heap.size,0,sz,?_,fun _=>rfl,g3⟩ (tip_less g2) ⟨Nat.le_refl _,fun v L h=>?_⟩
  ·rw[hen]
  ·rcases g4.2 v L h with h | h | h
   ·exact .inl h
   ·grind
   ·omega
 ·have nr := new_row (X := X.frz s.mem ks) hm1 (C := C') (e := e) (v := nvi) (els := els) (sz := sz) (cap := n) (vs := C'.toList) lq d hfr h3 (by omega) (by omega) (fun j u hj => by simpa using hj) h2
  refine .value (Y:=(X.frz s.mem ks).alloc C' e nvi ⟨X.w.heap.size,0,sz,n⟩) hrun (hx1.trans (Ext.alloc hm1.inF hm1.low hfr)) ⟨⟨X.w.heap.size,0,sz,n⟩,some ⟨X.w.heap.size,0,none⟩,n,new_ρ _ _ _ _ _,rfl,rfl,Nat.le_refl _,fun _=>⟨by simp,by simp⟩⟩ ?_ (alloc_dom (X:=X.frz s.mem ks))
  show MemOK _ (applyUpd s.mem (frees s.mem ks++_)) s.tips
  rw[applyUpd_append]
  exact nr
theorem partsP_of_sl {sz:Nat} : ∀ {ps:List (Nat×Operand)} {l:List (Nat×Opd)},partsSl ps=some l→partsP (fun i=>some (i*sz,sz)) ps=some (l.map fun p=>(p.1*sz,sz,p.2))
 |[],l,h=>by cases h;rfl
 | (i, x) :: r, l, h => by
  simp[partsSl] at h
  split at h
  ·rename_i y ys h1 h2
   cases h
   simp[partsP,h1,partsP_of_sl h2,List.map_cons]
  grind
theorem All2.mapD {X:Cx} : ∀ {ds:List D} {vs:List Value},All2 (DR X.w X.F) ds vs→All2 (VC X) (ds.map .d) vs
 |[],[],_=>trivial
 |_ :: _,_ :: _,h=>⟨h.1,All2.mapD h.2⟩
 |[],_ :: _,h=>h.elim
 |_ :: _,[],h=>h.elim
theorem buildBox_ok {lq:Nat} (hs:Sim X nt s a) (hfr:X.ρ nvi=none) {t e:TypeId} {n sz d:Nat} {ps:Array (Nat×Operand)} {z:List D} {zl:List Value} {l:List (Nat×Opd)} {cs:List AV} {rd:List (Nat×Nat×Nat)} (ho:o.op=.buildSlice t n ps)
  (ht:P.underlying t=some (.slice e)) (hsz:sizeP P e=some sz) (hz:zeroP P e=some zl) (hzd:constDs zl=some z) (hl:partsSl ps.toList=some l) (h24:n*sz≤16777216) (hzl:z.length=sz) (h0:0<sz) (hn:n≠0)
  (hf:fillA s.slots ((List.replicate n z).flatten.map .d) (l.map fun p=>(p.1*sz,sz,p.2))=some cs) :
  After P X s a o dst nvi (.eff { val:=.bref lq d nvi 0 n sz,upd:=[(lq,d,some (.box nvi cs))],tip:=[],rd }):=by
 obtain⟨i,zv,hi,hiz,rfl⟩:=zeroP_run hz
 obtain⟨i',hi',his⟩:=sizeP_run hsz
 rw[hi] at hi';cases hi'
 have hZ:All2 (DR X.w X.F) z zv.cells.toList:=constDs_ok hzd
 have hrep:=replicate_flat hZ hzl h0 n (n*sz) (Nat.le_refl _)
 rw[madeCells_all] at hrep
 obtain⟨C',h1,h2⟩:=fillA_ok hs (fun i=>some (i*sz,sz)) ps.toList _ _ cs (madeCells zv.cells (n*sz)) (partsP_of_sl hl) hrep.mapD hf
 have hrun:=buildSlice_run (P:=P) (X:=X) ho ht hi his hiz h24 h1
 exact .value (Y:=X.alloc C' e nvi ⟨X.w.heap.size,0,C'.size,1⟩) hrun (Ext.alloc hs.mem.inF hs.mem.low hfr) ⟨_,n,new_ρ _ _ _ _ _,by simp,Nat.le_refl _,by omega,fun hq=>absurd hq (Nat.lt_irrefl _)⟩ (new_box hs.mem _ _ hfr h2) alloc_dom
theorem makeSlice_ok {lq:Nat} (hs:Sim X nt s a) (hfr:X.ρ nvi=none) {t e:TypeId} {l c d:Nat} {i:TypeInfo} {ln cp:Operand} {ln' cp':Opd} {z:List D} {zl:List Value} {rd:List (Nat×Nat×Nat)} (ho:o.op=.makeSlice t ln cp)
  (ht:P.underlying t=some (.slice e)) (hi:P.info? e=some i) (hz:zeroP P e=some zl) (hzd:constDs zl=some z) (hzl:z.length=i.size) (h0:0<i.size)
  (hln:opd ln=some ln') (hcp:opd cp=some cp') (hl:natOfA (ln'.ev s.slots)=some l) (hc:natOfA (cp'.ev s.slots)=some c) (hlc:l≤c) (hby:i.bytes*c≤roomA) (h63:c≤maxLenA) :
  After P X s a o dst nvi (.eff { val:=.ref lq d nvi 0 l i.size,upd:=[(lq,d,some (.row nvi (List.replicate l z)))],tip:=[],rd }):=by
 obtain⟨i',zv,hi',hiz,rfl⟩:=zeroP_run hz
 rw[hi] at hi';cases hi'
 obtain⟨kl,hle⟩:=natOfA_ok hl (opd_ok hs hln)
 obtain⟨kc,hce⟩:=natOfA_ok hc (opd_ok hs hcp)
 have hr:=run_make (P:=P) X.w t e i zv ht hi hiz kl kc l c (by omega) (by omega) (by
  have:((i.bytes*c:Nat):Int)≤281474976710656:=by unfold roomA at hby;omega
  rwa[Int.natCast_mul] at this) (by unfold maxLenA at h63;omega)
 have hZ:All2 (DR X.w X.F) z zv.cells.toList:=constDs_ok hzd
 have hrep:=replicate_flat hZ hzl h0 l (c*i.size) (Nat.mul_le_mul_right _ hlc)
 have nr:=new_row hs.mem (C:=madeCells zv.cells (c*i.size)) (e:=e) (v:=nvi) (els:=List.replicate l z) (sz:=i.size) (cap:=c) lq d hfr (fun e he=>by rw[(List.mem_replicate.1 he).2];exact hzl) (by simp[madeCells]) (by simpa using hlc)
  (vs := (madeCells zv.cells (c * i.size)).toList.take (l * i.size)) (fun j u hj => by
   rw[List.getElem?_take] at hj
   split at hj
   ·simpa using hj
   ·cases hj) hrep
 refine .value (Y:=X.alloc (madeCells zv.cells (c*i.size)) e nvi ⟨X.w.heap.size,0,i.size,c⟩) ?_ (Ext.alloc hs.mem.inF hs.mem.low hfr) ⟨⟨X.w.heap.size,0,i.size,c⟩,some ⟨X.w.heap.size,0,none⟩,c,new_ρ _ _ _ _ _,rfl,rfl,hlc,fun _=>⟨by simp,by simp⟩⟩ nr alloc_dom
 simp[execOp,ho,hle,hce,hr]
 rfl
theorem news_ok {X:Cx} {m:List (Tr Ent)} {t:Tr Unit} (h:MemOK X m t) {y:AV} {news:List (List D)} {v:Value} {sz:Nat} (he:newsOf m y=some news) (hv:VR X y v) (hl:∀ e∈news,e.length=sz) (h0:0<sz) :
  ∃ vs:List Value,All2 (DR X.w X.F) news.flatten vs∧(∀ w:World,(Builtin.lenOf v).run P w=.ok news.length w)∧
   (∀ w:World,(∀ b o,w.cell? ⟨b,o,none⟩=X.w.cell? ⟨b,o,none⟩)→∀ n,n≤news.length→(Builtin.firstCells sz n v).run P w=.ok (vs.take (n*sz)).toArray w):=by
 have data:∀ els,elsOf m y=some els→els=news→∃ vs:List Value,All2 (DR X.w X.F) news.flatten vs∧(∀ w:World,(Builtin.lenOf v).run P w=.ok news.length w)∧
   (∀ w:World,(∀ b o,w.cell? ⟨b,o,none⟩=X.w.cell? ⟨b,o,none⟩)→∀ n,n≤news.length→(Builtin.firstCells sz n v).run P w=.ok (vs.take (n*sz)).toArray w):=by
  rintro els he' rfl
  have he:=he'
  obtain⟨ad,cap,sz',b,o,rfl,h2,h3,h4⟩:=elsOf_ok h he hv
  obtain⟨vs,h5,h6⟩:=flat_of_lies h4
  refine⟨vs,h6,fun w=>rfl,fun w hw n hn=>?_⟩
  by_cases hz:els.length=0
  ·have hn : n = 0 := by omega
   subst hn
   cases ad with
   |none=>simp[Builtin.firstCells]
   |some ad=>simp[Builtin.firstCells,loadCells,loadCellsFrom]
  ·have hlt : 0 < els.length := by omega
   have:=h3 hlt
   subst this
   have hs':sz'=sz:=by
    have hm:=List.getElem_mem hlt
    rw[←h4.1 _ hm,hl _ hm]
   subst hs'
   have hlen:(vs.take (n*sz')).length=n*sz':=by
    have:vs.length=els.length*sz':=by rw[←h6.length,flatten_length hl]
    simp_all
   have:=run_loadCells_list (P:=P) w ⟨b,o,none⟩ (vs.take (n*sz')) fun j u hj=>by
    rw[Addr.add_lit,hw]
    rw[List.getElem?_take] at hj
    split at hj
    ·exact h5 j u hj
    ·cases hj
   rw[hlen] at this
   simpa[Builtin.firstCells] using this
 unfold newsOf at he
 split at he
 ·rename_i bs
  simp_all
  have hv:=hv.sc
  subst hv
  have hlen:news.length=bs.size:=by rw[←he];simp
  refine⟨bs.data.toList.map fun c=>.int .u8 c.toNat,?_,fun w=>by rw[hlen];rfl,fun w _ n hn=>?_⟩
  ·rw [← he]
   generalize bs.data.toList=l
   induction l with
   |nil=>trivial
   |cons c l ih=>exact⟨DR.sc _ rfl,ih⟩
  ·by_cases hz : news.length = 0
   ·have hn : n = 0 := by omega
    subst hn
    simp[Builtin.firstCells]
   ·have hs1 : sz = 1 := by
     have hlt:0<news.length:=by omega
     have h1:=hl _ (List.getElem_mem hlt)<;>grind
    simp[Builtin.firstCells,Sem.run_pure,Nat.mul_one]<;>grind
 grind
end
end Go.Eng
set_option linter.unusedSectionVars false
namespace Go.Eng
open Go Go.RowKit
section
variable {P:Program}
def notInt (P:Program) (u:TypeId):Prop:=(∃ e,P.underlying u=some (.slice e))∨P.underlying u=some .string
inductive Src (P:Program) (u:TypeId) (i:TypeInfo) (w:World) (y:Value) (m:Nat) (new:List Value):Prop
 |val (hu:notInt P u) (hl:(Builtin.lenOf y).run P w=.ok m w) (hf:(Builtin.firstCells i.size m y).run P w=.ok new.toArray w) (hf':(Builtin.firstCells i.size m y).run P w.drew=.ok new.toArray w.drew)
 |zero (k k':IntKind) (z:Value) (hu:P.underlying u=some (.int k)) (hz:i.zero=some z) (hzs:z.cells.size=i.size) (hy:y=.int k' m) (h63:m≤maxLenA) (hby:m*i.bytes≤roomA) (hn:new=(Builtin.zeroCells z.cells m).toList)
theorem wrap_len {m:Nat} (h:m≤maxLenA):IntKind.i64.wrap (m:Int)=m:=by
 unfold maxLenA at h
 rw[IntKind.wrap_i64];omega
theorem append_room {t u ty e:TypeId} {i:TypeInfo} {w:World} {ad:Option Addr} {n cap m:Nat} {y:Value} {new:List Value} (ht:P.underlying t=some (.slice e)) (hs:Src P u i w y m new) (hi:P.info? e=some i) (hroom:n+m≤cap) :
  (Builtin.append_ #[t, u] ty #[.slice ad n cap, y]).run P w = match ad with
   |some a=>((storeCells (a.add (n*i.size)) new).run P w).andThen fun _ w'=>.ok (.slice ad (n+m) cap) w'
   |none=>.ok (.slice none (n+m) cap) w:=by
 cases hs with
 |val hu hl hf=>
  rcases hu with⟨e',hd⟩|hd
  ·cases ad<;>simp[Builtin.append_,run_underlying ht,run_underlying hd,sizeOf,typeInfo,hi,hl,hroom,hf]
  ·cases ad<;>simp[Builtin.append_,run_underlying ht,run_underlying hd,sizeOf,typeInfo,hi,hl,hroom,hf]
 | zero k k' z hu hz hzs hy h63 hby hn =>
  subst hy hn
  have hw:=wrap_len h63
  have h0:¬((m:Int)<0):=by omega
  have h48:¬(281474976710656<((m:Int)*i.bytes)):=by
   rw[←Int.natCast_mul];unfold roomA at hby;omega
  by_cases hms:m*i.size=0
  ·have hc : Builtin.zeroCells z.cells m = #[] := by
    have:m*z.cells.size=0:=by rw[hzs];exact hms
    simp[Builtin.zeroCells,this]
   cases ad<;>simp[Builtin.append_,run_underlying ht,run_underlying hu,sizeOf,typeInfo,hi,asInt,asIntOf,hw,h0,h48,hms,hroom,hc]
  ·cases ad<;>simp[Builtin.append_,run_underlying ht,run_underlying hu,sizeOf,typeInfo,zeroValue,hi,hz,asInt,asIntOf,hw,h0,h48,hms,hroom]
theorem append_grow {t u ty e:TypeId} {i:TypeInfo} {z:Value} {w:World} {ad:Option Addr} {n cap m:Nat} {y:Value} {old new:List Value} (ht:P.underlying t=some (.slice e)) (hs:Src P u i w y m new) (hi:P.info? e=some i) (hz:i.zero=some z)
  (ho:(Builtin.firstCells i.size n (.slice ad n cap)).run P w.drew=.ok old.toArray w.drew) (hgrow:cap<n+m)
  (h63:n+m≤maxLenA) (hby:(n+m)*i.bytes≤roomA) :
  (Builtin.append_ #[t,u] ty #[.slice ad n cap,y]).run P w=.ok (.slice (some ⟨w.heap.size,0,none⟩) (n+m) (grownCap w (n+m) cap e))
    (w.drew.alloc (.cells (old.toArray++new.toArray++Builtin.zeroCells z.cells (grownCap w (n+m) cap e-(n+m))) e)):=by
 have hn:¬(n+m≤cap):=by omega
 have h63':¬(9223372036854775807<((n:Int)+(m:Int))):=by grind[roomA,maxLenA]
 have h48':¬(281474976710656<Builtin.nextslicecap (n+m) cap*i.bytes):=by
  have:=growslice_fits (need:=n+m) (old:=cap) (bytes:=i.bytes) hgrow (by unfold roomA at hby;omega)
  omega
 cases hs with
 | val hu hl _ hf =>
  rcases hu with⟨e',hd⟩|hd
  ·simp [Builtin.append_, run_underlying ht, sizeOf, typeInfo, zeroValue, hi, hz, run_underlying hd, hl, hn, h63', h48', Question.forced, ho, hf, newRow, grownCap]
   congr 2
   apply Array.ext'
   simp
  ·simp [Builtin.append_, run_underlying ht, sizeOf, typeInfo, zeroValue, hi, hz, run_underlying hd, hl, hn, h63', h48', Question.forced, ho, hf, newRow, grownCap]
   congr 2
   apply Array.ext'
   simp
 | zero k k' z' hu hz' hzs hy h63m hbym hnew =>
  rw[hz] at hz';injection hz' with hz';subst hz'
  subst hy hnew
  have hw:=wrap_len h63m
  have h0:¬((m:Int)<0):=by omega
  have h48:¬(281474976710656<((m:Int)*i.bytes)):=by
   rw[←Int.natCast_mul];unfold roomA at hbym;omega
  by_cases hms:m*i.size=0
  ·have hc : Builtin.zeroCells z.cells m = #[] := by
    have:m*z.cells.size=0:=by rw[hzs];exact hms
    simp[Builtin.zeroCells,this]
   simp[Builtin.append_,run_underlying ht,run_underlying hu,sizeOf,typeInfo,zeroValue,hi,hz,asInt,asIntOf,hw,h0,h48,hc,hn,h63',h48',Question.forced,ho,newRow,grownCap]
  ·simp[Builtin.append_,run_underlying ht,run_underlying hu,sizeOf,typeInfo,zeroValue,hi,hz,asInt,asIntOf,hw,h0,h48,hms,hn,h63',h48',Question.forced,ho,newRow,grownCap]
variable {X:Cx} {nt:NT} {s:St} {a:Act} {o:Oper} {dst:Option Nat} {nvi:Nat}
def Cx.name (X:Cx) (v:Nat) (L:Loc):Cx:={ X with ρ:=fun u=>if u=v then some L else X.ρ u }
theorem name_ext {X:Cx} {v:Nat} {L:Loc} (hv:X.ρ v=none):Ext X (X.name v L):=
 ⟨rfl, Stays.refl _ _, fun _ _ h => h, fun _ _ _ => rfl, fun u M hu => by
  grind[Cx.name],fun _ _ h=>.inl h⟩
theorem name_mem {X:Cx} {m:List (Tr Ent)} {t:Tr Unit} {v:Nat} {L:Loc} (h:MemOK X m t) (hv:X.ρ v=none):MemOK (X.name v L) m t:=
 h.move (name_ext hv) (fun _ _ _ _ _ _=>rfl) (fun _ _ _ _ _ _ _ h=>h) h.inF
theorem name_ρ {X:Cx} {v:Nat} {L:Loc} : (X.name v L).ρ v=some L:=if_pos rfl
theorem name_dom {X:Cx} {v n:Nat} {L:Loc} : DomOK X (X.name v L) v n n:=
 ⟨Nat.le_refl _, fun u M h => by
  grind[Cx.name]⟩
def Cx.drew (X:Cx):Cx:={ X with w:=X.w.drew }
theorem drew_ext {X:Cx} : Ext X X.drew:=⟨rfl,(Stays.refl _ _).drew,fun _ _ h=>h,fun _ _ _=>rfl,fun _ _ h=>h,fun _ _ h=>.inl h⟩
theorem drew_mem {X:Cx} {m:List (Tr Ent)} {t:Tr Unit} (h:MemOK X m t):MemOK X.drew m t:=h.move drew_ext (fun _ _ _ _ _ _=>rfl) (fun _ _ _ _ _ _ _ h=>h) h.inF
theorem append_call {x y:Operand} {t u:TypeId} {v:Value} {w:World} (ho:o.op=.call { callee:=.builtin .append,args:=#[x,y],argTypes:=#[t,u] }) (hr:(Builtin.append_ #[t,u] o.type #[a.eval x,a.eval y]).run P X.w=.ok v w) :
  (execOp a.eval o).run P X.w=.ok (.value v) w:=by
 simp[execOp,ho,resolve,invoke,builtin,hr]
theorem grown_cells {old new:List Value} {Z:Array Value} {k:Nat} (j:Nat) (v:Value) (h:(old++new)[j]?=some v):(old.toArray++new.toArray++Builtin.zeroCells Z k)[j]?=some v:=by
 grind
theorem grown_size {old new:List Value} {Z:Array Value} {n m k sz:Nat} (h1:old.length=n*sz) (h2:new.length=m*sz) (hZ:Z.size=sz) (hk:n+m≤k):k*sz≤(old.toArray++new.toArray++Builtin.zeroCells Z (k-(n+m))).size:=by
 simp[Array.size_append,List.size_toArray,size_zeroCells,hZ,h1,h2,←Nat.add_mul]<;>grind
theorem firstCells_own {els:List (List D)} {b off sz sz' n cap:Nat} {ad:Option Addr} {w:World} (hw:∀ b o,w.cell? ⟨b,o,none⟩=X.w.cell? ⟨b,o,none⟩) {R:Nat→Nat→Prop} (h:Lies X.w X.F R els b off sz') (hsz:∀ e∈els,e.length=sz) (hn:els.length=n) (had:0<n→ad=some ⟨b,off,none⟩) :
  ∃ old:List Value,(Builtin.firstCells sz n (.slice ad n cap)).run P w=.ok old.toArray w∧All2 (DR X.w X.F) els.flatten old:=by
 obtain⟨vs,h1,h2⟩:=flat_of_lies h
 refine⟨vs,?_,h2⟩
 have hlen:vs.length=n*sz:=by rw[←h2.length,flatten_length hsz,hn]
 by_cases h0:n=0
 ·subst h0
  have:vs=[]:=List.eq_nil_of_length_eq_zero (by simpa using hlen)
  subst this
  cases ad with
  |none=>simp[Builtin.firstCells]
  |some ad=>simp[Builtin.firstCells,loadCells,loadCellsFrom]
 ·have := had (by omega)
  subst this
  have:=run_loadCells_list (P:=P) w ⟨b,off,none⟩ vs fun j u hj=>by
   rw[Addr.add_lit,hw]
   exact h1 j u hj
  rw[hlen] at this
  simpa[Builtin.firstCells] using this
def Appended (P:Program) (X:Cx) (s:St) (t u ty:TypeId) (xv yv:Value) (nvi n:Nat) (e:Eff):Prop:=
 ∃ Y v,(Builtin.append_ #[t,u] ty #[xv,yv]).run P X.w=.ok v Y.w∧Ext X Y∧VR Y e.val v∧MemOK Y (applyUpd s.mem e.upd) (applyTip s.tips e.tip)∧DomOK X Y nvi n n
theorem tip_fresh {X:Cx} {m:List (Tr Ent)} {t:Tr Unit} (h:MemOK X m t) {v:Nat} {L:Loc} (hL:X.ρ v=some L) (h0:L.cap=0):MemOK X m (t.set v (some ())):=
 h.addT hL (fun hc=>by omega) fun _ _ _ _ _ _ _ hc=>by omega
theorem append_new {t u ty e:TypeId} {i:TypeInfo} {z:Value} {ad:Option Addr} {cap:Nat} {yv:Value} {els news:List (List D)} {old new:List Value} (ht:P.underlying t=some (.slice e)) (hs:Src P u i X.w yv news.length new) (hi:P.info? e=some i) (hz:i.zero=some z) (hzs:z.cells.size=i.size)
  (ho:(Builtin.firstCells i.size els.length (.slice ad els.length cap)).run P X.w.drew=.ok old.toArray X.w.drew) (hgrow:cap<els.length+news.length)
  (h63:els.length+news.length≤maxLenA) (hby:(els.length+news.length)*i.bytes≤roomA) (hd1:All2 (DR X.w X.F) els.flatten old) (hd2:All2 (DR X.w X.F) news.flatten new) (hel:∀ e∈els,e.length=i.size) (hnl:∀ e∈news,e.length=i.size) :
  ∃ C G,els.length+news.length≤G∧(Builtin.append_ #[t,u] ty #[.slice ad els.length cap,yv]).run P X.w=.ok (.slice (some ⟨X.w.heap.size,0,none⟩) (els.length+news.length) G) (X.w.drew.alloc (.cells C e))∧
   G*i.size≤C.size∧(∀ (j:Nat) (u:Value),(old++new)[j]?=some u→C[j]?=some u)∧All2 (DR X.w X.F) (els++news).flatten (old++new)∧(∀ e∈els++news,e.length=i.size):=by
 refine⟨_,_,grownCap_ge X.w (els.length+news.length) cap e,append_grow ht hs hi hz ho hgrow h63 hby,?_,fun j u hj=>grown_cells j u hj,?_,?_⟩
 ·exact grown_size (by rw[←hd1.length,flatten_length hel]) (by rw[←hd2.length,flatten_length hnl]) hzs (grownCap_ge _ _ _ _)
 ·rw [flatten_append']
  exact hd1.append hd2
 grind
end
end Go.Eng
