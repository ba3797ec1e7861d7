/- Memory made, frozen and written: the laws under the operations that change it. -/
import Derived.Test.YthphehfgekjooaaGreatDoorEngF
import Derived.Laws.MakeOwn
set_option linter.unusedVariables false
set_option linter.unusedSimpArgs false
namespace Go.bq
open Go Go.RowKit
theorem e8 {α : Type} {sz:Nat} : ∀ {els:List (List α)},(∀ e∈els,e.length=sz)→∀ (i j:Nat) (e:List α),els[i]?=some e→j<sz→els.flatten[i*sz+j]?=e[j]?
 |[],_,i,j,e,h,_=>by simp at h
 |f :: els,hl,0,j,e,h,hj=>by
  grind
 |f :: els,hl,i+1,j,e,h,hj=>by
  simp[List.flatten_cons]
  have hf:=hl f (by simp)
  rw[List.getElem?_append_right (by rw[hf,Nat.add_mul];omega),hf,show (i+1)*sz+j-sz=i*sz+j by rw[Nat.add_mul];omega]
  exact e8 (fun e he=>hl e (by simp[he])) i j e (by simpa using h) hj
theorem aP {α : Type} {sz:Nat} : ∀ {els:List (List α)},(∀ e∈els,e.length=sz)→els.flatten.length=els.length*sz
 |[],_=>by simp
 |f :: els,hl=>by
  simp only[List.flatten_cons,List.length_append,List.length_cons,Nat.add_mul]
  rw[aP (fun e he=>hl e (by simp[he])),hl f (by simp)]
  omega
theorem yF {α : Type} (a b:List (List α)):(a++b).flatten=a.flatten++b.flatten:=by simp
theorem qL {α : Type} {sz:Nat} : ∀ {els:List (List α)},(∀ e∈els,e.length=sz)→∀ (i:Nat) (e:List α),i<els.length→e.length=sz→(els.set i e).flatten=splice els.flatten (i*sz) e
 |[],_,i,e,h,_=>by simp at h
 |f :: els,hl,0,e,_,he=>by
  grind[splice]
 |f :: els,hl,i+1,e,h,he=>by
  have hf:=hl f (by simp)
  simp[List.set_cons_succ,List.flatten_cons]
  rw[qL (fun e he=>hl e (by simp[he])) i e (by simpa using h) he]
  unfold splice
  rw[show (i+1)*sz=f.length+i*sz by rw[Nat.add_mul];omega]
  rw[List.take_append,List.take_of_length_le (l:=f) (by omega)]
  rw[List.drop_append,List.drop_of_length_le (l:=f) (by omega),show f.length+i*sz+e.length-f.length=i*sz+e.length by omega]
  simp[List.append_assoc]
theorem uC {w:World} {F R:Nat→Nat→Prop} {els:List (List D)} {b o sz:Nat} {C:Array Value} {e:TypeId} {vs:List Value} (hb:w.heap[b]?=some (.cells C e (0,0))) (hl:∀ e∈els,e.length=sz)
  (hv:∀ j v,vs[j]?=some v→C[o+j]?=some v) (h:aq (DR w F) els.flatten vs) (hR:∀ k,k<els.length*sz→R b (o+k)):dH w F R els b o sz:=by
 refine⟨hl,fun i e j x h1 h2=>?_⟩
 have hj:j<sz:=by grind
 have hg:=e8 hl i j e h1 hj
 rw[h2] at hg
 obtain⟨v,h3,h4⟩:=h.get _ _ hg
 have hlt:i*sz+j<els.length*sz:=by
  have:=(List.getElem?_eq_some_iff.1 hg).1
  rwa[aP hl] at this
 rw[Nat.add_assoc]
 exact⟨hR _ hlt,v,by rw[cell_of_row _ _ _ _ _ _ hb];exact hv _ _ h3,h4⟩
theorem uD {w:World} {F R:Nat→Nat→Prop} {els:List (List D)} {b o sz:Nat} (h:dH w F R els b o sz):∃ vs:List Value,(∀ j v,vs[j]?=some v→w.cell? ⟨b,o+j,none⟩=some v)∧aq (DR w F) els.flatten vs:=by
 refine zG els.flatten fun k x hk=>?_
 have hlen:=aP h.1
 have hk':k<els.length*sz:=by grind
 have hsz:0<sz:=Nat.pos_of_ne_zero fun e=>by subst e;omega
 have hi:k / sz<els.length:=(Nat.div_lt_iff_lt_mul hsz).2 hk'
 have hj:k % sz<sz:=Nat.mod_lt _ hsz
 have he:els[k / sz]?=some els[k / sz]:=List.getElem?_eq_getElem hi
 have hg:=e8 h.1 (k / sz) (k % sz) _ he hj
 have hkk:k / sz*sz+k % sz=k:=by rw[Nat.mul_comm];exact Nat.div_add_mod k sz
 grind[dH]
def Cx.alloc (X:Cx) (C:Array Value) (e:TypeId) (v:Nat) (L:Loc):Cx:={ X with w:=X.w.alloc (.cells C e),ρ:=fun u=>if u=v then some L else X.ρ u }
theorem aA.cz {X:Cx} {m:List (Tr aZ)} {t:Tr Unit} (h:aA X m t) {k:Nat×Nat×Nat} {v:Nat} (hk:Holds m t k v):∃ L,X.ρ v=some L∧(0<L.cap→L.b<X.w.heap.size∧¬X.old L.b):=by
 rcases hk with⟨lv,sl,e,_,he,rfl,hz⟩|⟨_,he⟩
 ·obtain ⟨L, hL, hE⟩ := h.dW lv sl e he
  refine⟨L,hL,fun hc=>?_⟩
  cases e with
  |Nd _ _=>cases hz
  |row _ _=>exact⟨(hE.2.2.1 hc).1.lt,(hE.2.2.1 hc).1.1⟩
  |box _ _=>exact⟨hE.2.1.lt,hE.2.1.1⟩
  |mp _ _=>
   grind[l7,aZ.aa,aZ.fz,aC,bw]
 ·obtain ⟨L, hL, hT⟩ := h.aB v he
  exact⟨L,hL,fun hc=>⟨(hT hc).1.lt,(hT hc).1.1⟩⟩
theorem tA {w:World} {b o:Nat} {ob:Obj} (h:b<w.heap.size):(w.alloc ob).cell? ⟨b,o,none⟩=w.cell? ⟨b,o,none⟩:=World.cell?_alloc_lt w ob ⟨b,o,none⟩ h
theorem Ext.alloc {X:Cx} {C:Array Value} {e:TypeId} {v:Nat} {L:Loc} (hin:∀ b o,X.F b o→b<X.w.heap.size) (mw:∀ b,X.old b→b<X.w.heap.size) (hv:X.ρ v=none):Ext X (X.alloc C e v L):=
 ⟨rfl, (dK.refl _ _).alloc mw _, fun _ _ h => h, fun b o h => tA (hin b o h), fun u M hu => by
  grind[Cx.alloc],fun _ _ h=>.inl h⟩
theorem aA.alloc {X:Cx} {m:List (Tr aZ)} {t:Tr Unit} {C:Array Value} {e:TypeId} {v:Nat} {L:Loc} (h:aA X m t) (hv:X.ρ v=none):aA (X.alloc C e v L) m t:=
 h.move (Ext.alloc h.ni h.low hv) (fun k u M hk hu hc=>by
   obtain⟨M',jx,h2⟩:=h.cz hk
   rw[hu] at jx;cases jx
   exact heap_alloc_old _ _ _ (h2 hc).1) (fun _ _ _ _ _ _ _ h=>h) (fun b o hb=>by
   have:=h.ni b o hb
   show b<(X.w.alloc _).heap.size
   rw[World.size_alloc];omega)
def Cx.more (X:Cx) (G:Nat→Nat→Prop):Cx:={ X with F:=fun b o=>X.F b o∨G b o }
theorem Ext.more {X:Cx} {G:Nat→Nat→Prop} (hG:∀ b o,G b o→¬X.old b):Ext X (X.more G):=
 ⟨rfl,dK.refl _ _,fun _ _=>.inl,fun _ _ _=>rfl,fun _ _ h=>h,fun b o h=>h.elim .inl fun h=>.inr (hG b o h)⟩
theorem aA.more {X:Cx} {m:List (Tr aZ)} {t:Tr Unit} {G:Nat→Nat→Prop} (h:aA X m t) (hG:∀ b o,G b o→¬X.old b∧b<X.w.heap.size)
  (hk:∀ k v L o,Holds m t k v→X.ρ v=some L→0<L.cap→¬G L.b o):aA (X.more G) m t:=
 h.move (Ext.more fun b o h=>(hG b o h).1) (fun _ _ _ _ _ _=>rfl) (fun k v L o a b c h=>h.elim id fun h=>absurd h (hk k v L o a b c)) fun b o hb=>hb.elim (h.ni b o) fun hb=>(hG b o hb).2
def kW (X:Cx) (m:List (Tr aZ)) (k:Nat×Nat):Option Nat:=(aC m k.1 k.2).bind fun e=>(X.ρ e.aa).bind fun L=>if 0<L.cap∧e.fz=false then some L.b else none
def Cx.lz (X:Cx) (m:List (Tr aZ)) (ks:List (Nat×Nat)):Cx:=X.more fun b _=>∃ k∈ks,kW X m k=some b
theorem jE {X:Cx} {m:List (Tr aZ)} {k:Nat×Nat} {b:Nat} (h:kW X m k=some b):∃ e L,aC m k.1 k.2=some e∧X.ρ e.aa=some L∧0<L.cap∧L.b=b∧e.fz=false:=by
 unfold kW at h
 cases he:aC m k.1 k.2 with
 |none=>grind
 | some e =>
  rw[he] at h
  cases hL:X.ρ e.aa with
  |none=>grind
  |some L=>
   grind
theorem sW (m0:List (Tr aZ)):∀ (ks:List (Nat×Nat)) (m:List (Tr aZ)) (lv sl:Nat),m.length=m0.length→aC (aX m (di m0 ks)) lv sl=if (lv,sl)∈ks then (aC m0 lv sl).bind aZ.lz else aC m lv sl
 |[],m,lv,sl,_=>by simp[di,aX]
 | k :: ks, m, lv, sl, hl0 => by
  have ih:=sW m0 ks (bF m k.1 k.2 ((aC m0 k.1 k.2).bind aZ.lz)) lv sl (by simpa[bF] using hl0)
  simp[di,List.map_cons,aX] at ih ⊢
  rw[ih]
  by_cases h1:(lv,sl)∈ks
  ·simp[h1]
  ·simp [h1, if_false, List.mem_cons, or_false]
   rw[bM]
   by_cases h2:(lv,sl)=k
   ·subst h2
    simp only[if_true,true_and]
    split
    ·rfl
    ·unfold aC
     rw[List.getElem?_eq_none (by omega),List.getElem?_eq_none (by omega)]
     rfl
   ·rw [if_neg h2, if_neg]
    rintro⟨rfl,rfl,_⟩
    exact h2 rfl
theorem pF (ks:List (Nat×Nat)) (m:List (Tr aZ)) (lv sl:Nat):aC (aX m (di m ks)) lv sl=if (lv,sl)∈ks then (aC m lv sl).bind aZ.lz else aC m lv sl:=sW m ks m lv sl rfl
theorem Y8 {e e':aZ} (h:e.lz=some e'):e'.fz=true:=by
 cases e<;>simp only[aZ.lz] at h<;>first|(cases h;rfl)|cases h
theorem pG {X:Cx} {m:List (Tr aZ)} {t:Tr Unit} (h:aA X m t) (ks:List (Nat×Nat)):Ext X (X.lz m ks):=
 Ext.more fun b _ ⟨k,_,hb⟩=>by
  obtain⟨e,L,he,hL,hc,rfl,hz⟩:=jE hb
  obtain⟨L',hL',h2⟩:=h.cz (.inl ⟨k.1,k.2,e,rfl,he,rfl,hz⟩)<;>grind
theorem Eu {X:Cx} {m:List (Tr aZ)} {t:Tr Unit} (h:aA X m t) (ks:List (Nat×Nat)):aA (X.lz m ks) (aX m (di m ks)) t:=by
 let era:List (Nat×Nat)→List (Tr aZ)→List (Tr aZ):=fun ks m=>aX m (ks.map fun k=>(k.1,k.2,none))
 have acR:∀ (ks:List (Nat×Nat)) (m:List (Tr aZ)) (lv sl:Nat),aC (era ks m) lv sl=if (lv,sl)∈ks then none else aC m lv sl:=by
  intro ks
  induction ks with
  |nil=>simp[era,aX]
  |cons k ks ih=>
   intro m lv sl
   simp[era,List.map_cons,aX] at ih ⊢
   rw[ih]
   by_cases h1:(lv,sl)∈ks
   ·simp[h1]
   ·rw[bM]<;>grind[aX,bF,aC]
 have PZ:aA X (era ks m) t:=h.less (fun lv sl e he=>by
  rw[acR] at he
  split at he
  ·cases he
  ·exact he) fun _ h=>h
 have hm0:aA (X.lz m ks) (era ks m) t:=by
  refine PZ.more (fun b o ⟨k,_,hb⟩=>?_) fun k v L o hk hv hc ⟨k',hk',hb⟩=>?_
  ·obtain ⟨e, L, he, hL, hc, rfl, hz⟩ := jE hb
   obtain⟨L',hL',h2⟩:=h.cz (.inl ⟨k.1,k.2,e,rfl,he,rfl,hz⟩)<;>grind
  ·obtain ⟨e, M, he, hM, vT, hMb, hz⟩ := jE hb
   have hh:Holds m t k v∧k≠bw k'.1 k'.2:=by
    rcases hk with⟨lv,sl,e',rfl,he',lU⟩|⟨rfl,he'⟩
    ·grind[aZ.fz,aZ.aa,kW,aC,bw,Holds]
    ·exact⟨.inr ⟨rfl,he'⟩,fun hq=>dI hq.symm⟩
   exact h.apart _ _ _ _ _ _ hh.1 (.inl ⟨k'.1,k'.2,e,rfl,he,rfl,hz⟩) hh.2 hv hM hc vT hMb.symm
 have hh:∀ k v,Holds (aX m (di m ks)) t k v→Holds (era ks m) t k v:=by
  rintro k v (⟨lv,sl,e,rfl,he,hv,hz⟩|⟨rfl,he⟩)
  ·rw [pF] at he
   split at he
   ·obtain ⟨e0, _, T9⟩ := Option.bind_eq_some_iff.1 he
    rw[Y8 T9] at hz;cases hz
   grind[aZ.fz,aZ.aa,Cx.lz,aC,bw,Holds]
  ·exact .inr ⟨rfl,he⟩
 refine⟨fun lv sl e he=>?_,hm0.aB,fun k k' v v' L L' a b=>hm0.apart k k' v v' L L' (hh _ _ a) (hh _ _ b),hm0.ni,hm0.pz⟩
 rw[pF] at he
 split at he
 ·rename_i hk
  obtain⟨e0,he1,T9⟩:=Option.bind_eq_some_iff.1 he
  obtain⟨L,hL,hE⟩:=h.dW _ _ _ he1
  cases e0 with
  |box v cs=>cases T9
  |mp v ks=>cases T9
  |Nd v els=>
   cases T9
   exact⟨L,hL,hE.1,hE.2.ext (pG h ks)⟩
  | row v els =>
   cases T9
   refine⟨L,hL,hE.1,hE.2.1,fun i e j x h1 h2=>?_⟩
   obtain⟨u,hu,hd⟩:=hE.2.2.2 i e j x h1 h2
   have hc:0<L.cap:=by
    have:i<els.length:=(List.getElem?_eq_some_iff.1 h1).1
    have:=hE.1<;>omega
   refine⟨.inr ⟨(lv,sl),hk,?_⟩,u,hu,hd.ext (pG h ks)⟩
   have hL':X.ρ v=some L:=hL
   simp[kW,he1,aZ.aa,hL',aZ.fz,hc]
 ·rename_i hn
  exact hm0.dW lv sl e (by rw[acR,if_neg hn];exact he)
theorem zK {X:Cx} {m:List (Tr aZ)} {t:Tr Unit} (h:aA X m t) {lv sl aa:Nat} {els:List (List D)} (hr:qj m lv sl aa=some els) :
  ∃ L,X.ρ aa=some L∧els.length≤L.cap∧dH X.w X.F (fun b o=>X.F b o∨kW X m (lv,sl)=some b) els L.b L.o L.sz:=by
 unfold qj at hr
 split at hr
 ·rename_i v els' hg
  split at hr
  ·rename_i hv
   simp_all
   subst hv
   obtain⟨L,hL,hE⟩:=h.dW _ _ _ hg
   refine⟨L,hL,hE.1,hE.2.1,fun i e j x h1 h2=>⟨.inr ?_,hE.2.2.2 i e j x h1 h2⟩⟩
   have hc:0<L.cap:=by
    grind[l7,aZ.aa,aC]
   have hL':X.ρ v=some L:=hL
   simp[kW,hg,aZ.aa,hL',aZ.fz,hc]
  grind
 ·rename_i v els' hg
  split at hr
  ·simp_all
   obtain⟨L,hL,hE⟩:=h.dW _ _ _ hg
   grind[l7,aZ.aa,aC,kW,dH]
  grind
 grind
theorem lD {X:Cx} {m:List (Tr aZ)} {t:Tr Unit} (h:aA X m t) {lv sl aa:Nat} {els:List (List D)} (hr:rowAt m lv sl aa=some els) :
  ∃ L,X.ρ aa=some L∧l7 X (.row aa els) L∧aC m lv sl=some (.row aa els):=by
 unfold rowAt at hr
 split at hr
 ·rename_i v els' hg
  split at hr
  ·rename_i hv
   cases hr
   have hv:=beq_true.1 hv
   subst hv
   obtain⟨L,hL,hE⟩:=h.dW _ _ _ hg
   exact⟨L,hL,hE,hg⟩
  grind
 grind
theorem l7.TY {X:Cx} {aa:Nat} {els:List (List D)} {L:Loc} {R:Nat→Nat→Prop} (h:l7 X (.row aa els) L) (hR:0<L.cap→∀ o,R L.b o):dH X.w X.F R els L.b L.o L.sz:=
 ⟨h.2.1, fun i e j x h1 h2 => ⟨hR (by
  grind[l7]) _,h.2.2.2 i e j x h1 h2⟩⟩
theorem dH.ext' {X Y:Cx} (hx:Ext X Y) {R:Nat→Nat→Prop} {els:List (List D)} {b o sz:Nat} (h:dH X.w X.F R els b o sz) (hc:∀ o,Y.w.cell? ⟨b,o,none⟩=X.w.cell? ⟨b,o,none⟩):dH Y.w Y.F R els b o sz:=
 ⟨h.1, fun i e j x h1 h2 => by
  obtain⟨hF,v,hv,hd⟩:=h.2 i e j x h1 h2
  exact⟨hF,v,(hc _).trans hv,hd.ext hx⟩⟩
theorem qM {X:Cx} {m:List (Tr aZ)} {t:Tr Unit} (h:aA X m t) {x:AV} {els:List (List D)} {v:Value} (he:cH m x=some els) (hv:VR X x v) :
  ∃ a cap sz b o,v=.slice a els.length cap∧els.length≤cap∧(0<els.length→a=some ⟨b,o,none⟩)∧dH X.w X.F (fun b o=>X.F b o∨X.old b∨∃ lv sl aa off len sz,x=.ref lv sl aa off len sz∧kW X m (lv,sl)=some b) els b o sz:=by
 cases x with
 | d x =>
  cases x with
  |sc v=>cases he
  |er=>cases he
  |sl els'=>
   cases he
   obtain⟨a,cap,sz,b,o,h1,h2,h3,h4⟩:=uB (.inl rfl) hv<;>grind
 |own els' ow=>
  cases he
  obtain⟨a,cap,sz,b,o,h1,h2,h3,h4⟩:=uB (.inr ⟨_,rfl⟩) hv<;>grind
 | ref lv sl aa off len sz =>
  simp[cH] at he
  cases hr:qj m lv sl aa with
  |none=>grind
  | some els' =>
   rw[hr] at he
   simp only[Option.bind_some] at he
   split at he
   ·cases he
    obtain⟨L,hL,hE1,hE⟩:=zK h hr
    obtain⟨L',a,cap,hL',h1,h2,h3,h4⟩:=hv
    rw[hL] at hL';have hlen:((els'.drop off).take len).length=len:=by grind
    refine⟨a,cap,L.sz,L.b,L.o+off*L.sz,by rw[hlen];exact h2,by omega,fun h0=>?_,?_⟩<;>grind[qj,kW,dH]
   grind
 |_=>cases he
theorem P0 {X:Cx} {m:List (Tr aZ)} {t:Tr Unit} (h:aA X m t) {ks k:List (Nat×Nat)} {x:AV} {y:D} {v:Value} (hx:yB m x=some (y,k)) (hv:VC X x v) (hk:∀ p∈k,p∈ks):DR X.w (X.lz m ks).F y v:=by
 have hex:=pG h ks
 cases x with
 |d x=>cases hx;exact DR.ext hex hv
 | own els ow =>
  cases ow with
  |full=>
   cases hx
   obtain⟨a,b,o,sz,rfl,h3,h4⟩:=hv
   exact DR.fD (h4.ext hex) rfl (Nat.le_refl _) h3
  |bR aa tz=>
   cases hx
   obtain⟨a,b,o,sz,cap,rfl,h2,h3,h4,_⟩:=hv
   exact DR.fD (h4.ext hex) rfl h2 fun h=>h3 (by omega)
  |bB=>cases hx
 | ref lv sl aa off len sz =>
  simp only[yB] at hx
  cases he:cH m (.ref lv sl aa off len sz) with
  |none=>grind
  | some els =>
   rw[he] at hx
   injection hx with hx;injection hx with h1 h2;subst h1
   obtain⟨L',a,cap,hL',g1,g2,g3,g4⟩:=hv
   simp[cH] at he
   cases hr:qj m lv sl aa with
   |none=>grind
   | some els' =>
    rw[hr] at he
    simp only[Option.bind_some] at he
    split at he
    ·cases he
     obtain⟨L,hL,hE1,hE⟩:=zK h hr
     rw[hL] at hL';cases hL'
     subst g2
     have hlen:((els'.drop off).take len).length=len:=by grind
     have hl:=(hE.region (S:=(X.lz m ks).F) fun b o hq=>hq.elim .inl fun hq=>.inr ⟨(lv,sl),hk _ (by rw[←h2];simp),hq⟩).sub off len
     exact DR.fD (hl.ext' hex fun _=>rfl) hlen g3 fun h0=>by rw[(g4 (by omega)).1,g1]
    grind
 |_=>cases hx
theorem Ew {X:Cx} {m:List (Tr aZ)} {t:Tr Unit} (h:aA X m t) {ks:List (Nat×Nat)} : ∀ {xs:List AV} {ys:List D} {k:List (Nat×Nat)} {vs:List Value},Cg m xs=some (ys,k)→aq (VC X) xs vs→(∀ p∈k,p∈ks)→
  aq (DR X.w (X.lz m ks).F) ys vs
 |[],ys,k,[],hx,_,_=>by cases hx;trivial
 | x :: xs, ys, k, v :: vs, hx, hv, hk => by
  simp[Cg] at hx
  split at hx
  ·rename_i y k1 ys' k2 h1 h2
   cases hx
   exact⟨P0 h h1 hv.1 fun p hp=>hk p (by simp[hp]),Ew h h2 hv.2 fun p hp=>hk p (by simp[hp])⟩
  grind
 |[],_,_,_ :: _,_,hv,_=>hv.elim
 |_ :: _,_,_,[],_,hv,_=>hv.elim
end Go.bq
