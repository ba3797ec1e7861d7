/- Memory made, frozen and written: the laws under the operations that change it. -/
import Derived.Test.YtokjmkblnafppaaGreatDoorEngF
import Derived.Laws.MakeOwn
set_option linter.unusedVariables false
set_option linter.unusedSimpArgs false
namespace Go.bI
open Go Go.RowKit
theorem fu {α : Type} {sz:Nat} : ∀ {els:List (List α)},(∀ e∈els,e.length=sz)→∀ (i j:Nat) (e:List α),els[i]?=some e→j<sz→els.flatten[i*sz+j]?=e[j]?
 |[],_,i,j,e,h,_=>by simp at h
 |f :: els,hl,0,j,e,h,hj=>by
  simp at h;subst h
  simp only[List.flatten_cons,Nat.zero_mul,Nat.zero_add]
  rw[List.getElem?_append_left (by rw[hl _ (by simp)];exact hj)]
 |f :: els,hl,i+1,j,e,h,hj=>by
  simp only[List.flatten_cons]
  have hf:=hl f (by simp)
  rw[List.getElem?_append_right (by rw[hf,Nat.add_mul];omega),hf,show (i+1)*sz+j-sz=i*sz+j by rw[Nat.add_mul];omega]
  exact fu (fun e he=>hl e (by simp[he])) i j e (by simpa using h) hj
theorem bf {α : Type} {sz:Nat} : ∀ {els:List (List α)},(∀ e∈els,e.length=sz)→els.flatten.length=els.length*sz
 |[],_=>by simp
 |f :: els,hl=>by
  simp only[List.flatten_cons,List.length_append,List.length_cons,Nat.add_mul]
  rw[bf (fun e he=>hl e (by simp[he])),hl f (by simp)]
  omega
theorem xR {α : Type} (a b:List (List α)):(a++b).flatten=a.flatten++b.flatten:=by simp
theorem pW {α : Type} {sz:Nat} : ∀ {els:List (List α)},(∀ e∈els,e.length=sz)→∀ (i:Nat) (e:List α),i<els.length→e.length=sz→(els.set i e).flatten=splice els.flatten (i*sz) e
 |[],_,i,e,h,_=>by simp at h
 |f :: els,hl,0,e,_,he=>by
  have hf:=hl f (by simp)
  simp only[List.set_cons_zero,List.flatten_cons,Nat.zero_mul,splice,List.take_zero,List.nil_append,Nat.zero_add]
  rw[List.drop_append_of_le_length (by omega),List.drop_of_length_le (by omega),List.nil_append]
 |f :: els,hl,i+1,e,h,he=>by
  have hf:=hl f (by simp)
  simp only[List.set_cons_succ,List.flatten_cons]
  rw[pW (fun e he=>hl e (by simp[he])) i e (by simpa using h) he]
  unfold splice
  rw[show (i+1)*sz=f.length+i*sz by rw[Nat.add_mul];omega]
  rw[List.take_append,List.take_of_length_le (l:=f) (by omega),show f.length+i*sz-f.length=i*sz by omega]
  rw[List.drop_append,List.drop_of_length_le (l:=f) (by omega),show f.length+i*sz+e.length-f.length=i*sz+e.length by omega]
  simp[List.append_assoc]
theorem tM {w:World} {F R:Nat→Nat→Prop} {els:List (List D)} {b o sz:Nat} {C:Array Value} {e:TypeId} {vs:List Value} (hb:w.heap[b]?=some (.cells C e (0,0))) (hl:∀ e∈els,e.length=sz)
  (hv:∀ j v,vs[j]?=some v→C[o+j]?=some v) (h:az (DR w F) els.flatten vs) (hR:∀ k,k<els.length*sz→R b (o+k)):eW w F R els b o sz:=by
 refine⟨hl,fun i e j x h1 h2=>?_⟩
 have hj:j<sz:=by rw[←hl e (List.mem_of_getElem? h1)];exact (List.getElem?_eq_some_iff.1 h2).1
 have hi:i<els.length:=(List.getElem?_eq_some_iff.1 h1).1
 have hg:=fu hl i j e h1 hj
 rw[h2] at hg
 obtain⟨v,h3,h4⟩:=h.get _ _ hg
 have hlt:i*sz+j<els.length*sz:=by
  have:=(List.getElem?_eq_some_iff.1 hg).1
  rwa[bf hl] at this
 rw[Nat.add_assoc]
 exact⟨hR _ hlt,v,by rw[cell_of_row _ _ _ _ _ _ hb];exact hv _ _ h3,h4⟩
theorem tN {w:World} {F R:Nat→Nat→Prop} {els:List (List D)} {b o sz:Nat} (h:eW w F R els b o sz):∃ vs:List Value,(∀ j v,vs[j]?=some v→w.cell? ⟨b,o+j,none⟩=some v)∧az (DR w F) els.flatten vs:=by
 refine za els.flatten fun k x hk=>?_
 have hlen:=bf h.1
 have hk':k<els.length*sz:=by rw[←hlen];exact (List.getElem?_eq_some_iff.1 hk).1
 have hsz:0<sz:=Nat.pos_of_ne_zero fun e=>by subst e;omega
 have hi:k / sz<els.length:=(Nat.div_lt_iff_lt_mul hsz).2 hk'
 have hj:k % sz<sz:=Nat.mod_lt _ hsz
 have he:els[k / sz]?=some els[k / sz]:=List.getElem?_eq_getElem hi
 have hg:=fu h.1 (k / sz) (k % sz) _ he hj
 have hkk:k / sz*sz+k % sz=k:=by rw[Nat.mul_comm];exact Nat.div_add_mod k sz
 rw[hkk,hk] at hg
 obtain⟨_,v,h1,h2⟩:=h.2 _ _ _ _ he hg.symm
 rw[Nat.add_assoc,hkk] at h1
 exact⟨v,h1,h2⟩
def Cx.alloc (X:Cx) (C:Array Value) (e:TypeId) (v:Nat) (L:Loc):Cx:={ X with w:=X.w.alloc (.cells C e),ρ:=fun u=>if u=v then some L else X.ρ u }
theorem aB.cR {X:Cx} {m:List (Tr bH)} {t:Tr Unit} (h:aB X m t) {k:Nat×Nat×Nat} {v:Nat} (hk:Holds m t k v):∃ L,X.ρ v=some L∧(0<L.cap→L.b<X.w.heap.size∧¬X.old L.b):=by
 rcases hk with⟨lv,sl,e,_,he,rfl,hz⟩|⟨_,he⟩
 ·obtain ⟨L, hL, hE⟩ := h.ec lv sl e he
  refine⟨L,hL,fun hc=>?_⟩
  cases e with
  |KT _ _=>cases hz
  |row _ _=>exact⟨(hE.2.2.1 hc).1.lt,(hE.2.2.1 hc).1.1⟩
  |box _ _=>exact⟨hE.2.1.lt,hE.2.1.1⟩
  |mp _ _=>
   obtain⟨_,h2,_,es,clock,h4,_⟩:=hE
   refine⟨?_,h2⟩
   rcases Nat.lt_or_ge L.b X.w.heap.size with hl|hl
   ·exact hl
   ·rw[Array.getElem?_eq_none hl] at h4;cases h4
 ·obtain ⟨L, hL, hT⟩ := h.aE v he
  exact⟨L,hL,fun hc=>⟨(hT hc).1.lt,(hT hc).1.1⟩⟩
theorem sE {w:World} {b o:Nat} {ob:Obj} (h:b<w.heap.size):(w.alloc ob).cell? ⟨b,o,none⟩=w.cell? ⟨b,o,none⟩:=World.cell?_alloc_lt w ob ⟨b,o,none⟩ h
theorem Ext.alloc {X:Cx} {C:Array Value} {e:TypeId} {v:Nat} {L:Loc} (hin:∀ b o,X.F b o→b<X.w.heap.size) (mb:∀ b,X.old b→b<X.w.heap.size) (hv:X.ρ v=none):Ext X (X.alloc C e v L):=
 ⟨rfl, (dO.refl _ _).alloc mb _, fun _ _ h => h, fun b o h => sE (hin b o h), fun u M hu => by
  show (if u=v then some L else X.ρ u)=some M
  rw[if_neg (by rintro rfl;rw[hv] at hu;cases hu)]
  exact hu,fun _ _ h=>.inl h⟩
theorem aB.alloc {X:Cx} {m:List (Tr bH)} {t:Tr Unit} {C:Array Value} {e:TypeId} {v:Nat} {L:Loc} (h:aB X m t) (hv:X.ρ v=none):aB (X.alloc C e v L) m t:=
 h.move (Ext.alloc h.mI h.low hv) (fun k u M hk hu hc=>by
   obtain⟨M',gG,h2⟩:=h.cR hk
   rw[hu] at gG;injection gG with gG;subst gG
   exact heap_alloc_old _ _ _ (h2 hc).1) (fun _ _ _ _ _ _ _ h=>h) (fun b o hb=>by
   have:=h.mI b o hb
   show b<(X.w.alloc _).heap.size
   rw[World.size_alloc];omega)
def Cx.more (X:Cx) (G:Nat→Nat→Prop):Cx:={ X with F:=fun b o=>X.F b o∨G b o }
theorem Ext.more {X:Cx} {G:Nat→Nat→Prop} (hG:∀ b o,G b o→¬X.old b):Ext X (X.more G):=
 ⟨rfl,dO.refl _ _,fun _ _=>.inl,fun _ _ _=>rfl,fun _ _ h=>h,fun b o h=>h.elim .inl fun h=>.inr (hG b o h)⟩
theorem aB.more {X:Cx} {m:List (Tr bH)} {t:Tr Unit} {G:Nat→Nat→Prop} (h:aB X m t) (hG:∀ b o,G b o→¬X.old b∧b<X.w.heap.size)
  (hk:∀ k v L o,Holds m t k v→X.ρ v=some L→0<L.cap→¬G L.b o):aB (X.more G) m t:=
 h.move (Ext.more fun b o h=>(hG b o h).1) (fun _ _ _ _ _ _=>rfl) (fun k v L o a b c h=>h.elim id fun h=>absurd h (hk k v L o a b c)) fun b o hb=>hb.elim (h.mI b o) fun hb=>(hG b o hb).2
def ou (X:Cx) (m:List (Tr bH)) (k:Nat×Nat):Option Nat:=(aN m k.1 k.2).bind fun e=>(X.ρ e.af).bind fun L=>if 0<L.cap∧e.fz=false then some L.b else none
def Cx.j5 (X:Cx) (m:List (Tr bH)) (ks:List (Nat×Nat)):Cx:=X.more fun b _=>∃ k∈ks,ou X m k=some b
theorem jN {X:Cx} {m:List (Tr bH)} {k:Nat×Nat} {b:Nat} (h:ou X m k=some b):∃ e L,aN m k.1 k.2=some e∧X.ρ e.af=some L∧0<L.cap∧L.b=b∧e.fz=false:=by
 unfold ou at h
 cases he:aN m k.1 k.2 with
 |none=>rw[he] at h;cases h
 | some e =>
  rw[he] at h
  simp only[Option.bind_some] at h
  cases hL:X.ρ e.af with
  |none=>rw[hL] at h;cases h
  | some L =>
   rw[hL] at h
   simp only[Option.bind_some] at h
   split at h
   ·rename_i hc
    injection h with h
    exact⟨e,L,rfl,hL,hc.1,h,hc.2⟩
   ·cases h
theorem rT (m0:List (Tr bH)):∀ (ks:List (Nat×Nat)) (m:List (Tr bH)) (lv sl:Nat),m.length=m0.length→aN (bB m (dy m0 ks)) lv sl=if (lv,sl)∈ks then (aN m0 lv sl).bind bH.j5 else aN m lv sl
 |[],m,lv,sl,_=>by simp[dy,bB]
 | k :: ks, m, lv, sl, hl0 => by
  have ih:=rT m0 ks (bN m k.1 k.2 ((aN m0 k.1 k.2).bind bH.j5)) lv sl (by simpa[bN] using hl0)
  simp only[dy,List.map_cons,bB] at ih ⊢
  rw[ih]
  by_cases h1:(lv,sl)∈ks
  ·simp[h1]
  ·simp only [h1, if_false, List.mem_cons, or_false]
   rw[bX]
   by_cases h2:(lv,sl)=k
   ·subst h2
    simp only[if_true,true_and]
    split
    ·rfl
    ·rename_i hl
     unfold aN
     rw[List.getElem?_eq_none (by omega),List.getElem?_eq_none (by omega)]
     rfl
   ·rw [if_neg h2, if_neg]
    rintro⟨rfl,rfl,_⟩
    exact h2 rfl
theorem ov (ks:List (Nat×Nat)) (m:List (Tr bH)) (lv sl:Nat):aN (bB m (dy m ks)) lv sl=if (lv,sl)∈ks then (aN m lv sl).bind bH.j5 else aN m lv sl:=rT m ks m lv sl rfl
theorem UY {e e':bH} (h:e.j5=some e'):e'.fz=true:=by
 cases e<;>simp only[bH.j5] at h<;>first|(cases h;rfl)|cases h
theorem oA {X:Cx} {m:List (Tr bH)} {t:Tr Unit} (h:aB X m t) (ks:List (Nat×Nat)):Ext X (X.j5 m ks):=
 Ext.more fun b _ ⟨k,_,hb⟩=>by
  obtain⟨e,L,he,hL,hc,rfl,hz⟩:=jN hb
  obtain⟨L',hL',h2⟩:=h.cR (.inl ⟨k.1,k.2,e,rfl,he,rfl,hz⟩)
  rw[hL] at hL';injection hL' with hL';subst hL'
  exact (h2 hc).2
theorem Dn {X:Cx} {m:List (Tr bH)} {t:Tr Unit} (h:aB X m t) (ks:List (Nat×Nat)):aB (X.j5 m ks) (bB m (dy m ks)) t:=by
 let era:List (Nat×Nat)→List (Tr bH)→List (Tr bH):=fun ks m=>bB m (ks.map fun k=>(k.1,k.2,none))
 have Rb : ∀ (ks : List (Nat × Nat)) (m : List (Tr bH)) (lv sl : Nat), aN (era ks m) lv sl = if (lv, sl) ∈ ks then none else aN m lv sl := by
  intro ks
  induction ks with
  |nil=>intro m lv sl;simp[era,bB]
  | cons k ks ih =>
   intro m lv sl
   have ih:=ih (bN m k.1 k.2 none) lv sl
   simp only[era,List.map_cons,bB] at ih ⊢
   rw[ih]
   by_cases h1:(lv,sl)∈ks
   ·simp[h1]
   ·simp only [h1, if_false, List.mem_cons, or_false]
    rw[bX]
    by_cases h2:(lv,sl)=k
    ·subst h2
     simp only[if_true,true_and]
     split
     ·rfl
     ·rename_i hl
      unfold aN
      rw[List.getElem?_eq_none (by omega)]
      rfl
    ·rw [if_neg h2, if_neg]
     rintro⟨rfl,rfl,_⟩
     exact h2 rfl
 have Nc:aB X (era ks m) t:=h.less (fun lv sl e he=>by
  rw[Rb] at he
  split at he
  ·cases he
  ·exact he) fun _ h=>h
 have hm0 : aB (X.j5 m ks) (era ks m) t := by
  refine Nc.more (fun b o ⟨k,_,hb⟩=>?_) fun k v L o hk hv hc ⟨k',hk',hb⟩=>?_
  ·obtain ⟨e, L, he, hL, hc, rfl, hz⟩ := jN hb
   obtain⟨L',hL',h2⟩:=h.cR (.inl ⟨k.1,k.2,e,rfl,he,rfl,hz⟩)
   rw[hL] at hL';injection hL' with hL';subst hL'
   exact⟨(h2 hc).2,(h2 hc).1⟩
  ·obtain ⟨e, M, he, hM, tO, hMb, hz⟩ := jN hb
   have hh:Holds m t k v∧k≠cg k'.1 k'.2:=by
    rcases hk with⟨lv,sl,e',rfl,he',jd⟩|⟨rfl,he'⟩
    ·rw [Rb] at he'
     split at he'
     ·cases he'
     ·rename_i hn
      refine⟨.inl ⟨lv,sl,e',rfl,he',jd⟩,fun hq=>?_⟩
      obtain⟨rfl,rfl⟩:=kO hq
      exact hn hk'
    ·exact⟨.inr ⟨rfl,he'⟩,fun hq=>dI hq.symm⟩
   exact h.apart _ _ _ _ _ _ hh.1 (.inl ⟨k'.1,k'.2,e,rfl,he,rfl,hz⟩) hh.2 hv hM hc tO hMb.symm
 have hh:∀ k v,Holds (bB m (dy m ks)) t k v→Holds (era ks m) t k v:=by
  rintro k v (⟨lv,sl,e,rfl,he,hv,hz⟩|⟨rfl,he⟩)
  ·rw [ov] at he
   split at he
   ·obtain ⟨e0, _, MP⟩ := Option.bind_eq_some_iff.1 he
    rw[UY MP] at hz;cases hz
   ·rename_i hn
    exact .inl ⟨lv,sl,e,rfl,by rw[Rb,if_neg hn];exact he,hv,hz⟩
  ·exact .inr ⟨rfl,he⟩
 refine⟨fun lv sl e he=>?_,hm0.aE,fun k k' v v' L L' a b=>hm0.apart k k' v v' L L' (hh _ _ a) (hh _ _ b),hm0.mI,hm0.oq⟩
 rw[ov] at he
 split at he
 ·rename_i hk
  obtain⟨e0,ZB,MP⟩:=Option.bind_eq_some_iff.1 he
  obtain⟨L,hL,hE⟩:=h.ec _ _ _ ZB
  cases e0 with
  |box v cs=>cases MP
  |mp v ks=>cases MP
  |KT v els=>
   cases MP
   exact⟨L,hL,hE.1,hE.2.ext (oA h ks)⟩
  | row v els =>
   cases MP
   refine⟨L,hL,hE.1,hE.2.1,fun i e j x h1 h2=>?_⟩
   obtain⟨u,hu,hd⟩:=hE.2.2.2 i e j x h1 h2
   have hc:0<L.cap:=by
    have:i<els.length:=(List.getElem?_eq_some_iff.1 h1).1
    have:=hE.1
    omega
   refine⟨.inr ⟨(lv,sl),hk,?_⟩,u,hu,hd.ext (oA h ks)⟩
   have hL':X.ρ v=some L:=hL
   simp[ou,ZB,bH.af,hL',bH.fz,hc]
 ·rename_i hn
  exact hm0.ec lv sl e (by rw[Rb,if_neg hn];exact he)
theorem zg {X:Cx} {m:List (Tr bH)} {t:Tr Unit} (h:aB X m t) {lv sl af:Nat} {els:List (List D)} (hr:nj m lv sl af=some els) :
  ∃ L,X.ρ af=some L∧els.length≤L.cap∧eW X.w X.F (fun b o=>X.F b o∨ou X m (lv,sl)=some b) els L.b L.o L.sz:=by
 unfold nj at hr
 split at hr
 ·rename_i v els' hg
  split at hr
  ·rename_i hv
   injection hr with hr;subst hr
   have hv:=beq_true.1 hv
   subst hv
   obtain⟨L,hL,hE⟩:=h.ec _ _ _ hg
   refine⟨L,hL,hE.1,hE.2.1,fun i e j x h1 h2=>⟨.inr ?_,hE.2.2.2 i e j x h1 h2⟩⟩
   have hc:0<L.cap:=by
    have:i<els'.length:=(List.getElem?_eq_some_iff.1 h1).1
    have:=hE.1
    omega
   have hL':X.ρ v=some L:=hL
   simp[ou,hg,bH.af,hL',bH.fz,hc]
  ·cases hr
 ·rename_i v els' hg
  split at hr
  ·rename_i hv
   injection hr with hr;subst hr
   have hv:=beq_true.1 hv
   subst hv
   obtain⟨L,hL,hE⟩:=h.ec _ _ _ hg
   exact⟨L,hL,hE.1,hE.2.1,fun i e j x h1 h2=>⟨.inl (hE.2.2 i e j x h1 h2).1,(hE.2.2 i e j x h1 h2).2⟩⟩
  ·cases hr
 ·cases hr
theorem kP {X:Cx} {m:List (Tr bH)} {t:Tr Unit} (h:aB X m t) {lv sl af:Nat} {els:List (List D)} (hr:rowAt m lv sl af=some els) :
  ∃ L,X.ρ af=some L∧wv X (.row af els) L∧aN m lv sl=some (.row af els):=by
 unfold rowAt at hr
 split at hr
 ·rename_i v els' hg
  split at hr
  ·rename_i hv
   injection hr with hr;subst hr
   have hv:=beq_true.1 hv
   subst hv
   obtain⟨L,hL,hE⟩:=h.ec _ _ _ hg
   exact⟨L,hL,hE,hg⟩
  ·cases hr
 ·cases hr
theorem wv.QY {X:Cx} {af:Nat} {els:List (List D)} {L:Loc} {R:Nat→Nat→Prop} (h:wv X (.row af els) L) (hR:0<L.cap→∀ o,R L.b o):eW X.w X.F R els L.b L.o L.sz:=
 ⟨h.2.1, fun i e j x h1 h2 => ⟨hR (by
  have:i<els.length:=(List.getElem?_eq_some_iff.1 h1).1
  have:=h.1
  omega) _,h.2.2.2 i e j x h1 h2⟩⟩
theorem eW.ext' {X Y:Cx} (hx:Ext X Y) {R:Nat→Nat→Prop} {els:List (List D)} {b o sz:Nat} (h:eW X.w X.F R els b o sz) (hc:∀ o,Y.w.cell? ⟨b,o,none⟩=X.w.cell? ⟨b,o,none⟩):eW Y.w Y.F R els b o sz:=
 ⟨h.1, fun i e j x h1 h2 => by
  obtain⟨hF,v,hv,hd⟩:=h.2 i e j x h1 h2
  exact⟨hF,v,(hc _).trans hv,hd.ext hx⟩⟩
theorem pX {X:Cx} {m:List (Tr bH)} {t:Tr Unit} (h:aB X m t) {x:AV} {els:List (List D)} {v:Value} (he:dK m x=some els) (hv:VR X x v) :
  ∃ a cap sz b o,v=.slice a els.length cap∧els.length≤cap∧(0<els.length→a=some ⟨b,o,none⟩)∧eW X.w X.F (fun b o=>X.F b o∨X.old b∨∃ lv sl af off len sz,x=.ref lv sl af off len sz∧ou X m (lv,sl)=some b) els b o sz:=by
 cases x with
 | d x =>
  cases x with
  |sc v=>cases he
  |er=>cases he
  |sl els'=>
   simp only[dK] at he;injection he with he;subst he
   obtain⟨a,cap,sz,b,o,h1,h2,h3,h4⟩:=tL (.inl rfl) hv
   exact⟨a,cap,sz,b,o,h1,h2,h3,h4.region fun _ _ h=>h.elim .inl fun h=>.inr (.inl h)⟩
 |own els' ow=>
  simp only[dK] at he;injection he with he;subst he
  obtain⟨a,cap,sz,b,o,h1,h2,h3,h4⟩:=tL (.inr ⟨_,rfl⟩) hv
  exact⟨a,cap,sz,b,o,h1,h2,h3,h4.region fun _ _ h=>h.elim .inl fun h=>.inr (.inl h)⟩
 | ref lv sl af off len sz =>
  simp only[dK] at he
  cases hr:nj m lv sl af with
  |none=>rw[hr] at he;cases he
  | some els' =>
   rw[hr] at he
   simp only[Option.bind_some] at he
   split at he
   ·rename_i hle
    injection he with he;subst he
    obtain⟨L,hL,hE1,hE⟩:=zg h hr
    obtain⟨L',a,cap,hL',h1,h2,h3,h4⟩:=hv
    rw[hL] at hL';injection hL' with hL';subst hL'
    have hlen:((els'.drop off).take len).length=len:=by simp;omega
    refine⟨a,cap,L.sz,L.b,L.o+off*L.sz,by rw[hlen];exact h2,by omega,fun h0=>?_,?_⟩
    ·rw[(h4 (by omega)).1,h1]
    ·exact (hE.region fun b o hq=>hq.elim .inl fun hq=>.inr (.inr ⟨_,_,_,_,_,_,rfl,hq⟩)).sub off len
   ·cases he
 |_=>cases he
theorem Nd {X:Cx} {m:List (Tr bH)} {t:Tr Unit} (h:aB X m t) {ks k:List (Nat×Nat)} {x:AV} {y:D} {v:Value} (hx:xM m x=some (y,k)) (hv:VC X x v) (hk:∀ p∈k,p∈ks):DR X.w (X.j5 m ks).F y v:=by
 have hex:=oA h ks
 cases x with
 |d x=>simp only[xM] at hx;injection hx with hx;injection hx with h1 h2;subst h1;exact DR.ext hex hv
 | own els ow =>
  cases ow with
  |full=>
   simp only[xM] at hx;injection hx with hx;injection hx with h1 h2;subst h1
   obtain⟨a,b,o,sz,rfl,h3,h4⟩:=hv
   exact DR.fL (h4.ext hex) rfl (Nat.le_refl _) h3
  |cx af tz=>
   simp only[xM] at hx;injection hx with hx;injection hx with h1 h2;subst h1
   obtain⟨a,b,o,sz,cap,rfl,h2,h3,h4,_⟩:=hv
   exact DR.fL (h4.ext hex) rfl h2 fun h=>h3 (by omega)
  |aJ=>cases hx
 | ref lv sl af off len sz =>
  simp only[xM] at hx
  cases he:dK m (.ref lv sl af off len sz) with
  |none=>rw[he] at hx;cases hx
  | some els =>
   rw[he] at hx
   simp only[Option.map_some] at hx
   injection hx with hx;injection hx with h1 h2;subst h1
   obtain⟨L',a,cap,hL',g1,g2,g3,g4⟩:=hv
   simp only[dK] at he
   cases hr:nj m lv sl af with
   |none=>rw[hr] at he;cases he
   | some els' =>
    rw[hr] at he
    simp only[Option.bind_some] at he
    split at he
    ·rename_i hle
     injection he with he;subst he
     obtain⟨L,hL,hE1,hE⟩:=zg h hr
     rw[hL] at hL';injection hL' with hL';subst hL'
     subst g2
     have hlen:((els'.drop off).take len).length=len:=by simp;omega
     have hl:=(hE.region (S:=(X.j5 m ks).F) fun b o hq=>hq.elim .inl fun hq=>.inr ⟨(lv,sl),hk _ (by rw[←h2];simp),hq⟩).sub off len
     exact DR.fL (hl.ext' hex fun _=>rfl) hlen g3 fun h0=>by rw[(g4 (by omega)).1,g1]
    ·cases he
 |_=>cases hx
theorem Dp {X:Cx} {m:List (Tr bH)} {t:Tr Unit} (h:aB X m t) {ks:List (Nat×Nat)} : ∀ {xs:List AV} {ys:List D} {k:List (Nat×Nat)} {vs:List Value},yU m xs=some (ys,k)→az (VC X) xs vs→(∀ p∈k,p∈ks)→
  az (DR X.w (X.j5 m ks).F) ys vs
 |[],ys,k,[],hx,_,_=>by simp only[yU] at hx;injection hx with hx;injection hx with h1 h2;subst h1;trivial
 | x :: xs, ys, k, v :: vs, hx, hv, hk => by
  simp only[yU] at hx
  split at hx
  ·rename_i y k1 ys' k2 h1 h2
   injection hx with hx;injection hx with e1 e2;subst e1;subst e2
   exact⟨Nd h h1 hv.1 fun p hp=>hk p (by simp[hp]),Dp h h2 hv.2 fun p hp=>hk p (by simp[hp])⟩
  ·cases hx
 |[],_,_,_ :: _,_,hv,_=>hv.elim
 |_ :: _,_,_,[],_,hv,_=>hv.elim
end Go.bI
