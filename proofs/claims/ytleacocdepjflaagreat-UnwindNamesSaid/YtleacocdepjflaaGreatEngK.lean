/- Slices built, made, appended to, copied into: against the model. -/
import Derived.Test.YtleacocdepjflaaGreatEngJ
namespace Go.Eng
open Go Go.RowKit
section
variable {P:Program} {X:Cx} {nt:NT} {s:St} {a:Act} {o:Oper} {dst:Option Nat} {nvi:Nat}
theorem tip_less {X:Cx} {m:List (Tr Ent)} {t:Tr Unit} {v:Nat} (h:MemOK X m (t.set v (some ()))):MemOK X m t:=
 h.less (fun _ _ _ h=>h) fun u hu=>by rw[Tr.get_set];split<;>first|rfl|exact hu
theorem buildSlice_ok {lq:Nat} (hs:Sim X nt s a) (hfr:X.ρ nvi=none) {t e:TypeId} {n sz d:Nat} {ps:Array (Nat×Operand)} {z:List D} {zl:List Value} {l:List (Nat×Opd)} {els:List (List D)} {ks:List (Nat×Nat)} {rd:List (Nat×Nat×Nat)} (ho:o.op=.buildSlice t n ps)
  (ht:P.underlying t=some (.slice e)) (hsz:sizeP P e=some sz) (hz:zeroP P e=some zl) (hzd:constDs zl=some z) (hl:partsSl ps.toList=some l) (h24:n*sz≤16777216) (hzl:z.length=sz) (h0:0<sz)
  (hf:fillD s.mem s.slots sz (List.replicate n z) l=some (els,ks)) :
  After P X s a o dst nvi (.eff { val:=.own els .full,upd:=frees s.mem ks,tip:=[],rd })∧
  ((lq,d) ∉ ks→After P X s a o dst nvi (.eff { val:=.ref lq d nvi 0 n sz,upd:=frees s.mem ks++[(lq,d,some (.row nvi els))],tip:=[],rd })):=by
 obtain⟨i,zv,hi,hiz,rfl⟩:=zeroP_run hz
 obtain⟨i',hi',his⟩:=sizeP_run hsz
 rw[hi] at hi';injection hi' with hi';subst hi'
 have hZ:All2 (DR X.w (X.frz s.mem ks).F) z zv.cells.toList:=constDs_ok hzd
 have hrep:=replicate_flat hZ hzl h0 n (n*sz) (Nat.le_refl _)
 rw[madeCells_all] at hrep
 obtain⟨C',h1,h2,h3,h4⟩:=fillD_ok hs ps.toList l _ els ks (madeCells zv.cells (n*sz)) hl (fun e he=>by rw[(List.mem_replicate.1 he).2];exact hzl) hrep hf fun p hp=>hp
 have hrun:=buildSlice_run (P:=P) (X:=X) ho ht hi his hiz h24 h1
 have hm1:=frz_mem hs.mem ks
 have hx1:=frz_ext hs.mem ks
 have hen:els.length=n:=by simpa using h4
 have hC:C'.size=n*sz:=by rw[←hen,←flatten_length h3,h2.length,Array.length_toList]
 refine⟨?_,fun hnk=>?_⟩
 ·have nt := new_tip (X := X.frz s.mem ks) hm1 (C := C') (e := e) (v := nvi) (els := els) (sz := sz) (cap := n) (vs := C'.toList) hfr h3 (by omega) (by omega) (fun j u hj => by simpa using hj) h2
  obtain⟨g1,g2,g3,g4⟩:=nt
  refine .value hrun (hx1.trans g1) ⟨some ⟨X.w.heap.size,0,none⟩,X.w.heap.size,0,sz,?_,fun _=>rfl,g3⟩ (tip_less g2) ⟨Nat.le_refl _,fun v L h=>?_⟩
  ·rw[hen]
  ·rcases g4.2 v L h with h | h | h
   ·exact .inl h
   ·exact .inr (.inl h)
   ·omega
 ·have nr := new_row (X := X.frz s.mem ks) hm1 (C := C') (e := e) (v := nvi) (els := els) (sz := sz) (cap := n) (vs := C'.toList) lq d hfr h3 (by omega) (by omega) (fun j u hj => by simpa using hj) h2
  refine .value (Y:=(X.frz s.mem ks).alloc C' e nvi ⟨X.w.heap.size,0,sz,n⟩) hrun (hx1.trans (Ext.alloc hm1.inF hm1.low hfr)) ⟨⟨X.w.heap.size,0,sz,n⟩,some ⟨X.w.heap.size,0,none⟩,n,new_ρ _ _ _ _ _,rfl,rfl,Nat.le_refl _,fun _=>⟨by simp,by simp⟩⟩ ?_ (alloc_dom (X:=X.frz s.mem ks))
  show MemOK _ (applyUpd s.mem (frees s.mem ks++_)) s.tips
  rw[applyUpd_append]
  exact nr
theorem partsP_of_sl {sz:Nat} : ∀ {ps:List (Nat×Operand)} {l:List (Nat×Opd)},partsSl ps=some l→partsP (fun i=>some (i*sz,sz)) ps=some (l.map fun p=>(p.1*sz,sz,p.2))
 |[],l,h=>by simp only[partsSl,Option.some.injEq] at h;subst h;rfl
 | (i, x) :: r, l, h => by
  simp only[partsSl] at h
  split at h
  ·rename_i y ys h1 h2
   injection h with h;subst h
   simp only[partsP,h1,partsP_of_sl h2,List.map_cons]
  ·cases h
theorem All2.mapD {X:Cx} : ∀ {ds:List D} {vs:List Value},All2 (DR X.w X.F) ds vs→All2 (VC X) (ds.map .d) vs
 |[],[],_=>trivial
 |_ :: _,_ :: _,h=>⟨h.1,All2.mapD h.2⟩
 |[],_ :: _,h=>h.elim
 |_ :: _,[],h=>h.elim
theorem buildBox_ok {lq:Nat} (hs:Sim X nt s a) (hfr:X.ρ nvi=none) {t e:TypeId} {n sz d:Nat} {ps:Array (Nat×Operand)} {z:List D} {zl:List Value} {l:List (Nat×Opd)} {cs:List AV} {rd:List (Nat×Nat×Nat)} (ho:o.op=.buildSlice t n ps)
  (ht:P.underlying t=some (.slice e)) (hsz:sizeP P e=some sz) (hz:zeroP P e=some zl) (hzd:constDs zl=some z) (hl:partsSl ps.toList=some l) (h24:n*sz≤16777216) (hzl:z.length=sz) (h0:0<sz) (hn:n≠0)
  (hf:fillA s.slots ((List.replicate n z).flatten.map .d) (l.map fun p=>(p.1*sz,sz,p.2))=some cs) :
  After P X s a o dst nvi (.eff { val:=.bref lq d nvi 0 n sz,upd:=[(lq,d,some (.box nvi cs))],tip:=[],rd }):=by
 obtain⟨i,zv,hi,hiz,rfl⟩:=zeroP_run hz
 obtain⟨i',hi',his⟩:=sizeP_run hsz
 rw[hi] at hi';injection hi' with hi';subst hi'
 have hZ:All2 (DR X.w X.F) z zv.cells.toList:=constDs_ok hzd
 have hrep:=replicate_flat hZ hzl h0 n (n*sz) (Nat.le_refl _)
 rw[madeCells_all] at hrep
 obtain⟨C',h1,h2⟩:=fillA_ok hs (fun i=>some (i*sz,sz)) ps.toList _ _ cs (madeCells zv.cells (n*sz)) (partsP_of_sl hl) hrep.mapD hf
 have hrun:=buildSlice_run (P:=P) (X:=X) ho ht hi his hiz h24 h1
 exact .value (Y:=X.alloc C' e nvi ⟨X.w.heap.size,0,C'.size,1⟩) hrun (Ext.alloc hs.mem.inF hs.mem.low hfr) ⟨_,n,new_ρ _ _ _ _ _,by simp,Nat.le_refl _,by omega,fun hq=>absurd hq (Nat.lt_irrefl _)⟩ (new_box hs.mem _ _ hfr h2) alloc_dom
theorem makeSlice_ok {lq:Nat} (hs:Sim X nt s a) (hfr:X.ρ nvi=none) {t e:TypeId} {l c d:Nat} {i:TypeInfo} {ln cp:Operand} {ln' cp':Opd} {z:List D} {zl:List Value} {rd:List (Nat×Nat×Nat)} (ho:o.op=.makeSlice t ln cp)
  (ht:P.underlying t=some (.slice e)) (hi:P.info? e=some i) (hz:zeroP P e=some zl) (hzd:constDs zl=some z) (hzl:z.length=i.size) (h0:0<i.size)
  (hln:opd ln=some ln') (hcp:opd cp=some cp') (hl:natOfA (ln'.ev s.slots)=some l) (hc:natOfA (cp'.ev s.slots)=some c) (hlc:l≤c) (hby:i.bytes*c≤roomA) (h63:c≤maxLenA) :
  After P X s a o dst nvi (.eff { val:=.ref lq d nvi 0 l i.size,upd:=[(lq,d,some (.row nvi (List.replicate l z)))],tip:=[],rd }):=by
 obtain⟨i',zv,hi',hiz,rfl⟩:=zeroP_run hz
 rw[hi] at hi';injection hi' with hi';subst hi'
 obtain⟨kl,hle⟩:=natOfA_ok hl (opd_ok hs hln)
 obtain⟨kc,hce⟩:=natOfA_ok hc (opd_ok hs hcp)
 have hr:=run_make (P:=P) X.w t e i zv ht hi hiz kl kc l c (by omega) (by omega) (by
  have:((i.bytes*c:Nat):Int)≤281474976710656:=by unfold roomA at hby;omega
  rwa[Int.natCast_mul] at this) (by unfold maxLenA at h63;omega)
 simp only[Int.toNat_natCast] at hr
 have hZ:All2 (DR X.w X.F) z zv.cells.toList:=constDs_ok hzd
 have hrep:=replicate_flat hZ hzl h0 l (c*i.size) (Nat.mul_le_mul_right _ hlc)
 have nr:=new_row hs.mem (C:=madeCells zv.cells (c*i.size)) (e:=e) (v:=nvi) (els:=List.replicate l z) (sz:=i.size) (cap:=c) lq d hfr (fun e he=>by rw[(List.mem_replicate.1 he).2];exact hzl) (by simp[madeCells]) (by simpa using hlc)
  (vs := (madeCells zv.cells (c * i.size)).toList.take (l * i.size)) (fun j u hj => by
   rw[List.getElem?_take] at hj
   split at hj
   ·simpa using hj
   ·cases hj) hrep
 refine .value (Y:=X.alloc (madeCells zv.cells (c*i.size)) e nvi ⟨X.w.heap.size,0,i.size,c⟩) ?_ (Ext.alloc hs.mem.inF hs.mem.low hfr) ⟨⟨X.w.heap.size,0,i.size,c⟩,some ⟨X.w.heap.size,0,none⟩,c,new_ρ _ _ _ _ _,rfl,rfl,hlc,fun _=>⟨by simp,by simp⟩⟩ nr alloc_dom
 simp[execOp,ho,hle,hce,hr]
 rfl
theorem news_ok {X:Cx} {m:List (Tr Ent)} {t:Tr Unit} (h:MemOK X m t) {y:AV} {news:List (List D)} {v:Value} {sz:Nat} (he:newsOf m y=some news) (hv:VR X y v) (hl:∀ e∈news,e.length=sz) (h0:0<sz) :
  ∃ vs:List Value,All2 (DR X.w X.F) news.flatten vs∧(∀ w:World,(Builtin.lenOf v).run P w=.ok news.length w)∧
   (∀ w:World,(∀ b o,w.cell? ⟨b,o,none⟩=X.w.cell? ⟨b,o,none⟩)→∀ n,n≤news.length→(Builtin.firstCells sz n v).run P w=.ok (vs.take (n*sz)).toArray w):=by
 have data:∀ els,elsOf m y=some els→els=news→∃ vs:List Value,All2 (DR X.w X.F) news.flatten vs∧(∀ w:World,(Builtin.lenOf v).run P w=.ok news.length w)∧
   (∀ w:World,(∀ b o,w.cell? ⟨b,o,none⟩=X.w.cell? ⟨b,o,none⟩)→∀ n,n≤news.length→(Builtin.firstCells sz n v).run P w=.ok (vs.take (n*sz)).toArray w):=by
  rintro els he' rfl
  clear he
  have he:=he'
  obtain⟨ad,cap,sz',b,o,rfl,h2,h3,h4⟩:=elsOf_ok h he hv
  obtain⟨vs,h5,h6⟩:=flat_of_lies h4
  refine⟨vs,h6,fun w=>rfl,fun w hw n hn=>?_⟩
  by_cases hz:els.length=0
  ·have hn : n = 0 := by omega
   subst hn
   cases ad with
   |none=>simp[Builtin.firstCells]
   |some ad=>simp[Builtin.firstCells,loadCells,loadCellsFrom]
  ·have hlt : 0 < els.length := by omega
   have:=h3 hlt
   subst this
   have hs':sz'=sz:=by
    have hm:=List.getElem_mem hlt
    rw[←h4.1 _ hm,hl _ hm]
   subst hs'
   have hlen:(vs.take (n*sz')).length=n*sz':=by
    have:vs.length=els.length*sz':=by rw[←h6.length,flatten_length hl]
    rw[List.length_take,this]
    have:=Nat.mul_le_mul_right sz' hn
    omega
   have:=run_loadCells_list (P:=P) w ⟨b,o,none⟩ (vs.take (n*sz')) fun j u hj=>by
    rw[Addr.add_lit,hw]
    rw[List.getElem?_take] at hj
    split at hj
    ·exact h5 j u hj
    ·cases hj
   rw[hlen] at this
   simpa[Builtin.firstCells] using this
 unfold newsOf at he
 split at he
 ·rename_i bs
  injection he with he
  have hv:=hv.sc
  subst hv
  have hlen:news.length=bs.size:=by rw[←he];simp
  refine⟨bs.data.toList.map fun c=>.int .u8 c.toNat,?_,fun w=>by rw[hlen];rfl,fun w _ n hn=>?_⟩
  ·rw [← he]
   clear he hl hlen
   generalize bs.data.toList=l
   induction l with
   |nil=>trivial
   |cons c l ih=>exact⟨DR.sc _ rfl,ih⟩
  ·by_cases hz : news.length = 0
   ·have hn : n = 0 := by omega
    have hbs:bs.data = #[]:=by
     have:bs.size=0:=by omega
     exact Array.size_eq_zero_iff.1 this
    subst hn
    simp[Builtin.firstCells]
   ·have hs1 : sz = 1 := by
     have hlt:0<news.length:=by omega
     have h1:=hl _ (List.getElem_mem hlt)
     subst he
     simp at h1
     omega
    subst hs1
    simp only[Builtin.firstCells,Sem.run_pure,Nat.mul_one]
    congr 1
    apply Array.ext'
    simp
 ·exact data news he rfl
end
end Go.Eng
