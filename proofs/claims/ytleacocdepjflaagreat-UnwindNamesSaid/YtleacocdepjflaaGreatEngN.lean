/- copy, clear, min, max. -/
import Derived.Test.YtleacocdepjflaaGreatEngMB
namespace Go.Eng
open Go Go.RowKit
theorem flatten_take_drop {α : Type} {sz:Nat} : ∀ {els:List (List α)},(∀ e∈els,e.length=sz)→∀ k,k≤els.length→(els.take k).flatten=els.flatten.take (k*sz)∧(els.drop k).flatten=els.flatten.drop (k*sz)
 |els,hl,0,_=>by simp
 |[],hl,k+1,h=>by simp at h
 |f :: els,hl,k+1,h=>by
  have ih:=flatten_take_drop (els:=els) (fun e he=>hl e (by simp[he])) k (by simpa using h)
  have hf:=hl f (by simp)
  simp only[List.take_succ_cons,List.flatten_cons,List.drop_succ_cons,ih.1,ih.2]
  rw[show (k+1)*sz=f.length+k*sz by rw[Nat.add_mul,hf];omega]
  refine⟨?_,?_⟩
  ·rw[List.take_append,List.take_of_length_le (l:=f) (by omega),show f.length+k*sz-f.length=k*sz by omega]
  ·rw[List.drop_append,List.drop_of_length_le (l:=f) (by omega),show f.length+k*sz-f.length=k*sz by omega,List.nil_append]
theorem flatten_splice {α : Type} {sz:Nat} {els new:List (List α)} (hl:∀ e∈els,e.length=sz) (hn:∀ e∈new,e.length=sz) {off:Nat} (h:off+new.length≤els.length):(splice els off new).flatten=splice els.flatten (off*sz) new.flatten:=by
 unfold splice
 rw[List.flatten_append,List.flatten_append,(flatten_take_drop hl off (by omega)).1,(flatten_take_drop hl (off+new.length) h).2,flatten_length hn,Nat.add_mul]
theorem splice_nil {α : Type} (els:List α) (off:Nat):splice els off []=els:=by simp[splice]
section
variable {P:Program} {X:Cx} {nt:NT} {s:St} {a:Act} {o:Oper} {dst:Option Nat} {nvi:Nat}
theorem MemOK.same {m:List (Tr Ent)} {t:Tr Unit} (h:MemOK X m t) {lv sl:Nat} {e:Ent} (hg:memGet m lv sl=some e):MemOK X (memSet m lv sl (some e)) t:=
 h.congr (fun lv' sl'=>by
  rw[memGet_set]
  split
  ·rename_i hc
   rw[←hc.1,←hc.2.1,hg]
  ·rfl) fun _=>rfl
theorem row_splice {m:List (Tr Ent)} {t:Tr Unit} (h:MemOK X m t) {lv sl ver off:Nat} {els new:List (List D)} {vs:List Value} {L:Loc} (hg:memGet m lv sl=some (.row ver els)) (hL:X.ρ ver=some L) (hoff:off+new.length≤els.length) (hn:∀ e∈new,e.length=L.sz) (hd:All2 (DR X.w X.F) new.flatten vs) (h0:0<new.length) :
  ∃ Y,Ext X Y∧Y.ρ = X.ρ∧MemOK Y (memSet m lv sl (some (.row ver (splice els off new)))) t∧(storeCells ⟨L.b,L.o+off*L.sz,none⟩ vs).run P X.w=.ok () Y.w:=by
 obtain⟨L',hL',e1,e2,_,_⟩:=h.ents _ _ _ hg
 have:X.ρ ver=some L':=hL'
 rw[hL] at this;injection this with this;subst this
 have hvl:vs.length=new.length*L.sz:=by rw[←hd.length,flatten_length hn]
 have hfl:=flatten_splice e2 hn hoff
 have hfll:=flatten_length e2
 have hle:off*L.sz+new.length*L.sz≤els.length*L.sz:=by rw[←Nat.add_mul];exact Nat.mul_le_mul_right _ hoff
 have hcl:els.length*L.sz≤L.cap*L.sz:=Nat.mul_le_mul_right _ e1
 refine row_write (P:=P) h hg hL (by omega) (by omega) ?_ (fun f hf=>?_) (by rw[length_splice' _ _ _ hoff];exact e1) fun j x hj=>?_
 ·rw [hfl, hvl, ← flatten_length hn, take_drop_splice _ _ _ (by omega)]
  exact hd
 ·unfold splice at hf
  rcases List.mem_append.1 hf with hf|hf
  ·rcases List.mem_append.1 hf with hf | hf
   ·exact e2 f (List.mem_of_mem_take hf)
   ·exact hn f hf
  ·exact e2 f (List.mem_of_mem_drop hf)
 ·rw [hfl, getElem?_splice _ _ _ (by rw [flatten_length hn]; omega)] at hj
  rw[flatten_length hn] at hj
  split at hj
  ·exact .inl (by omega)
  ·exact .inr hj
theorem copy_run {t u:TypeId} {e:TypeId} {i:TypeInfo} {x y:Operand} {ad:Option Addr} {len cap m:Nat} {cells:List Value} (ho:o.op=.call { callee:=.builtin .copy,args:=#[x,y],argTypes:=#[t,u] }) (ht:P.underlying t=some (.slice e)) (hi:P.info? e=some i) (hx:a.eval x=.slice ad len cap)
  (hl:(Builtin.lenOf (a.eval y)).run P X.w=.ok m X.w) (hf:(Builtin.firstCells i.size (Nat.min m len) (a.eval y)).run P X.w=.ok cells.toArray X.w) :
  (execOp a.eval o).run P X.w = match ad with
   |some ad=>((storeCells ad cells).run P X.w).andThen fun _ w'=>.ok (.value (goInt (Nat.min m len))) w'
   |none=>.ok (.value (goInt (Nat.min m len))) X.w:=by
 cases ad with
 |none=>simp[execOp,ho,resolve,invoke,builtin,Builtin.copy_,run_underlying ht,hx,hl,sizeOf,typeInfo,hi,hf]
 |some ad=>
  simp[execOp,ho,resolve,invoke,builtin,Builtin.copy_,run_underlying ht,hx,hl,sizeOf,typeInfo,hi,hf]
  cases Sem.run P (storeCells ad cells) X.w<;>rfl
theorem copyRow_ok (hs:Sim X nt s a) {t u e:TypeId} {i:TypeInfo} {x y:Operand} {x' y':Opd} {lv sl ver off ln:Nat} {els news:List (List D)} {rd:List (Nat×Nat×Nat)} (ho:o.op=.call { callee:=.builtin .copy,args:=#[x,y],argTypes:=#[t,u] }) (ht:P.underlying t=some (.slice e)) (hi:P.info? e=some i) (h0:0<i.size)
  (hx:opd x=some x') (hy:opd y=some y') (hq:x'.ev s.slots=.ref lv sl ver off ln i.size) (hn:newsOf s.mem (y'.ev s.slots)=some news) (hr:rowAt s.mem lv sl ver=some els) (hle:off+ln≤els.length) (hal:∀ e∈news,e.length=i.size) :
  After P X s a o dst nvi (.eff { val:=intA (min news.length ln),upd:=[(lv,sl,some (.row ver (splice els off (news.take (min news.length ln)))))],tip:=[],rd }):=by
 obtain⟨vs,hd,hlen,hfc⟩:=news_ok (P:=P) hs.mem hn (opd_ok hs hy) hal h0
 have hv:=opd_ok hs hx
 rw[hq] at hv
 obtain⟨L,ad,cap,hL,h1,h2,h3,h4⟩:=hv
 obtain⟨L',hL',hE,hg⟩:=row_lies hs.mem hr
 rw[hL] at hL';injection hL' with hL';subst hL'
 have hmin:Nat.min news.length ln=min news.length ln:=rfl
 have hrun:=copy_run (P:=P) (X:=X) ho ht hi h2 (hlen X.w) (hfc X.w (fun _ _=>rfl) _ (Nat.min_le_left _ _))
 rw[hmin] at hrun
 have htl:(news.take (min news.length ln)).length=min news.length ln:=by rw[List.length_take];omega
 by_cases hz:min news.length ln=0
 ·have hnil : news.take (min news.length ln) = [] := by rw [hz]; rfl
  refine .value (Y:=X) (v:=goInt ((min news.length ln:Nat):Int)) ?_ (Ext.refl X) (.of_sc rfl) ?_ (DomOK.refl _ _ _)
  ·rw [hrun]
   cases ad with
   |none=>rfl
   |some ad=>rw[hz];simp[storeCells]
  ·rw [hnil, splice_nil]
   exact hs.mem.same hg
 ·obtain ⟨rfl, h5⟩ := h4 (by omega)
  have hnt:∀ e∈news.take (min news.length ln),e.length=L.sz:=fun f hf=>by rw[h1];exact hal f (List.mem_of_mem_take hf)
  obtain⟨Y,hx',hρ,hm,hst⟩:=row_splice (P:=P) hs.mem (off:=off) (new:=news.take (min news.length ln)) (vs:=vs.take (min news.length ln*i.size)) hg hL (by omega) hnt (by
   rw[(flatten_take_drop hal _ (Nat.min_le_left _ _)).1]
   exact hd.take _) (by omega)
  refine .value (Y:=Y) (v:=goInt ((min news.length ln:Nat):Int)) ?_ hx' (.of_sc rfl) hm (DomOK.of_ρ hρ)
  rw[hrun]
  simp only
  rw[←h1] at hst ⊢
  rw[hst]
  rfl
theorem copyBox_ok (hs:Sim X nt s a) {t u e:TypeId} {i:TypeInfo} {x y:Operand} {x' y':Opd} {lv sl ver off n:Nat} {cs:List AV} {news:List (List D)} {rd:List (Nat×Nat×Nat)} (ho:o.op=.call { callee:=.builtin .copy,args:=#[x,y],argTypes:=#[t,u] }) (ht:P.underlying t=some (.slice e)) (hi:P.info? e=some i) (h0:0<i.size)
  (hx:opd x=some x') (hy:opd y=some y') (hq:x'.ev s.slots=.bref lv sl ver off n i.size) (hn:newsOf s.mem (y'.ev s.slots)=some news) (hb:boxAt s.mem lv sl ver=some cs) (hle:off+n*i.size≤cs.length) (hal:∀ e∈news,e.length=i.size) :
  After P X s a o dst nvi (.eff { val:=intA (min news.length n),upd:=[(lv,sl,some (.box ver (splice cs off ((news.take (min news.length n)).flatten.map .d))))],tip:=[],rd }):=by
 obtain⟨vs,hd,hlen,hfc⟩:=news_ok (P:=P) hs.mem hn (opd_ok hs hy) hal h0
 have hv:=opd_ok hs hx
 rw[hq] at hv
 obtain⟨L,cap0,hL,h2,_⟩:=hv
 have hg:memGet s.mem lv sl=some (.box ver cs):=by
  unfold boxAt at hb
  split at hb
  ·rename_i v cs' hg
   split at hb
   ·rename_i hv
    injection hb with hb;subst hb
    have hv:=beq_true.1 hv
    subst hv
    exact hg
   ·cases hb
  ·cases hb
 have hmin:Nat.min news.length n=min news.length n:=rfl
 have hrun:=copy_run (P:=P) (X:=X) ho ht hi h2 (hlen X.w) (hfc X.w (fun _ _=>rfl) _ (Nat.min_le_left _ _))
 rw[hmin] at hrun
 have hd':All2 (DR X.w X.F) (news.take (min news.length n)).flatten (vs.take (min news.length n*i.size)):=by
  rw[(flatten_take_drop hal _ (Nat.min_le_left _ _)).1]
  exact hd.take _
 have hdc:All2 (VC X) ((news.take (min news.length n)).flatten.map .d) (vs.take (min news.length n*i.size)):=by
  refine .of_get (by rw[List.length_map];exact hd'.length) fun j x v hj hv=>?_
  rw[List.getElem?_map] at hj
  cases hq':(news.take (min news.length n)).flatten[j]? with
  |none=>rw[hq'] at hj;cases hj
  |some y=>
   rw[hq'] at hj
   simp only[Option.map_some] at hj
   injection hj with hj;subst hj
   obtain⟨v',hv',hdr⟩:=hd'.get _ _ hq'
   rw[hv] at hv';injection hv' with hv';subst hv'
   exact hdr
 have hfl:((news.take (min news.length n)).flatten.map AV.d).length≤n*i.size:=by
  rw[List.length_map,flatten_length (fun f hf=>hal f (List.mem_of_mem_take hf)),List.length_take]
  exact Nat.mul_le_mul_right _ (by omega)
 obtain⟨L',Y,hL',hx',hρ,hm,hst⟩:=box_write (P:=P) hs.mem hg (off:=off) (by omega) hdc
 rw[hL] at hL';injection hL' with hL';subst hL'
 refine .value (Y:=Y) (v:=goInt ((min news.length n:Nat):Int)) ?_ hx' (.of_sc rfl) hm (DomOK.of_ρ hρ)
 rw[hrun]
 simp only
 rw[hst]
 rfl
theorem clear_ok (hs:Sim X nt s a) {t e:TypeId} {sz:Nat} {x:Operand} {x':Opd} {lv sl ver off ln:Nat} {els:List (List D)} {z:List D} {zl:List Value} {rd:List (Nat×Nat×Nat)} (ho:o.op=.call { callee:=.builtin .clear,args:=#[x],argTypes:=#[t] }) (ht:P.underlying t=some (.slice e)) (hz:zeroP P e=some zl) (hzd:constDs zl=some z) (hzl:z.length=sz) (h0:0<sz)
  (hx:opd x=some x') (hq:x'.ev s.slots=.ref lv sl ver off ln sz) (hr:rowAt s.mem lv sl ver=some els) (hle:off+ln≤els.length) :
  After P X s a o dst nvi (.eff { val:=undefA,upd:=[(lv,sl,some (.row ver (splice els off (List.replicate ln z))))],tip:=[],rd }):=by
 have hv:=opd_ok hs hx
 rw[hq] at hv
 obtain⟨L,ad,cap,hL,h1,h2,h3,h4⟩:=hv
 obtain⟨L',hL',hE,hg⟩:=row_lies hs.mem hr
 rw[hL] at hL';injection hL' with hL';subst hL'
 obtain⟨i,zv,hi,hiz,rfl⟩:=zeroP_run hz
 by_cases hn:ln=0
 ·subst hn
  refine .value (Y:=X) (v:=undef) ?_ (Ext.refl X) undef_ok ?_ (DomOK.refl _ _ _)
  ·cases ad<;>simp[execOp,ho,resolve,invoke,builtin,Builtin.clear_,run_underlying ht,h2,undef]
  ·show MemOK X (memSet s.mem lv sl _) s.tips
   rw[show List.replicate 0 z=[] from rfl,splice_nil]
   exact hs.mem.same hg
 ·obtain ⟨rfl, h5⟩ := h4 (by omega)
  have hZ:All2 (DR X.w X.F) z zv.cells.toList:=constDs_ok hzd
  have hzs:zv.cells.size=sz:=by rw[←hzl,hZ.length,Array.length_toList]
  have hrep:=replicate_flat hZ hzl h0 ln (ln*sz) (Nat.le_refl _)
  rw[madeCells_all] at hrep
  obtain⟨Y,hx',hρ,hm,hst⟩:=row_splice (P:=P) hs.mem (off:=off) (new:=List.replicate ln z) hg hL (by simpa using hle) (fun f hf=>by rw[(List.mem_replicate.1 hf).2,h1];exact hzl) hrep (by simp;omega)
  refine .value (Y:=Y) (v:=undef) ?_ hx' undef_ok hm (DomOK.of_ρ hρ)
  have hzc:(Builtin.zeroCells zv.cells ln).toList=(madeCells zv.cells (ln*sz)).toList:=by simp[Builtin.zeroCells,madeCells,hzs]
  rw[h1] at hst
  obtain⟨k,rfl⟩:∃ k,ln=k+1:=⟨ln-1,by omega⟩
  simp[execOp,ho,resolve,invoke,builtin,Builtin.clear_,run_underlying ht,h2,zeroValue,typeInfo,hi,hiz,hzc,hst,undef]
theorem min_ok (hs:Sim X nt s a) {ts:Array TypeId} {x y:Operand} {x' y':Opd} {k:IntKind} {p q:Int} (ho:o.op=.call { callee:=.builtin .min,args:=#[x,y],argTypes:=ts }) (hx:opd x=some x') (hy:opd y=some y')
  (h1:x'.ev s.slots=.d (.sc (.int k p))) (h2:y'.ev s.slots=.d (.sc (.int k q))):Quiet P X o a (scA (.int k (min p q))):=by
 have g1:=opd_ok hs hx;rw[h1] at g1;have g1:=g1.sc
 have g2:=opd_ok hs hy;rw[h2] at g2;have g2:=g2.sc
 refine⟨_,?_,.scA rfl⟩
 have e:(if q<p then q else p)=min p q:=by rw[Int.min_def];split<;>split<;>omega
 simp[execOp,ho,resolve,invoke,builtin,Builtin.min_,g1,g2,Builtin.min2,e]
theorem max_ok (hs:Sim X nt s a) {ts:Array TypeId} {x y:Operand} {x' y':Opd} {k:IntKind} {p q:Int} (ho:o.op=.call { callee:=.builtin .max,args:=#[x,y],argTypes:=ts }) (hx:opd x=some x') (hy:opd y=some y')
  (h1:x'.ev s.slots=.d (.sc (.int k p))) (h2:y'.ev s.slots=.d (.sc (.int k q))):Quiet P X o a (scA (.int k (max p q))):=by
 have g1:=opd_ok hs hx;rw[h1] at g1;have g1:=g1.sc
 have g2:=opd_ok hs hy;rw[h2] at g2;have g2:=g2.sc
 refine⟨_,?_,.scA rfl⟩
 have e:(if p<q then q else p)=max p q:=by rw[Int.max_def];split<;>split<;>omega
 simp[execOp,ho,resolve,invoke,builtin,Builtin.max_,g1,g2,Builtin.max2,e]
end
end Go.Eng
