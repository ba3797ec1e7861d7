/- copy, clear, min, max. -/
import Derived.Test.YtokjmkblnafppaaGreatDoorEngM
set_option linter.unusedVariables false
set_option linter.unusedSimpArgs false
namespace Go.bI
open Go Go.RowKit
theorem fy {α : Type} {sz:Nat} : ∀ {els:List (List α)},(∀ e∈els,e.length=sz)→∀ k,k≤els.length→(els.take k).flatten=els.flatten.take (k*sz)∧(els.drop k).flatten=els.flatten.drop (k*sz)
 |els,hl,0,_=>by simp
 |[],hl,k+1,h=>by simp at h
 |f :: els,hl,k+1,h=>by
  have ih:=fy (els:=els) (fun e he=>hl e (by simp[he])) k (by simpa using h)
  have hf:=hl f (by simp)
  simp only[List.take_succ_cons,List.flatten_cons,List.drop_succ_cons,ih.1,ih.2]
  rw[show (k+1)*sz=f.length+k*sz by rw[Nat.add_mul,hf];omega]
  refine⟨?_,?_⟩
  ·rw[List.take_append,List.take_of_length_le (l:=f) (by omega),show f.length+k*sz-f.length=k*sz by omega]
  ·rw[List.drop_append,List.drop_of_length_le (l:=f) (by omega),show f.length+k*sz-f.length=k*sz by omega,List.nil_append]
theorem zm {α : Type} {sz:Nat} {els new:List (List α)} (hl:∀ e∈els,e.length=sz) (hn:∀ e∈new,e.length=sz) {off:Nat} (h:off+new.length≤els.length):(splice els off new).flatten=splice els.flatten (off*sz) new.flatten:=by
 unfold splice
 rw[List.flatten_append,List.flatten_append,(fy hl off (by omega)).1,(fy hl (off+new.length) h).2,bf hn,Nat.add_mul]
theorem zn {α : Type} (els:List α) (off:Nat):splice els off []=els:=by simp[splice]
section
variable {P:Program} {X:Cx} {nt:Nat} {s:St} {a:Act} {o:Oper} {dst:Option Nat} {aR:Nat}
theorem aB.same {m:List (Tr bH)} {t:Tr Unit} (h:aB X m t) {lv sl:Nat} {e:bH} (hg:aN m lv sl=some e):aB X (bN m lv sl (some e)) t:=
 h.congr (fun cl cX=>by
  rw[bX]
  split
  ·rename_i hc
   rw[←hc.1,←hc.2.1,hg]
  ·rfl) fun _=>rfl
theorem zo {m:List (Tr bH)} {t:Tr Unit} (h:aB X m t) {lv sl af off:Nat} {els new:List (List D)} {vs:List Value} {L:Loc} (hg:aN m lv sl=some (.row af els)) (hL:X.ρ af=some L) (hoff:off+new.length≤els.length) (hn:∀ e∈new,e.length=L.sz) (hd:az (DR X.w X.F) new.flatten vs) (h0:0<new.length) :
  ∃ Y,Ext X Y∧Y.ρ = X.ρ∧aB Y (bN m lv sl (some (.row af (splice els off new)))) t∧(storeCells ⟨L.b,L.o+off*L.sz,none⟩ vs).run P X.w=.ok () Y.w:=by
 obtain⟨L',hL',e1,e2,_,_⟩:=h.ec _ _ _ hg
 have:X.ρ af=some L':=hL'
 rw[hL] at this;injection this with this;subst this
 have hvl:vs.length=new.length*L.sz:=by rw[←hd.length,bf hn]
 have hfl:=zm e2 hn hoff
 have adX:=bf e2
 have hle:off*L.sz+new.length*L.sz≤els.length*L.sz:=by rw[←Nat.add_mul];exact Nat.mul_le_mul_right _ hoff
 have hcl:els.length*L.sz≤L.cap*L.sz:=Nat.mul_le_mul_right _ e1
 refine B2 (P:=P) h hg hL (by omega) (by omega) ?_ (fun f hf=>?_) (by rw[jM _ _ _ hoff];exact e1) fun j x hj=>?_
 ·rw [hfl, hvl, ← bf hn, nB _ _ _ (by omega)]
  exact hd
 ·unfold splice at hf
  rcases List.mem_append.1 hf with hf|hf
  ·rcases List.mem_append.1 hf with hf | hf
   ·exact e2 f (List.mem_of_mem_take hf)
   ·exact hn f hf
  ·exact e2 f (List.mem_of_mem_drop hf)
 ·rw [hfl, cQ _ _ _ (by rw [bf hn]; omega)] at hj
  rw[bf hn] at hj
  split at hj
  ·exact .inl (by omega)
  ·exact .inr hj
theorem EY {t u:TypeId} {e:TypeId} {i:TypeInfo} {x y:Operand} {ad:Option Addr} {len cap m:Nat} {cells:List Value} (ho:o.op=.call { callee:=.builtin .copy,args:=#[x,y],argTypes:=#[t,u] }) (ht:P.underlying t=some (.slice e)) (hi:P.info? e=some i) (hx:a.eval x=.slice ad len cap)
  (hl:(Builtin.lenOf (a.eval y)).run P X.w=.ok m X.w) (hf:(Builtin.firstCells i.size (Nat.min m len) (a.eval y)).run P X.w=.ok cells.toArray X.w) :
  (execOp a.eval o).run P X.w = match ad with
   |some ad=>((storeCells ad cells).run P X.w).andThen fun _ w'=>.ok (.value (goInt (Nat.min m len))) w'
   |none=>.ok (.value (goInt (Nat.min m len))) X.w:=by
 cases ad with
 |none=>simp[execOp,ho,resolve,invoke,builtin,Builtin.copy_,run_underlying ht,hx,hl,sizeOf,typeInfo,hi,hf]
 |some ad=>
  simp[execOp,ho,resolve,invoke,builtin,Builtin.copy_,run_underlying ht,hx,hl,sizeOf,typeInfo,hi,hf]
  cases Sem.run P (storeCells ad cells) X.w<;>rfl
theorem HP (hs:eL X nt s a) {t u e:TypeId} {i:TypeInfo} {x y:Operand} {x' y':bR} {lv sl af off ln:Nat} {els news:List (List D)} {rd:List (Nat×Nat×Nat)} (ho:o.op=.call { callee:=.builtin .copy,args:=#[x,y],argTypes:=#[t,u] }) (ht:P.underlying t=some (.slice e)) (hi:P.info? e=some i) (h0:0<i.size)
  (hx:cL x=some x') (hy:cL y=some y') (hq:x'.ev s.slots=.ref lv sl af off ln i.size) (hn:gQ s.mem (y'.ev s.slots)=some news) (hr:rowAt s.mem lv sl af=some els) (hle:off+ln≤els.length) (hal:∀ e∈news,e.length=i.size) :
  cU P X s a o dst aR (.bS { val:=nq (min news.length ln),cK:=[(lv,sl,some (.row af (splice els off (news.take (min news.length ln)))))],cx:=[],rd }):=by
 obtain⟨vs,hd,hlen,U2⟩:=yh (P:=P) hs.mem hn (bw hs hy) hal h0
 have hv:=bw hs hx
 rw[hq] at hv
 obtain⟨L,ad,cap,hL,h1,h2,h3,h4⟩:=hv
 obtain⟨L',hL',hE,hg⟩:=kP hs.mem hr
 rw[hL] at hL';injection hL' with hL';subst hL'
 have hmin:Nat.min news.length ln=min news.length ln:=rfl
 have hrun:=EY (P:=P) (X:=X) ho ht hi h2 (hlen X.w) (U2 X.w (fun _ _=>rfl) _ (Nat.min_le_left _ _))
 rw[hmin] at hrun
 have htl:(news.take (min news.length ln)).length=min news.length ln:=by rw[List.length_take];omega
 by_cases hz:min news.length ln=0
 ·have Du : news.take (min news.length ln) = [] := by rw [hz]; rfl
  refine .value (Y:=X) (v:=goInt ((min news.length ln:Nat):Int)) ?_ (Ext.refl X) (.yZ rfl) ?_ (eC.refl _ _ _)
  ·rw [hrun]
   cases ad with
   |none=>rfl
   |some ad=>rw[hz];simp[storeCells]
  ·rw [Du, zn]
   exact hs.mem.same hg
 ·obtain ⟨rfl, h5⟩ := h4 (by omega)
  have hnt:∀ e∈news.take (min news.length ln),e.length=L.sz:=fun f hf=>by rw[h1];exact hal f (List.mem_of_mem_take hf)
  obtain⟨Y,hx',hρ,hm,hst⟩:=zo (P:=P) hs.mem (off:=off) (new:=news.take (min news.length ln)) (vs:=vs.take (min news.length ln*i.size)) hg hL (by omega) hnt (by
   rw[(fy hal _ (Nat.min_le_left _ _)).1]
   exact hd.take _) (by omega)
  refine .value (Y:=Y) (v:=goInt ((min news.length ln:Nat):Int)) ?_ hx' (.yZ rfl) hm (eC.Dr hρ)
  rw[hrun]
  simp only
  rw[←h1] at hst ⊢
  rw[hst]
  rfl
theorem HQ (hs:eL X nt s a) {t u e:TypeId} {i:TypeInfo} {x y:Operand} {x' y':bR} {lv sl af off n:Nat} {cs:List AV} {news:List (List D)} {rd:List (Nat×Nat×Nat)} (ho:o.op=.call { callee:=.builtin .copy,args:=#[x,y],argTypes:=#[t,u] }) (ht:P.underlying t=some (.slice e)) (hi:P.info? e=some i) (h0:0<i.size)
  (hx:cL x=some x') (hy:cL y=some y') (hq:x'.ev s.slots=.eH lv sl af off n i.size) (hn:gQ s.mem (y'.ev s.slots)=some news) (hb:fX s.mem lv sl af=some cs) (hle:off+n*i.size≤cs.length) (hal:∀ e∈news,e.length=i.size) :
  cU P X s a o dst aR (.bS { val:=nq (min news.length n),cK:=[(lv,sl,some (.box af (splice cs off ((news.take (min news.length n)).flatten.map .d))))],cx:=[],rd }):=by
 obtain⟨vs,hd,hlen,U2⟩:=yh (P:=P) hs.mem hn (bw hs hy) hal h0
 have hv:=bw hs hx
 rw[hq] at hv
 obtain⟨L,hL,h2,_⟩:=hv
 have hg:aN s.mem lv sl=some (.box af cs):=by
  unfold fX at hb
  split at hb
  ·rename_i v cs' hg
   split at hb
   ·rename_i hv
    injection hb with hb;subst hb
    have hv:=beq_true.1 hv
    subst hv
    exact hg
   ·cases hb
  ·cases hb
 have hmin:Nat.min news.length n=min news.length n:=rfl
 have hrun:=EY (P:=P) (X:=X) ho ht hi h2 (hlen X.w) (U2 X.w (fun _ _=>rfl) _ (Nat.min_le_left _ _))
 rw[hmin] at hrun
 have hd':az (DR X.w X.F) (news.take (min news.length n)).flatten (vs.take (min news.length n*i.size)):=by
  rw[(fy hal _ (Nat.min_le_left _ _)).1]
  exact hd.take _
 have hdc:az (VC X) ((news.take (min news.length n)).flatten.map .d) (vs.take (min news.length n*i.size)):=by
  refine .sB (by rw[List.length_map];exact hd'.length) fun j x v hj hv=>?_
  rw[List.getElem?_map] at hj
  cases ZG:(news.take (min news.length n)).flatten[j]? with
  |none=>rw[ZG] at hj;cases hj
  |some y=>
   rw[ZG] at hj
   simp only[Option.map_some] at hj
   injection hj with hj;subst hj
   obtain⟨v',jd,Hx⟩:=hd'.get _ _ ZG
   rw[hv] at jd;injection jd with jd;subst jd
   exact Hx
 have hfl:((news.take (min news.length n)).flatten.map AV.d).length≤n*i.size:=by
  rw[List.length_map,bf (fun f hf=>hal f (List.mem_of_mem_take hf)),List.length_take]
  exact Nat.mul_le_mul_right _ (by omega)
 obtain⟨L',Y,hL',hx',hρ,hm,hst⟩:=B1 (P:=P) hs.mem hg (off:=off) (by omega) hdc
 rw[hL] at hL';injection hL' with hL';subst hL'
 refine .value (Y:=Y) (v:=goInt ((min news.length n:Nat):Int)) ?_ hx' (.yZ rfl) hm (eC.Dr hρ)
 rw[hrun]
 simp only
 rw[hst]
 rfl
theorem tU (hs:eL X nt s a) {t e:TypeId} {sz:Nat} {x:Operand} {x':bR} {lv sl af off ln:Nat} {els:List (List D)} {z:List D} {zl:List Value} {rd:List (Nat×Nat×Nat)} (ho:o.op=.call { callee:=.builtin .clear,args:=#[x],argTypes:=#[t] }) (ht:P.underlying t=some (.slice e)) (hz:l7 P e=some zl) (Bq:iH zl=some z) (hzl:z.length=sz) (h0:0<sz)
  (hx:cL x=some x') (hq:x'.ev s.slots=.ref lv sl af off ln sz) (hr:rowAt s.mem lv sl af=some els) (hle:off+ln≤els.length) :
  cU P X s a o dst aR (.bS { val:=jr,cK:=[(lv,sl,some (.row af (splice els off (List.replicate ln z))))],cx:=[],rd }):=by
 have hv:=bw hs hx
 rw[hq] at hv
 obtain⟨L,ad,cap,hL,h1,h2,h3,h4⟩:=hv
 obtain⟨L',hL',hE,hg⟩:=kP hs.mem hr
 rw[hL] at hL';injection hL' with hL';subst hL'
 obtain⟨i,zv,hi,Bp,rfl⟩:=iK hz
 by_cases hn:ln=0
 ·subst hn
  refine .value (Y:=X) (v:=undef) ?_ (Ext.refl X) l8 ?_ (eC.refl _ _ _)
  ·cases ad<;>simp[execOp,ho,resolve,invoke,builtin,Builtin.clear_,run_underlying ht,h2,undef]
  ·show aB X (bN s.mem lv sl _) s.aE
   rw[show List.replicate 0 z=[] from rfl,zn]
   exact hs.mem.same hg
 ·obtain ⟨rfl, h5⟩ := h4 (by omega)
  have hZ:az (DR X.w X.F) z zv.cells.toList:=j7 Bq
  have hzs:zv.cells.size=sz:=by rw[←hzl,hZ.length,Array.length_toList]
  have pZ:=hU hZ hzl h0 ln (ln*sz) (Nat.le_refl _)
  rw[mY] at pZ
  obtain⟨Y,hx',hρ,hm,hst⟩:=zo (P:=P) hs.mem (off:=off) (new:=List.replicate ln z) hg hL (by simpa using hle) (fun f hf=>by rw[(List.mem_replicate.1 hf).2,h1];exact hzl) pZ (by simp;omega)
  refine .value (Y:=Y) (v:=undef) ?_ hx' l8 hm (eC.Dr hρ)
  have Rf:(Builtin.zeroCells zv.cells ln).toList=(madeCells zv.cells (ln*sz)).toList:=by simp[Builtin.zeroCells,madeCells,hzs]
  rw[h1] at hst
  obtain⟨k,rfl⟩:∃ k,ln=k+1:=⟨ln-1,by omega⟩
  simp[execOp,ho,resolve,invoke,builtin,Builtin.clear_,run_underlying ht,h2,zeroValue,typeInfo,hi,Bp,Rf,hst,undef]
theorem U3 (hs:eL X nt s a) {ts:Array TypeId} {x y:Operand} {x' y':bR} {k:IntKind} {p q:Int} (ho:o.op=.call { callee:=.builtin .min,args:=#[x,y],argTypes:=ts }) (hx:cL x=some x') (hy:cL y=some y')
  (h1:x'.ev s.slots=.d (.sc (.int k p))) (h2:y'.ev s.slots=.d (.sc (.int k q))):Quiet P X o a (kL (.int k (min p q))):=by
 have g1:=bw hs hx;rw[h1] at g1;have g1:=g1.sc
 have g2:=bw hs hy;rw[h2] at g2;have g2:=g2.sc
 refine⟨_,?_,.kL rfl⟩
 have e:(if q<p then q else p)=min p q:=by rw[Int.min_def];split<;>split<;>omega
 simp[execOp,ho,resolve,invoke,builtin,Builtin.min_,g1,g2,Builtin.min2,e]
theorem U4 (hs:eL X nt s a) {ts:Array TypeId} {x y:Operand} {x' y':bR} {k:IntKind} {p q:Int} (ho:o.op=.call { callee:=.builtin .max,args:=#[x,y],argTypes:=ts }) (hx:cL x=some x') (hy:cL y=some y')
  (h1:x'.ev s.slots=.d (.sc (.int k p))) (h2:y'.ev s.slots=.d (.sc (.int k q))):Quiet P X o a (kL (.int k (max p q))):=by
 have g1:=bw hs hx;rw[h1] at g1;have g1:=g1.sc
 have g2:=bw hs hy;rw[h2] at g2;have g2:=g2.sc
 refine⟨_,?_,.kL rfl⟩
 have e:(if p<q then q else p)=max p q:=by rw[Int.max_def];split<;>split<;>omega
 simp[execOp,ho,resolve,invoke,builtin,Builtin.max_,g1,g2,Builtin.max2,e]
end
end Go.bI
