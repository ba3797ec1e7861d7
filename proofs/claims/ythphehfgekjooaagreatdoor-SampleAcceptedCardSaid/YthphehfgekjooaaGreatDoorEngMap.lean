/- A part of the proof: EngN, EngMap. -/
import Derived.Test.YthphehfgekjooaaGreatDoorEngM
import Derived.Laws.BytesArg
import Derived.Laws.IdiomStrings
import Derived.MapKept
set_option linter.unusedVariables false
set_option linter.unusedSimpArgs false
namespace Go.bq
open Go Go.RowKit
theorem e9 {α : Type} {sz:Nat} : ∀ {els:List (List α)},(∀ e∈els,e.length=sz)→∀ k,k≤els.length→(els.take k).flatten=els.flatten.take (k*sz)∧(els.drop k).flatten=els.flatten.drop (k*sz)
 |els,hl,0,_=>by simp
 |[],hl,k+1,h=>by simp at h
 |f :: els,hl,k+1,h=>by
  have ih:=e9 (els:=els) (fun e he=>hl e (by simp[he])) k (by simpa using h)
  have hf:=hl f (by simp)
  simp[List.take_succ_cons,List.flatten_cons,List.drop_succ_cons,ih.1,ih.2]
  rw[show (k+1)*sz=f.length+k*sz by rw[Nat.add_mul,hf];omega]
  refine⟨?_,?_⟩
  ·grind
  ·rw[List.drop_append,List.drop_of_length_le (l:=f) (by omega),show f.length+k*sz-f.length=k*sz by omega,List.nil_append]
theorem zP {α : Type} {sz:Nat} {els new:List (List α)} (hl:∀ e∈els,e.length=sz) (hn:∀ e∈new,e.length=sz) {off:Nat} (h:off+new.length≤els.length):(splice els off new).flatten=splice els.flatten (off*sz) new.flatten:=by
 unfold splice
 rw[List.flatten_append,List.flatten_append,(e9 hl off (by omega)).1,(e9 hl (off+new.length) h).2,aP hn,Nat.add_mul]
theorem zQ {α : Type} (els:List α) (off:Nat):splice els off []=els:=by simp[splice]
section
variable {P:Program} {X:Cx} {nt:Nat} {s:St} {a:Act} {o:Oper} {dst:Option Nat} {aH:Nat}
theorem aA.same {m:List (Tr aZ)} {t:Tr Unit} (h:aA X m t) {lv sl:Nat} {e:aZ} (hg:aC m lv sl=some e):aA X (bF m lv sl (some e)) t:=
 h.congr (fun bV cS=>by
  rw[bM]<;>grind) fun _=>rfl
theorem zR {m:List (Tr aZ)} {t:Tr Unit} (h:aA X m t) {lv sl aa off:Nat} {els new:List (List D)} {vs:List Value} {L:Loc} (hg:aC m lv sl=some (.row aa els)) (hL:X.ρ aa=some L) (hoff:off+new.length≤els.length) (hn:∀ e∈new,e.length=L.sz) (hd:aq (DR X.w X.F) new.flatten vs) (h0:0<new.length) :
  ∃ Y,Ext X Y∧Y.ρ = X.ρ∧aA Y (bF m lv sl (some (.row aa (splice els off new)))) t∧(storeCells ⟨L.b,L.o+off*L.sz,none⟩ vs).run P X.w=.ok () Y.w:=by
 obtain⟨L',hL',e1,e2,_,_⟩:=h.dW _ _ _ hg
 have:X.ρ aa=some L':=hL'
 rw[hL] at this;cases this
 have hvl:vs.length=new.length*L.sz:=by rw[←hd.length,aP hn]
 have hfl:=zP e2 hn hoff
 have agV:=aP e2
 have hle:off*L.sz+new.length*L.sz≤els.length*L.sz:=by rw[←Nat.add_mul];exact Nat.mul_le_mul_right _ hoff
 have hcl:els.length*L.sz≤L.cap*L.sz:=Nat.mul_le_mul_right _ e1
 refine CO (P:=P) h hg hL (by omega) (by omega) ?_ (fun f hf=>?_) (by rw[jD _ _ _ hoff];exact e1) fun j x hj=>?_
 ·rw[hfl,hvl,←aP hn,oe _ _ _ (by omega)]<;>omega
 ·grind[splice,Block,aZ.aa,aq,aC]
 ·rw [hfl, cY _ _ _ (by rw [aP hn]; omega)] at hj
  rw[aP hn] at hj<;>grind
theorem GR {t u:TypeId} {e:TypeId} {i:TypeInfo} {x y:Operand} {ad:Option Addr} {len cap m:Nat} {cells:List Value} (ho:o.op=.call { callee:=.builtin .copy,args:=#[x,y],argTypes:=#[t,u] }) (ht:P.underlying t=some (.slice e)) (hi:P.info? e=some i) (hx:a.eval x=.slice ad len cap)
  (hl:(Builtin.lenOf (a.eval y)).run P X.w=.ok m X.w) (hf:(Builtin.firstCells i.size (Nat.min m len) (a.eval y)).run P X.w=.ok cells.toArray X.w) :
  (execOp a.eval o).run P X.w = match ad with
   |some ad=>((storeCells ad cells).run P X.w).andThen fun _ w'=>.ok (.value (goInt (Nat.min m len))) w'
   |none=>.ok (.value (goInt (Nat.min m len))) X.w:=by
 cases ad with
 |none=>simp[execOp,ho,resolve,invoke,builtin,Builtin.copy_,run_underlying ht,hx,hl,sizeOf,typeInfo,hi,hf]
 |some ad=>
  simp[execOp,ho,resolve,invoke,builtin,Builtin.copy_,run_underlying ht,hx,hl,sizeOf,typeInfo,hi,hf]
  cases Sem.run P (storeCells ad cells) X.w<;>rfl
theorem JQ (hs:eC X nt s a) {t u e:TypeId} {i:TypeInfo} {x y:Operand} {x' y':bA} {lv sl aa off ln:Nat} {els news:List (List D)} {rd:List (Nat×Nat×Nat)} (ho:o.op=.call { callee:=.builtin .copy,args:=#[x,y],argTypes:=#[t,u] }) (ht:P.underlying t=some (.slice e)) (hi:P.info? e=some i) (h0:0<i.size)
  (hx:cr x=some x') (hy:cr y=some y') (hq:x'.ev s.slots=.ref lv sl aa off ln i.size) (hn:fq s.mem (y'.ev s.slots)=some news) (hr:rowAt s.mem lv sl aa=some els) (hle:off+ln≤els.length) (hal:∀ e∈news,e.length=i.size) :
  cD P X s a o dst aH (.bC { val:=n6 (min news.length ln),cv:=[(lv,sl,some (.row aa (splice els off (news.take (min news.length ln)))))],bR:=[],rd }):=by
 obtain⟨vs,hd,hlen,hfc⟩:=yY (P:=P) hs.mem hn (aU hs hy) hal h0
 have hv:=aU hs hx
 rw[hq] at hv
 obtain⟨L,ad,cap,hL,h1,h2,h3,h4⟩:=hv
 obtain⟨L',hL',hE,hg⟩:=lD hs.mem hr
 have hmin:Nat.min news.length ln=min news.length ln:=rfl
 have hrun:=GR (P:=P) (X:=X) ho ht hi h2 (hlen X.w) (hfc X.w (fun _ _=>rfl) _ (Nat.min_le_left _ _))
 rw[hmin] at hrun
 have htl:(news.take (min news.length ln)).length=min news.length ln:=by grind
 by_cases hz:min news.length ln=0
 ·have ED : news.take (min news.length ln) = [] := by grind
  refine .value (Y:=X) (v:=goInt ((min news.length ln:Nat):Int)) ?_ (Ext.refl X) (.zF rfl) ?_ (ew.refl _ _ _)
  ·rw [hrun]
   cases ad with
   |none=>rfl
   |some ad=>rw[hz];simp[storeCells]
  ·rw [ED, zQ]
   exact hs.mem.same hg
 ·obtain ⟨rfl, h5⟩ := h4 (by omega)
  have hnt:∀ e∈news.take (min news.length ln),e.length=L.sz:=fun f hf=>by rw[h1];exact hal f (List.mem_of_mem_take hf)
  obtain⟨Y,hx',hρ,hm,hst⟩:=zR (P:=P) hs.mem (off:=off) (new:=news.take (min news.length ln)) (vs:=vs.take (min news.length ln*i.size)) hg hL (by omega) hnt (by
   rw[(e9 hal _ (Nat.min_le_left _ _)).1]
   exact hd.take _) (by omega)
  refine .value (Y:=Y) (v:=goInt ((min news.length ln:Nat):Int)) ?_ hx' (.zF rfl) hm (ew.EA hρ)<;>simp_all
theorem JR (hs:eC X nt s a) {t u e:TypeId} {i:TypeInfo} {x y:Operand} {x' y':bA} {lv sl aa off n:Nat} {cs:List AV} {news:List (List D)} {rd:List (Nat×Nat×Nat)} (ho:o.op=.call { callee:=.builtin .copy,args:=#[x,y],argTypes:=#[t,u] }) (ht:P.underlying t=some (.slice e)) (hi:P.info? e=some i) (h0:0<i.size)
  (hx:cr x=some x') (hy:cr y=some y') (hq:x'.ev s.slots=.eA lv sl aa off n i.size) (hn:fq s.mem (y'.ev s.slots)=some news) (hb:fK s.mem lv sl aa=some cs) (hle:off+n*i.size≤cs.length) (hal:∀ e∈news,e.length=i.size) :
  cD P X s a o dst aH (.bC { val:=n6 (min news.length n),cv:=[(lv,sl,some (.box aa (splice cs off ((news.take (min news.length n)).flatten.map .d))))],bR:=[],rd }):=by
 obtain⟨vs,hd,hlen,hfc⟩:=yY (P:=P) hs.mem hn (aU hs hy) hal h0
 have hv:=aU hs hx
 rw[hq] at hv
 obtain⟨L,hL,h2,_⟩:=hv
 have hg:aC s.mem lv sl=some (.box aa cs):=by
  unfold fK at hb
  split at hb
  ·split at hb<;>simp_all
  grind
 have hrun:=GR (P:=P) (X:=X) ho ht hi h2 (hlen X.w) (hfc X.w (fun _ _=>rfl) _ (Nat.min_le_left _ _))
 have hd':aq (DR X.w X.F) (news.take (min news.length n)).flatten (vs.take (min news.length n*i.size)):=by
  rw[(e9 hal _ (Nat.min_le_left _ _)).1]
  exact hd.take _
 have hdc:aq (VC X) ((news.take (min news.length n)).flatten.map .d) (vs.take (min news.length n*i.size)):=by
  refine .tw (by rw[List.length_map];exact hd'.length) fun j x v hj hv=>?_
  rw[List.getElem?_map] at hj
  cases hq':(news.take (min news.length n)).flatten[j]? with
  |none=>grind
  |some y=>
   rw[hq'] at hj
   cases hj
   obtain⟨v',lU,Jw⟩:=hd'.get _ _ hq'
   simp_all
   exact Jw
 have hfl:((news.take (min news.length n)).flatten.map AV.d).length≤n*i.size:=by
  rw[List.length_map,aP (fun f hf=>hal f (List.mem_of_mem_take hf)),List.length_take]
  exact Nat.mul_le_mul_right _ (by omega)
 obtain⟨L',Y,hL',hx',hρ,hm,hst⟩:=CN (P:=P) hs.mem hg (off:=off) (by omega) hdc
 rw[hL] at hL';refine .value (Y:=Y) (v:=goInt ((min news.length n:Nat):Int)) ?_ hx' (.zF rfl) hm (ew.EA hρ)<;>simp_all
theorem uI (hs:eC X nt s a) {t e:TypeId} {sz:Nat} {x:Operand} {x':bA} {lv sl aa off ln:Nat} {els:List (List D)} {z:List D} {zl:List Value} {rd:List (Nat×Nat×Nat)} (ho:o.op=.call { callee:=.builtin .clear,args:=#[x],argTypes:=#[t] }) (ht:P.underlying t=some (.slice e)) (hz:mM P e=some zl) (Cl:iy zl=some z) (hzl:z.length=sz) (h0:0<sz)
  (hx:cr x=some x') (hq:x'.ev s.slots=.ref lv sl aa off ln sz) (hr:rowAt s.mem lv sl aa=some els) (hle:off+ln≤els.length) :
  cD P X s a o dst aH (.bC { val:=je,cv:=[(lv,sl,some (.row aa (splice els off (List.replicate ln z))))],bR:=[],rd }):=by
 have hv:=aU hs hx
 rw[hq] at hv
 obtain⟨L,ad,cap,hL,h1,h2,h3,h4⟩:=hv
 obtain⟨L',hL',hE,hg⟩:=lD hs.mem hr
 obtain⟨i,zv,hi,Ez,rfl⟩:=iB hz
 by_cases hn:ln=0
 ·subst hn
  refine .value (Y:=X) (v:=undef) ?_ (Ext.refl X) mN ?_ (ew.refl _ _ _)
  ·cases ad<;>simp[execOp,ho,resolve,invoke,builtin,Builtin.clear_,run_underlying ht,h2,undef]
  ·rw [show List.replicate 0 z = [] from rfl, zQ]
   exact hs.mem.same hg
 ·obtain ⟨rfl, h5⟩ := h4 (by omega)
  have hZ:aq (DR X.w X.F) z zv.cells.toList:=kr Cl
  have hzs:zv.cells.size=sz:=by rw[←hzl,hZ.length,Array.length_toList]
  have qP:=gQ hZ hzl h0 ln (ln*sz) (Nat.le_refl _)
  rw[nT] at qP
  obtain⟨Y,hx',hρ,hm,hst⟩:=zR (P:=P) hs.mem (off:=off) (new:=List.replicate ln z) hg hL (by simpa using hle) (fun f hf=>by rw[(List.mem_replicate.1 hf).2,h1];exact hzl) qP (by simp;omega)
  refine .value (Y:=Y) (v:=undef) ?_ hx' mN hm (ew.EA hρ)
  have Uf:(Builtin.zeroCells zv.cells ln).toList=(madeCells zv.cells (ln*sz)).toList:=by simp[Builtin.zeroCells,madeCells,hzs]
  rw[h1] at hst
  simp[execOp,ho,resolve,invoke,builtin,Builtin.clear_,run_underlying ht,h2,zeroValue,typeInfo,hi,Ez,Uf,hst,undef]
theorem Zc (hs:eC X nt s a) {ts:Array TypeId} {x y:Operand} {x' y':bA} {k:IntKind} {p q:Int} (ho:o.op=.call { callee:=.builtin .min,args:=#[x,y],argTypes:=ts }) (hx:cr x=some x') (hy:cr y=some y')
  (h1:x'.ev s.slots=.d (.sc (.int k p))) (h2:y'.ev s.slots=.d (.sc (.int k q))):Quiet P X o a (lu (.int k (min p q))):=by
 have g1:=aU hs hx;rw[h1] at g1;have g1:=g1.sc
 have g2:=aU hs hy;rw[h2] at g2;have g2:=g2.sc
 refine⟨_,?_,.lu rfl⟩
 have e:(if q<p then q else p)=min p q:=by grind
 simp[execOp,ho,resolve,invoke,builtin,Builtin.min_,g1,g2,Builtin.min2,e]
theorem pH (hs:eC X nt s a) {ts:Array TypeId} {x y:Operand} {x' y':bA} {k:IntKind} {p q:Int} (ho:o.op=.call { callee:=.builtin .max,args:=#[x,y],argTypes:=ts }) (hx:cr x=some x') (hy:cr y=some y')
  (h1:x'.ev s.slots=.d (.sc (.int k p))) (h2:y'.ev s.slots=.d (.sc (.int k q))):Quiet P X o a (lu (.int k (max p q))):=by
 have g1:=aU hs hx;rw[h1] at g1;have g1:=g1.sc
 have g2:=aU hs hy;rw[h2] at g2;have g2:=g2.sc
 refine⟨_,?_,.lu rfl⟩
 have e:(if p<q then q else p)=max p q:=by grind
 simp[execOp,ho,resolve,invoke,builtin,Builtin.max_,g1,g2,Builtin.max2,e]
end
end Go.bq
namespace Go.bq
open Go Go.RowKit
theorem EE:∀ {els:List (List D)} {l:List UInt8},bytesOf els=some l→∃ xs:List Int,els=xs.map (fun n=>[.sc (.int .u8 n)])∧l=xs.map fun n=>UInt8.ofNat n.toNat:=by
 intro els
 induction els with
 |nil=>simp_all[bytesOf]
 | cons e r ih =>
  intro l h
  unfold bytesOf at h
  split at h
  ·grind
  ·rename_i n r' hq
   cases hq
   obtain⟨l',hl',rfl⟩:=Option.map_eq_some_iff.1 h
   obtain⟨xs,rfl,rfl⟩:=ih hl'
   exact⟨n :: xs,rfl,rfl⟩
  grind
section
variable {P:Program} {X:Cx} {nt:Nat} {s:St} {a:Act} {o:Oper} {dst:Option Nat} {aH:Nat}
theorem Zd (hs:eC X nt s a) {src ds e:TypeId} {x:Operand} {x':bA} {els:List (List D)} {l:List UInt8} (ho:o.op=.convert src ds x) (h1:P.underlying src=some (.slice e)) (h2:P.underlying e=some (.int .u8)) (h3:P.underlying ds=some .string)
  (hx:cr x=some x') (he:cH s.mem (x'.ev s.slots)=some els) (hl:bytesOf els=some l):Quiet P X o a (lu (.string (lV l))):=by
 obtain⟨xs,rfl,rfl⟩:=EE hl
 obtain⟨ad,cap,sz,b,off,hv,_,had,P9⟩:=qM hs.mem he (aU hs hx)
 refine⟨.string (lV (xs.map fun n=>UInt8.ofNat n.toNat)),?_,.lu rfl⟩
 have key:(convert src ds (a.eval x)).run P X.w=.ok (.string (lV (xs.map fun n=>UInt8.ofNat n.toNat))) X.w:=by
  rw[hv]
  by_cases h0:xs.length=0
  ·have ED : xs = [] := List.eq_nil_of_length_eq_zero h0
   subst ED
   rw[run_convert_bytes_string X.w src ds e ad _ cap h1 h2 h3]
   cases ad with
   |none=>rfl
   |some ad=>
    rfl
  ·have hlt : 0 < (xs.map (fun n => ([.sc (.int .u8 n)] : List D))).length := by grind
   have:=had hlt
   subst this
   have hsz:sz=1:=by
    have:=P9.1 _ (List.getElem_mem hlt)<;>grind
   subst hsz
   exact run_convert_bytes_arg X.w src e h1 h2 b off _ cap xs (by simp) (fun i hi=>by
    simp at hi
    obtain⟨_,v,hv,hd⟩:=P9.2 i [.sc (.int .u8 xs[i])] 0 (.sc (.int .u8 xs[i])) (by simp[List.getElem?_eq_getElem hi]) rfl
    cases hd
    simp only[Nat.mul_one,Nat.add_zero] at hv
    rw[hv]
    simp[List.getD,List.getElem?_eq_getElem hi]) ds h3
 simp[execOp,ho,key]
def Cx.nU (X:Cx) (ob:Obj) (v:Nat) (L:Loc):Cx:={ X with w:=X.w.alloc ob,ρ:=fun u=>if u=v then some L else X.ρ u }
theorem tC {ob:Obj} {v:Nat} {L:Loc} (hin:∀ b o,X.F b o→b<X.w.heap.size) (mw:∀ b,X.old b→b<X.w.heap.size) (hv:X.ρ v=none):Ext X (X.nU ob v L):=
 ⟨rfl, (dK.refl _ _).alloc mw _, fun _ _ h => h, fun b o h => tA (hin b o h), fun u M hu => by
  grind[Cx.nU],fun _ _ h=>.inl h⟩
theorem zS {m:List (Tr aZ)} {t:Tr Unit} {ob:Obj} {v:Nat} {L:Loc} (h:aA X m t) (hv:X.ρ v=none):aA (X.nU ob v L) m t:=
 h.move (tC h.ni h.low hv) (fun k u M hk hu hc=>by
   obtain⟨M',jx,h2⟩:=h.cz hk
   rw[hu] at jx;cases jx
   exact heap_alloc_old _ _ _ (h2 hc).1) (fun _ _ _ _ _ _ _ h=>h) (fun b o hb=>by
   have:=h.ni b o hb
   show b<(X.w.alloc _).heap.size
   rw[World.size_alloc];omega)
theorem zT {ob:Obj} {v:Nat} {L:Loc} {n:Nat} : ew X (X.nU ob v L) v n n:=
 ⟨Nat.le_refl _, fun u M h => by
  grind[Cx.nU]⟩
theorem Ze (hs:eC X nt s a) (hfr:X.ρ aH=none) {src ds e:TypeId} {x:Operand} {x':bA} {b:ByteArray} {rd:List (Nat×Nat×Nat)} (ho:o.op=.convert src ds x) (h1:P.underlying src=some .string) (h2:P.underlying ds=some (.slice e)) (h3:P.underlying e=some (.int .u8))
  (hx:cr x=some x') (he:x'.ev s.slots=.d (.sc (.string b))):cD P X s a o dst aH (.bC { val:=.d (.sl (b.data.toList.map fun c=>[.sc (.int .u8 c.toNat)])),cv:=[],bR:=[],rd }):=by
 have hv:=aU hs hx;rw[he] at hv;have hv:=hv.sc
 have hrun:=run_bytes_of_string (P:=P) X.w src ds e b h1 h2 h3
 have hcap:b.size≤grownCap X.w b.size 0 e:=grownCap_ge _ _ _ _
 generalize grownCap X.w b.size 0 e=cap at hrun hcap
 let ob:Obj:=.cells (bytesRow b cap) e ((bytesRow b cap).size,(bytesRow b cap).size+1)
 let X2:=X.drew.nU ob aH ⟨0,0,0,0⟩
 let X3:=X2.more fun b' q=>b'=X.w.heap.size∧q<b.size
 have m1:aA X.drew s.mem s.aB:=zM hs.mem
 have e2:Ext X.drew X2:=tC m1.ni m1.low hfr
 have m2:aA X2 s.mem s.aB:=zS m1 hfr
 have hsz:X2.w.heap.size=X.w.heap.size+1:=World.size_alloc _ _
 have e3:Ext X2 X3:=Ext.more fun b' q hq=>by rw[hq.1];exact hs.mem.fresh
 have m3:aA X3 s.mem s.aB:=m2.more (fun b' q hq=>by rw[hq.1];exact⟨hs.mem.fresh,by omega⟩) fun k u M q hk hu hc hq=>by
  obtain⟨M',jx,g⟩:=m1.cz hk
  have:X2.ρ u=some M':=e2.loc _ _ jx
  rw[hu] at this;injection this with this;subst this
  have h4:=(g hc).1
  have h5:X.drew.w.heap.size=X.w.heap.size:=rfl
  have h6:=hq.1
  omega
 have hheap:X3.w.heap[X.w.heap.size]?=some ob:=heap_alloc_new X.drew.w ob
 have hx3:Ext X X3:=(og.trans e2).trans e3
 refine .value (Y:=X3) (v:=.slice (some ⟨X.w.heap.size,0,none⟩) b.size cap) ?_ hx3 ?_ m3 ⟨Nat.le_refl _,fun u M hu=>?_⟩
 ·simp [execOp, ho, hv, hrun]
  rfl
 ·refine DR.fD (b := X.w.heap.size) (o := 0) (sz := 1) ⟨fun f hf => ?_, fun i f j y hi hj => ?_⟩ (by simp) hcap fun _ => rfl
  ·grind
  ·rw [List.getElem?_map] at hi
   obtain⟨c,hc,rfl⟩:=Option.map_eq_some_iff.1 hi
   have Jy:i<b.data.toList.length:=(List.getElem?_eq_some_iff.1 hc).1
   match j,hj with
   |0,hj=>
    simp at hj;subst hj
    refine⟨.inr ⟨rfl,by simpa using Jy⟩,.int .u8 c.toNat,?_,.sc _ rfl⟩
    simp[World.cell?,hheap,ob,Nat.zero_add,Nat.mul_one,Nat.add_zero,Option.isSome_none,Bool.false_eq_true,if_false]
    unfold bytesRow<;>grind
 ·rcases (zT (X:=X.drew) (ob:=ob) (v:=aH) (L:=⟨0,0,0,0⟩) (n:=s.nv)).2 u M hu with q|q|q<;>grind[Cx.drew,VR,bA.ev,cr,St.app]
theorem Qc (hs:eC X nt s a) (hfr:X.ρ aH=none) {t:TypeId} {d:Nat} (ho:o.op=.makeMap t none) :
  cD P X s a o dst aH (.bC { val:=.mp (s.mem.length-1) d aH,cv:=[(s.mem.length-1,d,some (.mp aH []))],bR:=[],rd:=[] }):=by
 have hρ : (X.nU (.map #[] 0) aH ⟨X.w.heap.size,0,0,1⟩).ρ aH=some ⟨X.w.heap.size,0,0,1⟩:=if_pos rfl
 refine .value (Y:=X.nU (.map #[] 0) aH ⟨X.w.heap.size,0,0,1⟩) (v:=.map (some X.w.heap.size)) ?_ (tC hs.mem.ni hs.mem.low hfr) ⟨_,hρ,rfl⟩ ?_ zT
 ·simp[execOp,ho,Instr.makeMap,Cx.nU]
 ·refine (zS hs.mem hfr).add (e := .mp aH []) (L := ⟨X.w.heap.size, 0, 0, 1⟩) hρ ⟨rfl, hs.mem.fresh, fun o ho => Nat.lt_irrefl _ (hs.mem.ni _ _ ho), #[], 0, heap_alloc_new _ _, rfl⟩ fun k u M hk _ hu hc _ => ?_
  obtain⟨M',jx,h2⟩:=hs.mem.cz hk<;>grind[bw,St.app,Holds,Cx.nU]
theorem GS {m:List (Tr aZ)} {t:Tr Unit} (h:aA X m t) {lv sl aa:Nat} {ks:List (List UInt8)} (hr:setAt m lv sl aa=some ks) :
  ∃ L,X.ρ aa=some L∧l7 X (.mp aa ks) L∧aC m lv sl=some (.mp aa ks):=by
 unfold setAt at hr
 split at hr
 ·rename_i v ks' hg
  split at hr
  ·rename_i hv
   cases hr
   have hv:=beq_true.1 hv
   subst hv
   obtain⟨L,hL,hE⟩:=h.dW _ _ _ hg
   exact⟨L,hL,hE,hg⟩
  grind
 grind
theorem Qe (b:ByteArray) (l:List UInt8):(b==lV l)=decide (b.data.toList=l):=by
 have hb:∀ x y:ByteArray,(x==y)=(x.data==y.data):=fun x y=>by cases x;cases y;rfl
 grind[lV]
theorem zU {b:ByteArray} : ∀ {es:List MapEntry} {ks:List (List UInt8)} (i:Nat),es.map (fun e=>(e.key,e.val))=ks.map (fun l=>(Value.string (lV l),Value.bool true))→
  (hasB ks b.data.toList=false∧Instr.findNow .string (.string b) es i=some none)∨
  (hasB ks b.data.toList=true∧∃ j e,es[j]?=some e∧e.key=.string b∧e.val=.bool true∧Instr.findNow .string (.string b) es i=some (some (i+j,.bool true)))
 |[],[],i,_=>.inl ⟨rfl,rfl⟩
 |[],_ :: _,i,h=>by simp at h
 |_ :: _,[],i,h=>by simp at h
 | e :: es, l :: ks, i, h => by
  simp at h
  obtain⟨⟨hk,hv⟩,h⟩:=h
  have hsame:Instr.sameNow .string (.string b) e.key=some (decide (b.data.toList=l)):=by
   rw[hk]
   simp[Instr.sameNow]
   rw[Qe]
  by_cases hq:b.data.toList=l
  ·refine .inr ⟨by simp [hasB, hq], 0, e, rfl, ?_, hv, ?_⟩
   ·rw[hk,←hq];simp[lV]
   ·simp[Instr.findNow,hsame,hq,hv]
  ·rcases zU (b := b) (i + 1) h with ⟨h1, h2⟩ | ⟨h1, j, e', h2, h3, h4, h5⟩
   ·exact .inl ⟨by simpa[hasB,hq] using h1,by simp[Instr.findNow,hsame,hq,h2]⟩
   ·refine .inr ⟨by simpa [hasB, hq] using h1, j + 1, e', by simpa using h2, h3, h4, ?_⟩
    simp only[Instr.findNow,hsame,hq,decide_false,h5]<;>grind
theorem Qf {w:World} {c:Bool} {k:TypeId} {b:ByteArray} (hk:P.underlying k=some .string):(Instr.checkKey c 10000 k (.string b)).run P w=.ok () w:=by
 rw[Instr.checkKey]
 simp[run_underlying hk]
theorem Qg {n:Nat} {b:ByteArray} : Instr.sameBits n (.string b) (.string b)=true:=by
 have h:(b==b)=true:=by
  have:=Qe b b.data.toList
  simp_all[lV]
 cases n<;>exact h
theorem Ug (hs:eC X nt s a) {t k e:TypeId} {m x:Operand} {m' x':bA} {lv sl aa:Nat} {b:ByteArray} {ks:List (List UInt8)} (ho:o.op=.lookup t m x false) (ht:P.underlying t=some (.map k e)) (hk:P.underlying k=some .string) (hz:(P.info? e).bind (·.zero)=some (.bool false))
  (hm:cr m=some m') (hx:cr x=some x') (h1:m'.ev s.slots=.mp lv sl aa) (h2:x'.ev s.slots=.d (.sc (.string b))) (h3:setAt s.mem lv sl aa=some ks):Quiet P X o a (lu (.bool (hasB ks b.data.toList))):=by
 have g1:=aU hs hm;rw[h1] at g1
 have g2:=aU hs hx;rw[h2] at g2;have g2:=g2.sc
 obtain⟨L,hL,g1⟩:=g1
 obtain⟨L',hL',hE,_⟩:=GS hs.mem h3
 simp_all
 obtain⟨_,_,_,es,clock,hb,hf⟩:=hE
 refine⟨.bool (hasB ks b.data.toList),?_,.lu rfl⟩
 obtain⟨i,hi,Ez⟩:=Option.bind_eq_some_iff.1 hz
 have hc:=Qf (P:=P) (w:=X.w) (c:=es.isEmpty) (b:=b) hk
 rcases zU (b:=b) 0 hf with⟨q1,q2⟩|⟨q1,j,e',q2,q3,q4,q5⟩
 ·simp[execOp,ho,g1,g2,Instr.lookup,run_underlying ht,MapKept.run_getObj_map hb,hc,Instr.findKey,run_underlying hk,q2,zeroValue,typeInfo,hi,Ez,q1]
 ·simp[execOp,ho,g1,g2,Instr.lookup,run_underlying ht,MapKept.run_getObj_map hb,hc,Instr.findKey,run_underlying hk,q5,q1]
def Cx.yG (X:Cx) (g:Nat) (ob:Obj):Cx:={ X with w:={ X.w with heap:=X.w.heap.setIfInBounds g ob } }
theorem Nr {g:Nat} {ob ob':Obj} (hg:X.w.heap[g]?=some ob'):(X.yG g ob).w.heap[g]?=some ob:=by
 grind[Cx.yG]
theorem tD {g b:Nat} {ob:Obj} (h:b≠g):(X.yG g ob).w.heap[b]?=X.w.heap[b]?:=by
 simp[Cx.yG,Ne.symm h]
theorem GU {g:Nat} {ob:Obj} (hb:¬X.old g) (hF:∀ o,¬X.F g o):Ext X (X.yG g ob):=by
 refine⟨rfl,⟨rfl,rfl,rfl,by simp[Cx.yG],fun k hk=>tD fun e=>hb (e ▸ hk)⟩,fun _ _ h=>h,fun b o h=>?_,fun _ _ h=>h,fun _ _ h=>.inl h⟩
 have hne:b≠g:=by grind
 simp[World.cell?,tD hne]
theorem Uh (hs:eC X nt s a) {t k e:TypeId} {m x:Operand} {m' x':bA} {lv sl aa:Nat} {b:ByteArray} {ks:List (List UInt8)} {rd:List (Nat×Nat×Nat)} (ho:o.op=.mapUpdate t m x (.const (.bool true))) (ht:P.underlying t=some (.map k e)) (hk:P.underlying k=some .string)
  (hm:cr m=some m') (hx:cr x=some x') (h1:m'.ev s.slots=.mp lv sl aa) (h2:x'.ev s.slots=.d (.sc (.string b))) (h3:setAt s.mem lv sl aa=some ks) :
  cD P X s a o dst aH (.bC { val:=je,cv:=[(lv,sl,some (.mp aa (qB ks b.data.toList)))],bR:=[],rd }):=by
 have g1:=aU hs hm;rw[h1] at g1
 have g2:=aU hs hx;rw[h2] at g2;have g2:=g2.sc
 obtain⟨L,hL,g1⟩:=g1
 obtain⟨L',hL',hE,hg⟩:=GS hs.mem h3
 rw[hL] at hL';cases hL'
 obtain⟨c1,c2,c3,es,clock,hb,hf⟩:=hE
 have hc:=Qf (P:=P) (w:=X.w) (c:=false) (b:=b) hk
 have gt:a.eval (.const (.bool true))=.bool true:=rfl
 have fin : ∀ es' clock', (Instr.mapUpdate t (.map (some L.b)) (.string b) (.bool true)).run P X.w = .ok () (X.yG L.b (.map es' clock')).w → Ep es' (qB ks b.data.toList) →
   cD P X s a o dst aH (.bC { val:=je,cv:=[(lv,sl,some (.mp aa (qB ks b.data.toList)))],bR:=[],rd }):=by
  intro es' clock' hrun hfit
  refine .skip (Y:=X.yG L.b (.map es' clock')) ?_ (GU c2 c3) mN ?_ (ew.EA rfl)
  ·simp[execOp,ho,g1,g2,gt,hrun]
  ·have hap : ∀ k w M, Holds (bF s.mem lv sl none) s.aB k w → X.ρ w = some M → 0 < M.cap → M.b ≠ L.b := by
    intro k' w M hk' hw vT
    have hold:Holds s.mem s.aB k' w∧k'≠bw lv sl:=by
     rcases hk' with⟨bV,cS,e',rfl,he',lU⟩|⟨rfl,he'⟩
     ·rw [bM] at he'
      split at he'
      ·cases he'
      ·rename_i hcc
       refine⟨.inl ⟨bV,cS,e',rfl,he',lU⟩,fun hq=>?_⟩
       obtain⟨rfl,rfl⟩:=qI hq
       apply hcc
       unfold aC at he'<;>grind
     ·exact⟨.inr ⟨rfl,he'⟩,fun hq=>dI hq.symm⟩
    exact hs.mem.apart _ _ _ _ _ _ hold.1 (.inl ⟨lv,sl,_,rfl,hg,rfl,rfl⟩) hold.2 hw hL vT (by omega)
   have CP:aA (X.yG L.b (.map es' clock')) (bF s.mem lv sl none) s.aB:=
    (hs.mem.erase lv sl).move (GU c2 c3) (fun k' w M hk' hw vT => tD (hap k' w M hk' hw vT)) (fun _ _ _ _ _ _ _ h => h) fun b' o' hb' => by
     have:=hs.mem.ni b' o' hb'
     simpa[Cx.yG] using this
   exact CP.reset (e:=.mp aa (qB ks b.data.toList)) (L:=L) hL ⟨c1,c2,c3,es',clock',Nr hb,hfit⟩ fun k' w M hk' hw vT _=>hap k' w M hk' hw vT
 rcases zU (b:=b) 0 hf with⟨q1,q2⟩|⟨q1,j,e',q2,q3,q4,q5⟩
 ·refine fin (es.push { key := .string b, val := .bool true, born := clock }) (clock + 1) ?_ ?_
  ·simp[Instr.mapUpdate,run_underlying ht,MapKept.run_getObj_map hb,hc,Instr.findKey,run_underlying hk,q2,MapKept.run_setObj_map _ hb,Cx.yG]
  ·unfold Ep qB at *
   rw[q1]
   simp[hf,lV]
 ·refine fin (es.modify j fun e => { e with key := .string b, val := .bool true }) clock ?_ ?_
  ·simp [Instr.mapUpdate, run_underlying ht, MapKept.run_getObj_map hb, hc, Instr.findKey, run_underlying hk, q5, MapKept.run_setObj_map _ hb, Cx.yG, Instr.keyThatStays]
   have hj:es[j]?=some e':=by grind
   intro hno
   rw[hj] at hno
   simp only[Option.map_some,Option.getD_some,q3,Qg] at hno<;>grind
  ·unfold Ep qB at *
   apply List.ext_getElem?
   grind
end
end Go.bq
