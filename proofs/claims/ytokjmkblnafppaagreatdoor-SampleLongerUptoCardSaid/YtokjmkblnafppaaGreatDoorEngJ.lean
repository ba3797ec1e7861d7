/- Stores, slices built and made. -/
import Derived.Test.YtokjmkblnafppaaGreatDoorEngI
set_option linter.unusedVariables false
set_option linter.unusedSimpArgs false
namespace Go.bI
open Go Go.RowKit
theorem jo:∀ (u v:List (Nat×Nat×Option bH)) (m:List (Tr bH)),bB m (u++v)=bB (bB m u) v
 |[],_,_=>rfl
 |(lv,sl,e) :: u,v,m=>by simp only[List.cons_append,bB];exact jo u v _
theorem nB {α : Type} (cs new:List α) (off:Nat) (h:off≤cs.length):((splice cs off new).drop off).take new.length=new:=by
 unfold splice
 rw[List.append_assoc,List.drop_append_of_le_length (by simp;omega),List.drop_of_length_le (by simp;omega),List.nil_append,List.take_left]
theorem Ng {sz:Nat} {els:List (List D)} (hl:∀ e∈els,e.length=sz) {i off:Nat} {e ds:List D} (hi:els[i]?=some e) (ho:off+ds.length≤sz):(els.set i (splice e off ds)).flatten=splice els.flatten (i*sz+off) ds:=by
 have he:=hl e (List.mem_of_getElem? hi)
 have hlt:i<els.length:=(List.getElem?_eq_some_iff.1 hi).1
 have hle:i*sz+sz≤els.flatten.length:=by
  rw[bf hl]
  have:=Nat.mul_le_mul_right sz (show i+1≤els.length from hlt)
  rw[Nat.add_mul] at this
  omega
 have h1:(splice e off ds).length=sz:=by rw[jM _ _ _ (by omega),he]
 rw[pW hl i _ hlt h1]
 apply List.ext_getElem?
 intro j
 have q1:=cQ els.flatten (splice e off ds) (i*sz) (by omega) j
 have q2:=cQ els.flatten ds (i*sz+off) (by omega) j
 have q3:=cQ e ds off (by omega) (j-i*sz)
 rw[q1,q2,h1]
 by_cases hb:i*sz≤j∧j<i*sz+sz
 ·rw [if_pos hb, q3]
  by_cases hc:off≤j-i*sz∧j-i*sz<off+ds.length
  ·rw[if_pos hc,if_pos (by omega),show j-i*sz-off=j-(i*sz+off) by omega]
  ·rw [if_neg hc, if_neg (by omega)]
   have:=fu hl i (j-i*sz) e hi (by omega)
   rw[show i*sz+(j-i*sz)=j by omega] at this
   exact this.symm
 ·rw[if_neg hb,if_neg (by omega)]
section
variable {P:Program} {X:Cx} {nt:Nat} {s:St} {a:Act} {o:Oper} {dst:Option Nat} {aR:Nat}
theorem eC.Dr {X Y:Cx} {v n:Nat} (h:Y.ρ = X.ρ):eC X Y v n n:=⟨Nat.le_refl _,fun u L hu=>.inl (by rw[←h];exact hu)⟩
theorem Nh (hs : eL X nt s a) {t : TypeId} {x v : Operand} {x' v' : bR} {sz : Nat} {e : eX} (ho : o.op = .store t x v) (hsz : cY P t = some sz) (hx : cL x = some x') (hv : cL v = some v') (hr : oh s.mem sz (x'.ev s.slots) (v'.ev s.slots) = some e) :
  cU P X s a o dst aR (.bS e):=by
 obtain⟨i,hi,HL⟩:=eM hsz
 have hp:=bw hs hx
 have hval:=bw hs hv
 have run:∀ (b off:Nat) (Y:Cx),a.eval x=.pointer (some ⟨b,off,none⟩)→(a.eval v).cells.size=sz→(storeCells ⟨b,off,none⟩ (a.eval v).cells.toList).run P X.w=.ok () Y.w→(execOp a.eval o).run P X.w=.ok .skip Y.w:=by
  intro b off Y h1 h2 h3
  simp[execOp,ho,Instr.storeAt,h1,iI,storeVar,sizeOf,typeInfo,hi,HL,h2,h3]
 unfold oh at hr
 split at hr
 ·rename_i lv sl af j off new hq hc
  rw[hq] at hp
  obtain⟨L,hL,hp⟩:=hp
  have hcells:=ot hc hval
  split at hr
  ·rename_i hlen
   have hsize:(a.eval v).cells.size=sz:=by rw[←hlen,hcells.length,Array.length_toList]
   split at hr
   ·rename_i eZ cs hg
    split at hr
    ·rename_i Bw hj
     split at hr
     ·rename_i hle
      injection hr with hr;subst hr
      have Bw:=beq_true.1 Bw
      have hj:=beq_true.1 hj
      subst Bw;subst hj
      obtain⟨L',Y,hL',hx',hρ,hm,hst⟩:=B1 (P:=P) hs.mem hg (by rw[hlen];exact hle) hcells
      rw[hL] at hL';injection hL' with hL';subst hL'
      refine .skip (Y:=Y) (run L.b (L.o+off) Y (by rw[hp];simp) hsize hst) hx' l8 hm (eC.Dr hρ)
     ·cases hr
    ·cases hr
   ·rename_i eZ els hg
    split at hr
    ·rename_i Bw
     split at hr
     ·rename_i el ds ks hel hds
      split at hr
      ·rename_i hle
       obtain⟨hle,hks⟩:=hle
       injection hr with hr;subst hr
       have Bw:=beq_true.1 Bw
       subst Bw
       have Hx:=Dp hs.mem (ks:=ks) hds hcells fun p hp=>hp
       have wu:=Dn hs.mem ks
       have hx1:=oA hs.mem ks
       have hg1:aN (bB s.mem (dy s.mem ks)) lv sl=some (.row eZ els):=by rw[ov,if_neg hks,hg]
       have hlt:j<els.length:=(List.getElem?_eq_some_iff.1 hel).1
       obtain⟨L',hL',hE⟩:=hs.mem.ec _ _ _ hg
       have:X.ρ eZ=some L':=hL'
       rw[hL] at this;injection this with this;subst this
       obtain⟨e1,e2,_,_⟩:=hE
       have hcap:0<L.cap:=by omega
       have zh:=e2 el (List.mem_of_getElem? hel)
       have hlen':ds.length=(a.eval v).cells.toList.length:=Hx.length
       have aia:(a.eval v).cells.toList.length=sz:=by rw[Array.length_toList];exact hsize
       have hfl:=Ng (ds:=ds) e2 hel (off:=off) (by omega)
       have adX:=bf e2
       have hjl:j*L.sz+L.sz≤els.length*L.sz:=by
        have:=Nat.mul_le_mul_right L.sz (show j+1≤els.length from hlt)
        rwa[Nat.add_mul,Nat.one_mul] at this
       have hjc:els.length*L.sz≤L.cap*L.sz:=Nat.mul_le_mul_right _ e1
       obtain⟨Y,hx',hρ,hm,hst⟩:=B2 (P:=P) wu (k:=j*L.sz+off) (els':=els.set j (splice el off ds)) (vs:=(a.eval v).cells.toList) hg1 hL hcap (by omega) (by
         rw[hfl,←hlen',nB _ _ _ (by omega)]
         exact Hx) (fun f hf=>by
         rcases List.mem_or_eq_of_mem_set hf with hf|rfl
         ·exact e2 f hf
         ·rw[jM _ _ _ (by omega),zh]) (by simpa using e1) (fun q y hq=>by
         rw[hfl,cQ _ _ _ (by omega)] at hq
         split at hq
         ·exact .inl (by omega)
         ·exact .inr hq)
       refine .skip (Y:=Y) (run L.b (L.o+j*L.sz+off) Y hp hsize (by rw[Nat.add_assoc];exact hst)) (hx1.trans hx') l8 ?_ (eC.Dr hρ)
       show aB Y (bB s.mem (dy s.mem ks++_)) s.aE
       rw[jo]
       exact hm
      ·cases hr
     ·cases hr
    ·cases hr
   ·cases hr
   ·cases hr
   ·cases hr
  ·cases hr
 ·cases hr
theorem K2 {w:World} {F:Nat→Nat→Prop} {v:Value} {x:D} (h:sy v=some x):DR w F x v:=by
 cases v with
 | slice a n c =>
  simp only[sy] at h
  split at h
  ·rename_i hv
   cases hv
   injection h with h;subst h
   exact .sl [] none 0 0 0 0 0 (fun _ _=>undef) rfl (Nat.le_refl _) (by simp) (fun h=>absurd h (by simp)) (by simp) (by simp) (by simp)
  all_goals first|(cases h;done)|simp_all
 |agg cs=>simp[sy] at h
 |tuple cs=>simp[sy] at h
 |func fn first cap=>simp[sy] at h
 |_=>simp only[sy] at h;injection h with h;subst h;exact DR.sc _ rfl
theorem j7 {w:World} {F:Nat→Nat→Prop} : ∀ {vs:List Value} {xs:List D},iH vs=some xs→az (DR w F) xs vs
 |[],xs,h=>by simp[iH] at h;subst h;trivial
 | v :: r, xs, h => by
  simp only[iH] at h
  split at h
  ·rename_i x xs' h1 h2
   injection h with h;subst h
   exact⟨K2 h1,j7 h2⟩
  ·cases h
theorem hU {w:World} {F:Nat→Nat→Prop} {z:List D} {Z:Array Value} {sz:Nat} (hz:az (DR w F) z Z.toList) (hl:z.length=sz) (h0:0<sz) (n k:Nat) (hk:n*sz≤k) :
  az (DR w F) (List.replicate n z).flatten ((madeCells Z k).toList.take (n*sz)):=by
 have hu:∀ e∈List.replicate n z,e.length=sz:=fun e he=>by rw[(List.mem_replicate.1 he).2];exact hl
 refine .sB (by rw[bf hu];simp[madeCells];omega) fun i x v hx hv=>?_
 have hi:i<n*sz:=by
  have:=(List.getElem?_eq_some_iff.1 hx).1
  rwa[bf hu,List.length_replicate] at this
 rw[List.getElem?_take,if_pos hi] at hv
 have hq:i / sz<n:=(Nat.div_lt_iff_lt_mul h0).2 hi
 have hg:=fu hu (i / sz) (i % sz) z (by rw[List.getElem?_replicate,if_pos hq]) (Nat.mod_lt _ h0)
 rw[show i / sz*sz+i % sz=i by rw[Nat.mul_comm];exact Nat.div_add_mod i sz,hx] at hg
 have hZ:Z.size=sz:=by rw[←hl,hz.length,Array.length_toList]
 obtain⟨u,dw,hr⟩:=hz.get _ _ hg.symm
 have hlt:i % sz<Z.size:=by rw[hZ];exact Nat.mod_lt _ h0
 have:v=u:=by
  simp only[madeCells,Array.getElem?_toList,Array.getElem?_map] at hv
  rw[Array.getElem?_range,if_pos (by omega)] at hv
  simp only[Option.map_some] at hv
  injection hv with hv
  rw[←hv,hZ]
  rw[getElem!_pos Z _ hlt]
  rw[Array.getElem?_toList,Array.getElem?_eq_getElem hlt] at dw
  injection dw
 rw[this]
 exact hr
theorem mY {Z:Array Value} {k:Nat} : (madeCells Z k).toList.take k=(madeCells Z k).toList:=List.take_of_length_le (by simp[madeCells])
theorem ER (hs : eL X nt s a) {sz : Nat} {K : List (Nat × Nat)} : ∀ (ps : List (Nat × Operand)) (l : List (Nat × bR)) (els els' : List (List D)) (ks : List (Nat × Nat)) (C : Array Value),
  kE ps=some l→(∀ e∈els,e.length=sz)→az (DR X.w (X.j5 s.mem K).F) els.flatten C.toList→mO s.mem s.slots sz els l=some (els',ks)→(∀ p∈ks,p∈K)→
   ∃ C',Instr.fill (fun i=>some (i*sz,sz)) C (ps.map fun p=>(p.1,a.eval p.2))=some C'∧az (DR X.w (X.j5 s.mem K).F) els'.flatten C'.toList∧(∀ e∈els',e.length=sz)∧els'.length=els.length
 |[],l,els,els',ks,C,hp,hl,hd,hf,hk=>by
  simp only[kE] at hp
  injection hp with hp;subst hp
  simp only[mO] at hf
  injection hf with hf;injection hf with h1 h2;subst h1
  exact⟨C,rfl,hd,hl,rfl⟩
 | (i, x) :: ps, l, els, els', ks, C, hp, hl, hd, hf, hk => by
  simp only[kE] at hp
  split at hp
  ·rename_i y ys h2 h3
   injection hp with hp;subst hp
   simp only[mO] at hf
   split at hf
   ·rename_i e k1 he
    split at hf
    ·rename_i hc
     obtain⟨hc1,pz⟩:=hc
     split at hf
     ·rename_i U0 k2 hf'
      injection hf with hf;injection hf with e1 e2;subst e1;subst e2
      unfold BQ at he
      cases hcs:cellsOf (y.ev s.slots) with
      |none=>rw[hcs] at he;cases he
      | some cs =>
       rw[hcs] at he
       simp only[Option.bind_some] at he
       have hv:=Dp hs.mem (ks:=K) he (ot hcs (bw hs h2)) fun p hp=>hk p (by simp[hp])
       have hsz:(a.eval x).cells.size=sz:=by rw[←hc1,hv.length,Array.length_toList]
       have hC:C.size=els.length*sz:=by rw[←bf hl,hd.length,Array.length_toList]
       have hle:i*sz+sz≤C.size:=by
        rw[hC]
        have:=Nat.mul_le_mul_right sz (show i+1≤els.length from pz)
        rwa[Nat.add_mul,Nat.one_mul] at this
       obtain⟨C',h4,h5,h6,h7⟩:=ER hs ps ys (els.set i e) U0 k2 ((a.eval x).cells.zipIdx.foldl (fun cs x=>match x with|(c,j)=>cs.setIfInBounds (i*sz+j) c) C) h3 (fun f hf=>by
         rcases List.mem_or_eq_of_mem_set hf with hf|rfl
         ·exact hl f hf
         ·exact hc1) (by
         rw[BY _ _ C (by omega),pW hl i e pz hc1]
         exact hd.splice hv) hf' fun p hp=>hk p (by simp[hp])
       refine⟨C',?_,h5,h6,by simpa using h7⟩
       simp only[List.map_cons,Instr.fill,hsz,ne_eq,not_true_eq_false,decide_false,Bool.false_or]
       rw[if_neg (by simp;omega)]
       exact h4
     ·cases hf
    ·cases hf
   ·cases hf
  ·cases hp
theorem pY {t e:TypeId} {n sz:Nat} {ps:Array (Nat×Operand)} {i:TypeInfo} {zv:Value} {C':Array Value} (ho:o.op=.buildSlice t n ps) (ht:P.underlying t=some (.slice e)) (hi:P.info? e=some i) (HL:i.size=sz) (hz:i.zero=some zv) (h24:n*sz≤16777216)
  (hf:Instr.fill (fun i=>some (i*sz,sz)) (madeCells zv.cells (n*sz)) (ps.toList.map fun p=>(p.1,a.eval p.2))=some C') :
  (execOp a.eval o).run P X.w=.ok (.value (.slice (some ⟨X.w.heap.size,0,none⟩) n n)) (X.w.alloc (.cells C' e)):=by
 have hn:¬(16777216<n*sz):=by omega
 have key:(Instr.buildSlice t n (ps.map fun (x:Nat×Operand)=>(x.1,a.eval x.2))).run P X.w=.ok (.slice (some ⟨X.w.heap.size,0,none⟩) n n) (X.w.alloc (.cells C' e)):=by
  unfold madeCells at hf
  by_cases h0:n*sz=0
  ·have e0 : Array.range 0 = #[] := rfl
   rw[h0,e0,Array.map_empty] at hf
   simp[Instr.buildSlice,run_underlying ht,sizeOf,typeInfo,hi,HL,h0,newRow,e0,hf]
  ·simp[Instr.buildSlice,run_underlying ht,sizeOf,typeInfo,hi,HL,hn,h0,zeroValue,hz,hf,newRow]
 simp only[execOp,ho]
 simp[key]
end
end Go.bI
