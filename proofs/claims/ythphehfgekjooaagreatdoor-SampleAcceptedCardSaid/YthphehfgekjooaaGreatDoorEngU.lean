/- A part of the proof: EngT, EngU. -/
import Derived.Test.YthphehfgekjooaaGreatDoorEngS
import Derived.Test.YthphehfgekjooaaGreatDoorEngMap
set_option linter.unusedVariables false
set_option linter.unusedSimpArgs false
namespace Go.bq
open Go Go.RowKit
section
variable {P:Program} {X:Cx} {nt:Nat} {s:St} {a:Act} {o:Oper} {dst:Option Nat} {aH:Nat}
theorem wo {t:TypeId} {sz yV:Nat} (h:uv P t=some (sz,yV)):∃ e i z,P.underlying t=some (.slice e)∧P.info? e=some i∧i.zero=some z∧z.cells.size=i.size∧0<i.size∧i.size=sz∧i.bytes=yV:=by
 unfold uv at h
 split at h
 ·split at h
  ·rename_i i z hi hz
   split at h
   ·obtain⟨i',zv,hi',Ez,rfl⟩:=iB hz<;>grind
   grind
  grind
 grind
theorem fu {f:Nat} {args:Array Operand} {ts:Array TypeId} (ho:o.op=.call { callee:=.value (.func f),args,argTypes:=ts }) (hf:∃ fn,P.funcs[f]?=some fn∧fn.body.isSome=true∧(fn.name == "runtime.NumGoroutine")=false) :
  (execOp a.eval o).run P X.w=.ok (.enter f (args.map a.eval)) X.w:=by
 obtain⟨fn,hf,hb,hn⟩:=hf
 have:=qR (P:=P) (args:=args.map a.eval) (w:=X.w) hf hb hn
 have he:a.eval (.func f)=.func (.func f) #[] #[]:=rfl
 simp[execOp,ho,resolve,he,Deferred.ofValue,invoke]<;>omega
theorem NA {f:Nat} {t:Nat} {args:Array Operand} {ts:Array TypeId} {cap:Array Value} (ho:o.op=.call { callee:=.value (.tmp t),args,argTypes:=ts }) (hv:a.eval (.tmp t)=.func (.func f) #[] cap) (hf:∃ fn,P.funcs[f]?=some fn∧fn.body.isSome=true∧(fn.name == "runtime.NumGoroutine")=false) :
  (execOp a.eval o).run P X.w=.ok (.enter f (args.map a.eval++cap)) X.w:=by
 obtain⟨fn,hf,hb,hn⟩:=hf
 have:=qR (P:=P) (args:=args.map a.eval++cap) (w:=X.w) hf hb hn
 simp[execOp,ho,resolve,hv,Deferred.ofValue,invoke]<;>omega
theorem uK (hs:eC X nt s a) (hfr:X.ρ aH=none) {x y:Operand} {x' y':bA} {t u:TypeId} {sz yV:Nat} {row:Bool} {lv sl:Nat} {E:eU} (ho:o.op=.call { callee:=.builtin .append,args:=#[x,y],argTypes:=#[t,u] }) (hu:EC P u) (he:uv P t=some (sz,yV))
  (hx:cr x=some x') (hy:cr y=some y') (hr:cP s row lv sl aH sz yV (x'.ev s.slots) (y'.ev s.slots)=some E):cD P X s a o dst aH (.bC E):=by
 obtain⟨e,i,z,ht,hi,hz,hzs,h0,rfl,rfl⟩:=wo he
 obtain⟨Y,v,h1,h2,h3,h4,h5⟩:=qQ (P:=P) (ty:=o.type) (n:=s.nv) hs.mem hfr ht hu hi hz hzs h0 (aU hs hx) (aU hs hy) hr
 exact .value (xj (w:=Y.w) ho h1) h2 h3 h4 h5
theorem NB (hs:eC X nt s a) (hfr:X.ρ aH=none) {t e:TypeId} {sz l h k:Nat} {x:Operand} {x':bA} {lo hi mx:Option Operand} {lo' hi' Cb:Option bA} {E:eU} (ho:o.op=.slice t x lo hi mx) (ht:P.underlying t=some (.slice e)) (hsz:cC P e=some sz)
  (hx:cr x=some x') (hlo:pq lo=some lo') (hhi:pq hi=some hi') (JL:pq mx=some Cb) (bl:eG lo' s.slots 0=some l) (bh:eG hi' s.slots 0=some h) (bk:eG Cb s.slots 0=some k)
  (c4:Cb.isNone=true) (hr:GC s aH sz (x'.ev s.slots) l (hi'.map fun _=>h)=some E):cD P X s a o dst aH (.bC E):=by
 have hv:=aU hs hx
 have eh:∀ n,(hi'.map fun _=>h).getD n=if hi'.isSome then h else n:=fun n=>by cases hi'<;>rfl
 have em:Cb.isSome=false:=by simp_all
 unfold GC at hr
 split at hr
 ·rename_i lv sl aa off len sz' he
  split at hr
  ·rename_i els hrow
   split at hr
   ·rename_i hc
    obtain⟨rfl,c1,c2,c3⟩:=hc
    cases hr
    rw[he] at hv
    obtain⟨L,ad,cap,hL,hLs,Gj,hle,h4⟩:=hv
    obtain⟨Y,hw,g1,g2,g3,g4⟩:=L8 (n:=s.nv) hs.mem hfr (h':=(hi'.map fun _=>h).getD len) ⟨L,ad,cap,hL,hLs,rfl,hle,h4⟩ hrow c1 c2 c3
    have run:=CK hs (P:=P) ho ht hsz Gj hlo hhi JL bl bh bk (by rw[←eh];exact c1) (by rw[←eh,em];simp only[Bool.false_eq_true,if_false];omega) (by rw[em];simp) (by rw[em];exact fun h=>by cases h)
    rw[←eh,em] at run
    refine .value (Y:=Y) (by rw[hw];exact run) g1 g2 ?_ g4
    exact g3
   grind
  grind
 grind
theorem Cn (hs:eC X nt s a) (hfr:X.ρ aH=none) {x y:Operand} {x' y':bA} {t u e':TypeId} {sz yV k:Nat} {kd:IntKind} {zl:List Value} {z:List D} {row:Bool} {lv sl:Nat} {E:eU} (ho:o.op=.call { callee:=.builtin .append,args:=#[x,y],argTypes:=#[t,u] }) (hu:P.underlying u=some (.int kd)) (ht':P.underlying t=some (.slice e')) (he:uv P t=some (sz,yV))
  (hzp:mM P e'=some zl) (Cl:iy zl=some z) (hzl:z.length=sz) (hx:cr x=some x') (hy:cr y=some y') (hk:fo (y'.ev s.slots)=some k) (h63:k≤dU) (hby:k*yV≤jl) (hr:cP s row lv sl aH sz yV (x'.ev s.slots) (.d (.sl (List.replicate k z)))=some E):cD P X s a o dst aH (.bC E):=by
 obtain⟨e,i,zv,ht,hi,hz,hzs,h0,rfl,rfl⟩:=wo he
 simp_all
 obtain⟨i',zv',hi',Ez,rfl⟩:=iB hzp
 rw[hi] at hi';cases hi'
 rw[hz] at Ez;cases Ez
 obtain⟨kk,hke⟩:=jo hk (aU hs hy)
 have hZ:aq (DR X.w X.F) z zv.cells.toList:=kr Cl
 have qP:=gQ hZ hzl h0 k (k*i.size) (Nat.le_refl _)
 have hcl:(madeCells zv.cells (k*i.size)).toList.take (k*i.size)=(Builtin.zeroCells zv.cells k).toList:=by
  rw[List.take_of_length_le (by simp[madeCells])]
  simp[madeCells,Builtin.zeroCells,hzs]
 rw[hcl] at qP
 obtain⟨Y,v,h1,h2,h3,h4,h5⟩:=uH (P:=P) (u:=u) (ty:=o.type) (yv:=a.eval y) (n:=s.nv) hs.mem hfr ht hi hz hzs h0 (aU hs hx) (fun news hn hnl=>by
  injection hn with hn;subst hn
  refine⟨_,qP,?_⟩
  rw[List.length_replicate]
  exact .zero kd kk zv hu hz hzs hke h63 hby rfl) hr
 exact .value (xj (w:=Y.w) ho h1) h2 h3 h4 h5
theorem G1 (hs:eC X nt s a) (hfr:X.ρ aH=none) {f T:Nat} {x:Operand} {x':bA} {ts:Array TypeId} {sz yV:Nat} {row:Bool} {lv sl:Nat} {E:eU} {els:List (List D)} (hc:EF P f T) (ho:o.op=.call { callee:=.value (.func f),args:=#[x],argTypes:=ts }) (he:uv P T=some (sz,yV))
  (hx:cr x=some x') (hel:cH s.mem (x'.ev s.slots)=some els) (hr:cP s row lv sl aH sz yV (.own [] .full) (x'.ev s.slots)=some E):cD P X s a o dst aH (.bC E):=by
 obtain⟨e,i,z,ht,hi,hz,hzs,h0,rfl,rfl⟩:=wo he
 have hv:=aU hs hx
 obtain⟨ad,cap,_,_,_,bI,_⟩:=qM hs.mem hel hv
 have hcl:=GV (P:=P) (n:=s.nv) hc hs.mem hfr ht hi hz hzs h0 hv ⟨ad,_,cap,bI⟩ hr
 obtain⟨fn,hf,hb,_,_,hn⟩:=hc.fn
 intro K Q hK
 unfold Oper.wp
 have hrun:(execOp a.eval o).run P X.w=.ok (.enter f #[a.eval x]) X.w:=by
  have:=fu (P:=P) (X:=X) (a:=a) ho ⟨fn,hf,by rw[hb];rfl,hn⟩<;>grind
 rw[hrun]
 refine Calls.mono hcl ?_
 rintro en w' ⟨Y,v,rfl,rfl,h2,h3,h4,h5⟩
 exact hK Y v h2 h3 h4 h5
theorem JG.VR {X:Cx} {x:AV} {v:Value} (h:JG X x v):Go.bq.VR X x v:=by
 cases x<;>first|exact h|exact h.elim
theorem Qo {call : Go.bq.Call} {sh : Nat → Bool} {dP : Nat → Option TypeId} (cc : bX P call) (iS : ∀ f T, dP f = some T → kf P f T) (hs : eC X nt s a) (hfr : X.ρ aH = none) (z8 : aH < s.nv) (hdom : ∀ v, s.nv ≤ v → X.ρ v = none) {c : Go.Call} {TJ : bL} {row d : Nat} {r : cR}
  (ho:o.op=.call c) (hp:PS P dP c=some TJ) (hr:TJ.run call sh s row d aH=some r):cD P X s a o dst aH r:=by
 obtain⟨callee,args,ts⟩:=c
 obtain⟨args⟩:=args
 obtain⟨ts⟩:=ts
 unfold PS at hp
 cases callee with
 | value f =>
  cases f with
  | func f =>
   simp at hp
   split at hp
   ·rename_i T x hT
    split at hp
    ·rename_i hq
     have hq:=Nat.eq_of_beq_eq_true hq
     obtain⟨x',hx',rfl⟩:=aG hp
     obtain⟨E,hE,rfl⟩:=aG hr
     have hc:=(iS f T hT).sort hq
     have hrun:(execOp a.eval o).run P X.w=.ok (.enter f #[a.eval x]) X.w:=by
      have:=fu (P:=P) (X:=X) (a:=a) ho hc.fn
      simpa using this
     exact JT (_ts:=ts.toArray) hs hc hrun hx' hE
    ·rename_i hq
     split at hp
     ·rename_i we
      have we:=Nat.eq_of_beq_eq_true we
      obtain⟨x',hx',rfl⟩:=aG hp
      obtain⟨E,hE,rfl⟩:=aG hr
      have hc:=(iS f T hT).compact we
      have hrun:(execOp a.eval o).run P X.w=.ok (.enter f #[a.eval x]) X.w:=by
       have:=fu (P:=P) (X:=X) (a:=a) ho hc.fn
       simpa using this
      exact Cm (_ts:=ts.toArray) hs hfr hc hrun hx' hE
     ·rename_i we
      split at hp
      ·rename_i sz yV x' he hx'
       cases hp
       simp[bL.run] at hr
       split at hr
       ·rename_i els hel
        obtain⟨E,hE,rfl⟩:=aG hr
        exact G1 hs hfr ((iS f T hT).clone (by rintro rfl;cases hq) (by rintro rfl;cases we)) ho he hx' hel hE
       ·cases hr
      ·cases hp
   ·cases hp
   ·split at hp
    ·obtain ⟨aD, has, rfl⟩ := aG hp
     simp[bL.run] at hr
     have hargs:=uy hs has
     split at hr
     ·exact wm cc hs hfr z8 hdom (bu:=(Array.mk _).map a.eval) (by rw[Array.toList_map];exact hargs) hr fun hf=>fu ho hf
     ·exact C2 cc hs (bu:=(Array.mk _).map a.eval) (by rw[Array.toList_map];exact hargs) hr fun hf=>fu ho hf
    ·obtain ⟨aD, has, rfl⟩ := aG hp
     simp[bL.run] at hr
     have hargs:=uy hs has
     split at hr
     ·exact C2 cc hs (bu:=(Array.mk _).map a.eval) (by rw[Array.toList_map];exact hargs) hr fun hf=>fu ho hf
     ·split at hr
      ·exact Nx cc hs hdom (bu:=(Array.mk _).map a.eval) (by rw[Array.toList_map];exact hargs) hr fun hf=>fu ho hf
      split at hr
      ·exact Ny cc hs hfr (bu:=(Array.mk _).map a.eval) (by rw[Array.toList_map];exact hargs) hr fun hf=>fu ho hf
      split at hr
      ·exact Nz cc hs hfr (bu:=(Array.mk _).map a.eval) (by rw[Array.toList_map];exact hargs) hr fun hf=>fu ho hf
      ·exact wm cc hs hfr z8 hdom (bu:=(Array.mk _).map a.eval) (by rw[Array.toList_map];exact hargs) hr fun hf=>fu ho hf
  | tmp t =>
   obtain⟨aD,has,rfl⟩:=aG hp
   simp[bL.run] at hr
   split at hr
   ·rename_i f cap hq
    have hargs:=uy hs has
    have hv:=aU hs (x:=.tmp t) (y:=.t t) rfl
    rw[hq] at hv
    obtain⟨vs,hv,hcap⟩:=hv
    refine wm cc hs hfr z8 hdom (bu:=(Array.mk args).map a.eval++vs) (by
     rw[Array.toList_append,Array.toList_map]
     exact hargs.append (hcap.mono fun _ _=>JG.VR)) hr fun hf=>NA ho hv hf
   ·cases hr
  |const v=>cases hp
  |global g=>cases hp
 |invoke r m=>cases hp
 | builtin b =>
  simp at hp
  split at hp
  ·
   split at hp
   ·rename_i e hu
    obtain⟨x',hx',rfl⟩:=aG hp
    simp[bL.run] at hr
    split at hr
    ·rename_i els hq
     rw[bt hr]
     exact .quiet hs (Et hs ho hu hx' (.inl ⟨els,.inl hq,rfl⟩))
    ·rename_i els ow hq
     rw[bt hr]
     exact .quiet hs (Et hs ho hu hx' (.inl ⟨els,.inr ⟨_,hq⟩,rfl⟩))
    ·rename_i lv sl aa off n sz hq
     rw[bt hr]
     exact .quiet hs (Et hs ho hu hx' (.inr (.inl ⟨_,_,_,_,_,hq⟩)))
    ·rename_i lv sl aa off n sz hq
     rw[bt hr]
     exact .quiet hs (Et hs ho hu hx' (.inr (.inr ⟨_,_,_,_,_,hq⟩)))
    ·cases hr
   ·rename_i hu
    obtain⟨x',hx',rfl⟩:=aG hp
    simp[bL.run] at hr
    split at hr
    ·rename_i b hq
     rw[bt hr]
     exact .quiet hs (Uc hs ho hu hx' hq)
    ·cases hr
   ·rename_i n e hu
    cases hp
    rw[bt hr]
    exact .quiet hs (L3 ho (.inl ⟨e,hu⟩))
   ·rename_i e hu
    split at hp
    ·rename_i n e' j7
     cases hp
     rw[bt hr]
     exact .quiet hs (L3 ho (.inr ⟨e,e',hu,j7⟩))
    ·cases hp
   ·cases hp
  ·
   split at hp
   ·rename_i e kd ht hu
    split at hp
    ·rename_i sz yV z x' y' he hz hx' hy'
     split at hp
     ·rename_i hzl
      cases hp
      obtain⟨zl,hzp,Cl⟩:=aJ hz
      obtain⟨k,hk,hr⟩:=aJ hr
      split at hr
      ·rename_i hc
       obtain⟨E,hE,rfl⟩:=aG hr
       exact Cn hs hfr ho hu ht he hzp Cl hzl hx' hy' hk hc.2.1 hc.2.2 hE
      ·cases hr
     ·cases hp
    ·cases hp
   ·cases hp
   ·rename_i hu
    split at hp
    ·rename_i sz yV x' y' he hx' hy'
     cases hp
     obtain⟨E,hE,rfl⟩:=aG hr
     exact uK hs hfr ho (.inl ⟨_,hu⟩) he hx' hy' hE
    ·cases hp
   ·rename_i hu
    split at hp
    ·rename_i sz yV x' y' he hx' hy'
     cases hp
     obtain⟨E,hE,rfl⟩:=aG hr
     exact uK hs hfr ho (.inr hu) he hx' hy' hE
    ·cases hp
   ·cases hp
  ·
   split at hp
   ·rename_i e hu
    split at hp
    ·rename_i i x' y' hi hx' hy'
     split at hp
     ·rename_i h0
      injection hp with hp;subst hp
      simp only[bL.run] at hr
      split at hr
      ·rename_i lv sl aa off n sz' news hq hn
       split at hr
       ·rename_i cs hb
        split at hr
        ·rename_i hc
         obtain⟨rfl,mP,JP⟩:=hc
         injection hr with hr;subst hr
         exact JR hs ho hu hi h0 hx' hy' hq hn hb mP (jc JP)
        ·cases hr
       ·cases hr
      ·rename_i lv sl aa off ln sz' news hq hn
       split at hr
       ·rename_i els hb
        split at hr
        ·rename_i hc
         obtain⟨rfl,mP,JP⟩:=hc
         injection hr with hr;subst hr
         exact JQ hs ho hu hi h0 hx' hy' hq hn hb mP (jc JP)
        ·cases hr
       ·cases hr
      ·cases hr
     ·cases hp
    ·cases hp
   ·cases hp
  ·
   split at hp
   ·rename_i e hu
    split at hp
    ·rename_i sz z x' hsz hz hx'
     split at hp
     ·rename_i hc0
      cases hp
      obtain⟨zl,hzl,Cl⟩:=aJ hz
      simp[bL.run] at hr
      split at hr
      ·rename_i lv sl aa off ln sz' hq
       split at hr
       ·rename_i els hb
        split at hr
        ·rename_i hc
         obtain⟨rfl,mP,JP⟩:=hc
         cases hr
         exact uI hs ho hu hzl Cl JP hc0.2 hx' hq hb mP
        ·cases hr
       ·cases hr
      ·cases hr
     ·cases hp
    ·cases hp
   ·cases hp
  ·
   split at hp
   ·rename_i e hu
    obtain⟨x',hx',rfl⟩:=aG hp
    simp[bL.run] at hr
    split at hr
    ·rename_i els hq
     rw[bt hr]
     exact .quiet hs (Ub hs ho hu hx' hq)
    ·cases hr
   ·cases hp
  ·
   split at hp
   ·rename_i x' y' hx' hy'
    cases hp
    simp[bL.run] at hr
    split at hr
    ·rename_i k p k' q hq1 we
     split at hr
     ·subst_vars
      rw[bt hr]
      exact .quiet hs (Zc hs ho hx' hy' hq1 we)
     ·cases hr
    ·cases hr
   ·cases hp
  ·
   split at hp
   ·rename_i x' y' hx' hy'
    cases hp
    simp[bL.run] at hr
    split at hr
    ·rename_i k p k' q hq1 we
     split at hr
     ·subst_vars
      rw[bt hr]
      exact .quiet hs (pH hs ho hx' hy' hq1 we)
     ·cases hr
    ·cases hr
   ·cases hp
  ·cases hp
end
end Go.bq
namespace Go.bq
open Go Go.RowKit
section
variable {P:Program} {X:Cx} {nt:Nat} {s:St} {a:Act} {o:Oper} {dst:Option Nat} {aH:Nat}
theorem EI {t:TypeId} {fs:Array Field} {zl:List Value} {pl:List (Nat×Nat)} {it:TypeInfo} {z:Value} (hi:P.info? t=some it) (hz:it.zero=some z) (_h:zl=z.cells.toList) (ht:P.underlying t=some (.struct fs)) (hp:Em P fs=some pl) (parts:List (Nat×Value)) :
  P.built t parts=Instr.fill (pl.toArray[·]?) z.cells parts:=by
 unfold Em at hp
 simp[Program.built,hi,ht,hz,hp]
theorem Zk {call : Go.bq.Call} {sh : Nat → Bool} {dP : Nat → Option TypeId} (cc : bX P call) (iS : ∀ f T, dP f = some T → kf P f T) (hs : eC X nt s a) (hfr : X.ρ aH = none) (z8 : aH < s.nv) (hdom : ∀ v, s.nv ≤ v → X.ρ v = none) {TJ : bL} {row d : Nat} {r : cR}
  (hp:Ca P dP o.op=some TJ) (hr:TJ.run call sh s row d aH=some r):cD P X s a o dst aH r:=by
 cases ho:o.op with
 |move x=>
  rw[ho] at hp
  obtain⟨x',hx,rfl⟩:=aG hp
  exact zV hs hfr (by simp[execOp,ho]) hx hr
 |assign x=>
  rw[ho] at hp
  obtain⟨x',hx,rfl⟩:=aG hp
  exact zV hs hfr (by simp[execOp,ho]) hx hr
 | pick c x y =>
  rw[ho] at hp
  simp[Ca] at hp
  split at hp
  ·rename_i c' x' y' hc hx hy
   cases hp
   obtain⟨b,hb,hr⟩:=aJ hr
   rw[bt hr]
   exact .quiet hs (T7 hs ho hc hx hy hb)
  ·cases hp
 |alloc t=>
  rw[ho] at hp
  obtain⟨z,hz,hp⟩:=aJ hp
  obtain⟨cs,hcs,rfl⟩:=aG hp
  cases hr
  exact P3 hs hfr ho hz hcs
 |box t x=>
  rw[ho] at hp
  obtain⟨x',hx,rfl⟩:=aG hp
  obtain⟨cs,hcs,rfl⟩:=aG hr
  exact Y9 hs hfr ho hx hcs
 | build t ps =>
  rw[ho] at hp
  simp only[Ca] at hp
  split at hp
  ·rename_i z fs hz ht
   split at hp
   ·rename_i z' pl Uf hpl
    obtain⟨l,hl,rfl⟩:=aG hp
    obtain⟨cs,hcs,hr⟩:=aJ hr
    rw[bt hr]
    obtain⟨it,zv,hi,Ez,rfl⟩:=iB hz
    exact .quiet hs (GJ hs _ ho Uf (EI hi Ez rfl ht hpl) hl hcs hi)
   ·cases hp
  ·rename_i z n e hz ht
   split at hp
   ·rename_i z' sz Uf hsz
    obtain⟨l,hl,rfl⟩:=aG hp
    obtain⟨cs,hcs,hr⟩:=aJ hr
    rw[bt hr]
    obtain⟨it,zv,hi,Ez,rfl⟩:=iB hz
    obtain⟨ie,hie,Y7⟩:=eD hsz
    refine .quiet hs (GJ hs (fun i=>some (i*sz,sz)) ho Uf (fun parts=>?_) hl hcs hi)
    simp[Program.built,hi,ht,Ez,hie,Y7]
   ·cases hp
  ·cases hp
 | buildSlice t n ps =>
  rw[ho] at hp
  simp[Ca] at hp
  split at hp
  ·rename_i e ht
   split at hp
   ·rename_i sz z l hsz hz hl
    split at hp
    ·rename_i hc
     cases hp
     obtain⟨zl,hzl,Cl⟩:=aJ hz
     simp only[bL.run] at hr
     split at hr
     ·split at hr
      ·cases hr
      ·rename_i hn
       obtain⟨cs,hf,rfl⟩:=aG hr
       exact GN (P:=P) (dst:=dst) (d:=d) hs hfr ho ht hsz hzl Cl hl hc.1 hc.2.1 hc.2.2 (beq_false.1 hn) hf
     split at hr
     ·cases hr
     ·rename_i els ks hf
      have:=fun rd d=>Ck (P:=P) (dst:=dst) (rd:=rd) (d:=d) hs hfr ho ht hsz hzl Cl hl hc.1 hc.2.1 hc.2.2 hf
      split at hr
      ·cases hr
       exact (this _ d).1
      ·split at hr
       ·cases hr
       ·rename_i hnk
        cases hr
        exact (this _ d).2 hnk
    ·cases hp
   ·cases hp
  ·cases hp
 |insert t m k v=>rw[ho] at hp;cases hp
 | load t x =>
  rw[ho] at hp
  simp[Ca] at hp
  split at hp
  ·rename_i sz agg x' hsz hag hx
   split at hp
   ·rename_i h1
    cases hp
    obtain⟨cs,hcs,hr⟩:=aJ hr
    obtain⟨v,hv,rfl⟩:=aG hr
    exact .quiet hs (T6 hs ho hsz hag h1 hx hcs hv)
   ·cases hp
  ·cases hp
 | store t x v =>
  rw[ho] at hp
  simp[Ca] at hp
  split at hp
  ·rename_i sz x' v' hsz hx hv
   cases hp
   obtain⟨e,he,rfl⟩:=aG hr
   exact P5 hs ho hsz hx hv he
  ·cases hp
 |ready g=>rw[ho] at hp;cases hp
 |waits g=>rw[ho] at hp;cases hp
 | nilCheck x =>
  rw[ho] at hp
  obtain⟨x',hx,rfl⟩:=aG hp
  simp[bL.run] at hr
  split at hr
  ·rename_i lv sl aa i off hq
   rw[bt hr]
   exact .quiet hs (qK hs ho hx hq (.inl ⟨_,_,_,_,_,rfl⟩))
  ·rename_i e off hq
   rw[bt hr]
   exact .quiet hs (qK hs ho hx hq (.inr (.inl ⟨_,_,rfl⟩)))
  ·rename_i f cs hq
   rw[bt hr]
   exact .quiet hs (qK hs ho hx hq (.inr (.inr ⟨_,_,rfl⟩)))
  ·cases hr
 | binOp op t x y u =>
  rw[ho] at hp
  simp[Ca] at hp
  split at hp
  ·rename_i x' y' hx hy
   have plain:∀ {TJ:bL},TJ=.bin op x' y'→TJ.run call sh s row d aH=some r→cD P X s a o dst aH r:=by
    rintro TJ rfl hr
    obtain⟨v,hv,hr⟩:=aJ hr
    rw[bt hr]
    exact .quiet hs (Y5 hs ho hx hy hv)
   have cmp : ∀ (neg : Bool), op = (if neg then .neq else .eql) → LV P op neg t x' y' = some TJ → cD P X s a o dst aH r := by
    intro neg hop hc
    have ho':o.op=.binOp (if neg then .neq else .eql) t x y u:=by rw[ho,hop]
    unfold LV at hc
    split at hc
    ·rename_i hu
     cases hc
     simp[bL.run] at hr
     split at hr
     ·rename_i p q hp hq
      rw[bt hr]
      exact .quiet hs (Y6 hs ho' hu hx hy hp hq)
     ·cases hr
    ·simp_all
    ·simp_all
    ·cases hc
     simp[bL.run] at hr
    ·rename_i ms hu
     split at hc
     ·cases hc
      simp[bL.run] at hr
      split at hr
      ·rename_i hq
       rw[bt hr]
       exact .quiet hs ((GI hs ho' hu hx hy).1 hq)
      ·rename_i hq
       rw[bt hr]
       exact .quiet hs ((GI hs ho' hu hx hy).2 hq)
      ·cases hr
     ·cases hc
    ·rename_i fs hu
     split at hc
     ·cases hc
     ·rename_i hg
      split at hc
      ·rename_i l sz hl hsz
       cases hc
       simp[bL.run] at hr
       split at hr
       ·rename_i xs ys hxs hys
        split at hr
        ·cases hr
        ·rename_i hlen
         obtain⟨h3,h4⟩:=not_or.1 hlen
         obtain⟨b,hb,hr⟩:=aJ hr
         rw[bt hr]
         exact .quiet hs (PW hs ho' hu (by simpa using hg) hl hsz hx hy hxs hys (Classical.byContradiction h3) (Classical.byContradiction h4) hb)
       ·cases hr
      ·cases hc
    ·cases hc
   split at hp
   ·exact cmp false rfl hp
   ·exact cmp true rfl hp
   ·simp_all
  ·cases hp
 |unOp op t x=>
  rw[ho] at hp
  obtain⟨x',hx,rfl⟩:=aG hp
  obtain⟨v,hv,hr⟩:=aJ hr
  rw[bt hr]
  exact .quiet hs (acQ hs ho hx hv)
 | convert src ds x =>
  rw[ho] at hp
  simp[Ca] at hp
  split at hp
  ·rename_i dsc k hsrc hds
   obtain⟨x',hx,rfl⟩:=aG hp
   obtain⟨n,hn,hr⟩:=aJ hr
   rw[bt hr]
   exact .quiet hs (Ua hs ho hds (by rw[hsrc];rfl) hx hn)
  ·rename_i e hsrc hds
   split at hp
   ·rename_i he8
    obtain⟨x',hx,rfl⟩:=aG hp
    obtain⟨els,hel,hr⟩:=aJ hr
    obtain⟨l,hl,hr⟩:=aG hr
    subst hr
    exact .quiet hs (Zd hs ho hsrc he8 hds hx hel hl)
   ·cases hp
  ·rename_i e hsrc hds
   split at hp
   ·rename_i he8
    obtain⟨x',hx,rfl⟩:=aG hp
    simp[bL.run] at hr
    split at hr
    ·rename_i b hb
     rw[bt hr]
     exact Ze hs hfr ho hsrc hds he8 hx hb
    ·cases hr
   ·cases hp
  ·cases hp
 |sliceToArrayPointer t x=>rw[ho] at hp;cases hp
 |makeInterface t x=>
  rw[ho] at hp
  cases hp
  simp[bL.run] at hr
 | makeFunc fn first cap =>
  rw[ho] at hp
  simp only[Ca] at hp
  split at hp
  ·split at hp
   ·rename_i h0
    obtain⟨cap',hcap,rfl⟩:=aG hp
    simp at h0
    subst h0
    simp only[bL.run] at hr
    split at hr
    ·rename_i hall
     rw[bt hr]
     exact .quiet hs (GK hs ho hcap hall)
    ·cases hr
   ·cases hp
  ·cases hp
 | makeMap t x =>
  cases x with
  |some _=>rw[ho] at hp;cases hp
  | none =>
   rw[ho] at hp
   simp[Ca] at hp
   split at hp
   ·split at hp
    ·cases hp
     cases hr
     exact Qc hs hfr ho
    ·cases hp
   ·cases hp
 |makeChan t x=>rw[ho] at hp;cases hp
 | makeSlice t l c =>
  rw[ho] at hp
  simp[Ca] at hp
  split at hp
  ·rename_i e ht
   split at hp
   ·rename_i i z l' c' hi hz hl hc
    split at hp
    ·rename_i h0
     cases hp
     obtain⟨zl,hzl,Cl⟩:=aJ hz
     simp[bL.run] at hr
     split at hr
     ·rename_i ln cn hln hcn
      split at hr
      ·rename_i Me
       cases hr
       exact EB hs hfr ho ht hi hzl Cl Me.2.2.2 h0 hl hc hln hcn Me.1 Me.2.1 Me.2.2.1
      ·cases hr
     ·cases hr
    ·cases hp
   ·cases hp
  ·cases hp
 | slice t x lo hi mx =>
  rw[ho] at hp
  simp[Ca] at hp
  split at hp
  ·rename_i e ht
   split at hp
   ·rename_i sz x' lo' hi' Cb hsz hx hlo hhi JL
    split at hp
    ·cases hp
    ·rename_i h0
     cases hp
     have c4:Cb.isSome=true→hi'.isSome=true:=by
      intro h;cases hi' with
      |some _=>rfl
      |none=>exact absurd (.inr ⟨h,rfl⟩) h0
     simp[bL.run] at hr
     split at hr
     ·rename_i l h k bl bh bk
      split at hr
      ·rename_i hq
       rw[Bool.and_eq_true,Bool.and_eq_true] at hq
       obtain⟨E,hE,hr⟩:=aG hr
       subst hr
       exact NB hs hfr ho ht hsz hx hlo hhi JL bl bh bk hq.2.1 hE
      ·obtain ⟨v, hv, hr⟩ := aJ hr
       rw[bt hr]
       exact .quiet hs (PY hs ho ht hsz hx hlo hhi JL bl bh bk c4 hv)
     ·cases hr
   ·cases hp
  ·rename_i n e ht
   split at hp
   ·rename_i sz x' hsz hx
    split at hp
    ·cases hp
    ·rename_i h0
     cases hp
     simp[bL.run] at hr
     split at hr
     ·rename_i lv sl aa i off hq
      split at hr
      ·rename_i PC
       have PC:=beq_true.1 PC
       subst PC
       rw[bt hr]
       exact .quiet hs (Nj hs ho ht hsz h0 hx hq)
      ·cases hr
     ·cases hr
   ·rename_i k sz x' hsz hx
    split at hp
    ·rename_i h0
     cases hp
     simp[bL.run] at hr
     split at hr
     ·rename_i lv sl aa i off hq
      split at hr
      ·rename_i PC
       rw[Bool.and_eq_true] at PC
       have hi1:=beq_true.1 PC.1
       subst hi1
       rw[bt hr]
       exact .quiet hs (Nk hs ho ht hsz h0 (by simpa[Nat.blt_eq] using PC.2) hx hq)
      ·cases hr
     ·cases hr
    ·cases hp
   ·cases hp
  ·rename_i ht
   split at hp
   ·rename_i x' lo' hi' hx hlo hhi
    cases hp
    simp[bL.run] at hr
    split at hr
    ·rename_i b hq
     split at hr
     ·rename_i l h bl bh
      split at hr
      ·rename_i hc
       rw[bt hr]
       exact .quiet hs (Nl hs ho ht hx hlo hhi hq bl bh hc.1 hc.2)
      ·cases hr
     ·cases hr
    ·cases hr
   ·cases hp
  ·cases hp
 | fieldAddr t x f =>
  rw[ho] at hp
  simp[Ca] at hp
  split at hp
  ·rename_i fs ht
   split at hp
   ·rename_i fl hfl
    split at hp
    ·rename_i sz x' hsz hx
     split at hp
     ·cases hp
     ·rename_i h0
      cases hp
      simp[bL.run] at hr
      split at hr
      ·rename_i lv sl aa i off hq
       rw[bt hr]
       exact .quiet hs (uA hs ho ht hfl hsz h0 hx (.inl ⟨_,_,_,_,_,hq,rfl⟩))
      ·rename_i e off hq
       rw[bt hr]
       exact .quiet hs (uA hs ho ht hfl hsz h0 hx (.inr ⟨_,_,hq,rfl⟩))
      ·cases hr
    ·cases hp
   ·cases hp
  ·cases hp
 | field t x f =>
  rw[ho] at hp
  simp[Ca] at hp
  split at hp
  ·rename_i fs ht
   split at hp
   ·rename_i fl hfl
    split at hp
    ·rename_i sz agg x' hsz hag hx
     split at hp
     ·rename_i h1
      cases hp
      simp[bL.run] at hr
      split at hr
      ·rename_i cs hq
       split at hr
       ·rename_i hle
        obtain⟨v,hv,hr⟩:=aJ hr
        rw[bt hr]
        exact .quiet hs (PX hs ho ht hfl hsz hag h1 hx hq hle hv)
       ·cases hr
      ·cases hr
     ·cases hp
    ·cases hp
   ·cases hp
  ·cases hp
 | indexAddr t x i =>
  rw[ho] at hp
  simp[Ca] at hp
  split at hp
  ·rename_i e ht
   split at hp
   ·rename_i sz x' i' hsz hx hi
    split at hp
    ·cases hp
    ·cases hp
     obtain⟨n,hn,hr'⟩:=aJ hr
     clear hr;have hr:=hr';split at hr
     ·rename_i els hq
      split at hr
      ·rename_i el hel
       split at hr
       ·rename_i hlen
        rw[bt hr]
        exact .quiet hs (mq hs ho ht hsz hx hi hn (.inl ⟨els,el,.inl hq,hel,hlen,rfl⟩))
       ·cases hr
      ·cases hr
     ·rename_i els ow hq
      split at hr
      ·rename_i el hel
       split at hr
       ·rename_i hlen
        rw[bt hr]
        exact .quiet hs (mq hs ho ht hsz hx hi hn (.inl ⟨els,el,.inr ⟨_,hq⟩,hel,hlen,rfl⟩))
       ·cases hr
      ·cases hr
     ·rename_i lv sl aa off ln sz' hq
      split at hr
      ·rename_i hc
       obtain⟨hc1,rfl⟩:=hc
       rw[bt hr]
       exact .quiet hs (mq hs ho ht hsz hx hi hn (.inr (.inl ⟨_,_,_,_,_,hq,hc1,rfl⟩)))
      ·cases hr
     ·rename_i lv sl aa off ln sz' hq
      split at hr
      ·rename_i hc
       obtain⟨hc1,rfl⟩:=hc
       rw[bt hr]
       exact .quiet hs (mq hs ho ht hsz hx hi hn (.inr (.inr ⟨_,_,_,_,_,hq,hc1,rfl⟩)))
      ·cases hr
     ·cases hr
   ·cases hp
  ·rename_i n e ht
   split at hp
   ·rename_i sz x' i' hsz hx hi
    cases hp
    obtain⟨k,hk,hr⟩:=aJ hr
    split at hr
    ·rename_i hkn
     split at hr
     ·rename_i lv sl aa j off hq
      rw[bt hr]
      exact .quiet hs (xh hs ho ht hsz hx hi hk hkn (.inl ⟨_,_,_,_,_,hq,rfl⟩))
     ·rename_i e off hq
      rw[bt hr]
      exact .quiet hs (xh hs ho ht hsz hx hi hk hkn (.inr ⟨_,_,hq,rfl⟩))
     ·cases hr
    ·cases hr
   ·cases hp
  ·cases hp
 | index t x i =>
  rw[ho] at hp
  simp[Ca] at hp
  split at hp
  ·rename_i n e ht
   split at hp
   ·rename_i sz agg x' i' hsz hag hx hi
    split at hp
    ·rename_i h1
     cases hp
     obtain⟨k,hk,hr⟩:=aJ hr
     split at hr
     ·rename_i cs hq
      split at hr
      ·rename_i hc
       obtain⟨v,hv,hr⟩:=aJ hr
       rw[bt hr]
       exact .quiet hs (Nh hs ho ht hsz hag h1 hx hi hq hk hc.1 hc.2 hv)
      ·cases hr
     ·cases hr
    ·cases hp
   ·cases hp
  ·rename_i ht
   split at hp
   ·rename_i x' i' hx hi
    cases hp
    obtain⟨k,hk,hr⟩:=aJ hr
    split at hr
    ·rename_i b hq
     split at hr
     ·rename_i c hc
      rw[bt hr]
      exact .quiet hs (Ni hs ho ht hx hi hq hk hc)
     ·cases hr
    ·cases hr
   ·cases hp
  ·cases hp
 | lookup t x k b =>
  cases b with
  |true=>rw[ho] at hp;cases hp
  | false =>
   rw[ho] at hp
   simp[Ca] at hp
   split at hp
   ·rename_i kt et ht
    split at hp
    ·rename_i m' x' hk hz hm hx
     cases hp
     simp[bL.run] at hr
     split at hr
     ·rename_i lv sl aa b h1 h2
      obtain⟨ks,h3,hr⟩:=aG hr
      subst hr
      exact .quiet hs (Ug hs ho ht hk hz hm hx h1 h2 h3)
     ·cases hr
    ·cases hp
   ·cases hp
 | mapUpdate t m k v =>
  rw[ho] at hp
  simp[Ca] at hp
  split at hp
  ·rename_i kt et ht
   split at hp
   ·rename_i m' x' hk hm hx
    cases hp
    simp[bL.run] at hr
    split at hr
    ·rename_i lv sl aa b h1 h2
     obtain⟨ks,h3,hr⟩:=aG hr
     subst hr
     exact Uh hs ho ht hk hm hx h1 h2 h3
    ·cases hr
   ·cases hp
  ·cases hp
 |mapEntry t m k=>rw[ho] at hp;cases hp
 |entryStore t m k v=>rw[ho] at hp;cases hp
 |range t x=>rw[ho] at hp;cases hp
 |next x b=>rw[ho] at hp;cases hp
 |entry x=>rw[ho] at hp;cases hp
 |typeAssert x t u b=>rw[ho] at hp;cases hp
 | extract x i =>
  rw[ho] at hp
  obtain⟨x',hx,rfl⟩:=aG hp
  simp[bL.run] at hr
  split at hr
  ·rename_i vs hq
   obtain⟨v,hv,hr⟩:=aJ hr
   rw[bt hr]
   exact .quiet hs (JJ hs ho hx hq hv)
  ·cases hr
 |call c=>
  rw[ho] at hp
  exact Qo cc iS hs hfr z8 hdom ho hp hr
 |go c=>rw[ho] at hp;cases hp
 |defer c=>rw[ho] at hp;cases hp
 |panic x=>
  rw[ho] at hp
  cases hp
  simp[bL.run] at hr
 |send c x=>rw[ho] at hp;cases hp
 |recv t c b=>rw[ho] at hp;cases hp
 |select cs b=>rw[ho] at hp;cases hp
end
end Go.bq
