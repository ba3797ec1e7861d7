/- One operation: whatever it is, it does in the model what the abstract machine says. -/
import Derived.Test.YtokjmkblnafppaaGreatDoorEngS
import Derived.Test.YtokjmkblnafppaaGreatDoorEngMap
set_option linter.unusedVariables false
set_option linter.unusedSimpArgs false
namespace Go.bI
open Go Go.RowKit
section
variable {P:Program} {X:Cx} {nt:Nat} {s:St} {a:Act} {o:Oper} {dst:Option Nat} {aR:Nat}
theorem vt {t:TypeId} {sz ye:Nat} (h:tF P t=some (sz,ye)):∃ e i z,P.underlying t=some (.slice e)∧P.info? e=some i∧i.zero=some z∧z.cells.size=i.size∧0<i.size∧i.size=sz∧i.bytes=ye:=by
 unfold tF at h
 split at h
 ·rename_i e hu
  split at h
  ·rename_i i z hi hz
   split at h
   ·rename_i hc
    injection h with h;injection h with h1 h2
    obtain⟨i',zv,hi',Bp,rfl⟩:=iK hz
    rw[hi] at hi';injection hi' with hi';subst hi'
    exact⟨e,i,zv,hu,hi,Bp,by simpa using hc.2,hc.1,h1,h2⟩
   ·cases h
  ·cases h
 ·cases h
theorem fE {f:Nat} {args:Array Operand} {ts:Array TypeId} (ho:o.op=.call { callee:=.value (.func f),args,argTypes:=ts }) (hf:∃ fn,P.funcs[f]?=some fn∧fn.body.isSome=true∧(fn.name == "runtime.NumGoroutine")=false) :
  (execOp a.eval o).run P X.w=.ok (.enter f (args.map a.eval)) X.w:=by
 obtain⟨fn,hf,hb,hn⟩:=hf
 have:=qb (P:=P) (args:=args.map a.eval) (w:=X.w) hf hb hn
 have he:a.eval (.func f)=.func (.func f) #[] #[]:=rfl
 simp[execOp,ho,resolve,he,Deferred.ofValue,invoke]
 exact this
theorem Lj {f:Nat} {t:Nat} {args:Array Operand} {ts:Array TypeId} {cap:Array Value} (ho:o.op=.call { callee:=.value (.tmp t),args,argTypes:=ts }) (hv:a.eval (.tmp t)=.func (.func f) #[] cap) (hf:∃ fn,P.funcs[f]?=some fn∧fn.body.isSome=true∧(fn.name == "runtime.NumGoroutine")=false) :
  (execOp a.eval o).run P X.w=.ok (.enter f (args.map a.eval++cap)) X.w:=by
 obtain⟨fn,hf,hb,hn⟩:=hf
 have:=qb (P:=P) (args:=args.map a.eval++cap) (w:=X.w) hf hb hn
 simp[execOp,ho,resolve,hv,Deferred.ofValue,invoke]
 exact this
theorem tY (hs:eL X nt s a) (hfr:X.ρ aR=none) {x y:Operand} {x' y':bR} {t u:TypeId} {sz ye:Nat} {row:Bool} {lv sl:Nat} {E:eX} (ho:o.op=.call { callee:=.builtin .append,args:=#[x,y],argTypes:=#[t,u] }) (hu:Dt P u) (he:tF P t=some (sz,ye))
  (hx:cL x=some x') (hy:cL y=some y') (hr:di s row lv sl aR sz ye (x'.ev s.slots) (y'.ev s.slots)=some E):cU P X s a o dst aR (.bS E):=by
 obtain⟨e,i,z,ht,hi,hz,hzs,h0,rfl,rfl⟩:=vt he
 obtain⟨Y,v,h1,h2,h3,h4,h5⟩:=qa (P:=P) (ty:=o.type) (n:=s.nv) hs.mem hfr ht hu hi hz hzs h0 (bw hs hx) (bw hs hy) hr
 exact .value (wA (w:=Y.w) ho h1) h2 h3 h4 h5
theorem Ll (hs:eL X nt s a) (hfr:X.ρ aR=none) {t e:TypeId} {sz l h k:Nat} {x:Operand} {x':bR} {lo hi mx:Option Operand} {lo' hi' zf:Option bR} {E:eX} (ho:o.op=.slice t x lo hi mx) (ht:P.underlying t=some (.slice e)) (hsz:cY P e=some sz)
  (hx:cL x=some x') (hlo:om lo=some lo') (hhi:om hi=some hi') (Ra:om mx=some zf) (bl:eR lo' s.slots 0=some l) (bh:eR hi' s.slots 0=some h) (bk:eR zf s.slots 0=some k)
  (c4:zf.isNone=true) (hr:EI s aR sz (x'.ev s.slots) l (hi'.map fun _=>h)=some E):cU P X s a o dst aR (.bS E):=by
 have hv:=bw hs hx
 have eh:∀ n,(hi'.map fun _=>h).getD n=if hi'.isSome then h else n:=fun n=>by cases hi'<;>rfl
 have em:zf.isSome=false:=by cases zf<;>first|rfl|cases c4
 unfold EI at hr
 split at hr
 ·rename_i lv sl af off len sz' he
  split at hr
  ·rename_i els hrow
   split at hr
   ·rename_i hc
    obtain⟨rfl,c1,c2,c3⟩:=hc
    injection hr with hr;subst hr
    rw[he] at hv
    obtain⟨L,ad,cap,hL,hLs,Hz,hle,h4⟩:=hv
    obtain⟨Y,hw,g1,g2,g3,g4⟩:=JP (n:=s.nv) hs.mem hfr (h':=(hi'.map fun _=>h).getD len) ⟨L,ad,cap,hL,hLs,rfl,hle,h4⟩ hrow c1 c2 c3
    have run:=BZ hs (P:=P) ho ht hsz Hz hlo hhi Ra bl bh bk (by rw[←eh];exact c1) (by rw[←eh,em];simp only[Bool.false_eq_true,if_false];omega) (by rw[em];simp) (by rw[em];exact fun h=>by cases h)
    rw[←eh,em] at run
    simp only[Bool.false_eq_true,if_false] at run
    refine .value (Y:=Y) (by rw[hw];exact run) g1 g2 ?_ g4
    exact g3
   ·cases hr
  ·cases hr
 ·cases hr
theorem Bz (hs:eL X nt s a) (hfr:X.ρ aR=none) {x y:Operand} {x' y':bR} {t u e':TypeId} {sz ye k:Nat} {kd:IntKind} {zl:List Value} {z:List D} {row:Bool} {lv sl:Nat} {E:eX} (ho:o.op=.call { callee:=.builtin .append,args:=#[x,y],argTypes:=#[t,u] }) (hu:P.underlying u=some (.int kd)) (ht':P.underlying t=some (.slice e')) (he:tF P t=some (sz,ye))
  (hzp:l7 P e'=some zl) (Bq:iH zl=some z) (hzl:z.length=sz) (hx:cL x=some x') (hy:cL y=some y') (hk:fN (y'.ev s.slots)=some k) (h63:k≤eU) (hby:k*ye≤j0) (hr:di s row lv sl aR sz ye (x'.ev s.slots) (.d (.sl (List.replicate k z)))=some E):cU P X s a o dst aR (.bS E):=by
 obtain⟨e,i,zv,ht,hi,hz,hzs,h0,rfl,rfl⟩:=vt he
 rw[ht] at ht';injection ht' with ht';injection ht' with ht';subst ht'
 obtain⟨i',zv',hi',Bp,rfl⟩:=iK hzp
 rw[hi] at hi';injection hi' with hi';subst hi'
 rw[hz] at Bp;injection Bp with Bp;subst Bp
 obtain⟨kk,Zz⟩:=jv hk (bw hs hy)
 have hZ:az (DR X.w X.F) z zv.cells.toList:=j7 Bq
 have pZ:=hU hZ hzl h0 k (k*i.size) (Nat.le_refl _)
 have hcl:(madeCells zv.cells (k*i.size)).toList.take (k*i.size)=(Builtin.zeroCells zv.cells k).toList:=by
  rw[List.take_of_length_le (by simp[madeCells])]
  simp[madeCells,Builtin.zeroCells,hzs]
 rw[hcl] at pZ
 obtain⟨Y,v,h1,h2,h3,h4,h5⟩:=tT (P:=P) (u:=u) (ty:=o.type) (yv:=a.eval y) (n:=s.nv) hs.mem hfr ht hi hz hzs h0 (bw hs hx) (fun news hn hnl=>by
  injection hn with hn;subst hn
  refine⟨_,pZ,?_⟩
  rw[List.length_replicate]
  exact .zero kd kk zv hu hz hzs Zz h63 hby rfl) hr
 exact .value (wA (w:=Y.w) ho h1) h2 h3 h4 h5
theorem Fj (hs:eL X nt s a) (hfr:X.ρ aR=none) {f T:Nat} {x:Operand} {x':bR} {ts:Array TypeId} {sz ye:Nat} {row:Bool} {lv sl:Nat} {E:eX} {els:List (List D)} (hc:Dv P f T) (ho:o.op=.call { callee:=.value (.func f),args:=#[x],argTypes:=ts }) (he:tF P T=some (sz,ye))
  (hx:cL x=some x') (hel:dK s.mem (x'.ev s.slots)=some els) (hr:di s row lv sl aR sz ye (.own [] .full) (x'.ev s.slots)=some E):cU P X s a o dst aR (.bS E):=by
 obtain⟨e,i,z,ht,hi,hz,hzs,h0,rfl,rfl⟩:=vt he
 have hv:=bw hs hx
 obtain⟨ad,cap,_,_,_,bV,_⟩:=pX hs.mem hel hv
 have hcl:=EZ (P:=P) (n:=s.nv) hc hs.mem hfr ht hi hz hzs h0 hv ⟨ad,_,cap,bV⟩ hr
 obtain⟨fn,hf,hb,_,_,hn⟩:=hc.fn
 intro K Q hK
 unfold Oper.wp
 have hrun:(execOp a.eval o).run P X.w=.ok (.enter f #[a.eval x]) X.w:=by
  have:=fE (P:=P) (X:=X) (a:=a) ho ⟨fn,hf,by rw[hb];rfl,hn⟩
  simpa using this
 rw[hrun,Oper.upon_enter]
 refine Calls.mono hcl ?_
 rintro en w' ⟨Y,v,rfl,rfl,h2,h3,h4,h5⟩
 exact hK Y v h2 h3 h4 h5
theorem JJ.VR {X:Cx} {x:AV} {v:Value} (h:JJ X x v):Go.bI.VR X x v:=by
 cases x<;>first|exact h|exact h.elim
theorem Nz {call : Go.bI.Call} {sh : Nat → Bool} {bq : Nat → Option TypeId} (cE : cF P call) (jf : ∀ f T, bq f = some T → j3 P f T) (hs : eL X nt s a) (hfr : X.ρ aR = none) (yl : aR < s.nv) (hdom : ∀ v, s.nv ≤ v → X.ρ v = none) {c : Go.Call} {QD : bM} {row d : Nat} {r : fW}
  (ho:o.op=.call c) (hp:M6 P bq c=some QD) (hr:QD.run call sh s row d aR=some r):cU P X s a o dst aR r:=by
 obtain⟨callee,args,ts⟩:=c
 obtain⟨args⟩:=args
 obtain⟨ts⟩:=ts
 unfold M6 at hp
 cases callee with
 | value f =>
  cases f with
  | func f =>
   simp only at hp
   split at hp
   ·rename_i T x hT
    split at hp
    ·rename_i hq
     have hq:=Nat.eq_of_beq_eq_true hq
     obtain⟨x',hx',rfl⟩:=aM hp
     simp only[bM.run] at hr
     obtain⟨E,hE,rfl⟩:=aM hr
     have hc:=(jf f T hT).sort hq
     have hrun:(execOp a.eval o).run P X.w=.ok (.enter f #[a.eval x]) X.w:=by
      have:=fE (P:=P) (X:=X) (a:=a) ho hc.fn
      simpa using this
     exact HS (_ts:=ts.toArray) hs hc hrun hx' hE
    ·rename_i hq
     split at hp
     ·rename_i tV
      have tV:=Nat.eq_of_beq_eq_true tV
      obtain⟨x',hx',rfl⟩:=aM hp
      simp only[bM.run] at hr
      obtain⟨E,hE,rfl⟩:=aM hr
      have hc:=(jf f T hT).compact tV
      have hrun:(execOp a.eval o).run P X.w=.ok (.enter f #[a.eval x]) X.w:=by
       have:=fE (P:=P) (X:=X) (a:=a) ho hc.fn
       simpa using this
      exact By (_ts:=ts.toArray) hs hfr hc hrun hx' hE
     ·rename_i tV
      split at hp
      ·rename_i sz ye x' he hx'
       injection hp with hp;subst hp
       simp only[bM.run] at hr
       split at hr
       ·rename_i els hel
        obtain⟨E,hE,rfl⟩:=aM hr
        exact Fj hs hfr ((jf f T hT).clone (by rintro rfl;cases hq) (by rintro rfl;cases tV)) ho he hx' hel hE
       ·cases hr
      ·cases hp
   ·cases hp
   ·split at hp
    ·obtain ⟨aK, has, rfl⟩ := aM hp
     simp only[bM.run] at hr
     have hargs:=tI hs has
     split at hr
     ·exact vr cE hs hfr yl hdom (bQ:=(Array.mk _).map a.eval) (by rw[Array.toList_map];exact hargs) hr fun hf=>fE ho hf
     ·exact Ce cE hs (bQ:=(Array.mk _).map a.eval) (by rw[Array.toList_map];exact hargs) hr fun hf=>fE ho hf
    ·obtain ⟨aK, has, rfl⟩ := aM hp
     simp only[bM.run] at hr
     have hargs:=tI hs has
     split at hr
     ·exact Ce cE hs (bQ:=(Array.mk _).map a.eval) (by rw[Array.toList_map];exact hargs) hr fun hf=>fE ho hf
     ·split at hr
      ·exact Le cE hs hdom (bQ:=(Array.mk _).map a.eval) (by rw[Array.toList_map];exact hargs) hr fun hf=>fE ho hf
      split at hr
      ·exact Lg cE hs hfr (bQ:=(Array.mk _).map a.eval) (by rw[Array.toList_map];exact hargs) hr fun hf=>fE ho hf
      split at hr
      ·exact Lh cE hs hfr (bQ:=(Array.mk _).map a.eval) (by rw[Array.toList_map];exact hargs) hr fun hf=>fE ho hf
      ·exact vr cE hs hfr yl hdom (bQ:=(Array.mk _).map a.eval) (by rw[Array.toList_map];exact hargs) hr fun hf=>fE ho hf
  | tmp t =>
   simp only at hp
   obtain⟨aK,has,rfl⟩:=aM hp
   simp only[bM.run] at hr
   split at hr
   ·rename_i f cap hq
    have hargs:=tI hs has
    have hv:=bw hs (x:=.tmp t) (y:=.t t) rfl
    rw[hq] at hv
    obtain⟨vs,hv,hcap⟩:=hv
    refine vr cE hs hfr yl hdom (bQ:=(Array.mk args).map a.eval++vs) (by
     rw[Array.toList_append,Array.toList_map]
     exact hargs.append (hcap.mono fun _ _=>JJ.VR)) hr fun hf=>Lj ho hv hf
   ·cases hr
  |const v=>cases hp
  |global g=>cases hp
 |invoke r m=>cases hp
 | builtin b =>
  simp only at hp
  split at hp
  ·
   rename_i x t
   split at hp
   ·rename_i e hu
    obtain⟨x',hx',rfl⟩:=aM hp
    simp only[bM.run] at hr
    split at hr
    ·rename_i els hq
     rw[bK hr]
     exact .quiet hs (Dm hs ho hu hx' (.inl ⟨els,.inl hq,rfl⟩))
    ·rename_i els ow hq
     rw[bK hr]
     exact .quiet hs (Dm hs ho hu hx' (.inl ⟨els,.inr ⟨_,hq⟩,rfl⟩))
    ·rename_i lv sl af off n sz hq
     rw[bK hr]
     exact .quiet hs (Dm hs ho hu hx' (.inr (.inl ⟨_,_,_,_,_,hq⟩)))
    ·rename_i lv sl af off n sz hq
     rw[bK hr]
     exact .quiet hs (Dm hs ho hu hx' (.inr (.inr ⟨_,_,_,_,_,hq⟩)))
    ·cases hr
   ·rename_i hu
    obtain⟨x',hx',rfl⟩:=aM hp
    simp only[bM.run] at hr
    split at hr
    ·rename_i b hq
     rw[bK hr]
     exact .quiet hs (Q9 hs ho hu hx' hq)
    ·cases hr
   ·rename_i n e hu
    injection hp with hp;subst hp
    simp only[bM.run] at hr
    rw[bK hr]
    exact .quiet hs (JM ho (.inl ⟨e,hu⟩))
   ·rename_i e hu
    split at hp
    ·rename_i n e' dw
     injection hp with hp;subst hp
     simp only[bM.run] at hr
     rw[bK hr]
     exact .quiet hs (JM ho (.inr ⟨e,e',hu,dw⟩))
    ·cases hp
   ·cases hp
  ·
   rename_i x y t u
   split at hp
   ·rename_i e kd ht hu
    split at hp
    ·rename_i sz ye z x' y' he hz hx' hy'
     split at hp
     ·rename_i hzl
      injection hp with hp;subst hp
      obtain⟨zl,hzp,Bq⟩:=aT hz
      simp only[bM.run] at hr
      obtain⟨k,hk,hr⟩:=aT hr
      split at hr
      ·rename_i hc
       obtain⟨E,hE,rfl⟩:=aM hr
       exact Bz hs hfr ho hu ht he hzp Bq hzl hx' hy' hk hc.2.1 hc.2.2 hE
      ·cases hr
     ·cases hp
    ·cases hp
   ·cases hp
   ·rename_i hu
    split at hp
    ·rename_i sz ye x' y' he hx' hy'
     injection hp with hp;subst hp
     simp only[bM.run] at hr
     obtain⟨E,hE,rfl⟩:=aM hr
     exact tY hs hfr ho (.inl ⟨_,hu⟩) he hx' hy' hE
    ·cases hp
   ·rename_i hu
    split at hp
    ·rename_i sz ye x' y' he hx' hy'
     injection hp with hp;subst hp
     simp only[bM.run] at hr
     obtain⟨E,hE,rfl⟩:=aM hr
     exact tY hs hfr ho (.inr hu) he hx' hy' hE
    ·cases hp
   ·cases hp
  ·
   rename_i x y t u
   split at hp
   ·rename_i e hu
    split at hp
    ·rename_i i x' y' hi hx' hy'
     split at hp
     ·rename_i h0
      injection hp with hp;subst hp
      simp only[bM.run] at hr
      split at hr
      ·rename_i lv sl af off n sz' news hq hn
       split at hr
       ·rename_i cs hb
        split at hr
        ·rename_i hc
         obtain⟨rfl,pz,K4⟩:=hc
         injection hr with hr;subst hr
         exact HQ hs ho hu hi h0 hx' hy' hq hn hb pz (jm K4)
        ·cases hr
       ·cases hr
      ·rename_i lv sl af off ln sz' news hq hn
       split at hr
       ·rename_i els hb
        split at hr
        ·rename_i hc
         obtain⟨rfl,pz,K4⟩:=hc
         injection hr with hr;subst hr
         exact HP hs ho hu hi h0 hx' hy' hq hn hb pz (jm K4)
        ·cases hr
       ·cases hr
      ·cases hr
     ·cases hp
    ·cases hp
   ·cases hp
  ·
   rename_i x t
   split at hp
   ·rename_i e hu
    split at hp
    ·rename_i sz z x' hsz hz hx'
     split at hp
     ·rename_i hc0
      injection hp with hp;subst hp
      obtain⟨zl,hzl,Bq⟩:=aT hz
      simp only[bM.run] at hr
      split at hr
      ·rename_i lv sl af off ln sz' hq
       split at hr
       ·rename_i els hb
        split at hr
        ·rename_i hc
         obtain⟨rfl,pz,K4⟩:=hc
         injection hr with hr;subst hr
         exact tU hs ho hu hzl Bq K4 hc0.2 hx' hq hb pz
        ·cases hr
       ·cases hr
      ·cases hr
     ·cases hp
    ·cases hp
   ·cases hp
  ·
   rename_i x t
   split at hp
   ·rename_i e hu
    obtain⟨x',hx',rfl⟩:=aM hp
    simp only[bM.run] at hr
    split at hr
    ·rename_i els hq
     rw[bK hr]
     exact .quiet hs (Q8 hs ho hu hx' hq)
    ·cases hr
   ·cases hp
  ·
   rename_i x y ts0
   split at hp
   ·rename_i x' y' hx' hy'
    injection hp with hp;subst hp
    simp only[bM.run] at hr
    split at hr
    ·rename_i k p k' q hq1 tV
     split at hr
     ·rename_i hk
      subst hk
      rw[bK hr]
      exact .quiet hs (U3 hs ho hx' hy' hq1 tV)
     ·cases hr
    ·cases hr
   ·cases hp
  ·
   rename_i x y ts0
   split at hp
   ·rename_i x' y' hx' hy'
    injection hp with hp;subst hp
    simp only[bM.run] at hr
    split at hr
    ·rename_i k p k' q hq1 tV
     split at hr
     ·rename_i hk
      subst hk
      rw[bK hr]
      exact .quiet hs (U4 hs ho hx' hy' hq1 tV)
     ·cases hr
    ·cases hr
   ·cases hp
  ·cases hp
end
end Go.bI
