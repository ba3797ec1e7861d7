/- One operation: whatever it is, it does in the model what the abstract machine says. -/
import Derived.Test.YtleacocdepjflaaGreatEngSH
import Derived.Test.YtleacocdepjflaaGreatEngMap
namespace Go.Eng
open Go Go.RowKit
section
variable {P:Program} {X:Cx} {nt:NT} {s:St} {a:Act} {o:Oper} {dst:Option Nat} {nvi:Nat}
theorem elemP_run {t:TypeId} {sz by_:Nat} (h:elemP P t=some (sz,by_)):∃ e i z,P.underlying t=some (.slice e)∧P.info? e=some i∧i.zero=some z∧z.cells.size=i.size∧0<i.size∧i.size=sz∧i.bytes=by_:=by
 unfold elemP at h
 split at h
 ·rename_i e hu
  split at h
  ·rename_i i z hi hz
   split at h
   ·rename_i hc
    injection h with h;injection h with h1 h2
    obtain⟨i',zv,hi',hiz,rfl⟩:=zeroP_run hz
    rw[hi] at hi';injection hi' with hi';subst hi'
    exact⟨e,i,zv,hu,hi,hiz,by simpa using hc.2,hc.1,h1,h2⟩
   ·cases h
  ·cases h
 ·cases h
theorem callFn_run {f:Nat} {args:Array Operand} {ts:Array TypeId} (ho:o.op=.call { callee:=.value (.func f),args,argTypes:=ts }) (hf:∃ fn,P.funcs[f]?=some fn∧fn.body.isSome=true∧(fn.name == "runtime.NumGoroutine")=false) :
  (execOp a.eval o).run P X.w=.ok (.enter f (args.map a.eval)) X.w:=by
 obtain⟨fn,hf,hb,hn⟩:=hf
 have:=callFunc_enter (P:=P) (args:=args.map a.eval) (w:=X.w) hf hb hn
 have he:a.eval (.func f)=.func (.func f) #[] #[]:=rfl
 simp[execOp,ho,resolve,he,Deferred.ofValue,invoke]
 exact this
theorem callV_run {f:Nat} {t:Nat} {args:Array Operand} {ts:Array TypeId} {cap:Array Value} (ho:o.op=.call { callee:=.value (.tmp t),args,argTypes:=ts }) (hv:a.eval (.tmp t)=.func (.func f) #[] cap) (hf:∃ fn,P.funcs[f]?=some fn∧fn.body.isSome=true∧(fn.name == "runtime.NumGoroutine")=false) :
  (execOp a.eval o).run P X.w=.ok (.enter f (args.map a.eval++cap)) X.w:=by
 obtain⟨fn,hf,hb,hn⟩:=hf
 have:=callFunc_enter (P:=P) (args:=args.map a.eval++cap) (w:=X.w) hf hb hn
 simp[execOp,ho,resolve,hv,Deferred.ofValue,invoke]
 exact this
theorem append_after (hs:Sim X nt s a) (hfr:X.ρ nvi=none) {x y:Operand} {x' y':Opd} {t u:TypeId} {sz by_:Nat} {row:Bool} {lv sl:Nat} {E:Eff} (ho:o.op=.call { callee:=.builtin .append,args:=#[x,y],argTypes:=#[t,u] }) (hu:notInt P u) (he:elemP P t=some (sz,by_))
  (hx:opd x=some x') (hy:opd y=some y') (hr:appendA s row lv sl nvi sz by_ (x'.ev s.slots) (y'.ev s.slots)=some E):After P X s a o dst nvi (.eff E):=by
 obtain⟨e,i,z,ht,hi,hz,hzs,h0,rfl,rfl⟩:=elemP_run he
 obtain⟨Y,v,h1,h2,h3,h4,h5⟩:=append_core (P:=P) (ty:=o.type) (n:=s.nv) hs.mem hfr ht hu hi hz hzs h0 (opd_ok hs hx) (opd_ok hs hy) hr
 exact .value (append_call (w:=Y.w) ho h1) h2 h3 h4 h5
theorem cut_after (hs:Sim X nt s a) (hfr:X.ρ nvi=none) {t e:TypeId} {sz l h k:Nat} {x:Operand} {x':Opd} {lo hi mx:Option Operand} {lo' hi' mx':Option Opd} {E:Eff} (ho:o.op=.slice t x lo hi mx) (ht:P.underlying t=some (.slice e)) (hsz:sizeP P e=some sz)
  (hx:opd x=some x') (hlo:opdO lo=some lo') (hhi:opdO hi=some hi') (hmx:opdO mx=some mx') (bl:boundA lo' s.slots 0=some l) (bh:boundA hi' s.slots 0=some h) (bk:boundA mx' s.slots 0=some k)
  (c4:mx'.isNone=true) (hr:cutA s nvi sz (x'.ev s.slots) l (hi'.map fun _=>h)=some E):After P X s a o dst nvi (.eff E):=by
 have hv:=opd_ok hs hx
 have eh:∀ n,(hi'.map fun _=>h).getD n=if hi'.isSome then h else n:=fun n=>by cases hi'<;>rfl
 have em:mx'.isSome=false:=by cases mx'<;>first|rfl|cases c4
 unfold cutA at hr
 split at hr
 ·rename_i lv sl ver off len sz' he
  split at hr
  ·rename_i els hrow
   split at hr
   ·rename_i hc
    obtain⟨rfl,c1,c2,c3⟩:=hc
    injection hr with hr;subst hr
    rw[he] at hv
    obtain⟨L,ad,cap,hL,hLs,hxe,hle,h4⟩:=hv
    obtain⟨Y,hw,g1,g2,g3,g4⟩:=cut_ref (n:=s.nv) hs.mem hfr (h':=(hi'.map fun _=>h).getD len) ⟨L,ad,cap,hL,hLs,rfl,hle,h4⟩ hrow c1 c2 c3
    have run:=slice_run hs (P:=P) ho ht hsz hxe hlo hhi hmx bl bh bk (by rw[←eh];exact c1) (by rw[←eh,em];simp only[Bool.false_eq_true,if_false];omega) (by rw[em];simp) (by rw[em];exact fun h=>by cases h)
    rw[←eh,em] at run
    simp only[Bool.false_eq_true,if_false] at run
    refine .value (Y:=Y) (by rw[hw];exact run) g1 g2 ?_ g4
    exact g3
   ·cases hr
  ·cases hr
 ·cases hr
theorem appendZ_after (hs:Sim X nt s a) (hfr:X.ρ nvi=none) {x y:Operand} {x' y':Opd} {t u e':TypeId} {sz by_ k:Nat} {kd:IntKind} {zl:List Value} {z:List D} {row:Bool} {lv sl:Nat} {E:Eff} (ho:o.op=.call { callee:=.builtin .append,args:=#[x,y],argTypes:=#[t,u] }) (hu:P.underlying u=some (.int kd)) (ht':P.underlying t=some (.slice e')) (he:elemP P t=some (sz,by_))
  (hzp:zeroP P e'=some zl) (hzd:constDs zl=some z) (hzl:z.length=sz) (hx:opd x=some x') (hy:opd y=some y') (hk:natOfA (y'.ev s.slots)=some k) (h63:k≤maxLenA) (hby:k*by_≤roomA) (hr:appendA s row lv sl nvi sz by_ (x'.ev s.slots) (.d (.sl (List.replicate k z)))=some E):After P X s a o dst nvi (.eff E):=by
 obtain⟨e,i,zv,ht,hi,hz,hzs,h0,rfl,rfl⟩:=elemP_run he
 rw[ht] at ht';injection ht' with ht';injection ht' with ht';subst ht'
 obtain⟨i',zv',hi',hiz,rfl⟩:=zeroP_run hzp
 rw[hi] at hi';injection hi' with hi';subst hi'
 rw[hz] at hiz;injection hiz with hiz;subst hiz
 obtain⟨kk,hke⟩:=natOfA_ok hk (opd_ok hs hy)
 have hZ:All2 (DR X.w X.F) z zv.cells.toList:=constDs_ok hzd
 have hrep:=replicate_flat hZ hzl h0 k (k*i.size) (Nat.le_refl _)
 have hcl:(madeCells zv.cells (k*i.size)).toList.take (k*i.size)=(Builtin.zeroCells zv.cells k).toList:=by
  rw[List.take_of_length_le (by simp[madeCells])]
  simp[madeCells,Builtin.zeroCells,hzs]
 rw[hcl] at hrep
 obtain⟨Y,v,h1,h2,h3,h4,h5⟩:=append_coreS (P:=P) (u:=u) (ty:=o.type) (yv:=a.eval y) (n:=s.nv) hs.mem hfr ht hi hz hzs h0 (opd_ok hs hx) (fun news hn hnl=>by
  injection hn with hn;subst hn
  refine⟨_,hrep,?_⟩
  rw[List.length_replicate]
  exact .zero kd kk zv hu hz hzs hke h63 hby rfl) hr
 exact .value (append_call (w:=Y.w) ho h1) h2 h3 h4 h5
theorem clone_after (hs:Sim X nt s a) (hfr:X.ρ nvi=none) {f T:Nat} {x:Operand} {x':Opd} {ts:Array TypeId} {sz by_:Nat} {row:Bool} {lv sl:Nat} {E:Eff} {els:List (List D)} (hc:IsClone P f T) (ho:o.op=.call { callee:=.value (.func f),args:=#[x],argTypes:=ts }) (he:elemP P T=some (sz,by_))
  (hx:opd x=some x') (hel:elsOf s.mem (x'.ev s.slots)=some els) (hr:appendA s row lv sl nvi sz by_ (.own [] .full) (x'.ev s.slots)=some E):After P X s a o dst nvi (.eff E):=by
 obtain⟨e,i,z,ht,hi,hz,hzs,h0,rfl,rfl⟩:=elemP_run he
 have hv:=opd_ok hs hx
 obtain⟨ad,cap,_,_,_,hsl,_⟩:=elsOf_ok hs.mem hel hv
 have hcl:=clone_calls (P:=P) (n:=s.nv) hc hs.mem hfr ht hi hz hzs h0 hv ⟨ad,_,cap,hsl⟩ hr
 obtain⟨fn,hf,hb,_,_,hn⟩:=hc.fn
 intro K Q hK
 unfold Oper.wp
 have hrun:(execOp a.eval o).run P X.w=.ok (.enter f #[a.eval x]) X.w:=by
  have:=callFn_run (P:=P) (X:=X) (a:=a) ho ⟨fn,hf,by rw[hb];rfl,hn⟩
  simpa using this
 rw[hrun,Oper.upon_enter]
 refine Calls.mono hcl ?_
 rintro en w' ⟨Y,v,rfl,rfl,h2,h3,h4,h5⟩
 exact hK Y v h2 h3 h4 h5
theorem appendB_after (hs:Sim X nt s a) (hfr:X.ρ nvi=none) {x y:Operand} {x' y':Opd} {t u:TypeId} {sz by_:Nat} {lv sl:Nat} {E:Eff} (ho:o.op=.call { callee:=.builtin .append,args:=#[x,y],argTypes:=#[t,u] }) (hu:notInt P u) (he:elemP P t=some (sz,by_))
  (hx:opd x=some x') (hy:opd y=some y') (hr:appendB s lv sl nvi sz by_ (x'.ev s.slots) (y'.ev s.slots)=some E):After P X s a o dst nvi (.eff E):=by
 obtain⟨e,i,z,ht,hi,hz,hzs,h0,rfl,rfl⟩:=elemP_run he
 obtain⟨Y,v,h1,h2,h3,h4,h5⟩:=appendB_core (P:=P) (ty:=o.type) (n:=s.nv) hs.mem hfr ht hu hi hz hzs h0 (opd_ok hs hx) (opd_ok hs hy) hr
 exact .value (append_call (w:=Y.w) ho h1) h2 h3 h4 h5
theorem cloneB_after (hs:Sim X nt s a) (hfr:X.ρ nvi=none) {f T:Nat} {x:Operand} {x':Opd} {ts:Array TypeId} {sz by_:Nat} {lv sl:Nat} {E:Eff} (hc:IsClone P f T) (ho:o.op=.call { callee:=.value (.func f),args:=#[x],argTypes:=ts }) (he:elemP P T=some (sz,by_))
  (hx:opd x=some x') (hr:appendB s lv sl nvi sz by_ (.own [] .full) (x'.ev s.slots)=some E):After P X s a o dst nvi (.eff E):=by
 obtain⟨e,i,z,ht,hi,hz,hzs,h0,rfl,rfl⟩:=elemP_run he
 have hv:=opd_ok hs hx
 obtain⟨new,hnew,hlen⟩:=appendB_len hr
 have hcl:=cloneB_calls (P:=P) (n:=s.nv) hc hs.mem hfr ht hi hz hzs h0 hv (cellsL_some hs.mem hnew hv hlen) hr
 obtain⟨fn,hf,hb,_,_,hn⟩:=hc.fn
 intro K Q hK
 unfold Oper.wp
 have hrun:(execOp a.eval o).run P X.w=.ok (.enter f #[a.eval x]) X.w:=by
  have:=callFn_run (P:=P) (X:=X) (a:=a) ho ⟨fn,hf,by rw[hb];rfl,hn⟩
  simpa using this
 rw[hrun,Oper.upon_enter]
 refine Calls.mono hcl ?_
 rintro en w' ⟨Y,v,rfl,rfl,h2,h3,h4,h5⟩
 exact hK Y v h2 h3 h4 h5
theorem VC0.VR {X:Cx} {x:AV} {v:Value} (h:VC0 X x v):Go.Eng.VR X x v:=by
 cases x<;>first|exact h|exact h.elim
theorem callP_ok {call : Go.Eng.Call} {sh : Nat → Bool} {lib : Nat → Option TypeId} (hcall : CallOK P call) (hlib : ∀ f T, lib f = some T → IsLib P f T) (hs : Sim X nt s a) (hfr : X.ρ nvi = none) (hnv : nvi < s.nv) (hdom : ∀ v, s.nv ≤ v → X.ρ v = none) {c : Go.Call} {aop : AOp} {row d : Nat} {r : Res}
  (ho:o.op=.call c) (hp:callP P lib c=some aop) (hr:aop.run call sh s row d nvi=some r):After P X s a o dst nvi r:=by
 obtain⟨callee,args,ts⟩:=c
 obtain⟨args⟩:=args
 obtain⟨ts⟩:=ts
 unfold callP at hp
 cases callee with
 | value f =>
  cases f with
  | func f =>
   simp only at hp
   split at hp
   ·rename_i T x hT
    split at hp
    ·rename_i hq
     have hq:=Nat.eq_of_beq_eq_true hq
     obtain⟨x',hx',rfl⟩:=opt_map hp
     simp only[AOp.run] at hr
     obtain⟨E,hE,rfl⟩:=opt_map hr
     have hc:=(hlib f T hT).sort hq
     have hrun:(execOp a.eval o).run P X.w=.ok (.enter f #[a.eval x]) X.w:=by
      have:=callFn_run (P:=P) (X:=X) (a:=a) ho hc.fn
      simpa using this
     exact sort_after (_ts:=ts.toArray) hs hc hrun hx' hE
    ·rename_i hq
     split at hp
     ·rename_i hq2
      have hq2:=Nat.eq_of_beq_eq_true hq2
      obtain⟨x',hx',rfl⟩:=opt_map hp
      simp only[AOp.run] at hr
      obtain⟨E,hE,rfl⟩:=opt_map hr
      have hc:=(hlib f T hT).compact hq2
      have hrun:(execOp a.eval o).run P X.w=.ok (.enter f #[a.eval x]) X.w:=by
       have:=callFn_run (P:=P) (X:=X) (a:=a) ho hc.fn
       simpa using this
      exact compact_after (_ts:=ts.toArray) hs hfr hc hrun hx' hE
     ·rename_i hq2
      split at hp
      ·rename_i sz by_ x' he hx'
       injection hp with hp;subst hp
       simp only[AOp.run] at hr
       split at hr
       ·obtain ⟨E, hE, rfl⟩ := opt_map hr
        exact cloneB_after hs hfr ((hlib f T hT).clone (by rintro rfl;cases hq) (by rintro rfl;cases hq2)) ho he hx' hE
       split at hr
       ·rename_i els hel
        obtain⟨E,hE,rfl⟩:=opt_map hr
        exact clone_after hs hfr ((hlib f T hT).clone (by rintro rfl;cases hq) (by rintro rfl;cases hq2)) ho he hx' hel hE
       ·cases hr
      ·cases hp
   ·cases hp
   ·split at hp
    ·obtain ⟨as, has, rfl⟩ := opt_map hp
     simp only[AOp.run] at hr
     have hargs:=opds_ok hs has
     split at hr
     ·exact doHide_ok hcall hs hfr hnv hdom (vargs:=(Array.mk _).map a.eval) (by rw[Array.toList_map];exact hargs) hr fun hf=>callFn_run ho hf
     split at hr
     ·exact doCall_ok hcall hs hfr hnv hdom (vargs:=(Array.mk _).map a.eval) (by rw[Array.toList_map];exact hargs) hr fun hf=>callFn_run ho hf
     ·exact doFlat_ok hcall hs (vargs:=(Array.mk _).map a.eval) (by rw[Array.toList_map];exact hargs) hr fun hf=>callFn_run ho hf
    ·obtain ⟨as, has, rfl⟩ := opt_map hp
     simp only[AOp.run] at hr
     have hargs:=opds_ok hs has
     split at hr
     ·exact doHide_ok hcall hs hfr hnv hdom (vargs:=(Array.mk _).map a.eval) (by rw[Array.toList_map];exact hargs) hr fun hf=>callFn_run ho hf
     split at hr
     ·exact doFlat_ok hcall hs (vargs:=(Array.mk _).map a.eval) (by rw[Array.toList_map];exact hargs) hr fun hf=>callFn_run ho hf
     ·split at hr
      ·exact doKeep_ok hcall hs hdom (vargs:=(Array.mk _).map a.eval) (by rw[Array.toList_map];exact hargs) hr fun hf=>callFn_run ho hf
      split at hr
      ·exact doGive_ok hcall hs hfr (vargs:=(Array.mk _).map a.eval) (by rw[Array.toList_map];exact hargs) hr fun hf=>callFn_run ho hf
      split at hr
      ·exact doLend_ok hcall hs hfr (vargs:=(Array.mk _).map a.eval) (by rw[Array.toList_map];exact hargs) hr fun hf=>callFn_run ho hf
      ·exact doCall_ok hcall hs hfr hnv hdom (vargs:=(Array.mk _).map a.eval) (by rw[Array.toList_map];exact hargs) hr fun hf=>callFn_run ho hf
  | tmp t =>
   simp only at hp
   obtain⟨as,has,rfl⟩:=opt_map hp
   simp only[AOp.run] at hr
   split at hr
   ·rename_i f cap hq
    have hargs:=opds_ok hs has
    have hv:=opd_ok hs (x:=.tmp t) (y:=.t t) rfl
    rw[hq] at hv
    obtain⟨vs,hv,hcap⟩:=hv
    refine doCall_ok hcall hs hfr hnv hdom (vargs:=(Array.mk args).map a.eval++vs) (by
     rw[Array.toList_append,Array.toList_map]
     exact hargs.append (hcap.mono fun _ _=>VC0.VR)) hr fun hf=>callV_run ho hv hf
   ·cases hr
  |const v=>cases hp
  |global g=>cases hp
 |invoke r m=>cases hp
 | builtin b =>
  simp only at hp
  split at hp
  ·
   rename_i x t
   split at hp
   ·rename_i e hu
    obtain⟨x',hx',rfl⟩:=opt_map hp
    simp only[AOp.run] at hr
    split at hr
    ·rename_i els hq
     rw[pure_eq hr]
     exact .quiet hs (len_ok hs ho hu hx' (.inl ⟨els,.inl hq,rfl⟩))
    ·rename_i els ow hq
     rw[pure_eq hr]
     exact .quiet hs (len_ok hs ho hu hx' (.inl ⟨els,.inr ⟨_,hq⟩,rfl⟩))
    ·rename_i lv sl ver off n sz hq
     rw[pure_eq hr]
     exact .quiet hs (len_ok hs ho hu hx' (.inr (.inl ⟨_,_,_,_,_,hq⟩)))
    ·rename_i lv sl ver off n sz hq
     rw[pure_eq hr]
     exact .quiet hs (len_ok hs ho hu hx' (.inr (.inr ⟨_,_,_,_,_,hq⟩)))
    ·cases hr
   ·rename_i hu
    obtain⟨x',hx',rfl⟩:=opt_map hp
    simp only[AOp.run] at hr
    split at hr
    ·rename_i b hq
     rw[pure_eq hr]
     exact .quiet hs (lenS_ok hs ho hu hx' hq)
    ·cases hr
   ·rename_i n e hu
    injection hp with hp;subst hp
    simp only[AOp.run] at hr
    rw[pure_eq hr]
    exact .quiet hs (lenC_ok ho (.inl ⟨e,hu⟩))
   ·rename_i e hu
    split at hp
    ·rename_i n e' hu'
     injection hp with hp;subst hp
     simp only[AOp.run] at hr
     rw[pure_eq hr]
     exact .quiet hs (lenC_ok ho (.inr ⟨e,e',hu,hu'⟩))
    ·cases hp
   ·cases hp
  ·
   rename_i x y t u
   split at hp
   ·rename_i e kd ht hu
    split at hp
    ·rename_i sz by_ z x' y' he hz hx' hy'
     split at hp
     ·rename_i hzl
      injection hp with hp;subst hp
      obtain⟨zl,hzp,hzd⟩:=opt_bind hz
      simp only[AOp.run] at hr
      obtain⟨k,hk,hr⟩:=opt_bind hr
      split at hr
      ·rename_i hc
       obtain⟨E,hE,rfl⟩:=opt_map hr
       exact appendZ_after hs hfr ho hu ht he hzp hzd hzl hx' hy' hk hc.2.1 hc.2.2 hE
      ·cases hr
     ·cases hp
    ·cases hp
   ·cases hp
   ·rename_i hu
    split at hp
    ·rename_i sz by_ x' y' he hx' hy'
     injection hp with hp;subst hp
     simp only[AOp.run] at hr
     split at hr
     ·obtain ⟨E, hE, rfl⟩ := opt_map hr
      exact appendB_after hs hfr ho (.inl ⟨_,hu⟩) he hx' hy' hE
     ·obtain ⟨E, hE, rfl⟩ := opt_map hr
      exact append_after hs hfr ho (.inl ⟨_,hu⟩) he hx' hy' hE
    ·cases hp
   ·rename_i hu
    split at hp
    ·rename_i sz by_ x' y' he hx' hy'
     injection hp with hp;subst hp
     simp only[AOp.run] at hr
     split at hr
     ·obtain ⟨E, hE, rfl⟩ := opt_map hr
      exact appendB_after hs hfr ho (.inr hu) he hx' hy' hE
     ·obtain ⟨E, hE, rfl⟩ := opt_map hr
      exact append_after hs hfr ho (.inr hu) he hx' hy' hE
    ·cases hp
   ·cases hp
  ·
   rename_i x y t u
   split at hp
   ·rename_i e hu
    split at hp
    ·rename_i i x' y' hi hx' hy'
     split at hp
     ·rename_i h0
      injection hp with hp;subst hp
      simp only[AOp.run] at hr
      split at hr
      ·rename_i lv sl ver off n sz' news hq hn
       split at hr
       ·rename_i cs hb
        split at hr
        ·rename_i hc
         obtain⟨rfl,hc2,hc3⟩:=hc
         injection hr with hr;subst hr
         exact copyBox_ok hs ho hu hi h0 hx' hy' hq hn hb hc2 (all_len hc3)
        ·cases hr
       ·cases hr
      ·rename_i lv sl ver off ln sz' news hq hn
       split at hr
       ·rename_i els hb
        split at hr
        ·rename_i hc
         obtain⟨rfl,hc2,hc3⟩:=hc
         injection hr with hr;subst hr
         exact copyRow_ok hs ho hu hi h0 hx' hy' hq hn hb hc2 (all_len hc3)
        ·cases hr
       ·cases hr
      ·cases hr
     ·cases hp
    ·cases hp
   ·cases hp
  ·
   rename_i x t
   split at hp
   ·rename_i e hu
    split at hp
    ·rename_i sz z x' hsz hz hx'
     split at hp
     ·rename_i hc0
      injection hp with hp;subst hp
      obtain⟨zl,hzl,hzd⟩:=opt_bind hz
      simp only[AOp.run] at hr
      split at hr
      ·rename_i lv sl ver off ln sz' hq
       split at hr
       ·rename_i els hb
        split at hr
        ·rename_i hc
         obtain⟨rfl,hc2,hc3⟩:=hc
         injection hr with hr;subst hr
         exact clear_ok hs ho hu hzl hzd hc3 hc0.2 hx' hq hb hc2
        ·cases hr
       ·cases hr
      ·cases hr
     ·cases hp
    ·cases hp
   ·cases hp
  ·
   rename_i x t
   split at hp
   ·rename_i e hu
    obtain⟨x',hx',rfl⟩:=opt_map hp
    simp only[AOp.run] at hr
    split at hr
    ·rename_i els hq
     rw[pure_eq hr]
     exact .quiet hs (capF_ok hs ho hu hx' hq)
    ·cases hr
   ·cases hp
  ·
   rename_i x y ts0
   split at hp
   ·rename_i x' y' hx' hy'
    injection hp with hp;subst hp
    simp only[AOp.run] at hr
    split at hr
    ·rename_i k p k' q hq1 hq2
     split at hr
     ·rename_i hk
      subst hk
      rw[pure_eq hr]
      exact .quiet hs (min_ok hs ho hx' hy' hq1 hq2)
     ·cases hr
    ·cases hr
   ·cases hp
  ·
   rename_i x y ts0
   split at hp
   ·rename_i x' y' hx' hy'
    injection hp with hp;subst hp
    simp only[AOp.run] at hr
    split at hr
    ·rename_i k p k' q hq1 hq2
     split at hr
     ·rename_i hk
      subst hk
      rw[pure_eq hr]
      exact .quiet hs (max_ok hs ho hx' hy' hq1 hq2)
     ·cases hr
    ·cases hr
   ·cases hp
  ·cases hp
end
end Go.Eng
