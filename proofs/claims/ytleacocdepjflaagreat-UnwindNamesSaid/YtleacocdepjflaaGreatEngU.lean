/- One operation, of whatever kind. -/
import Derived.Test.YtleacocdepjflaaGreatEngT
namespace Go.Eng
open Go Go.RowKit
section
variable {P:Program} {X:Cx} {nt:NT} {s:St} {a:Act} {o:Oper} {dst:Option Nat} {nvi:Nat}
theorem built_struct {t:TypeId} {fs:Array Field} {zl:List Value} {pl:List (Nat×Nat)} {it:TypeInfo} {z:Value} (hi:P.info? t=some it) (hz:it.zero=some z) (_h:zl=z.cells.toList) (ht:P.underlying t=some (.struct fs)) (hp:placesP P fs=some pl) (parts:List (Nat×Value)) :
  P.built t parts=Instr.fill (pl.toArray[·]?) z.cells parts:=by
 unfold placesP at hp
 simp only[Program.built,hi,ht,hz,hp]
theorem opP_ok {call : Go.Eng.Call} {sh : Nat → Bool} {lib : Nat → Option TypeId} (hcall : CallOK P call) (hlib : ∀ f T, lib f = some T → IsLib P f T) (hs : Sim X nt s a) (hfr : X.ρ nvi = none) (hnv : nvi < s.nv) (hdom : ∀ v, s.nv ≤ v → X.ρ v = none) {aop : AOp} {row d : Nat} {r : Res}
  (hp:opP P lib o.op=some aop) (hr:aop.run call sh s row d nvi=some r):After P X s a o dst nvi r:=by
 cases ho:o.op with
 |move x=>
  rw[ho] at hp
  simp only[opP] at hp
  obtain⟨x',hx,rfl⟩:=opt_map hp
  exact movs_after hs hfr (by simp[execOp,ho]) hx hr
 |assign x=>
  rw[ho] at hp
  simp only[opP] at hp
  obtain⟨x',hx,rfl⟩:=opt_map hp
  exact movs_after hs hfr (by simp[execOp,ho]) hx hr
 | pick c x y =>
  rw[ho] at hp
  simp only[opP] at hp
  split at hp
  ·rename_i c' x' y' hc hx hy
   injection hp with hp;subst hp
   simp only[AOp.run] at hr
   obtain⟨b,hb,hr⟩:=opt_bind hr
   rw[pure_eq hr]
   exact .quiet hs (pick_ok hs ho hc hx hy hb)
  ·cases hp
 |alloc t=>
  rw[ho] at hp
  simp only[opP] at hp
  obtain⟨z,hz,hp⟩:=opt_bind hp
  obtain⟨cs,hcs,rfl⟩:=opt_map hp
  simp only[AOp.run] at hr
  injection hr with hr;subst hr
  exact alloc_ok hs hfr ho hz hcs
 | box t x =>
  rw[ho] at hp
  simp only[opP] at hp
  obtain⟨x',hx,rfl⟩:=opt_map hp
  simp only[AOp.run] at hr
  split at hr
  ·obtain ⟨cs, hcs, hr⟩ := opt_bind hr
   obtain⟨ds,hds,hr⟩:=opt_bind hr
   rw[pure_eq hr]
   exact boxD_ok hs hfr ho hx hcs hds
  ·obtain ⟨cs, hcs, rfl⟩ := opt_map hr
   exact box_ok hs hfr ho hx hcs
 | build t ps =>
  rw[ho] at hp
  simp only[opP] at hp
  split at hp
  ·rename_i z fs hz ht
   split at hp
   ·rename_i z' pl hzc hpl
    obtain⟨l,hl,rfl⟩:=opt_map hp
    simp only[AOp.run] at hr
    obtain⟨cs,hcs,hr⟩:=opt_bind hr
    rw[pure_eq hr]
    obtain⟨it,zv,hi,hiz,rfl⟩:=zeroP_run hz
    exact .quiet hs (build_ok hs _ ho hzc (built_struct hi hiz rfl ht hpl) hl hcs hi)
   ·cases hp
  ·rename_i z n e hz ht
   split at hp
   ·rename_i z' sz hzc hsz
    obtain⟨l,hl,rfl⟩:=opt_map hp
    simp only[AOp.run] at hr
    obtain⟨cs,hcs,hr⟩:=opt_bind hr
    rw[pure_eq hr]
    obtain⟨it,zv,hi,hiz,rfl⟩:=zeroP_run hz
    obtain⟨ie,hie,hsz'⟩:=sizeP_run hsz
    refine .quiet hs (build_ok hs (fun i=>some (i*sz,sz)) ho hzc (fun parts=>?_) hl hcs hi)
    simp only[Program.built,hi,ht,hiz,hie,hsz']
   ·cases hp
  ·cases hp
 | buildSlice t n ps =>
  rw[ho] at hp
  simp only[opP] at hp
  split at hp
  ·rename_i e ht
   split at hp
   ·rename_i sz z l hsz hz hl
    split at hp
    ·rename_i hc
     injection hp with hp;subst hp
     obtain⟨zl,hzl,hzd⟩:=opt_bind hz
     simp only[AOp.run] at hr
     split at hr
     ·split at hr
      ·cases hr
      ·rename_i hn
       obtain⟨cs,hf,rfl⟩:=opt_map hr
       exact buildBox_ok (P:=P) (dst:=dst) (d:=d) hs hfr ho ht hsz hzl hzd hl hc.1 hc.2.1 hc.2.2 (beq_false.1 hn) hf
     split at hr
     ·cases hr
     ·rename_i els ks hf
      have:=fun rd d lq=>buildSlice_ok (lq:=lq) (P:=P) (dst:=dst) (rd:=rd) (d:=d) hs hfr ho ht hsz hzl hzd hl hc.1 hc.2.1 hc.2.2 hf
      split at hr
      ·injection hr with hr; subst hr
       exact (this _ d 0).1
      ·split at hr
       ·cases hr
       ·rename_i hnk
        injection hr with hr;subst hr
        exact (this _ d _).2 hnk
    ·cases hp
   ·cases hp
  ·cases hp
 |insert t m k v=>rw[ho] at hp;cases hp
 | load t x =>
  rw[ho] at hp
  simp only[opP] at hp
  split at hp
  ·rename_i sz agg x' hsz hag hx
   split at hp
   ·rename_i h1
    injection hp with hp;subst hp
    simp only[AOp.run] at hr
    obtain⟨cs,hcs,hr⟩:=opt_bind hr
    obtain⟨v,hv,rfl⟩:=opt_map hr
    exact .quiet hs (load_ok hs ho hsz hag h1 hx hcs hv)
   ·cases hp
  ·cases hp
 | store t x v =>
  rw[ho] at hp
  simp only[opP] at hp
  split at hp
  ·rename_i sz x' v' hsz hx hv
   injection hp with hp;subst hp
   simp only[AOp.run] at hr
   obtain⟨e,he,rfl⟩:=opt_map hr
   exact store_ok hs ho hsz hx hv he
  ·cases hp
 |ready g=>rw[ho] at hp;cases hp
 |waits g=>rw[ho] at hp;cases hp
 | nilCheck x =>
  rw[ho] at hp
  simp only[opP] at hp
  obtain⟨x',hx,rfl⟩:=opt_map hp
  simp only[AOp.run] at hr
  split at hr
  ·rename_i lv sl ver i off hq
   rw[pure_eq hr]
   exact .quiet hs (nilCheck_ok hs ho hx hq (.inl ⟨_,_,_,_,_,rfl⟩))
  ·rename_i e off hq
   rw[pure_eq hr]
   exact .quiet hs (nilCheck_ok hs ho hx hq (.inr (.inl ⟨_,_,rfl⟩)))
  ·rename_i f cs hq
   rw[pure_eq hr]
   exact .quiet hs (nilCheck_ok hs ho hx hq (.inr (.inr ⟨_,_,rfl⟩)))
  ·cases hr
 | binOp op t x y u =>
  rw[ho] at hp
  simp only[opP] at hp
  split at hp
  ·rename_i x' y' hx hy
   have plain:∀ {aop:AOp},aop=.bin op x' y'→aop.run call sh s row d nvi=some r→After P X s a o dst nvi r:=by
    rintro aop rfl hr
    simp only[AOp.run] at hr
    obtain⟨v,hv,hr⟩:=opt_bind hr
    rw[pure_eq hr]
    exact .quiet hs (bin_ok hs ho hx hy hv)
   have cmp : ∀ (neg : Bool), op = (if neg then .neq else .eql) → cmpOp P op neg t x' y' = some aop → After P X s a o dst nvi r := by
    intro neg hop hc
    have ho':o.op=.binOp (if neg then .neq else .eql) t x y u:=by rw[ho,hop]
    unfold cmpOp at hc
    split at hc
    ·rename_i hu
     injection hc with hc;subst hc
     simp only[AOp.run] at hr
     split at hr
     ·rename_i p q hp hq
      rw[pure_eq hr]
      exact .quiet hs (eqb_ok hs ho' hu hx hy hp hq)
     ·cases hr
    ·injection hc with hc;exact plain hc.symm hr
    ·injection hc with hc;exact plain hc.symm hr
    ·injection hc with hc; subst hc
     simp[AOp.run] at hr
    ·rename_i ms hu
     split at hc
     ·injection hc with hc; subst hc
      simp only[AOp.run] at hr
      split at hr
      ·rename_i hq
       rw[pure_eq hr]
       exact .quiet hs ((isErr_ok hs ho' hu hx hy).1 hq)
      ·rename_i hq
       rw[pure_eq hr]
       exact .quiet hs ((isErr_ok hs ho' hu hx hy).2 hq)
      ·cases hr
     ·cases hc
    ·rename_i fs hu
     split at hc
     ·cases hc
     ·rename_i hg
      split at hc
      ·rename_i l sz hl hsz
       injection hc with hc;subst hc
       simp only[AOp.run] at hr
       split at hr
       ·rename_i xs ys hxs hys
        split at hr
        ·cases hr
        ·rename_i hlen
         obtain⟨h3,h4⟩:=not_or.1 hlen
         obtain⟨b,hb,hr⟩:=opt_bind hr
         rw[pure_eq hr]
         exact .quiet hs (eqAop_ok hs ho' hu (by simpa using hg) hl hsz hx hy hxs hys (Classical.byContradiction h3) (Classical.byContradiction h4) hb)
       ·cases hr
      ·cases hc
    ·cases hc
   split at hp
   ·exact cmp false rfl hp
   ·exact cmp true rfl hp
   ·injection hp with hp;exact plain hp.symm hr
  ·cases hp
 |unOp op t x=>
  rw[ho] at hp
  simp only[opP] at hp
  obtain⟨x',hx,rfl⟩:=opt_map hp
  simp only[AOp.run] at hr
  obtain⟨v,hv,hr⟩:=opt_bind hr
  rw[pure_eq hr]
  exact .quiet hs (un_ok hs ho hx hv)
 | convert src ds x =>
  rw[ho] at hp
  simp only[opP] at hp
  split at hp
  ·rename_i dsc k hsrc hds
   obtain⟨x',hx,rfl⟩:=opt_map hp
   simp only[AOp.run] at hr
   obtain⟨n,hn,hr⟩:=opt_bind hr
   rw[pure_eq hr]
   exact .quiet hs (conv_ok hs ho hds (by rw[hsrc];rfl) hx hn)
  ·rename_i e hsrc hds
   split at hp
   ·rename_i he8
    obtain⟨x',hx,rfl⟩:=opt_map hp
    simp only[AOp.run] at hr
    obtain⟨els,hel,hr⟩:=opt_bind hr
    obtain⟨l,hl,hr⟩:=opt_map hr
    subst hr
    exact .quiet hs (b2s_ok hs ho hsrc he8 hds hx hel hl)
   ·cases hp
  ·rename_i e hsrc hds
   split at hp
   ·rename_i he8
    obtain⟨x',hx,rfl⟩:=opt_map hp
    simp only[AOp.run] at hr
    split at hr
    ·rename_i b hb
     rw[pure_eq hr]
     exact s2b_ok hs hfr ho hsrc hds he8 hx hb
    ·cases hr
   ·cases hp
  ·cases hp
 |sliceToArrayPointer t x=>rw[ho] at hp;cases hp
 |makeInterface t x=>
  rw[ho] at hp
  injection hp with hp;subst hp
  simp[AOp.run] at hr
 | makeFunc fn first cap =>
  rw[ho] at hp
  simp only[opP] at hp
  split at hp
  ·rename_i f
   split at hp
   ·rename_i h0
    obtain⟨cap',hcap,rfl⟩:=opt_map hp
    rw[Array.size_eq_zero_iff] at h0
    subst h0
    simp only[AOp.run] at hr
    split at hr
    ·rename_i hall
     rw[pure_eq hr]
     exact .quiet hs (makeFunc_ok hs ho hcap hall)
    ·cases hr
   ·cases hp
  ·cases hp
 | makeMap t x =>
  cases x with
  |some _=>rw[ho] at hp;cases hp
  | none =>
   rw[ho] at hp
   simp only[opP] at hp
   split at hp
   ·split at hp
    ·injection hp with hp; subst hp
     simp only[AOp.run] at hr
     injection hr with hr;subst hr
     exact mkSet_ok hs hfr ho
    ·cases hp
   ·cases hp
 |makeChan t x=>rw[ho] at hp;cases hp
 | makeSlice t l c =>
  rw[ho] at hp
  simp only[opP] at hp
  split at hp
  ·rename_i e ht
   split at hp
   ·rename_i i z l' c' hi hz hl hc
    split at hp
    ·rename_i h0
     injection hp with hp;subst hp
     obtain⟨zl,hzl,hzd⟩:=opt_bind hz
     simp only[AOp.run] at hr
     split at hr
     ·rename_i ln cn hln hcn
      split at hr
      ·rename_i hcond
       injection hr with hr;subst hr
       exact makeSlice_ok hs hfr ho ht hi hzl hzd hcond.2.2.2 h0 hl hc hln hcn hcond.1 hcond.2.1 hcond.2.2.1
      ·cases hr
     ·cases hr
    ·cases hp
   ·cases hp
  ·cases hp
 | slice t x lo hi mx =>
  rw[ho] at hp
  simp only[opP] at hp
  split at hp
  ·rename_i e ht
   split at hp
   ·rename_i sz x' lo' hi' mx' hsz hx hlo hhi hmx
    split at hp
    ·cases hp
    ·rename_i h0
     injection hp with hp;subst hp
     have c4:mx'.isSome=true→hi'.isSome=true:=by
      intro h;cases hi' with
      |some _=>rfl
      |none=>exact absurd (.inr ⟨h,rfl⟩) h0
     simp only[AOp.run] at hr
     split at hr
     ·rename_i l h k bl bh bk
      split at hr
      ·rename_i hq
       rw[Bool.and_eq_true,Bool.and_eq_true] at hq
       obtain⟨E,hE,hr⟩:=opt_map hr
       subst hr
       exact cut_after hs hfr ho ht hsz hx hlo hhi hmx bl bh bk hq.2.1 hE
      ·obtain ⟨v, hv, hr⟩ := opt_bind hr
       rw[pure_eq hr]
       exact .quiet hs (slice_ok hs ho ht hsz hx hlo hhi hmx bl bh bk c4 hv)
     ·cases hr
   ·cases hp
  ·rename_i n e ht
   split at hp
   ·rename_i sz x' hsz hx
    split at hp
    ·cases hp
    ·rename_i h0
     injection hp with hp;subst hp
     simp only[AOp.run] at hr
     split at hr
     ·rename_i lv sl ver i off hq
      split at hr
      ·rename_i hi0
       have hi0:=beq_true.1 hi0
       subst hi0
       rw[pure_eq hr]
       exact .quiet hs (sliceB_ok hs ho ht hsz h0 hx hq)
      ·cases hr
     ·cases hr
   ·rename_i k sz x' hsz hx
    split at hp
    ·rename_i h0
     injection hp with hp;subst hp
     simp only[AOp.run] at hr
     split at hr
     ·rename_i lv sl ver i off hq
      split at hr
      ·rename_i hi0
       rw[Bool.and_eq_true] at hi0
       have hi1:=beq_true.1 hi0.1
       subst hi1
       rw[pure_eq hr]
       exact .quiet hs (sliceL_ok hs ho ht hsz h0 (by simpa[Nat.blt_eq] using hi0.2) hx hq)
      ·cases hr
     ·cases hr
    ·cases hp
   ·cases hp
  ·rename_i ht
   split at hp
   ·rename_i x' lo' hi' hx hlo hhi
    injection hp with hp;subst hp
    simp only[AOp.run] at hr
    split at hr
    ·rename_i b hq
     split at hr
     ·rename_i l h bl bh
      split at hr
      ·rename_i hc
       rw[pure_eq hr]
       exact .quiet hs (sliceS_ok hs ho ht hx hlo hhi hq bl bh hc.1 hc.2)
      ·cases hr
     ·cases hr
    ·cases hr
   ·cases hp
  ·cases hp
 | fieldAddr t x f =>
  rw[ho] at hp
  simp only[opP] at hp
  split at hp
  ·rename_i fs ht
   split at hp
   ·rename_i fl hfl
    split at hp
    ·rename_i sz x' hsz hx
     split at hp
     ·cases hp
     ·rename_i h0
      injection hp with hp;subst hp
      simp only[AOp.run] at hr
      split at hr
      ·rename_i lv sl ver i off hq
       rw[pure_eq hr]
       exact .quiet hs (fieldAddr_ok hs ho ht hfl hsz h0 hx (.inl ⟨_,_,_,_,_,hq,rfl⟩))
      ·rename_i e off hq
       rw[pure_eq hr]
       exact .quiet hs (fieldAddr_ok hs ho ht hfl hsz h0 hx (.inr ⟨_,_,hq,rfl⟩))
      ·cases hr
    ·cases hp
   ·cases hp
  ·cases hp
 | field t x f =>
  rw[ho] at hp
  simp only[opP] at hp
  split at hp
  ·rename_i fs ht
   split at hp
   ·rename_i fl hfl
    split at hp
    ·rename_i sz agg x' hsz hag hx
     split at hp
     ·rename_i h1
      injection hp with hp;subst hp
      simp only[AOp.run] at hr
      split at hr
      ·rename_i cs hq
       split at hr
       ·rename_i hle
        obtain⟨v,hv,hr⟩:=opt_bind hr
        rw[pure_eq hr]
        exact .quiet hs (field_ok hs ho ht hfl hsz hag h1 hx hq hle hv)
       ·cases hr
      ·cases hr
     ·cases hp
    ·cases hp
   ·cases hp
  ·cases hp
 | indexAddr t x i =>
  rw[ho] at hp
  simp only[opP] at hp
  split at hp
  ·rename_i e ht
   split at hp
   ·rename_i sz x' i' hsz hx hi
    split at hp
    ·cases hp
    ·injection hp with hp; subst hp
     simp only[AOp.run] at hr
     obtain⟨n,hn,hr'⟩:=opt_bind hr
     clear hr;have hr:=hr';clear hr'
     split at hr
     ·rename_i els hq
      split at hr
      ·rename_i el hel
       split at hr
       ·rename_i hlen
        rw[pure_eq hr]
        exact .quiet hs (indexAddr_ok hs ho ht hsz hx hi hn (.inl ⟨els,el,.inl hq,hel,hlen,rfl⟩))
       ·cases hr
      ·cases hr
     ·rename_i els ow hq
      split at hr
      ·rename_i el hel
       split at hr
       ·rename_i hlen
        rw[pure_eq hr]
        exact .quiet hs (indexAddr_ok hs ho ht hsz hx hi hn (.inl ⟨els,el,.inr ⟨_,hq⟩,hel,hlen,rfl⟩))
       ·cases hr
      ·cases hr
     ·rename_i lv sl ver off ln sz' hq
      split at hr
      ·rename_i hc
       obtain⟨hc1,rfl⟩:=hc
       rw[pure_eq hr]
       exact .quiet hs (indexAddr_ok hs ho ht hsz hx hi hn (.inr (.inl ⟨_,_,_,_,_,hq,hc1,rfl⟩)))
      ·cases hr
     ·rename_i lv sl ver off ln sz' hq
      split at hr
      ·rename_i hc
       obtain⟨hc1,rfl⟩:=hc
       rw[pure_eq hr]
       exact .quiet hs (indexAddr_ok hs ho ht hsz hx hi hn (.inr (.inr ⟨_,_,_,_,_,hq,hc1,rfl⟩)))
      ·cases hr
     ·cases hr
   ·cases hp
  ·rename_i n e ht
   split at hp
   ·rename_i sz x' i' hsz hx hi
    injection hp with hp;subst hp
    simp only[AOp.run] at hr
    obtain⟨k,hk,hr⟩:=opt_bind hr
    split at hr
    ·rename_i hkn
     split at hr
     ·rename_i lv sl ver j off hq
      rw[pure_eq hr]
      exact .quiet hs (indexArr_ok hs ho ht hsz hx hi hk hkn (.inl ⟨_,_,_,_,_,hq,rfl⟩))
     ·rename_i e off hq
      rw[pure_eq hr]
      exact .quiet hs (indexArr_ok hs ho ht hsz hx hi hk hkn (.inr ⟨_,_,hq,rfl⟩))
     ·cases hr
    ·cases hr
   ·cases hp
  ·cases hp
 | index t x i =>
  rw[ho] at hp
  simp only[opP] at hp
  split at hp
  ·rename_i n e ht
   split at hp
   ·rename_i sz agg x' i' hsz hag hx hi
    split at hp
    ·rename_i h1
     injection hp with hp;subst hp
     simp only[AOp.run] at hr
     obtain⟨k,hk,hr⟩:=opt_bind hr
     split at hr
     ·rename_i cs hq
      split at hr
      ·rename_i hc
       obtain⟨v,hv,hr⟩:=opt_bind hr
       rw[pure_eq hr]
       exact .quiet hs (indexA_ok hs ho ht hsz hag h1 hx hi hq hk hc.1 hc.2 hv)
      ·cases hr
     ·cases hr
    ·cases hp
   ·cases hp
  ·rename_i ht
   split at hp
   ·rename_i x' i' hx hi
    injection hp with hp;subst hp
    simp only[AOp.run] at hr
    obtain⟨k,hk,hr⟩:=opt_bind hr
    split at hr
    ·rename_i b hq
     split at hr
     ·rename_i c hc
      rw[pure_eq hr]
      exact .quiet hs (indexS_ok hs ho ht hx hi hq hk hc)
     ·cases hr
    ·cases hr
   ·cases hp
  ·cases hp
 | lookup t x k b =>
  cases b with
  |true=>rw[ho] at hp;cases hp
  | false =>
   rw[ho] at hp
   simp only[opP] at hp
   split at hp
   ·rename_i kt et ht
    split at hp
    ·rename_i m' x' hk hz hm hx
     injection hp with hp;subst hp
     simp only[AOp.run] at hr
     split at hr
     ·rename_i lv sl ver b h1 h2
      obtain⟨ks,h3,hr⟩:=opt_map hr
      subst hr
      exact .quiet hs (hasK_ok hs ho ht hk hz hm hx h1 h2 h3)
     ·cases hr
    ·cases hp
   ·cases hp
 | mapUpdate t m k v =>
  rw[ho] at hp
  simp only[opP] at hp
  split at hp
  ·rename_i kt et ht
   split at hp
   ·rename_i m' x' hk hm hx
    injection hp with hp;subst hp
    simp only[AOp.run] at hr
    split at hr
    ·rename_i lv sl ver b h1 h2
     obtain⟨ks,h3,hr⟩:=opt_map hr
     subst hr
     exact addK_ok hs ho ht hk hm hx h1 h2 h3
    ·cases hr
   ·cases hp
  ·cases hp
 |mapEntry t m k=>rw[ho] at hp;cases hp
 |entryStore t m k v=>rw[ho] at hp;cases hp
 |range t x=>rw[ho] at hp;cases hp
 |next x b=>rw[ho] at hp;cases hp
 |entry x=>rw[ho] at hp;cases hp
 |typeAssert x t u b=>rw[ho] at hp;cases hp
 | extract x i =>
  rw[ho] at hp
  simp only[opP] at hp
  obtain⟨x',hx,rfl⟩:=opt_map hp
  simp only[AOp.run] at hr
  split at hr
  ·rename_i vs hq
   obtain⟨v,hv,hr⟩:=opt_bind hr
   rw[pure_eq hr]
   exact .quiet hs (extract_ok hs ho hx hq hv)
  ·cases hr
 |call c=>
  rw[ho] at hp
  simp only[opP] at hp
  exact callP_ok hcall hlib hs hfr hnv hdom ho hp hr
 |go c=>rw[ho] at hp;cases hp
 |defer c=>rw[ho] at hp;cases hp
 |panic x=>
  rw[ho] at hp
  injection hp with hp;subst hp
  simp[AOp.run] at hr
 |send c x=>rw[ho] at hp;cases hp
 |recv t c b=>rw[ho] at hp;cases hp
 |select cs b=>rw[ho] at hp;cases hp
end
end Go.Eng
