/- One operation, of whatever kind. -/
import Derived.Test.YtokjmkblnafppaaGreatDoorEngT
set_option linter.unusedVariables false
set_option linter.unusedSimpArgs false
namespace Go.bI
open Go Go.RowKit
section
variable {P:Program} {X:Cx} {nt:Nat} {s:St} {a:Act} {o:Oper} {dst:Option Nat} {aR:Nat}
theorem DB {t:TypeId} {fs:Array Field} {zl:List Value} {pl:List (Nat×Nat)} {it:TypeInfo} {z:Value} (hi:P.info? t=some it) (hz:it.zero=some z) (_h:zl=z.cells.toList) (ht:P.underlying t=some (.struct fs)) (hp:Df P fs=some pl) (parts:List (Nat×Value)) :
  P.built t parts=Instr.fill (pl.toArray[·]?) z.cells parts:=by
 unfold Df at hp
 simp only[Program.built,hi,ht,hz,hp]
theorem Vb {call : Go.bI.Call} {sh : Nat → Bool} {bq : Nat → Option TypeId} (cE : cF P call) (jf : ∀ f T, bq f = some T → j3 P f T) (hs : eL X nt s a) (hfr : X.ρ aR = none) (yl : aR < s.nv) (hdom : ∀ v, s.nv ≤ v → X.ρ v = none) {QD : bM} {row d : Nat} {r : fW}
  (hp:tu P bq o.op=some QD) (hr:QD.run call sh s row d aR=some r):cU P X s a o dst aR r:=by
 cases ho:o.op with
 |move x=>
  rw[ho] at hp
  simp only[tu] at hp
  obtain⟨x',hx,rfl⟩:=aM hp
  exact zp hs hfr (by simp[execOp,ho]) hx hr
 |assign x=>
  rw[ho] at hp
  simp only[tu] at hp
  obtain⟨x',hx,rfl⟩:=aM hp
  exact zp hs hfr (by simp[execOp,ho]) hx hr
 | pick c x y =>
  rw[ho] at hp
  simp only[tu] at hp
  split at hp
  ·rename_i c' x' y' hc hx hy
   injection hp with hp;subst hp
   simp only[bM.run] at hr
   obtain⟨b,hb,hr⟩:=aT hr
   rw[bK hr]
   exact .quiet hs (Q5 hs ho hc hx hy hb)
  ·cases hp
 |alloc t=>
  rw[ho] at hp
  simp only[tu] at hp
  obtain⟨z,hz,hp⟩:=aT hp
  obtain⟨cs,hcs,rfl⟩:=aM hp
  simp only[bM.run] at hr
  injection hr with hr;subst hr
  exact Nf hs hfr ho hz hcs
 |box t x=>
  rw[ho] at hp
  simp only[tu] at hp
  obtain⟨x',hx,rfl⟩:=aM hp
  simp only[bM.run] at hr
  obtain⟨cs,hcs,rfl⟩:=aM hr
  exact UZ hs hfr ho hx hcs
 | build t ps =>
  rw[ho] at hp
  simp only[tu] at hp
  split at hp
  ·rename_i z fs hz ht
   split at hp
   ·rename_i z' pl Rf hpl
    obtain⟨l,hl,rfl⟩:=aM hp
    simp only[bM.run] at hr
    obtain⟨cs,hcs,hr⟩:=aT hr
    rw[bK hr]
    obtain⟨it,zv,hi,Bp,rfl⟩:=iK hz
    exact .quiet hs (EN hs _ ho Rf (DB hi Bp rfl ht hpl) hl hcs hi)
   ·cases hp
  ·rename_i z n e hz ht
   split at hp
   ·rename_i z' sz Rf hsz
    obtain⟨l,hl,rfl⟩:=aM hp
    simp only[bM.run] at hr
    obtain⟨cs,hcs,hr⟩:=aT hr
    rw[bK hr]
    obtain⟨it,zv,hi,Bp,rfl⟩:=iK hz
    obtain⟨ie,hie,UX⟩:=eM hsz
    refine .quiet hs (EN hs (fun i=>some (i*sz,sz)) ho Rf (fun parts=>?_) hl hcs hi)
    simp only[Program.built,hi,ht,Bp,hie,UX]
   ·cases hp
  ·cases hp
 | buildSlice t n ps =>
  rw[ho] at hp
  simp only[tu] at hp
  split at hp
  ·rename_i e ht
   split at hp
   ·rename_i sz z l hsz hz hl
    split at hp
    ·rename_i hc
     injection hp with hp;subst hp
     obtain⟨zl,hzl,Bq⟩:=aT hz
     simp only[bM.run] at hr
     split at hr
     ·split at hr
      ·cases hr
      ·rename_i hn
       obtain⟨cs,hf,rfl⟩:=aM hr
       exact ES (P:=P) (dst:=dst) (d:=d) hs hfr ho ht hsz hzl Bq hl hc.1 hc.2.1 hc.2.2 (beq_false.1 hn) hf
     split at hr
     ·cases hr
     ·rename_i els ks hf
      have:=fun rd d=>Bx (P:=P) (dst:=dst) (rd:=rd) (d:=d) hs hfr ho ht hsz hzl Bq hl hc.1 hc.2.1 hc.2.2 hf
      split at hr
      ·injection hr with hr; subst hr
       exact (this _ d).1
      ·split at hr
       ·cases hr
       ·rename_i hnk
        injection hr with hr;subst hr
        exact (this _ d).2 hnk
    ·cases hp
   ·cases hp
  ·cases hp
 |insert t m k v=>rw[ho] at hp;cases hp
 | load t x =>
  rw[ho] at hp
  simp only[tu] at hp
  split at hp
  ·rename_i sz agg x' hsz hag hx
   split at hp
   ·rename_i h1
    injection hp with hp;subst hp
    simp only[bM.run] at hr
    obtain⟨cs,hcs,hr⟩:=aT hr
    obtain⟨v,hv,rfl⟩:=aM hr
    exact .quiet hs (Q4 hs ho hsz hag h1 hx hcs hv)
   ·cases hp
  ·cases hp
 | store t x v =>
  rw[ho] at hp
  simp only[tu] at hp
  split at hp
  ·rename_i sz x' v' hsz hx hv
   injection hp with hp;subst hp
   simp only[bM.run] at hr
   obtain⟨e,he,rfl⟩:=aM hr
   exact Nh hs ho hsz hx hv he
  ·cases hp
 |ready g=>rw[ho] at hp;cases hp
 |waits g=>rw[ho] at hp;cases hp
 | nilCheck x =>
  rw[ho] at hp
  simp only[tu] at hp
  obtain⟨x',hx,rfl⟩:=aM hp
  simp only[bM.run] at hr
  split at hr
  ·rename_i lv sl af i off hq
   rw[bK hr]
   exact .quiet hs (pV hs ho hx hq (.inl ⟨_,_,_,_,_,rfl⟩))
  ·rename_i e off hq
   rw[bK hr]
   exact .quiet hs (pV hs ho hx hq (.inr (.inl ⟨_,_,rfl⟩)))
  ·rename_i f cs hq
   rw[bK hr]
   exact .quiet hs (pV hs ho hx hq (.inr (.inr ⟨_,_,rfl⟩)))
  ·cases hr
 | binOp op t x y u =>
  rw[ho] at hp
  simp only[tu] at hp
  split at hp
  ·rename_i x' y' hx hy
   have plain:∀ {QD:bM},QD=.bin op x' y'→QD.run call sh s row d aR=some r→cU P X s a o dst aR r:=by
    rintro QD rfl hr
    simp only[bM.run] at hr
    obtain⟨v,hv,hr⟩:=aT hr
    rw[bK hr]
    exact .quiet hs (UU hs ho hx hy hv)
   have cmp : ∀ (neg : Bool), op = (if neg then .neq else .eql) → JF P op neg t x' y' = some QD → cU P X s a o dst aR r := by
    intro neg hop hc
    have ho':o.op=.binOp (if neg then .neq else .eql) t x y u:=by rw[ho,hop]
    unfold JF at hc
    split at hc
    ·rename_i hu
     injection hc with hc;subst hc
     simp only[bM.run] at hr
     split at hr
     ·rename_i p q hp hq
      rw[bK hr]
      exact .quiet hs (UW hs ho' hu hx hy hp hq)
     ·cases hr
    ·injection hc with hc;exact plain hc.symm hr
    ·injection hc with hc;exact plain hc.symm hr
    ·injection hc with hc; subst hc
     simp[bM.run] at hr
    ·rename_i ms hu
     split at hc
     ·injection hc with hc; subst hc
      simp only[bM.run] at hr
      split at hr
      ·rename_i hq
       rw[bK hr]
       exact .quiet hs ((EM hs ho' hu hx hy).1 hq)
      ·rename_i hq
       rw[bK hr]
       exact .quiet hs ((EM hs ho' hu hx hy).2 hq)
      ·cases hr
     ·cases hc
    ·rename_i fs hu
     split at hc
     ·cases hc
     ·rename_i hg
      split at hc
      ·rename_i l sz hl hsz
       injection hc with hc;subst hc
       simp only[bM.run] at hr
       split at hr
       ·rename_i xs ys hxs hys
        split at hr
        ·cases hr
        ·rename_i hlen
         obtain⟨h3,h4⟩:=not_or.1 hlen
         obtain⟨b,hb,hr⟩:=aT hr
         rw[bK hr]
         exact .quiet hs (M9 hs ho' hu (by simpa using hg) hl hsz hx hy hxs hys (Classical.byContradiction h3) (Classical.byContradiction h4) hb)
       ·cases hr
      ·cases hc
    ·cases hc
   split at hp
   ·exact cmp false rfl hp
   ·exact cmp true rfl hp
   ·injection hp with hp;exact plain hp.symm hr
  ·cases hp
 |unOp op t x=>
  rw[ho] at hp
  simp only[tu] at hp
  obtain⟨x',hx,rfl⟩:=aM hp
  simp only[bM.run] at hr
  obtain⟨v,hv,hr⟩:=aT hr
  rw[bK hr]
  exact .quiet hs (ZC hs ho hx hv)
 | convert src ds x =>
  rw[ho] at hp
  simp only[tu] at hp
  split at hp
  ·rename_i dsc k hsrc hds
   obtain⟨x',hx,rfl⟩:=aM hp
   simp only[bM.run] at hr
   obtain⟨n,hn,hr⟩:=aT hr
   rw[bK hr]
   exact .quiet hs (Q7 hs ho hds (by rw[hsrc];rfl) hx hn)
  ·rename_i e hsrc hds
   split at hp
   ·rename_i he8
    obtain⟨x',hx,rfl⟩:=aM hp
    simp only[bM.run] at hr
    obtain⟨els,hel,hr⟩:=aT hr
    obtain⟨l,hl,hr⟩:=aM hr
    subst hr
    exact .quiet hs (U9 hs ho hsrc he8 hds hx hel hl)
   ·cases hp
  ·rename_i e hsrc hds
   split at hp
   ·rename_i he8
    obtain⟨x',hx,rfl⟩:=aM hp
    simp only[bM.run] at hr
    split at hr
    ·rename_i b hb
     rw[bK hr]
     exact Va hs hfr ho hsrc hds he8 hx hb
    ·cases hr
   ·cases hp
  ·cases hp
 |sliceToArrayPointer t x=>rw[ho] at hp;cases hp
 |makeInterface t x=>
  rw[ho] at hp
  injection hp with hp;subst hp
  simp[bM.run] at hr
 | makeFunc fn first cap =>
  rw[ho] at hp
  simp only[tu] at hp
  split at hp
  ·rename_i f
   split at hp
   ·rename_i h0
    obtain⟨cap',hcap,rfl⟩:=aM hp
    rw[Array.size_eq_zero_iff] at h0
    subst h0
    simp only[bM.run] at hr
    split at hr
    ·rename_i hall
     rw[bK hr]
     exact .quiet hs (EO hs ho hcap hall)
    ·cases hr
   ·cases hp
  ·cases hp
 | makeMap t x =>
  cases x with
  |some _=>rw[ho] at hp;cases hp
  | none =>
   rw[ho] at hp
   simp only[tu] at hp
   split at hp
   ·split at hp
    ·injection hp with hp; subst hp
     simp only[bM.run] at hr
     injection hr with hr;subst hr
     exact Nv hs hfr ho
    ·cases hp
   ·cases hp
 |makeChan t x=>rw[ho] at hp;cases hp
 | makeSlice t l c =>
  rw[ho] at hp
  simp only[tu] at hp
  split at hp
  ·rename_i e ht
   split at hp
   ·rename_i i z l' c' hi hz hl hc
    split at hp
    ·rename_i h0
     injection hp with hp;subst hp
     obtain⟨zl,hzl,Bq⟩:=aT hz
     simp only[bM.run] at hr
     split at hr
     ·rename_i ln cn hln hcn
      split at hr
      ·rename_i wL
       injection hr with hr;subst hr
       exact Ds hs hfr ho ht hi hzl Bq wL.2.2.2 h0 hl hc hln hcn wL.1 wL.2.1 wL.2.2.1
      ·cases hr
     ·cases hr
    ·cases hp
   ·cases hp
  ·cases hp
 | slice t x lo hi mx =>
  rw[ho] at hp
  simp only[tu] at hp
  split at hp
  ·rename_i e ht
   split at hp
   ·rename_i sz x' lo' hi' zf hsz hx hlo hhi Ra
    split at hp
    ·cases hp
    ·rename_i h0
     injection hp with hp;subst hp
     have c4:zf.isSome=true→hi'.isSome=true:=by
      intro h;cases hi' with
      |some _=>rfl
      |none=>exact absurd (.inr ⟨h,rfl⟩) h0
     simp only[bM.run] at hr
     split at hr
     ·rename_i l h k bl bh bk
      split at hr
      ·rename_i hq
       rw[Bool.and_eq_true,Bool.and_eq_true] at hq
       obtain⟨E,hE,hr⟩:=aM hr
       subst hr
       exact Ll hs hfr ho ht hsz hx hlo hhi Ra bl bh bk hq.2.1 hE
      ·obtain ⟨v, hv, hr⟩ := aT hr
       rw[bK hr]
       exact .quiet hs (Nb hs ho ht hsz hx hlo hhi Ra bl bh bk c4 hv)
     ·cases hr
   ·cases hp
  ·rename_i n e ht
   split at hp
   ·rename_i sz x' hsz hx
    split at hp
    ·cases hp
    ·rename_i h0
     injection hp with hp;subst hp
     simp only[bM.run] at hr
     split at hr
     ·rename_i lv sl af i off hq
      split at hr
      ·rename_i Ro
       have Ro:=beq_true.1 Ro
       subst Ro
       rw[bK hr]
       exact .quiet hs (KY hs ho ht hsz h0 hx hq)
      ·cases hr
     ·cases hr
   ·rename_i k sz x' hsz hx
    split at hp
    ·rename_i h0
     injection hp with hp;subst hp
     simp only[bM.run] at hr
     split at hr
     ·rename_i lv sl af i off hq
      split at hr
      ·rename_i Ro
       rw[Bool.and_eq_true] at Ro
       have hi1:=beq_true.1 Ro.1
       subst hi1
       rw[bK hr]
       exact .quiet hs (KZ hs ho ht hsz h0 (by simpa[Nat.blt_eq] using Ro.2) hx hq)
      ·cases hr
     ·cases hr
    ·cases hp
   ·cases hp
  ·rename_i ht
   split at hp
   ·rename_i x' lo' hi' hx hlo hhi
    injection hp with hp;subst hp
    simp only[bM.run] at hr
    split at hr
    ·rename_i b hq
     split at hr
     ·rename_i l h bl bh
      split at hr
      ·rename_i hc
       rw[bK hr]
       exact .quiet hs (K0 hs ho ht hx hlo hhi hq bl bh hc.1 hc.2)
      ·cases hr
     ·cases hr
    ·cases hr
   ·cases hp
  ·cases hp
 | fieldAddr t x f =>
  rw[ho] at hp
  simp only[tu] at hp
  split at hp
  ·rename_i fs ht
   split at hp
   ·rename_i fl hfl
    split at hp
    ·rename_i sz x' hsz hx
     split at hp
     ·cases hp
     ·rename_i h0
      injection hp with hp;subst hp
      simp only[bM.run] at hr
      split at hr
      ·rename_i lv sl af i off hq
       rw[bK hr]
       exact .quiet hs (tK hs ho ht hfl hsz h0 hx (.inl ⟨_,_,_,_,_,hq,rfl⟩))
      ·rename_i e off hq
       rw[bK hr]
       exact .quiet hs (tK hs ho ht hfl hsz h0 hx (.inr ⟨_,_,hq,rfl⟩))
      ·cases hr
    ·cases hp
   ·cases hp
  ·cases hp
 | field t x f =>
  rw[ho] at hp
  simp only[tu] at hp
  split at hp
  ·rename_i fs ht
   split at hp
   ·rename_i fl hfl
    split at hp
    ·rename_i sz agg x' hsz hag hx
     split at hp
     ·rename_i h1
      injection hp with hp;subst hp
      simp only[bM.run] at hr
      split at hr
      ·rename_i cs hq
       split at hr
       ·rename_i hle
        obtain⟨v,hv,hr⟩:=aT hr
        rw[bK hr]
        exact .quiet hs (Na hs ho ht hfl hsz hag h1 hx hq hle hv)
       ·cases hr
      ·cases hr
     ·cases hp
    ·cases hp
   ·cases hp
  ·cases hp
 | indexAddr t x i =>
  rw[ho] at hp
  simp only[tu] at hp
  split at hp
  ·rename_i e ht
   split at hp
   ·rename_i sz x' i' hsz hx hi
    split at hp
    ·cases hp
    ·injection hp with hp; subst hp
     simp only[bM.run] at hr
     obtain⟨n,hn,hr'⟩:=aT hr
     clear hr;have hr:=hr';clear hr'
     split at hr
     ·rename_i els hq
      split at hr
      ·rename_i el hel
       split at hr
       ·rename_i hlen
        rw[bK hr]
        exact .quiet hs (lP hs ho ht hsz hx hi hn (.inl ⟨els,el,.inl hq,hel,hlen,rfl⟩))
       ·cases hr
      ·cases hr
     ·rename_i els ow hq
      split at hr
      ·rename_i el hel
       split at hr
       ·rename_i hlen
        rw[bK hr]
        exact .quiet hs (lP hs ho ht hsz hx hi hn (.inl ⟨els,el,.inr ⟨_,hq⟩,hel,hlen,rfl⟩))
       ·cases hr
      ·cases hr
     ·rename_i lv sl af off ln sz' hq
      split at hr
      ·rename_i hc
       obtain⟨hc1,rfl⟩:=hc
       rw[bK hr]
       exact .quiet hs (lP hs ho ht hsz hx hi hn (.inr (.inl ⟨_,_,_,_,_,hq,hc1,rfl⟩)))
      ·cases hr
     ·rename_i lv sl af off ln sz' hq
      split at hr
      ·rename_i hc
       obtain⟨hc1,rfl⟩:=hc
       rw[bK hr]
       exact .quiet hs (lP hs ho ht hsz hx hi hn (.inr (.inr ⟨_,_,_,_,_,hq,hc1,rfl⟩)))
      ·cases hr
     ·cases hr
   ·cases hp
  ·rename_i n e ht
   split at hp
   ·rename_i sz x' i' hsz hx hi
    injection hp with hp;subst hp
    simp only[bM.run] at hr
    obtain⟨k,hk,hr⟩:=aT hr
    split at hr
    ·rename_i hkn
     split at hr
     ·rename_i lv sl af j off hq
      rw[bK hr]
      exact .quiet hs (wz hs ho ht hsz hx hi hk hkn (.inl ⟨_,_,_,_,_,hq,rfl⟩))
     ·rename_i e off hq
      rw[bK hr]
      exact .quiet hs (wz hs ho ht hsz hx hi hk hkn (.inr ⟨_,_,hq,rfl⟩))
     ·cases hr
    ·cases hr
   ·cases hp
  ·cases hp
 | index t x i =>
  rw[ho] at hp
  simp only[tu] at hp
  split at hp
  ·rename_i n e ht
   split at hp
   ·rename_i sz agg x' i' hsz hag hx hi
    split at hp
    ·rename_i h1
     injection hp with hp;subst hp
     simp only[bM.run] at hr
     obtain⟨k,hk,hr⟩:=aT hr
     split at hr
     ·rename_i cs hq
      split at hr
      ·rename_i hc
       obtain⟨v,hv,hr⟩:=aT hr
       rw[bK hr]
       exact .quiet hs (KW hs ho ht hsz hag h1 hx hi hq hk hc.1 hc.2 hv)
      ·cases hr
     ·cases hr
    ·cases hp
   ·cases hp
  ·rename_i ht
   split at hp
   ·rename_i x' i' hx hi
    injection hp with hp;subst hp
    simp only[bM.run] at hr
    obtain⟨k,hk,hr⟩:=aT hr
    split at hr
    ·rename_i b hq
     split at hr
     ·rename_i c hc
      rw[bK hr]
      exact .quiet hs (KX hs ho ht hx hi hq hk hc)
     ·cases hr
    ·cases hr
   ·cases hp
  ·cases hp
 | lookup t x k b =>
  cases b with
  |true=>rw[ho] at hp;cases hp
  | false =>
   rw[ho] at hp
   simp only[tu] at hp
   split at hp
   ·rename_i kt et ht
    split at hp
    ·rename_i m' x' hk hz hm hx
     injection hp with hp;subst hp
     simp only[bM.run] at hr
     split at hr
     ·rename_i lv sl af b h1 h2
      obtain⟨ks,h3,hr⟩:=aM hr
      subst hr
      exact .quiet hs (Rm hs ho ht hk hz hm hx h1 h2 h3)
     ·cases hr
    ·cases hp
   ·cases hp
 | mapUpdate t m k v =>
  rw[ho] at hp
  simp only[tu] at hp
  split at hp
  ·rename_i kt et ht
   split at hp
   ·rename_i m' x' hk hm hx
    injection hp with hp;subst hp
    simp only[bM.run] at hr
    split at hr
    ·rename_i lv sl af b h1 h2
     obtain⟨ks,h3,hr⟩:=aM hr
     subst hr
     exact Rn hs ho ht hk hm hx h1 h2 h3
    ·cases hr
   ·cases hp
  ·cases hp
 |mapEntry t m k=>rw[ho] at hp;cases hp
 |entryStore t m k v=>rw[ho] at hp;cases hp
 |range t x=>rw[ho] at hp;cases hp
 |next x b=>rw[ho] at hp;cases hp
 |entry x=>rw[ho] at hp;cases hp
 |typeAssert x t u b=>rw[ho] at hp;cases hp
 | extract x i =>
  rw[ho] at hp
  simp only[tu] at hp
  obtain⟨x',hx,rfl⟩:=aM hp
  simp only[bM.run] at hr
  split at hr
  ·rename_i vs hq
   obtain⟨v,hv,hr⟩:=aT hr
   rw[bK hr]
   exact .quiet hs (HJ hs ho hx hq hv)
  ·cases hr
 |call c=>
  rw[ho] at hp
  simp only[tu] at hp
  exact Nz cE jf hs hfr yl hdom ho hp hr
 |go c=>rw[ho] at hp;cases hp
 |defer c=>rw[ho] at hp;cases hp
 |panic x=>
  rw[ho] at hp
  injection hp with hp;subst hp
  simp[bM.run] at hr
 |send c x=>rw[ho] at hp;cases hp
 |recv t c b=>rw[ho] at hp;cases hp
 |select cs b=>rw[ho] at hp;cases hp
end
end Go.bI
