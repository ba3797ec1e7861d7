/- A part of the proof: EngT, EngU. -/
import Derived.Test.YtgkllgjmfpjeoaaGreatDoorEngS
import Derived.Test.YtgkllgjmfpjeoaaGreatDoorEngMap
set_option linter.unusedVariables false
set_option linter.unusedSimpArgs false
namespace Go.bJ
open Go Go.RowKit
section
variable{P:Program}{X:Cx}{nt:Nat}{s:St}{a:Act}{o:Oper}{dst:Option Nat}{aO:Nat}
theorem wW{t:TypeId}{sz zE:Nat}(h:uX P t=some (sz,zE)):∃e i z,P.underlying t=some (.slice e)/\P.info? e=some i/\i.zero=some z/\z.cells.size=i.size/\0<i.size/\i.size=sz/\i.bytes=zE:=by
 unfold uX at h;split at h
 .split at h
  .rename_i i z hi hz;split at h;.obtain⟨i',zv,hi',Fb,rfl⟩:=jg hz<;>grind
   grind
  grind
 grind
theorem gj{f:Nat}{args:Array Operand}{ts:Array TypeId}(ho:o.op=.call {callee:=.value (.func f),args,argTypes:=ts})(hf:∃fn,P.funcs[f]?=some fn/\fn.body.isSome=true/\(fn.name== "runtime.NumGoroutine")=false):(execOp a.eval o).run P X.w=.ok (.enter f (args.map a.eval)) X.w:=by obtain⟨fn,hf,hb,hn⟩:=hf;have:=rE (P:=P) (args:=args.map a.eval) (w:=X.w) hf hb hn;have he:a.eval (.func f)=.func (.func f) #[] #[]:=rfl;simp[execOp,ho,resolve,he,Deferred.ofValue,invoke]<;>omega
theorem NR{f:Nat}{t:Nat}{args:Array Operand}{ts:Array TypeId}{cap:Array Value}(ho:o.op=.call {callee:=.value (.tmp t),args,argTypes:=ts})(hv:a.eval (.tmp t)=.func (.func f) #[] cap)(hf:∃fn,P.funcs[f]?=some fn/\fn.body.isSome=true/\(fn.name== "runtime.NumGoroutine")=false):(execOp a.eval o).run P X.w=.ok (.enter f (args.map a.eval++cap)) X.w:=by obtain⟨fn,hf,hb,hn⟩:=hf;have:=rE (P:=P) (args:=args.map a.eval++cap) (w:=X.w) hf hb hn;simp[execOp,ho,resolve,hv,Deferred.ofValue,invoke]<;>omega
theorem vk(hs:fo X nt s a)(hfr:X.ρ aO=none){x y:Operand}{x' y':bT}{t u:TypeId}{sz zE:Nat}{row:Bool}{lv sl:Nat}{E:fH}(ho:o.op=.call {callee:=.builtin .append,args:=#[x,y],argTypes:=#[t,u]})(hu:Fe P u)(he:uX P t=some (sz,zE))(hx:cU x=some x')(hy:cU y=some y')(hr:dA s row lv sl aO sz zE (x'.ev s.slots) (y'.ev s.slots)=some E):dh P X s a o dst aO (.bW E):=by obtain⟨e,i,z,ht,hi,hz,hzs,h0,rfl,rfl⟩:=wW he;obtain⟨Y,v,h1,h2,h3,h4,h5⟩:=rD (P:=P) (ty:=o.type) (n:=s.nv) hs.mem hfr ht hu hi hz hzs h0 (bg hs hx) (bg hs hy) hr;exact .value (x5 (w:=Y.w) ho h1) h2 h3 h4 h5
theorem NS(hs:fo X nt s a)(hfr:X.ρ aO=none){t e:TypeId}{sz l h k:Nat}{x:Operand}{x':bT}{lo hi mx:Option Operand}{lo' hi' CB:Option bT}{E:fH}(ho:o.op=.slice t x lo hi mx)(ht:P.underlying t=some (.slice e))(hsz:cY P e=some sz)(hx:cU x=some x')(hlo:p9 lo=some lo')(hhi:p9 hi=some hi')(Qq:p9 mx=some CB)(bl:fq lo' s.slots 0=some l)(bh:fq hi' s.slots 0=some h)(bk:fq CB s.slots 0=some k)(c4:CB.isNone=true)(hr:GS s aO sz (x'.ev s.slots) l (hi'.map λ_=>h)=some E):dh P X s a o dst aO (.bW E):=by
 have hv:=bg hs hx;have eh:∀n,(hi'.map λ_=>h).getD n=if hi'.isSome then h else n:=λn=>by cases hi'<;>rfl
 have em:CB.isSome=false:=by simp_all
 unfold GS at hr;split at hr
 .rename_i lv sl ah off len sz' he;split at hr
  .rename_i els hrow;split at hr;.rename_i hc;obtain⟨rfl,c1,c2,c3⟩:=hc;cases hr;rw[he]at hv;obtain⟨L,ad,cap,hL,hLs,JM,hle,h4⟩:=hv;obtain⟨Y,hw,g1,g2,g3,g4⟩:=Mh (n:=s.nv) hs.mem hfr (h':=(hi'.map λ_=>h).getD len) ⟨L,ad,cap,hL,hLs,rfl,hle,h4⟩ hrow c1 c2 c3;have run:=Dg hs (P:=P) ho ht hsz JM hlo hhi Qq bl bh bk (by rw[<-eh];exact c1) (by rw[<-eh,em];simp only[Bool.false_eq_true,if_false];omega) (by rw[em];simp) (by rw[em];exactλh=>by cases h);rw[<-eh,em]at run;refine .value (Y:=Y) (by rw[hw];exact run) g1 g2 ?_ g4;exact g3
   grind
  grind
 grind
theorem CP(hs:fo X nt s a)(hfr:X.ρ aO=none){x y:Operand}{x' y':bT}{t u e':TypeId}{sz zE k:Nat}{kd:IntKind}{zl:List Value}{z:List D}{row:Bool}{lv sl:Nat}{E:fH}(ho:o.op=.call {callee:=.builtin .append,args:=#[x,y],argTypes:=#[t,u]})(hu:P.underlying u=some (.int kd))(ht':P.underlying t=some (.slice e'))(he:uX P t=some (sz,zE))(hzp:nu P e'=some zl)(CN:jd zl=some z)(hzl:z.length=sz)(hx:cU x=some x')(hy:cU y=some y')(hk:gh (y'.ev s.slots)=some k)(h63:k<=eV)(hby:k*zE<=jP)(hr:dA s row lv sl aO sz zE (x'.ev s.slots) (.d (.sl (List.replicate k z)))=some E):dh P X s a o dst aO (.bW E):=by
 obtain⟨e,i,zv,ht,hi,hz,hzs,h0,rfl,rfl⟩:=wW he;simp_all;obtain⟨i',zv',hi',Fb,rfl⟩:=jg hzp;rw[hi]at hi';cases hi';rw[hz]at Fb;cases Fb;obtain⟨kk,hke⟩:=jQ hk (bg hs hy);have hZ:aC (DR X.w X.F) z zv.cells.toList:=kV CN;have tZ:=iG hZ hzl h0 k (k*i.size) (Nat.le_refl _);have hcl:(madeCells zv.cells (k*i.size)).toList.take (k*i.size)=(Builtin.zeroCells zv.cells k).toList:=by rw[List.take_of_length_le (by simp[madeCells])];simp[madeCells,Builtin.zeroCells,hzs]
 rw[hcl]at tZ;obtain⟨Y,v,h1,h2,h3,h4,h5⟩:=vh (P:=P) (u:=u) (ty:=o.type) (yv:=a.eval y) (n:=s.nv) hs.mem hfr ht hi hz hzs h0 (bg hs hx) (λnews hn hnl=>by injection hn with hn;subst hn;refine⟨_,tZ,?_⟩;rw[List.length_replicate];exact .zero kd kk zv hu hz hzs hke h63 hby rfl) hr;exact .value (x5 (w:=Y.w) ho h1) h2 h3 h4 h5
theorem Hw(hs:fo X nt s a)(hfr:X.ρ aO=none){f T:Nat}{x:Operand}{x':bT}{ts:Array TypeId}{sz zE:Nat}{row:Bool}{lv sl:Nat}{E:fH}{els:List (List D)}(hc:Fi P f T)(ho:o.op=.call {callee:=.value (.func f),args:=#[x],argTypes:=ts})(he:uX P T=some (sz,zE))(hx:cU x=some x')(hel:dc s.mem (x'.ev s.slots)=some els)(hr:dA s row lv sl aO sz zE (.own [] .full) (x'.ev s.slots)=some E):dh P X s a o dst aO (.bW E):=by
 obtain⟨e,i,z,ht,hi,hz,hzs,h0,rfl,rfl⟩:=wW he;have hv:=bg hs hx;obtain⟨ad,cap,_,_,_,bX,_⟩:=rz hs.mem hel hv;have hcl:=Hq (P:=P) (n:=s.nv) hc hs.mem hfr ht hi hz hzs h0 hv ⟨ad,_,cap,bX⟩ hr;obtain⟨fn,hf,hb,_,_,hn⟩:=hc.fn;intro K Q hK;unfold Oper.wp;have hrun:(execOp a.eval o).run P X.w=.ok (.enter f #[a.eval x]) X.w:=by have:=gj (P:=P) (X:=X) (a:=a) ho ⟨fn,hf,by rw[hb];rfl,hn⟩<;>grind
 rw[hrun];refine Calls.mono hcl ?_;rintro en w'⟨Y,v,rfl,rfl,h2,h3,h4,h5⟩;exact hK Y v h2 h3 h4 h5
theorem JR.VR{X:Cx}{x:AV}{v:Value}(h:JR X x v):Go.bJ.VR X x v:=by cases x<;>first|exact h|exact h.elim
theorem QK{call:Go.bJ.Call}{sh:Nat->Bool}{eB:Nat->Option TypeId}(cT:cM P call)(jw:∀f T,eB f=some T->kP P f T)(hs:fo X nt s a)(hfr:X.ρ aO=none)(Ay:aO<s.nv)(hdom:∀v,s.nv<=v->X.ρ v=none){c:Go.Call}{UY:cj}{row d:Nat}{r:hU}(ho:o.op=.call c)(hp:Qk P eB c=some UY)(hr:UY.run call sh s row d aO=some r):dh P X s a o dst aO r:=by obtain⟨callee,args,ts⟩:=c;obtain⟨args⟩:=args;obtain⟨ts⟩:=ts;unfold Qk at hp;cases callee with
 |value f=>cases f with
  |func f=>
   simp at hp;split at hp
   .rename_i T x hT;split at hp
    .rename_i hq;have hq:=Nat.eq_of_beq_eq_true hq;obtain⟨x',hx',rfl⟩:=aN hp;obtain⟨E,hE,rfl⟩:=aN hr;have hc:=(jw f T hT).sort hq;have hrun:(execOp a.eval o).run P X.w=.ok (.enter f #[a.eval x]) X.w:=by have:=gj (P:=P) (X:=X) (a:=a) ho hc.fn;simpa using this
     exact J2 (_ts:=ts.toArray) hs hc hrun hx' hE
    .rename_i hq;split at hp
     .rename_i wT;have wT:=Nat.eq_of_beq_eq_true wT;obtain⟨x',hx',rfl⟩:=aN hp;obtain⟨E,hE,rfl⟩:=aN hr;have hc:=(jw f T hT).compact wT;have hrun:(execOp a.eval o).run P X.w=.ok (.enter f #[a.eval x]) X.w:=by have:=gj (P:=P) (X:=X) (a:=a) ho hc.fn;simpa using this
      exact CO (_ts:=ts.toArray) hs hfr hc hrun hx' hE
     .rename_i wT;split at hp
      .rename_i sz zE x' he hx';cases hp;simp[cj.run]at hr;split at hr;.rename_i els hel;obtain⟨E,hE,rfl⟩:=aN hr;exact Hw hs hfr ((jw f T hT).clone (by rintro rfl;cases hq) (by rintro rfl;cases wT)) ho he hx' hel hE
       .cases hr
      .cases hp
   .cases hp
   .split at hp
    .obtain⟨aL,has,rfl⟩:=aN hp;simp[cj.run]at hr;have hargs:=u0 hs has;split at hr;.exact wV cT hs hfr Ay hdom (ck:=(Array.mk _).map a.eval) (by rw[Array.toList_map];exact hargs) hr λhf=>gj ho hf
     .exact Dv cT hs (ck:=(Array.mk _).map a.eval) (by rw[Array.toList_map];exact hargs) hr λhf=>gj ho hf
    .obtain⟨aL,has,rfl⟩:=aN hp;simp[cj.run]at hr;have hargs:=u0 hs has;split at hr;.exact Dv cT hs (ck:=(Array.mk _).map a.eval) (by rw[Array.toList_map];exact hargs) hr λhf=>gj ho hf
     .split at hr;.exact NO cT hs hdom (ck:=(Array.mk _).map a.eval) (by rw[Array.toList_map];exact hargs) hr λhf=>gj ho hf
      split at hr;.exact NP cT hs hfr (ck:=(Array.mk _).map a.eval) (by rw[Array.toList_map];exact hargs) hr λhf=>gj ho hf
      split at hr;.exact NQ cT hs hfr (ck:=(Array.mk _).map a.eval) (by rw[Array.toList_map];exact hargs) hr λhf=>gj ho hf
      .exact wV cT hs hfr Ay hdom (ck:=(Array.mk _).map a.eval) (by rw[Array.toList_map];exact hargs) hr λhf=>gj ho hf|tmp t=>
   obtain⟨aL,has,rfl⟩:=aN hp;simp[cj.run]at hr;split at hr;.rename_i f cap hq;have hargs:=u0 hs has;have hv:=bg hs (x:=.tmp t) (y:=.t t) rfl;rw[hq]at hv;obtain⟨vs,hv,hcap⟩:=hv;refine wV cT hs hfr Ay hdom (ck:=(Array.mk args).map a.eval++vs) (by rw[Array.toList_append,Array.toList_map];exact hargs.append (hcap.mono λ_ _=>JR.VR)) hr λhf=>NR ho hv hf
   .cases hr|const v=>cases hp|global g=>cases hp
 |invoke r m=>cases hp|builtin b=>
  simp at hp;split at hp
  .split at hp
   .rename_i e hu;obtain⟨x',hx',rfl⟩:=aN hp;simp[cj.run]at hr;split at hr;.rename_i els hq;rw[bH hr];exact .quiet hs (E7 hs ho hu hx' (.inl ⟨els,.inl hq,rfl⟩))
    .rename_i els ow hq;rw[bH hr];exact .quiet hs (E7 hs ho hu hx' (.inl ⟨els,.inr ⟨_,hq⟩,rfl⟩))
    .rename_i lv sl ah off n sz hq;rw[bH hr];exact .quiet hs (E7 hs ho hu hx' (.inr (.inl ⟨_,_,_,_,_,hq⟩)))
    .rename_i lv sl ah off n sz hq;rw[bH hr];exact .quiet hs (E7 hs ho hu hx' (.inr (.inr ⟨_,_,_,_,_,hq⟩)))
    .cases hr
   .rename_i hu;obtain⟨x',hx',rfl⟩:=aN hp;simp[cj.run]at hr;split at hr;.rename_i b hq;rw[bH hr];exact .quiet hs (Vj hs ho hu hx' hq)
    .cases hr
   .rename_i n e hu;cases hp;rw[bH hr];exact .quiet hs (Mc ho (.inl ⟨e,hu⟩))
   .rename_i e hu;split at hp;.rename_i n e' kK;cases hp;rw[bH hr];exact .quiet hs (Mc ho (.inr ⟨e,e',hu,kK⟩))
    .cases hp
   .cases hp
  .split at hp
   .rename_i e kd ht hu;split at hp
    .rename_i sz zE z x' y' he hz hx' hy';split at hp
     .rename_i hzl;cases hp;obtain⟨zl,hzp,CN⟩:=aR hz;obtain⟨k,hk,hr⟩:=aR hr;split at hr;.rename_i hc;obtain⟨E,hE,rfl⟩:=aN hr;exact CP hs hfr ho hu ht he hzp CN hzl hx' hy' hk hc.2.1 hc.2.2 hE
      .cases hr
     .cases hp
    .cases hp
   .cases hp
   .rename_i hu;split at hp;.rename_i sz zE x' y' he hx' hy';cases hp;obtain⟨E,hE,rfl⟩:=aN hr;exact vk hs hfr ho (.inl ⟨_,hu⟩) he hx' hy' hE
    .cases hp
   .rename_i hu;split at hp;.rename_i sz zE x' y' he hx' hy';cases hp;obtain⟨E,hE,rfl⟩:=aN hr;exact vk hs hfr ho (.inr hu) he hx' hy' hE
    .cases hp
   .cases hp
  .split at hp
   .rename_i e hu;split at hp
    .rename_i i x' y' hi hx' hy';split at hp
     .rename_i h0;injection hp with hp;subst hp;simp only[cj.run]at hr;split at hr
      .rename_i lv sl ah off n sz' news hq hn;split at hr
       .rename_i cs hb;split at hr;.rename_i hc;obtain⟨rfl,qO,NI⟩:=hc;injection hr with hr;subst hr;exact J0 hs ho hu hi h0 hx' hy' hq hn hb qO (jC NI)
        .cases hr
       .cases hr
      .rename_i lv sl ah off ln sz' news hq hn;split at hr
       .rename_i els hb;split at hr;.rename_i hc;obtain⟨rfl,qO,NI⟩:=hc;injection hr with hr;subst hr;exact JZ hs ho hu hi h0 hx' hy' hq hn hb qO (jC NI)
        .cases hr
       .cases hr
      .cases hr
     .cases hp
    .cases hp
   .cases hp
  .split at hp
   .rename_i e hu;split at hp
    .rename_i sz z x' hsz hz hx';split at hp
     .rename_i hc0;cases hp;obtain⟨zl,hzl,CN⟩:=aR hz;simp[cj.run]at hr;split at hr
      .rename_i lv sl ah off ln sz' hq;split at hr
       .rename_i els hb;split at hr;.rename_i hc;obtain⟨rfl,qO,NI⟩:=hc;cases hr;exact vi hs ho hu hzl CN NI hc0.2 hx' hq hb qO
        .cases hr
       .cases hr
      .cases hr
     .cases hp
    .cases hp
   .cases hp
  .split at hp
   .rename_i e hu;obtain⟨x',hx',rfl⟩:=aN hp;simp[cj.run]at hr;split at hr;.rename_i els hq;rw[bH hr];exact .quiet hs (Vi hs ho hu hx' hq)
    .cases hr
   .cases hp
  .split at hp
   .rename_i x' y' hx' hy';cases hp;simp[cj.run]at hr;split at hr
    .rename_i k p k' q hq1 wT;split at hr;.subst_vars;rw[bH hr];exact .quiet hs (ZN hs ho hx' hy' hq1 wT)
     .cases hr
    .cases hr
   .cases hp
  .split at hp
   .rename_i x' y' hx' hy';cases hp;simp[cj.run]at hr;split at hr
    .rename_i k p k' q hq1 wT;split at hr;.subst_vars;rw[bH hr];exact .quiet hs (ZO hs ho hx' hy' hq1 wT)
     .cases hr
    .cases hr
   .cases hp
  .cases hp
end
end Go.bJ
namespace Go.bJ
open Go Go.RowKit
section
variable{P:Program}{X:Cx}{nt:Nat}{s:St}{a:Act}{o:Oper}{dst:Option Nat}{aO:Nat}
theorem Fk{t:TypeId}{fs:Array Field}{zl:List Value}{pl:List (Nat×Nat)}{it:TypeInfo}{z:Value}(hi:P.info? t=some it)(hz:it.zero=some z)(_h:zl=z.cells.toList)(ht:P.underlying t=some (.struct fs))(hp:E0 P fs=some pl)(parts:List (Nat×Value)):P.built t parts=Instr.fill (pl.toArray[·]?) z.cells parts:=by unfold E0 at hp;simp[Program.built,hi,ht,hz,hp]
theorem ZV{call:Go.bJ.Call}{sh:Nat->Bool}{eB:Nat->Option TypeId}(cT:cM P call)(jw:∀f T,eB f=some T->kP P f T)(hs:fo X nt s a)(hfr:X.ρ aO=none)(Ay:aO<s.nv)(hdom:∀v,s.nv<=v->X.ρ v=none){UY:cj}{row d:Nat}{r:hU}(hp:Cz P eB o.op=some UY)(hr:UY.run call sh s row d aO=some r):dh P X s a o dst aO r:=by cases ho:o.op with
 |move x=>rw[ho]at hp;obtain⟨x',hx,rfl⟩:=aN hp;exact As hs hfr (by simp[execOp,ho]) hx hr|assign x=>rw[ho]at hp;obtain⟨x',hx,rfl⟩:=aN hp;exact As hs hfr (by simp[execOp,ho]) hx hr|pick c x y=>
  rw[ho]at hp;simp[Cz]at hp;split at hp;.rename_i c' x' y' hc hx hy;cases hp;obtain⟨b,hb,hr⟩:=aR hr;rw[bH hr];exact .quiet hs (Ve hs ho hc hx hy hb)
  .cases hp|alloc t=>rw[ho]at hp;obtain⟨z,hz,hp⟩:=aR hp;obtain⟨cs,hcs,rfl⟩:=aN hp;cases hr;exact Qt hs hfr ho hz hcs|box t x=>rw[ho]at hp;obtain⟨x',hx,rfl⟩:=aN hp;obtain⟨cs,hcs,rfl⟩:=aN hr;exact ZK hs hfr ho hx hcs|build t ps=>
  rw[ho]at hp;simp only[Cz]at hp;split at hp
  .rename_i z fs hz ht;split at hp;.rename_i z' pl Vn hpl;obtain⟨l,hl,rfl⟩:=aN hp;obtain⟨cs,hcs,hr⟩:=aR hr;rw[bH hr];obtain⟨it,zv,hi,Fb,rfl⟩:=jg hz;exact .quiet hs (GZ hs _ ho Vn (Fk hi Fb rfl ht hpl) hl hcs hi)
   .cases hp
  .rename_i z n e hz ht;split at hp;.rename_i z' sz Vn hsz;obtain⟨l,hl,rfl⟩:=aN hp;obtain⟨cs,hcs,hr⟩:=aR hr;rw[bH hr];obtain⟨it,zv,hi,Fb,rfl⟩:=jg hz;obtain⟨ie,hie,ZI⟩:=fh hsz;refine .quiet hs (GZ hs (λi=>some (i*sz,sz)) ho Vn (λparts=>?_) hl hcs hi);simp[Program.built,hi,ht,Fb,hie,ZI]
   .cases hp
  .cases hp|buildSlice t n ps=>
  rw[ho]at hp;simp[Cz]at hp;split at hp
  .rename_i e ht;split at hp
   .rename_i sz z l hsz hz hl;split at hp
    .rename_i hc;cases hp;obtain⟨zl,hzl,CN⟩:=aR hz;simp only[cj.run]at hr;split at hr
     .split at hr;.cases hr
      .rename_i hn;obtain⟨cs,hf,rfl⟩:=aN hr;exact Hf (P:=P) (dst:=dst) (d:=d) hs hfr ho ht hsz hzl CN hl hc.1 hc.2.1 hc.2.2 (beq_false.1 hn) hf
     split at hr;.cases hr
     .rename_i els ks hf;have:=λrd d=>CM (P:=P) (dst:=dst) (rd:=rd) (d:=d) hs hfr ho ht hsz hzl CN hl hc.1 hc.2.1 hc.2.2 hf;split at hr;.cases hr;exact(this _ d).1
      .split at hr;.cases hr
       .rename_i hnk;cases hr;exact(this _ d).2 hnk
    .cases hp
   .cases hp
  .cases hp|insert t m k v=>rw[ho]at hp;cases hp|load t x=>
  rw[ho]at hp;simp[Cz]at hp;split at hp
  .rename_i sz agg x' hsz hag hx;split at hp;.rename_i h1;cases hp;obtain⟨cs,hcs,hr⟩:=aR hr;obtain⟨v,hv,rfl⟩:=aN hr;exact .quiet hs (Vd hs ho hsz hag h1 hx hcs hv)
   .cases hp
  .cases hp|store t x v=>
  rw[ho]at hp;simp[Cz]at hp;split at hp;.rename_i sz x' v' hsz hx hv;cases hp;obtain⟨e,he,rfl⟩:=aN hr;exact Qv hs ho hsz hx hv he
  .cases hp|ready g=>rw[ho]at hp;cases hp|waits g=>rw[ho]at hp;cases hp|nilCheck x=>
  rw[ho]at hp;obtain⟨x',hx,rfl⟩:=aN hp;simp[cj.run]at hr;split at hr;.rename_i lv sl ah i off hq;rw[bH hr];exact .quiet hs (ru hs ho hx hq (.inl ⟨_,_,_,_,_,rfl⟩))
  .rename_i e off hq;rw[bH hr];exact .quiet hs (ru hs ho hx hq (.inr (.inl ⟨_,_,rfl⟩)))
  .rename_i f cs hq;rw[bH hr];exact .quiet hs (ru hs ho hx hq (.inr (.inr ⟨_,_,rfl⟩)))
  .cases hr|binOp op t x y u=>
  rw[ho]at hp;simp[Cz]at hp;split at hp
  .rename_i x' y' hx hy;have plain:∀{UY:cj},UY=.bin op x' y'->UY.run call sh s row d aO=some r->dh P X s a o dst aO r:=by rintro UY rfl hr;obtain⟨v,hv,hr⟩:=aR hr;rw[bH hr];exact .quiet hs (ZG hs ho hx hy hv)
   have cmp:∀(neg:Bool),op=(if neg then .neq else .eql)->L6 P op neg t x' y'=some UY->dh P X s a o dst aO r:=by
    intro neg hop hc;have ho':o.op=.binOp (if neg then .neq else .eql) t x y u:=by rw[ho,hop]
    unfold L6 at hc;split at hc
    .rename_i hu;cases hc;simp[cj.run]at hr;split at hr;.rename_i p q hp hq;rw[bH hr];exact .quiet hs (ZH hs ho' hu hx hy hp hq)
     .cases hr
    .simp_all
    .simp_all
    .cases hc;simp[cj.run]at hr
    .rename_i ms hu;split at hc
     .cases hc;simp[cj.run]at hr;split at hr;.rename_i hq;rw[bH hr];exact .quiet hs ((GY hs ho' hu hx hy).1 hq)
      .rename_i hq;rw[bH hr];exact .quiet hs ((GY hs ho' hu hx hy).2 hq)
      .cases hr
     .cases hc
    .rename_i fs hu;split at hc;.cases hc
     .rename_i hg;split at hc
      .rename_i l sz hl hsz;cases hc;simp[cj.run]at hr;split at hr
       .rename_i xs ys hxs hys;split at hr;.cases hr
        .rename_i hlen;obtain⟨h3,h4⟩:=not_or.1 hlen;obtain⟨b,hb,hr⟩:=aR hr;rw[bH hr];exact .quiet hs (Qo hs ho' hu (by simpa using hg) hl hsz hx hy hxs hys (Classical.byContradiction h3) (Classical.byContradiction h4) hb)
       .cases hr
      .cases hc
    .cases hc
   split at hp;.exact cmp false rfl hp
   .exact cmp true rfl hp
   .simp_all
  .cases hp|unOp op t x=>rw[ho]at hp;obtain⟨x',hx,rfl⟩:=aN hp;obtain⟨v,hv,hr⟩:=aR hr;rw[bH hr];exact .quiet hs (adu hs ho hx hv)|convert src ds x=>
  rw[ho]at hp;simp[Cz]at hp;split at hp;.rename_i dsc k hsrc hds;obtain⟨x',hx,rfl⟩:=aN hp;obtain⟨n,hn,hr⟩:=aR hr;rw[bH hr];exact .quiet hs (Vh hs ho hds (by rw[hsrc];rfl) hx hn)
  .rename_i e hsrc hds;split at hp;.rename_i he8;obtain⟨x',hx,rfl⟩:=aN hp;obtain⟨els,hel,hr⟩:=aR hr;obtain⟨l,hl,hr⟩:=aN hr;subst hr;exact .quiet hs (ZP hs ho hsrc he8 hds hx hel hl)
   .cases hp
  .rename_i e hsrc hds;split at hp
   .rename_i he8;obtain⟨x',hx,rfl⟩:=aN hp;simp[cj.run]at hr;split at hr;.rename_i b hb;rw[bH hr];exact ZQ hs hfr ho hsrc hds he8 hx hb
    .cases hr
   .cases hp
  .cases hp|sliceToArrayPointer t x=>rw[ho]at hp;cases hp|makeInterface t x=>rw[ho]at hp;cases hp;simp[cj.run]at hr|makeFunc fn first cap=>
  rw[ho]at hp;simp only[Cz]at hp;split at hp
  .split at hp
   .rename_i h0;obtain⟨cap',hcap,rfl⟩:=aN hp;simp at h0;subst h0;simp only[cj.run]at hr;split at hr;.rename_i hall;rw[bH hr];exact .quiet hs (G0 hs ho hcap hall)
    .cases hr
   .cases hp
  .cases hp|makeMap t x=>cases x with|some _=>rw[ho]at hp;cases hp|none=>
   rw[ho]at hp;simp[Cz]at hp;split at hp
   .split at hp;.cases hp;cases hr;exact QA hs hfr ho
    .cases hp
   .cases hp
 |makeChan t x=>rw[ho]at hp;cases hp|makeSlice t l c=>
  rw[ho]at hp;simp[Cz]at hp;split at hp
  .rename_i e ht;split at hp
   .rename_i i z l' c' hi hz hl hc;split at hp
    .rename_i h0;cases hp;obtain⟨zl,hzl,CN⟩:=aR hz;simp[cj.run]at hr;split at hr
     .rename_i ln cn hln hcn;split at hr;.rename_i Mn;cases hr;exact Fc hs hfr ho ht hi hzl CN Mn.2.2.2 h0 hl hc hln hcn Mn.1 Mn.2.1 Mn.2.2.1
      .cases hr
     .cases hr
    .cases hp
   .cases hp
  .cases hp|slice t x lo hi mx=>
  rw[ho]at hp;simp[Cz]at hp;split at hp
  .rename_i e ht;split at hp
   .rename_i sz x' lo' hi' CB hsz hx hlo hhi Qq;split at hp;.cases hp
    .rename_i h0;cases hp;have c4:CB.isSome=true->hi'.isSome=true:=by intro h;cases hi' with|some _=>rfl|none=>exact absurd (.inr ⟨h,rfl⟩) h0
     simp[cj.run]at hr;split at hr
     .rename_i l h k bl bh bk;split at hr;.rename_i hq;rw[Bool.and_eq_true,Bool.and_eq_true]at hq;obtain⟨E,hE,hr⟩:=aN hr;subst hr;exact NS hs hfr ho ht hsz hx hlo hhi Qq bl bh bk hq.2.1 hE
      .obtain⟨v,hv,hr⟩:=aR hr;rw[bH hr];exact .quiet hs (Qr hs ho ht hsz hx hlo hhi Qq bl bh bk c4 hv)
     .cases hr
   .cases hp
  .rename_i n e ht;split at hp
   .rename_i sz x' hsz hx;split at hp;.cases hp
    .rename_i h0;cases hp;simp[cj.run]at hr;split at hr
     .rename_i lv sl ah i off hq;split at hr;.rename_i Vu;have Vu:=beq_true.1 Vu;subst Vu;rw[bH hr];exact .quiet hs (NB hs ho ht hsz h0 hx hq)
      .cases hr
     .cases hr
   .rename_i k sz x' hsz hx;split at hp
    .rename_i h0;cases hp;simp[cj.run]at hr;split at hr
     .rename_i lv sl ah i off hq;split at hr;.rename_i Vu;rw[Bool.and_eq_true]at Vu;have hi1:=beq_true.1 Vu.1;subst hi1;rw[bH hr];exact .quiet hs (NC hs ho ht hsz h0 (by simpa[Nat.blt_eq]using Vu.2) hx hq)
      .cases hr
     .cases hr
    .cases hp
   .cases hp
  .rename_i ht;split at hp
   .rename_i x' lo' hi' hx hlo hhi;cases hp;simp[cj.run]at hr;split at hr
    .rename_i b hq;split at hr
     .rename_i l h bl bh;split at hr;.rename_i hc;rw[bH hr];exact .quiet hs (ND hs ho ht hx hlo hhi hq bl bh hc.1 hc.2)
      .cases hr
     .cases hr
    .cases hr
   .cases hp
  .cases hp|fieldAddr t x f=>
  rw[ho]at hp;simp[Cz]at hp;split at hp
  .rename_i fs ht;split at hp
   .rename_i fl hfl;split at hp
    .rename_i sz x' hsz hx;split at hp;.cases hp
     .rename_i h0;cases hp;simp[cj.run]at hr;split at hr;.rename_i lv sl ah i off hq;rw[bH hr];exact .quiet hs (u6 hs ho ht hfl hsz h0 hx (.inl ⟨_,_,_,_,_,hq,rfl⟩))
      .rename_i e off hq;rw[bH hr];exact .quiet hs (u6 hs ho ht hfl hsz h0 hx (.inr ⟨_,_,hq,rfl⟩))
      .cases hr
    .cases hp
   .cases hp
  .cases hp|field t x f=>
  rw[ho]at hp;simp[Cz]at hp;split at hp
  .rename_i fs ht;split at hp
   .rename_i fl hfl;split at hp
    .rename_i sz agg x' hsz hag hx;split at hp
     .rename_i h1;cases hp;simp[cj.run]at hr;split at hr
      .rename_i cs hq;split at hr;.rename_i hle;obtain⟨v,hv,hr⟩:=aR hr;rw[bH hr];exact .quiet hs (Qp hs ho ht hfl hsz hag h1 hx hq hle hv)
       .cases hr
      .cases hr
     .cases hp
    .cases hp
   .cases hp
  .cases hp|indexAddr t x i=>
  rw[ho]at hp;simp[Cz]at hp;split at hp
  .rename_i e ht;split at hp
   .rename_i sz x' i' hsz hx hi;split at hp;.cases hp
    .cases hp;obtain⟨n,hn,hr'⟩:=aR hr;clear hr;have hr:=hr';split at hr
     .rename_i els hq;split at hr
      .rename_i el hel;split at hr;.rename_i hlen;rw[bH hr];exact .quiet hs (mR hs ho ht hsz hx hi hn (.inl ⟨els,el,.inl hq,hel,hlen,rfl⟩))
       .cases hr
      .cases hr
     .rename_i els ow hq;split at hr
      .rename_i el hel;split at hr;.rename_i hlen;rw[bH hr];exact .quiet hs (mR hs ho ht hsz hx hi hn (.inl ⟨els,el,.inr ⟨_,hq⟩,hel,hlen,rfl⟩))
       .cases hr
      .cases hr
     .rename_i lv sl ah off ln sz' hq;split at hr;.rename_i hc;obtain⟨hc1,rfl⟩:=hc;rw[bH hr];exact .quiet hs (mR hs ho ht hsz hx hi hn (.inr (.inl ⟨_,_,_,_,_,hq,hc1,rfl⟩)))
      .cases hr
     .rename_i lv sl ah off ln sz' hq;split at hr;.rename_i hc;obtain⟨hc1,rfl⟩:=hc;rw[bH hr];exact .quiet hs (mR hs ho ht hsz hx hi hn (.inr (.inr ⟨_,_,_,_,_,hq,hc1,rfl⟩)))
      .cases hr
     .cases hr
   .cases hp
  .rename_i n e ht;split at hp
   .rename_i sz x' i' hsz hx hi;cases hp;obtain⟨k,hk,hr⟩:=aR hr;split at hr
    .rename_i hkn;split at hr;.rename_i lv sl ah j off hq;rw[bH hr];exact .quiet hs (x4 hs ho ht hsz hx hi hk hkn (.inl ⟨_,_,_,_,_,hq,rfl⟩))
     .rename_i e off hq;rw[bH hr];exact .quiet hs (x4 hs ho ht hsz hx hi hk hkn (.inr ⟨_,_,hq,rfl⟩))
     .cases hr
    .cases hr
   .cases hp
  .cases hp|index t x i=>
  rw[ho]at hp;simp[Cz]at hp;split at hp
  .rename_i n e ht;split at hp
   .rename_i sz agg x' i' hsz hag hx hi;split at hp
    .rename_i h1;cases hp;obtain⟨k,hk,hr⟩:=aR hr;split at hr
     .rename_i cs hq;split at hr;.rename_i hc;obtain⟨v,hv,hr⟩:=aR hr;rw[bH hr];exact .quiet hs (Nz hs ho ht hsz hag h1 hx hi hq hk hc.1 hc.2 hv)
      .cases hr
     .cases hr
    .cases hp
   .cases hp
  .rename_i ht;split at hp
   .rename_i x' i' hx hi;cases hp;obtain⟨k,hk,hr⟩:=aR hr;split at hr
    .rename_i b hq;split at hr;.rename_i c hc;rw[bH hr];exact .quiet hs (NA hs ho ht hx hi hq hk hc)
     .cases hr
    .cases hr
   .cases hp
  .cases hp|lookup t x k b=>cases b with|true=>rw[ho]at hp;cases hp|false=>
   rw[ho]at hp;simp[Cz]at hp;split at hp
   .rename_i kt et ht;split at hp
    .rename_i m' x' hk hz hm hx;cases hp;simp[cj.run]at hr;split at hr;.rename_i lv sl ah b h1 h2;obtain⟨ks,h3,hr⟩:=aN hr;subst hr;exact .quiet hs (Vo hs ho ht hk hz hm hx h1 h2 h3)
     .cases hr
    .cases hp
   .cases hp
 |mapUpdate t m k v=>
  rw[ho]at hp;simp[Cz]at hp;split at hp
  .rename_i kt et ht;split at hp
   .rename_i m' x' hk hm hx;cases hp;simp[cj.run]at hr;split at hr;.rename_i lv sl ah b h1 h2;obtain⟨ks,h3,hr⟩:=aN hr;subst hr;exact Vp hs ho ht hk hm hx h1 h2 h3
    .cases hr
   .cases hp
  .cases hp|mapEntry t m k=>rw[ho]at hp;cases hp|entryStore t m k v=>rw[ho]at hp;cases hp|range t x=>rw[ho]at hp;cases hp|next x b=>rw[ho]at hp;cases hp|entry x=>rw[ho]at hp;cases hp|typeAssert x t u b=>rw[ho]at hp;cases hp|extract x i=>
  rw[ho]at hp;obtain⟨x',hx,rfl⟩:=aN hp;simp[cj.run]at hr;split at hr;.rename_i vs hq;obtain⟨v,hv,hr⟩:=aR hr;rw[bH hr];exact .quiet hs (JU hs ho hx hq hv)
  .cases hr|call c=>rw[ho]at hp;exact QK cT jw hs hfr Ay hdom ho hp hr|go c=>rw[ho]at hp;cases hp|defer c=>rw[ho]at hp;cases hp|panic x=>rw[ho]at hp;cases hp;simp[cj.run]at hr|send c x=>rw[ho]at hp;cases hp|recv t c b=>rw[ho]at hp;cases hp|select cs b=>rw[ho]at hp;cases hp
end
end Go.bJ
