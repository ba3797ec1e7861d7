/- A part of the proof: EngT, EngU. -/
import Derived.Test.YtdogilonhnbapaaGreatDoorEngS
import Derived.Test.YtdogilonhnbapaaGreatDoorEngMap
set_option linter.unusedVariables false
set_option linter.unusedSimpArgs false
namespace Go.bI
open Go Go.RowKit
section
variable{P:Program}{X:Cx}{nt:Nat}{s:St}{a:Act}{o:Oper}{dst:Option Nat}{aO:Nat}
theorem xw{t:TypeId}{sz Ae:Nat}(h:vm P t=some (sz,Ae)):∃e i z,P.underlying t=some (.slice e)/\P.info? e=some i/\i.zero=some z/\z.cells.size=i.size/\0<i.size/\i.size=sz/\i.bytes=Ae:=by
 unfold vm at h;split at h
 .split at h
  .rename_i i z hi hz;split at h;.obtain⟨i',zv,hi',FO,rfl⟩:=jj hz<;>grind
   grind
  grind
 grind
theorem gj{f:Nat}{args:Array Operand}{ts:Array TypeId}(ho:o.op=.call {callee:=.value (.func f),args,argTypes:=ts})(hf:∃fn,P.funcs[f]?=some fn/\fn.body.isSome=true/\(fn.name== "runtime.NumGoroutine")=false):(execOp a.eval o).run P X.w=.ok (.enter f (args.map a.eval)) X.w:=by obtain⟨fn,hf,hb,hn⟩:=hf;have:=rY (P:=P) (args:=args.map a.eval) (w:=X.w) hf hb hn;have he:a.eval (.func f)=.func (.func f) #[] #[]:=rfl;simp[execOp,ho,resolve,he,Deferred.ofValue,invoke]<;>omega
theorem O1{f:Nat}{t:Nat}{args:Array Operand}{ts:Array TypeId}{cap:Array Value}(ho:o.op=.call {callee:=.value (.tmp t),args,argTypes:=ts})(hv:a.eval (.tmp t)=.func (.func f) #[] cap)(hf:∃fn,P.funcs[f]?=some fn/\fn.body.isSome=true/\(fn.name== "runtime.NumGoroutine")=false):(execOp a.eval o).run P X.w=.ok (.enter f (args.map a.eval++cap)) X.w:=by obtain⟨fn,hf,hb,hn⟩:=hf;have:=rY (P:=P) (args:=args.map a.eval++cap) (w:=X.w) hf hb hn;simp[execOp,ho,resolve,hv,Deferred.ofValue,invoke]<;>omega
theorem vF(hs:fk X nt s a)(hfr:X.ρ aO=none){x y:Operand}{x' y':bZ}{t u:TypeId}{sz Ae:Nat}{row:Bool}{lv sl:Nat}{E:fH}(ho:o.op=.call {callee:=.builtin .append,args:=#[x,y],argTypes:=#[t,u]})(hu:FR P u)(he:vm P t=some (sz,Ae))(hx:cY x=some x')(hy:cY y=some y')(hr:dA s row lv sl aO sz Ae (x'.ev s.slots) (y'.ev s.slots)=some E):dh P X s a o dst aO (.bX E):=by obtain⟨e,i,z,ht,hi,hz,hzs,h0,rfl,rfl⟩:=xw he;obtain⟨Y,v,h1,h2,h3,h4,h5⟩:=rX (P:=P) (ty:=o.type) (n:=s.nv) hs.mem hfr ht hu hi hz hzs h0 (bn hs hx) (bn hs hy) hr;exact .value (yu (w:=Y.w) ho h1) h2 h3 h4 h5
theorem O2(hs:fk X nt s a)(hfr:X.ρ aO=none){t e:TypeId}{sz l h k:Nat}{x:Operand}{x':bZ}{lo hi mx:Option Operand}{lo' hi' C7:Option bZ}{E:fH}(ho:o.op=.slice t x lo hi mx)(ht:P.underlying t=some (.slice e))(hsz:de P e=some sz)(hx:cY x=some x')(hlo:qk lo=some lo')(hhi:qk hi=some hi')(Rz:qk mx=some C7)(bl:fq lo' s.slots 0=some l)(bh:fq hi' s.slots 0=some h)(bk:fq C7 s.slots 0=some k)(c4:C7.isNone=true)(hr:HW s aO sz (x'.ev s.slots) l (hi'.map λ_=>h)=some E):dh P X s a o dst aO (.bX E):=by
 have hv:=bn hs hx;have eh:∀n,(hi'.map λ_=>h).getD n=if hi'.isSome then h else n:=λn=>by cases hi'<;>rfl
 have em:C7.isSome=false:=by simp_all
 unfold HW at hr;split at hr
 .rename_i lv sl ai off len sz' he;split at hr
  .rename_i els hrow;split at hr;.rename_i hc;obtain⟨rfl,c1,c2,c3⟩:=hc;cases hr;rw[he]at hv;obtain⟨L,ad,cap,hL,hLs,HJ,hle,h4⟩:=hv;obtain⟨Y,hw,g1,g2,g3,g4⟩:=Nr (n:=s.nv) hs.mem hfr (h':=(hi'.map λ_=>h).getD len) ⟨L,ad,cap,hL,hLs,rfl,hle,h4⟩ hrow c1 c2 c3;have run:=DO hs (P:=P) ho ht hsz HJ hlo hhi Rz bl bh bk (by rw[<-eh];exact c1) (by rw[<-eh,em];simp only[Bool.false_eq_true,if_false];omega) (by rw[em];simp) (by rw[em];exactλh=>by cases h);rw[<-eh,em]at run;refine .value (Y:=Y) (by rw[hw];exact run) g1 g2 ?_ g4;exact g3
   grind
  grind
 grind
theorem Dj(hs:fk X nt s a)(hfr:X.ρ aO=none){x y:Operand}{x' y':bZ}{t u e':TypeId}{sz Ae k:Nat}{kd:IntKind}{zl:List Value}{z:List D}{row:Bool}{lv sl:Nat}{E:fH}(ho:o.op=.call {callee:=.builtin .append,args:=#[x,y],argTypes:=#[t,u]})(hu:P.underlying u=some (.int kd))(ht':P.underlying t=some (.slice e'))(he:vm P t=some (sz,Ae))(hzp:nF P e'=some zl)(Dh:jg zl=some z)(hzl:z.length=sz)(hx:cY x=some x')(hy:cY y=some y')(hk:gh (y'.ev s.slots)=some k)(h63:k<=eT)(hby:k*Ae<=jO)(hr:dA s row lv sl aO sz Ae (x'.ev s.slots) (.d (.sl (List.replicate k z)))=some E):dh P X s a o dst aO (.bX E):=by
 obtain⟨e,i,zv,ht,hi,hz,hzs,h0,rfl,rfl⟩:=xw he;simp_all;obtain⟨i',zv',hi',FO,rfl⟩:=jj hzp;rw[hi]at hi';cases hi';rw[hz]at FO;cases FO;obtain⟨kk,hke⟩:=jP hk (bn hs hy);have hZ:aC (DR X.w X.F) z zv.cells.toList:=kY Dh;have uw:=iI hZ hzl h0 k (k*i.size) (Nat.le_refl _);have hcl:(madeCells zv.cells (k*i.size)).toList.take (k*i.size)=(Builtin.zeroCells zv.cells k).toList:=by rw[List.take_of_length_le (by simp[madeCells])];simp[madeCells,Builtin.zeroCells,hzs]
 rw[hcl]at uw;obtain⟨Y,v,h1,h2,h3,h4,h5⟩:=vC (P:=P) (u:=u) (ty:=o.type) (yv:=a.eval y) (n:=s.nv) hs.mem hfr ht hi hz hzs h0 (bn hs hx) (λnews hn hnl=>by injection hn with hn;subst hn;refine⟨_,uw,?_⟩;rw[List.length_replicate];exact .zero kd kk zv hu hz hzs hke h63 hby rfl) hr;exact .value (yu (w:=Y.w) ho h1) h2 h3 h4 h5
theorem It(hs:fk X nt s a)(hfr:X.ρ aO=none){f T:Nat}{x:Operand}{x':bZ}{ts:Array TypeId}{sz Ae:Nat}{row:Bool}{lv sl:Nat}{E:fH}{els:List (List D)}(hc:FX P f T)(ho:o.op=.call {callee:=.value (.func f),args:=#[x],argTypes:=ts})(he:vm P T=some (sz,Ae))(hx:cY x=some x')(hel:dm s.mem (x'.ev s.slots)=some els)(hr:dA s row lv sl aO sz Ae (.own [] .full) (x'.ev s.slots)=some E):dh P X s a o dst aO (.bX E):=by
 obtain⟨e,i,z,ht,hi,hz,hzs,h0,rfl,rfl⟩:=xw he;have hv:=bn hs hx;obtain⟨ad,cap,_,_,_,cg,_⟩:=rU hs.mem hel hv;have hcl:=Im (P:=P) (n:=s.nv) hc hs.mem hfr ht hi hz hzs h0 hv ⟨ad,_,cap,cg⟩ hr;obtain⟨fn,hf,hb,_,_,hn⟩:=hc.fn;intro K Q hK;unfold Oper.wp;have hrun:(execOp a.eval o).run P X.w=.ok (.enter f #[a.eval x]) X.w:=by have:=gj (P:=P) (X:=X) (a:=a) ho ⟨fn,hf,by rw[hb];rfl,hn⟩<;>grind
 rw[hrun];refine Calls.mono hcl ?_;rintro en w'⟨Y,v,rfl,rfl,h2,h3,h4,h5⟩;exact hK Y v h2 h3 h4 h5
theorem KG.VR{X:Cx}{x:AV}{v:Value}(h:KG X x v):Go.bI.VR X x v:=by cases x<;>first|exact h|exact h.elim
theorem R0{call:Go.bI.Call}{sh:Nat->Bool}{eD:Nat->Option TypeId}(cM:cI P call)(jy:∀f T,eD f=some T->kU P f T)(hs:fk X nt s a)(hfr:X.ρ aO=none)(Bc:aO<s.nv)(hdom:∀v,s.nv<=v->X.ρ v=none){c:Go.Call}{VK:cq}{row d:Nat}{r:gB}(ho:o.op=.call c)(hp:Rs P eD c=some VK)(hr:VK.run call sh s row d aO=some r):dh P X s a o dst aO r:=by obtain⟨callee,args,ts⟩:=c;obtain⟨args⟩:=args;obtain⟨ts⟩:=ts;unfold Rs at hp;cases callee with
 |value f=>cases f with
  |func f=>
   simp at hp;split at hp
   .rename_i T x hT;split at hp
    .rename_i hq;have hq:=Nat.eq_of_beq_eq_true hq;obtain⟨x',hx',rfl⟩:=aN hp;obtain⟨E,hE,rfl⟩:=aN hr;have hc:=(jy f T hT).sort hq;have hrun:(execOp a.eval o).run P X.w=.ok (.enter f #[a.eval x]) X.w:=by have:=gj (P:=P) (X:=X) (a:=a) ho hc.fn;simpa using this
     exact KS (_ts:=ts.toArray) hs hc hrun hx' hE
    .rename_i hq;split at hp
     .rename_i xm;have xm:=Nat.eq_of_beq_eq_true xm;obtain⟨x',hx',rfl⟩:=aN hp;obtain⟨E,hE,rfl⟩:=aN hr;have hc:=(jy f T hT).compact xm;have hrun:(execOp a.eval o).run P X.w=.ok (.enter f #[a.eval x]) X.w:=by have:=gj (P:=P) (X:=X) (a:=a) ho hc.fn;simpa using this
      exact Di (_ts:=ts.toArray) hs hfr hc hrun hx' hE
     .rename_i xm;split at hp
      .rename_i sz Ae x' he hx';cases hp;simp[cq.run]at hr;split at hr;.rename_i els hel;obtain⟨E,hE,rfl⟩:=aN hr;exact It hs hfr ((jy f T hT).clone (by rintro rfl;cases hq) (by rintro rfl;cases xm)) ho he hx' hel hE
       .cases hr
      .cases hp
   .cases hp
   .split at hp
    .obtain⟨aJ,has,rfl⟩:=aN hp;simp[cq.run]at hr;have hargs:=vp hs has;split at hr;.exact xu cM hs hfr Bc hdom (bK:=(Array.mk _).map a.eval) (by rw[Array.toList_map];exact hargs) hr λhf=>gj ho hf
     .exact D4 cM hs (bK:=(Array.mk _).map a.eval) (by rw[Array.toList_map];exact hargs) hr λhf=>gj ho hf
    .obtain⟨aJ,has,rfl⟩:=aN hp;simp[cq.run]at hr;have hargs:=vp hs has;split at hr;.exact D4 cM hs (bK:=(Array.mk _).map a.eval) (by rw[Array.toList_map];exact hargs) hr λhf=>gj ho hf
     .split at hr;.exact OY cM hs hdom (bK:=(Array.mk _).map a.eval) (by rw[Array.toList_map];exact hargs) hr λhf=>gj ho hf
      split at hr;.exact OZ cM hs hfr (bK:=(Array.mk _).map a.eval) (by rw[Array.toList_map];exact hargs) hr λhf=>gj ho hf
      split at hr;.exact O0 cM hs hfr (bK:=(Array.mk _).map a.eval) (by rw[Array.toList_map];exact hargs) hr λhf=>gj ho hf
      .exact xu cM hs hfr Bc hdom (bK:=(Array.mk _).map a.eval) (by rw[Array.toList_map];exact hargs) hr λhf=>gj ho hf|tmp t=>
   obtain⟨aJ,has,rfl⟩:=aN hp;simp[cq.run]at hr;split at hr;.rename_i f cap hq;have hargs:=vp hs has;have hv:=bn hs (x:=.tmp t) (y:=.t t) rfl;rw[hq]at hv;obtain⟨vs,hv,hcap⟩:=hv;refine xu cM hs hfr Bc hdom (bK:=(Array.mk args).map a.eval++vs) (by rw[Array.toList_append,Array.toList_map];exact hargs.append (hcap.mono λ_ _=>KG.VR)) hr λhf=>O1 ho hv hf
   .cases hr|const v=>cases hp|global g=>cases hp
 |invoke r m=>cases hp|builtin b=>
  simp at hp;split at hp
  .split at hp
   .rename_i e hu;obtain⟨x',hx',rfl⟩:=aN hp;simp[cq.run]at hr;split at hr;.rename_i els hq;rw[bH hr];exact .quiet hs (FK hs ho hu hx' (.inl ⟨els,.inl hq,rfl⟩))
    .rename_i els ow hq;rw[bH hr];exact .quiet hs (FK hs ho hu hx' (.inl ⟨els,.inr ⟨_,hq⟩,rfl⟩))
    .rename_i lv sl ai off n sz hq;rw[bH hr];exact .quiet hs (FK hs ho hu hx' (.inr (.inl ⟨_,_,_,_,_,hq⟩)))
    .rename_i lv sl ai off n sz hq;rw[bH hr];exact .quiet hs (FK hs ho hu hx' (.inr (.inr ⟨_,_,_,_,_,hq⟩)))
    .cases hr
   .rename_i hu;obtain⟨x',hx',rfl⟩:=aN hp;simp[cq.run]at hr;split at hr;.rename_i b hq;rw[bH hr];exact .quiet hs (Wb hs ho hu hx' hq)
    .cases hr
   .rename_i n e hu;cases hp;rw[bH hr];exact .quiet hs (Nj ho (.inl ⟨e,hu⟩))
   .rename_i e hu;split at hp;.rename_i n e' kQ;cases hp;rw[bH hr];exact .quiet hs (Nj ho (.inr ⟨e,e',hu,kQ⟩))
    .cases hp
   .cases hp
  .split at hp
   .rename_i e kd ht hu;split at hp
    .rename_i sz Ae z x' y' he hz hx' hy';split at hp
     .rename_i hzl;cases hp;obtain⟨zl,hzp,Dh⟩:=aQ hz;obtain⟨k,hk,hr⟩:=aQ hr;split at hr;.rename_i hc;obtain⟨E,hE,rfl⟩:=aN hr;exact Dj hs hfr ho hu ht he hzp Dh hzl hx' hy' hk hc.2.1 hc.2.2 hE
      .cases hr
     .cases hp
    .cases hp
   .cases hp
   .rename_i hu;split at hp;.rename_i sz Ae x' y' he hx' hy';cases hp;obtain⟨E,hE,rfl⟩:=aN hr;exact vF hs hfr ho (.inl ⟨_,hu⟩) he hx' hy' hE
    .cases hp
   .rename_i hu;split at hp;.rename_i sz Ae x' y' he hx' hy';cases hp;obtain⟨E,hE,rfl⟩:=aN hr;exact vF hs hfr ho (.inr hu) he hx' hy' hE
    .cases hp
   .cases hp
  .split at hp
   .rename_i e hu;split at hp
    .rename_i i x' y' hi hx' hy';split at hp
     .rename_i h0;injection hp with hp;subst hp;simp only[cq.run]at hr;split at hr
      .rename_i lv sl ai off n sz' news hq hn;split at hr
       .rename_i cs hb;split at hr;.rename_i hc;obtain⟨rfl,qZ,OQ⟩:=hc;injection hr with hr;subst hr;exact KP hs ho hu hi h0 hx' hy' hq hn hb qZ (jD OQ)
        .cases hr
       .cases hr
      .rename_i lv sl ai off ln sz' news hq hn;split at hr
       .rename_i els hb;split at hr;.rename_i hc;obtain⟨rfl,qZ,OQ⟩:=hc;injection hr with hr;subst hr;exact KO hs ho hu hi h0 hx' hy' hq hn hb qZ (jD OQ)
        .cases hr
       .cases hr
      .cases hr
     .cases hp
    .cases hp
   .cases hp
  .split at hp
   .rename_i e hu;split at hp
    .rename_i sz z x' hsz hz hx';split at hp
     .rename_i hc0;cases hp;obtain⟨zl,hzl,Dh⟩:=aQ hz;simp[cq.run]at hr;split at hr
      .rename_i lv sl ai off ln sz' hq;split at hr
       .rename_i els hb;split at hr;.rename_i hc;obtain⟨rfl,qZ,OQ⟩:=hc;cases hr;exact vD hs ho hu hzl Dh OQ hc0.2 hx' hq hb qZ
        .cases hr
       .cases hr
      .cases hr
     .cases hp
    .cases hp
   .cases hp
  .split at hp
   .rename_i e hu;obtain⟨x',hx',rfl⟩:=aN hp;simp[cq.run]at hr;split at hr;.rename_i els hq;rw[bH hr];exact .quiet hs (Wa hs ho hu hx' hq)
    .cases hr
   .cases hp
  .split at hp
   .rename_i x' y' hx' hy';cases hp;simp[cq.run]at hr;split at hr
    .rename_i k p k' q hq1 xm;split at hr;.subst_vars;rw[bH hr];exact .quiet hs (abX hs ho hx' hy' hq1 xm)
     .cases hr
    .cases hr
   .cases hp
  .split at hp
   .rename_i x' y' hx' hy';cases hp;simp[cq.run]at hr;split at hr
    .rename_i k p k' q hq1 xm;split at hr;.subst_vars;rw[bH hr];exact .quiet hs (kZ hs ho hx' hy' hq1 xm)
     .cases hr
    .cases hr
   .cases hp
  .cases hp
end
end Go.bI
namespace Go.bI
open Go Go.RowKit
section
variable{P:Program}{X:Cx}{nt:Nat}{s:St}{a:Act}{o:Oper}{dst:Option Nat}{aO:Nat}
theorem F0{t:TypeId}{fs:Array Field}{zl:List Value}{pl:List (Nat×Nat)}{it:TypeInfo}{z:Value}(hi:P.info? t=some it)(hz:it.zero=some z)(_h:zl=z.cells.toList)(ht:P.underlying t=some (.struct fs))(hp:FE P fs=some pl)(parts:List (Nat×Value)):P.built t parts=Instr.fill (pl.toArray[·]?) z.cells parts:=by unfold FE at hp;simp[Program.built,hi,ht,hz,hp]
theorem ab6{call:Go.bI.Call}{sh:Nat->Bool}{eD:Nat->Option TypeId}(cM:cI P call)(jy:∀f T,eD f=some T->kU P f T)(hs:fk X nt s a)(hfr:X.ρ aO=none)(Bc:aO<s.nv)(hdom:∀v,s.nv<=v->X.ρ v=none){VK:cq}{row d:Nat}{r:gB}(hp:C5 P eD o.op=some VK)(hr:VK.run call sh s row d aO=some r):dh P X s a o dst aO r:=by cases ho:o.op with
 |move x=>rw[ho]at hp;obtain⟨x',hx,rfl⟩:=aN hp;exact A4 hs hfr (by simp[execOp,ho]) hx hr|assign x=>rw[ho]at hp;obtain⟨x',hx,rfl⟩:=aN hp;exact A4 hs hfr (by simp[execOp,ho]) hx hr|pick c x y=>
  rw[ho]at hp;simp[C5]at hp;split at hp;.rename_i c' x' y' hc hx hy;cases hp;obtain⟨b,hb,hr⟩:=aQ hr;rw[bH hr];exact .quiet hs (V6 hs ho hc hx hy hb)
  .cases hp|alloc t=>rw[ho]at hp;obtain⟨z,hz,hp⟩:=aQ hp;obtain⟨cs,hcs,rfl⟩:=aN hp;cases hr;exact RD hs hfr ho hz hcs|box t x=>rw[ho]at hp;obtain⟨x',hx,rfl⟩:=aN hp;obtain⟨cs,hcs,rfl⟩:=aN hr;exact abU hs hfr ho hx hcs|build t ps=>
  rw[ho]at hp;simp only[C5]at hp;split at hp
  .rename_i z fs hz ht;split at hp;.rename_i z' pl Wg hpl;obtain⟨l,hl,rfl⟩:=aN hp;obtain⟨cs,hcs,hr⟩:=aQ hr;rw[bH hr];obtain⟨it,zv,hi,FO,rfl⟩:=jj hz;exact .quiet hs (H8 hs _ ho Wg (F0 hi FO rfl ht hpl) hl hcs hi)
   .cases hp
  .rename_i z n e hz ht;split at hp;.rename_i z' sz Wg hsz;obtain⟨l,hl,rfl⟩:=aN hp;obtain⟨cs,hcs,hr⟩:=aQ hr;rw[bH hr];obtain⟨it,zv,hi,FO,rfl⟩:=jj hz;obtain⟨ie,hie,abS⟩:=fm hsz;refine .quiet hs (H8 hs (λi=>some (i*sz,sz)) ho Wg (λparts=>?_) hl hcs hi);simp[Program.built,hi,ht,FO,hie,abS]
   .cases hp
  .cases hp|buildSlice t n ps=>
  rw[ho]at hp;simp[C5]at hp;split at hp
  .rename_i e ht;split at hp
   .rename_i sz z l hsz hz hl;split at hp
    .rename_i hc;cases hp;obtain⟨zl,hzl,Dh⟩:=aQ hz;simp only[cq.run]at hr;split at hr
     .split at hr;.cases hr
      .rename_i hn;obtain⟨cs,hf,rfl⟩:=aN hr;exact Ic (P:=P) (dst:=dst) (d:=d) hs hfr ho ht hsz hzl Dh hl hc.1 hc.2.1 hc.2.2 (beq_false.1 hn) hf
     split at hr;.cases hr
     .rename_i els ks hf;have:=λrd d=>Dg (P:=P) (dst:=dst) (rd:=rd) (d:=d) hs hfr ho ht hsz hzl Dh hl hc.1 hc.2.1 hc.2.2 hf;split at hr;.cases hr;exact(this _ d).1
      .split at hr;.cases hr
       .rename_i hnk;cases hr;exact(this _ d).2 hnk
    .cases hp
   .cases hp
  .cases hp|insert t m k v=>rw[ho]at hp;cases hp|load t x=>
  rw[ho]at hp;simp[C5]at hp;split at hp
  .rename_i sz agg x' hsz hag hx;split at hp;.rename_i h1;cases hp;obtain⟨cs,hcs,hr⟩:=aQ hr;obtain⟨v,hv,rfl⟩:=aN hr;exact .quiet hs (V5 hs ho hsz hag h1 hx hcs hv)
   .cases hp
  .cases hp|store t x v=>
  rw[ho]at hp;simp[C5]at hp;split at hp;.rename_i sz x' v' hsz hx hv;cases hp;obtain⟨e,he,rfl⟩:=aN hr;exact RG hs ho hsz hx hv he
  .cases hp|ready g=>rw[ho]at hp;cases hp|waits g=>rw[ho]at hp;cases hp|nilCheck x=>
  rw[ho]at hp;obtain⟨x',hx,rfl⟩:=aN hp;simp[cq.run]at hr;split at hr;.rename_i lv sl ai i off hq;rw[bH hr];exact .quiet hs (rS hs ho hx hq (.inl ⟨_,_,_,_,_,rfl⟩))
  .rename_i e off hq;rw[bH hr];exact .quiet hs (rS hs ho hx hq (.inr (.inl ⟨_,_,rfl⟩)))
  .rename_i f cs hq;rw[bH hr];exact .quiet hs (rS hs ho hx hq (.inr (.inr ⟨_,_,rfl⟩)))
  .cases hr|binOp op t x y u=>
  rw[ho]at hp;simp[C5]at hp;split at hp
  .rename_i x' y' hx hy;have plain:∀{VK:cq},VK=.bin op x' y'->VK.run call sh s row d aO=some r->dh P X s a o dst aO r:=by rintro VK rfl hr;obtain⟨v,hv,hr⟩:=aQ hr;rw[bH hr];exact .quiet hs (abQ hs ho hx hy hv)
   have cmp:∀(neg:Bool),op=(if neg then .neq else .eql)->Nd P op neg t x' y'=some VK->dh P X s a o dst aO r:=by
    intro neg hop hc;have ho':o.op=.binOp (if neg then .neq else .eql) t x y u:=by rw[ho,hop]
    unfold Nd at hc;split at hc
    .rename_i hu;cases hc;simp[cq.run]at hr;split at hr;.rename_i p q hp hq;rw[bH hr];exact .quiet hs (abR hs ho' hu hx hy hp hq)
     .cases hr
    .simp_all
    .simp_all
    .cases hc;simp[cq.run]at hr
    .rename_i ms hu;split at hc
     .cases hc;simp[cq.run]at hr;split at hr;.rename_i hq;rw[bH hr];exact .quiet hs ((H7 hs ho' hu hx hy).1 hq)
      .rename_i hq;rw[bH hr];exact .quiet hs ((H7 hs ho' hu hx hy).2 hq)
      .cases hr
     .cases hc
    .rename_i fs hu;split at hc;.cases hc
     .rename_i hg;split at hc
      .rename_i l sz hl hsz;cases hc;simp[cq.run]at hr;split at hr
       .rename_i xs ys hxs hys;split at hr;.cases hr
        .rename_i hlen;obtain⟨h3,h4⟩:=not_or.1 hlen;obtain⟨b,hb,hr⟩:=aQ hr;rw[bH hr];exact .quiet hs (Rx hs ho' hu (by simpa using hg) hl hsz hx hy hxs hys (Classical.byContradiction h3) (Classical.byContradiction h4) hb)
       .cases hr
      .cases hc
    .cases hc
   split at hp;.exact cmp false rfl hp
   .exact cmp true rfl hp
   .simp_all
  .cases hp|unOp op t x=>rw[ho]at hp;obtain⟨x',hx,rfl⟩:=aN hp;obtain⟨v,hv,hr⟩:=aQ hr;rw[bH hr];exact .quiet hs (agy hs ho hx hv)|convert src ds x=>
  rw[ho]at hp;simp[C5]at hp;split at hp;.rename_i dsc k hsrc hds;obtain⟨x',hx,rfl⟩:=aN hp;obtain⟨n,hn,hr⟩:=aQ hr;rw[bH hr];exact .quiet hs (V9 hs ho hds (by rw[hsrc];rfl) hx hn)
  .rename_i e hsrc hds;split at hp;.rename_i he8;obtain⟨x',hx,rfl⟩:=aN hp;obtain⟨els,hel,hr⟩:=aQ hr;obtain⟨l,hl,hr⟩:=aN hr;subst hr;exact .quiet hs (abY hs ho hsrc he8 hds hx hel hl)
   .cases hp
  .rename_i e hsrc hds;split at hp
   .rename_i he8;obtain⟨x',hx,rfl⟩:=aN hp;simp[cq.run]at hr;split at hr;.rename_i b hb;rw[bH hr];exact abZ hs hfr ho hsrc hds he8 hx hb
    .cases hr
   .cases hp
  .cases hp|sliceToArrayPointer t x=>rw[ho]at hp;cases hp|makeInterface t x=>rw[ho]at hp;cases hp;simp[cq.run]at hr|makeFunc fn first cap=>
  rw[ho]at hp;simp only[C5]at hp;split at hp
  .split at hp
   .rename_i h0;obtain⟨cap',hcap,rfl⟩:=aN hp;simp at h0;subst h0;simp only[cq.run]at hr;split at hr;.rename_i hall;rw[bH hr];exact .quiet hs (H9 hs ho hcap hall)
    .cases hr
   .cases hp
  .cases hp|makeMap t x=>cases x with|some _=>rw[ho]at hp;cases hp|none=>
   rw[ho]at hp;simp[C5]at hp;split at hp
   .split at hp;.cases hp;cases hr;exact RN hs hfr ho
    .cases hp
   .cases hp
 |makeChan t x=>rw[ho]at hp;cases hp|makeSlice t l c=>
  rw[ho]at hp;simp[C5]at hp;split at hp
  .rename_i e ht;split at hp
   .rename_i i z l' c' hi hz hl hc;split at hp
    .rename_i h0;cases hp;obtain⟨zl,hzl,Dh⟩:=aQ hz;simp[cq.run]at hr;split at hr
     .rename_i ln cn hln hcn;split at hr;.rename_i Nx;cases hr;exact FQ hs hfr ho ht hi hzl Dh Nx.2.2.2 h0 hl hc hln hcn Nx.1 Nx.2.1 Nx.2.2.1
      .cases hr
     .cases hr
    .cases hp
   .cases hp
  .cases hp|slice t x lo hi mx=>
  rw[ho]at hp;simp[C5]at hp;split at hp
  .rename_i e ht;split at hp
   .rename_i sz x' lo' hi' C7 hsz hx hlo hhi Rz;split at hp;.cases hp
    .rename_i h0;cases hp;have c4:C7.isSome=true->hi'.isSome=true:=by intro h;cases hi' with|some _=>rfl|none=>exact absurd (.inr ⟨h,rfl⟩) h0
     simp[cq.run]at hr;split at hr
     .rename_i l h k bl bh bk;split at hr;.rename_i hq;rw[Bool.and_eq_true,Bool.and_eq_true]at hq;obtain⟨E,hE,hr⟩:=aN hr;subst hr;exact O2 hs hfr ho ht hsz hx hlo hhi Rz bl bh bk hq.2.1 hE
      .obtain⟨v,hv,hr⟩:=aQ hr;rw[bH hr];exact .quiet hs (RA hs ho ht hsz hx hlo hhi Rz bl bh bk c4 hv)
     .cases hr
   .cases hp
  .rename_i n e ht;split at hp
   .rename_i sz x' hsz hx;split at hp;.cases hp
    .rename_i h0;cases hp;simp[cq.run]at hr;split at hr
     .rename_i lv sl ai i off hq;split at hr;.rename_i Wq;have Wq:=beq_true.1 Wq;subst Wq;rw[bH hr];exact .quiet hs (OK hs ho ht hsz h0 hx hq)
      .cases hr
     .cases hr
   .rename_i k sz x' hsz hx;split at hp
    .rename_i h0;cases hp;simp[cq.run]at hr;split at hr
     .rename_i lv sl ai i off hq;split at hr;.rename_i Wq;rw[Bool.and_eq_true]at Wq;have hi1:=beq_true.1 Wq.1;subst hi1;rw[bH hr];exact .quiet hs (OL hs ho ht hsz h0 (by simpa[Nat.blt_eq]using Wq.2) hx hq)
      .cases hr
     .cases hr
    .cases hp
   .cases hp
  .rename_i ht;split at hp
   .rename_i x' lo' hi' hx hlo hhi;cases hp;simp[cq.run]at hr;split at hr
    .rename_i b hq;split at hr
     .rename_i l h bl bh;split at hr;.rename_i hc;rw[bH hr];exact .quiet hs (OM hs ho ht hx hlo hhi hq bl bh hc.1 hc.2)
      .cases hr
     .cases hr
    .cases hr
   .cases hp
  .cases hp|fieldAddr t x f=>
  rw[ho]at hp;simp[C5]at hp;split at hp
  .rename_i fs ht;split at hp
   .rename_i fl hfl;split at hp
    .rename_i sz x' hsz hx;split at hp;.cases hp
     .rename_i h0;cases hp;simp[cq.run]at hr;split at hr;.rename_i lv sl ai i off hq;rw[bH hr];exact .quiet hs (vr hs ho ht hfl hsz h0 hx (.inl ⟨_,_,_,_,_,hq,rfl⟩))
      .rename_i e off hq;rw[bH hr];exact .quiet hs (vr hs ho ht hfl hsz h0 hx (.inr ⟨_,_,hq,rfl⟩))
      .cases hr
    .cases hp
   .cases hp
  .cases hp|field t x f=>
  rw[ho]at hp;simp[C5]at hp;split at hp
  .rename_i fs ht;split at hp
   .rename_i fl hfl;split at hp
    .rename_i sz agg x' hsz hag hx;split at hp
     .rename_i h1;cases hp;simp[cq.run]at hr;split at hr
      .rename_i cs hq;split at hr;.rename_i hle;obtain⟨v,hv,hr⟩:=aQ hr;rw[bH hr];exact .quiet hs (Ry hs ho ht hfl hsz hag h1 hx hq hle hv)
       .cases hr
      .cases hr
     .cases hp
    .cases hp
   .cases hp
  .cases hp|indexAddr t x i=>
  rw[ho]at hp;simp[C5]at hp;split at hp
  .rename_i e ht;split at hp
   .rename_i sz x' i' hsz hx hi;split at hp;.cases hp
    .cases hp;obtain⟨n,hn,hr'⟩:=aQ hr;clear hr;have hr:=hr';split at hr
     .rename_i els hq;split at hr
      .rename_i el hel;split at hr;.rename_i hlen;rw[bH hr];exact .quiet hs (mU hs ho ht hsz hx hi hn (.inl ⟨els,el,.inl hq,hel,hlen,rfl⟩))
       .cases hr
      .cases hr
     .rename_i els ow hq;split at hr
      .rename_i el hel;split at hr;.rename_i hlen;rw[bH hr];exact .quiet hs (mU hs ho ht hsz hx hi hn (.inl ⟨els,el,.inr ⟨_,hq⟩,hel,hlen,rfl⟩))
       .cases hr
      .cases hr
     .rename_i lv sl ai off ln sz' hq;split at hr;.rename_i hc;obtain⟨hc1,rfl⟩:=hc;rw[bH hr];exact .quiet hs (mU hs ho ht hsz hx hi hn (.inr (.inl ⟨_,_,_,_,_,hq,hc1,rfl⟩)))
      .cases hr
     .rename_i lv sl ai off ln sz' hq;split at hr;.rename_i hc;obtain⟨hc1,rfl⟩:=hc;rw[bH hr];exact .quiet hs (mU hs ho ht hsz hx hi hn (.inr (.inr ⟨_,_,_,_,_,hq,hc1,rfl⟩)))
      .cases hr
     .cases hr
   .cases hp
  .rename_i n e ht;split at hp
   .rename_i sz x' i' hsz hx hi;cases hp;obtain⟨k,hk,hr⟩:=aQ hr;split at hr
    .rename_i hkn;split at hr;.rename_i lv sl ai j off hq;rw[bH hr];exact .quiet hs (yt hs ho ht hsz hx hi hk hkn (.inl ⟨_,_,_,_,_,hq,rfl⟩))
     .rename_i e off hq;rw[bH hr];exact .quiet hs (yt hs ho ht hsz hx hi hk hkn (.inr ⟨_,_,hq,rfl⟩))
     .cases hr
    .cases hr
   .cases hp
  .cases hp|index t x i=>
  rw[ho]at hp;simp[C5]at hp;split at hp
  .rename_i n e ht;split at hp
   .rename_i sz agg x' i' hsz hag hx hi;split at hp
    .rename_i h1;cases hp;obtain⟨k,hk,hr⟩:=aQ hr;split at hr
     .rename_i cs hq;split at hr;.rename_i hc;obtain⟨v,hv,hr⟩:=aQ hr;rw[bH hr];exact .quiet hs (OI hs ho ht hsz hag h1 hx hi hq hk hc.1 hc.2 hv)
      .cases hr
     .cases hr
    .cases hp
   .cases hp
  .rename_i ht;split at hp
   .rename_i x' i' hx hi;cases hp;obtain⟨k,hk,hr⟩:=aQ hr;split at hr
    .rename_i b hq;split at hr;.rename_i c hc;rw[bH hr];exact .quiet hs (OJ hs ho ht hx hi hq hk hc)
     .cases hr
    .cases hr
   .cases hp
  .cases hp|lookup t x k b=>cases b with|true=>rw[ho]at hp;cases hp|false=>
   rw[ho]at hp;simp[C5]at hp;split at hp
   .rename_i kt et ht;split at hp
    .rename_i m' x' hk hz hm hx;cases hp;simp[cq.run]at hr;split at hr;.rename_i lv sl ai b h1 h2;obtain⟨ks,h3,hr⟩:=aN hr;subst hr;exact .quiet hs (Wh hs ho ht hk hz hm hx h1 h2 h3)
     .cases hr
    .cases hp
   .cases hp
 |mapUpdate t m k v=>
  rw[ho]at hp;simp[C5]at hp;split at hp
  .rename_i kt et ht;split at hp
   .rename_i m' x' hk hm hx;cases hp;simp[cq.run]at hr;split at hr;.rename_i lv sl ai b h1 h2;obtain⟨ks,h3,hr⟩:=aN hr;subst hr;exact Wi hs ho ht hk hm hx h1 h2 h3
    .cases hr
   .cases hp
  .cases hp|mapEntry t m k=>rw[ho]at hp;cases hp|entryStore t m k v=>rw[ho]at hp;cases hp|range t x=>rw[ho]at hp;cases hp|next x b=>rw[ho]at hp;cases hp|entry x=>rw[ho]at hp;cases hp|typeAssert x t u b=>rw[ho]at hp;cases hp|extract x i=>
  rw[ho]at hp;obtain⟨x',hx,rfl⟩:=aN hp;simp[cq.run]at hr;split at hr;.rename_i vs hq;obtain⟨v,hv,hr⟩:=aQ hr;rw[bH hr];exact .quiet hs (KJ hs ho hx hq hv)
  .cases hr|call c=>rw[ho]at hp;exact R0 cM jy hs hfr Bc hdom ho hp hr|go c=>rw[ho]at hp;cases hp|defer c=>rw[ho]at hp;cases hp|panic x=>rw[ho]at hp;cases hp;simp[cq.run]at hr|send c x=>rw[ho]at hp;cases hp|recv t c b=>rw[ho]at hp;cases hp|select cs b=>rw[ho]at hp;cases hp
end
end Go.bI
