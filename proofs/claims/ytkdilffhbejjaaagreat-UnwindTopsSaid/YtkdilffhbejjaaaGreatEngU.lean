/- A part of the proof: EngT, EngU. -/
import Derived.Test.YtkdilffhbejjaaaGreatEngS
import Derived.Test.YtkdilffhbejjaaaGreatEngMap
set_option linter.unusedVariables false
set_option linter.unusedSimpArgs false
namespace Go.bM
open Go Go.RowKit
section
variable{P:Program}{X:Cx}{nt:NT}{s:St}{a:Act}{o:Oper}{dst:Option Nat}{aT:Nat}
theorem xK{t:TypeId}{sz AA:Nat}(h:vI P t=some (sz,AA)):∃e i z,P.underlying t=some (.slice e)/\P.info? e=some i/\i.zero=some z/\z.cells.size=i.size/\0<i.size/\i.size=sz/\i.bytes=AA:=by
 unfold vI at h;split at h
 .split at h
  .rename_i i z hi hz;split at h;.obtain⟨i',zv,hi',Gc,rfl⟩:=jM hz<;>grind
   grind
  grind
 grind
theorem gC{f:Nat}{args:Array Operand}{ts:Array TypeId}(ho:o.op=.call {callee:=.value (.func f),args,argTypes:=ts})(hf:∃fn,P.funcs[f]?=some fn/\fn.body.isSome=true/\(fn.name== "runtime.NumGoroutine")=false):(execOp a.eval o).run P X.w=.ok (.enter f (args.map a.eval)) X.w:=by obtain⟨fn,hf,hb,hn⟩:=hf;have:=oq (P:=P) (args:=args.map a.eval) (w:=X.w) hf hb hn;have he:a.eval (.func f)=.func (.func f) #[] #[]:=rfl;simp[execOp,ho,resolve,he,Deferred.ofValue,invoke]<;>omega
theorem OJ{f:Nat}{t:Nat}{args:Array Operand}{ts:Array TypeId}{cap:Array Value}(ho:o.op=.call {callee:=.value (.tmp t),args,argTypes:=ts})(hv:a.eval (.tmp t)=.func (.func f) #[] cap)(hf:∃fn,P.funcs[f]?=some fn/\fn.body.isSome=true/\(fn.name== "runtime.NumGoroutine")=false):(execOp a.eval o).run P X.w=.ok (.enter f (args.map a.eval++cap)) X.w:=by obtain⟨fn,hf,hb,hn⟩:=hf;have:=oq (P:=P) (args:=args.map a.eval++cap) (w:=X.w) hf hb hn;simp[execOp,ho,resolve,hv,Deferred.ofValue,invoke]<;>omega
theorem vZ(hs:fu X nt s a)(hfr:X.ρ aT=none){x y:Operand}{x' y':cc}{t u:TypeId}{sz AA:Nat}{row:Bool}{lv sl:Nat}{E:fT}(ho:o.op=.call {callee:=.builtin .append,args:=#[x,y],argTypes:=#[t,u]})(hu:Ge P u)(he:vI P t=some (sz,AA))(hx:dh x=some x')(hy:dh y=some y')(hr:dP s row lv sl aT sz AA (x'.ev s.slots) (y'.ev s.slots)=some E):dI P X s a o dst aT (.ck E):=by obtain⟨e,i,z,ht,hi,hz,hzs,h0,rfl,rfl⟩:=xK he;obtain⟨Y,v,h1,h2,h3,h4,h5⟩:=sA (P:=P) (ty:=o.type) (n:=s.nv) hs.mem hfr ht hu hi hz hzs h0 (bB hs hx) (bB hs hy) hr;exact .value (yX (w:=Y.w) ho h1) h2 h3 h4 h5
theorem OK(hs:fu X nt s a)(hfr:X.ρ aT=none){t e:TypeId}{sz l h k:Nat}{x:Operand}{x':cc}{lo hi mx:Option Operand}{lo' hi' DI:Option cc}{E:fT}(ho:o.op=.slice t x lo hi mx)(ht:P.underlying t=some (.slice e))(hsz:dB P e=some sz)(hx:dh x=some x')(hlo:qL lo=some lo')(hhi:qL hi=some hi')(Rf:qL mx=some DI)(bl:fJ lo' s.slots 0=some l)(bh:fJ hi' s.slots 0=some h)(bk:fJ DI s.slots 0=some k)(c4:DI.isNone=true)(hr:HX s aT sz (x'.ev s.slots) l (hi'.map λ_=>h)=some E):dI P X s a o dst aT (.ck E):=by
 have hv:=bB hs hx;have eh:∀n,(hi'.map λ_=>h).getD n=if hi'.isSome then h else n:=λn=>by cases hi'<;>rfl
 have em:DI.isSome=false:=by simp_all
 unfold HX at hr;split at hr
 .rename_i lv sl au off len sz' he;split at hr
  .rename_i els hrow;split at hr;.rename_i hc;obtain⟨rfl,c1,c2,c3⟩:=hc;cases hr;rw[he]at hv;obtain⟨L,ad,cap,hL,hLs,KW,hle,h4⟩:=hv;obtain⟨Y,hw,g1,g2,g3,g4⟩:=M4 (n:=s.nv) hs.mem hfr (h':=(hi'.map λ_=>h).getD len) ⟨L,ad,cap,hL,hLs,rfl,hle,h4⟩ hrow c1 c2 c3;have run:=Ej hs (P:=P) ho ht hsz KW hlo hhi Rf bl bh bk (by rw[<-eh];exact c1) (by rw[<-eh,em];simp only[io,m6];omega) (by rw[em];simp) (by rw[em];exactλh=>by cases h);rw[<-eh,em]at run;refine .value (Y:=Y) (by rw[hw];exact run) g1 g2 ?_ g4;exact g3
   grind
  grind
 grind
theorem DV(hs:fu X nt s a)(hfr:X.ρ aT=none){x y:Operand}{x' y':cc}{t u e':TypeId}{sz AA k:Nat}{kd:IntKind}{zl:List Value}{z:List D}{row:Bool}{lv sl:Nat}{E:fT}(ho:o.op=.call {callee:=.builtin .append,args:=#[x,y],argTypes:=#[t,u]})(hu:P.underlying u=some (.int kd))(ht':P.underlying t=some (.slice e'))(he:vI P t=some (sz,AA))(hzp:og P e'=some zl)(DT:jJ zl=some z)(hzl:z.length=sz)(hx:dh x=some x')(hy:dh y=some y')(hk:gz (y'.ev s.slots)=some k)(h63:k<=fm)(hby:k*AA<=ku)(hr:dP s row lv sl aT sz AA (x'.ev s.slots) (.d (.sl (List.replicate k z)))=some E):dI P X s a o dst aT (.ck E):=by
 obtain⟨e,i,zv,ht,hi,hz,hzs,h0,rfl,rfl⟩:=xK he;simp_all;obtain⟨i',zv',hi',Gc,rfl⟩:=jM hzp;rw[hi]at hi';cases hi';rw[hz]at Gc;cases Gc;obtain⟨kk,hke⟩:=kA hk (bB hs hy);have hZ:aE (DR X.w X.F) z zv.cells.toList:=lQ DT;have uR:=jj hZ hzl h0 k (k*i.size) (bc _);have nM:(madeCells zv.cells (k*i.size)).toList.take (k*i.size)=(Builtin.zeroCells zv.cells k).toList:=by rw[fg (by simp[madeCells])];simp[madeCells,Builtin.zeroCells,hzs]
 rw[nM]at uR;obtain⟨Y,v,h1,h2,h3,h4,h5⟩:=vV (P:=P) (u:=u) (ty:=o.type) (yv:=a.eval y) (n:=s.nv) hs.mem hfr ht hi hz hzs h0 (bB hs hx) (λnews hn hnl=>by injection hn with hn;subst hn;refine⟨_,uR,?_⟩;rw[jn];exact .zero kd kk zv hu hz hzs hke h63 hby rfl) hr;exact .value (yX (w:=Y.w) ho h1) h2 h3 h4 h5
theorem Iv(hs:fu X nt s a)(hfr:X.ρ aT=none){f T:Nat}{x:Operand}{x':cc}{ts:Array TypeId}{sz AA:Nat}{row:Bool}{lv sl:Nat}{E:fT}{els:List (List D)}(hc:Gi P f T)(ho:o.op=.call {callee:=.value (.func f),args:=#[x],argTypes:=ts})(he:vI P T=some (sz,AA))(hx:dh x=some x')(hel:dG s.mem (x'.ev s.slots)=some els)(hr:dP s row lv sl aT sz AA (.own [] .full) (x'.ev s.slots)=some E):dI P X s a o dst aT (.ck E):=by
 obtain⟨e,i,z,ht,hi,hz,hzs,h0,rfl,rfl⟩:=xK he;have hv:=bB hs hx;obtain⟨ad,cap,_,_,_,cj,_⟩:=sw hs.mem hel hv;have nM:=Io (P:=P) (n:=s.nv) hc hs.mem hfr ht hi hz hzs h0 hv ⟨ad,_,cap,cj⟩ hr;obtain⟨fn,hf,hb,_,_,hn⟩:=hc.fn;intro K Q hK;unfold Oper.wp;have hrun:(execOp a.eval o).run P X.w=.ok (.enter f #[a.eval x]) X.w:=by have:=gC (P:=P) (X:=X) (a:=a) ho ⟨fn,hf,by rw[hb];rfl,hn⟩<;>grind
 rw[hrun];refine Calls.mono nM ?_;rintro en w'⟨Y,v,rfl,rfl,h2,h3,h4,h5⟩;exact hK Y v h2 h3 h4 h5
theorem H6.VR{X:Cx}{x:AV}{v:Value}(h:H6 X x v):Go.bM.VR X x v:=by cases x<;>first|exact h|exact h.elim
theorem RA{call:Go.bM.Call}{sh:Nat->Bool}{dm:Nat->Option TypeId}(cH:eo P call)(gP:∀f T,dm f=some T->jZ P f T)(hs:fu X nt s a)(hfr:X.ρ aT=none)(BC:aT<s.nv)(hdom:∀v,s.nv<=v->X.ρ v=none){c:Go.Call}{WY:ct}{row d:Nat}{r:gT}(ho:o.op=.call c)(hp:Q7 P dm c=some WY)(hr:WY.run call sh s row d aT=some r):dI P X s a o dst aT r:=by obtain⟨callee,args,ts⟩:=c;obtain⟨args⟩:=args;obtain⟨ts⟩:=ts;unfold Q7 at hp;cases callee with
 |value f=>cases f with
  |func f=>
   simp at hp;split at hp
   .rename_i T x hT;split at hp
    .rename_i hq;have hq:=aw hq;obtain⟨x',hx',rfl⟩:=aQ hp;obtain⟨E,hE,rfl⟩:=aQ hr;have hc:=(gP f T hT).sort hq;have hrun:(execOp a.eval o).run P X.w=.ok (.enter f #[a.eval x]) X.w:=by have:=gC (P:=P) (X:=X) (a:=a) ho hc.fn;simpa using this
     exact KV (_ts:=ts.toArray) hs hc hrun hx' hE
    .rename_i hq;split at hp
     .rename_i xG;have xG:=aw xG;obtain⟨x',hx',rfl⟩:=aQ hp;obtain⟨E,hE,rfl⟩:=aQ hr;have hc:=(gP f T hT).compact xG;have hrun:(execOp a.eval o).run P X.w=.ok (.enter f #[a.eval x]) X.w:=by have:=gC (P:=P) (X:=X) (a:=a) ho hc.fn;simpa using this
      exact DU (_ts:=ts.toArray) hs hfr hc hrun hx' hE
     .rename_i xG;split at hp
      .rename_i sz AA x' he hx';cases hp;simp[ct.run]at hr;split at hr;.rename_i els hel;obtain⟨E,hE,rfl⟩:=aQ hr;exact Iv hs hfr ((gP f T hT).clone (by rintro rfl;cases hq) (by rintro rfl;cases xG)) ho he hx' hel hE
       .cases hr
      .cases hp
   .cases hp
   .split at hp
    .obtain⟨aO,has,rfl⟩:=aQ hp;simp[ct.run]at hr;have hargs:=vL hs has;split at hr;.exact xJ cH hs hfr BC hdom (cL:=(Array.mk _).map a.eval) (by rw[lw];exact hargs) hr λhf=>gC ho hf
     .exact EA cH hs (cL:=(Array.mk _).map a.eval) (by rw[lw];exact hargs) hr λhf=>gC ho hf
    .obtain⟨aO,has,rfl⟩:=aQ hp;simp[ct.run]at hr;have hargs:=vL hs has;split at hr;.exact EA cH hs (cL:=(Array.mk _).map a.eval) (by rw[lw];exact hargs) hr λhf=>gC ho hf
     .split at hr;.exact OG cH hs hdom (cL:=(Array.mk _).map a.eval) (by rw[lw];exact hargs) hr λhf=>gC ho hf
      split at hr;.exact OH cH hs hfr (cL:=(Array.mk _).map a.eval) (by rw[lw];exact hargs) hr λhf=>gC ho hf
      split at hr;.exact OI cH hs hfr (cL:=(Array.mk _).map a.eval) (by rw[lw];exact hargs) hr λhf=>gC ho hf
      .exact xJ cH hs hfr BC hdom (cL:=(Array.mk _).map a.eval) (by rw[lw];exact hargs) hr λhf=>gC ho hf|tmp t=>
   obtain⟨aO,has,rfl⟩:=aQ hp;simp[ct.run]at hr;split at hr;.rename_i f cap hq;have hargs:=vL hs has;have hv:=bB hs (x:=.tmp t) (y:=.t t) rfl;rw[hq]at hv;obtain⟨vs,hv,hcap⟩:=hv;refine xJ cH hs hfr BC hdom (cL:=(Array.mk args).map a.eval++vs) (by rw[Array.toList_append,lw];exact hargs.append (hcap.mono λ_ _=>H6.VR)) hr λhf=>OJ ho hv hf
   .cases hr|const v=>cases hp|global g=>cases hp
 |invoke r m=>cases hp|builtin b=>
  simp at hp;split at hp
  .split at hp
   .rename_i e hu;obtain⟨x',hx',rfl⟩:=aQ hp;simp[ct.run]at hr;split at hr;.rename_i els hq;rw[bO hr];exact .quiet hs (F1 hs ho hu hx' (.inl ⟨els,.inl hq,rfl⟩))
    .rename_i els ow hq;rw[bO hr];exact .quiet hs (F1 hs ho hu hx' (.inl ⟨els,.inr ⟨_,hq⟩,rfl⟩))
    .rename_i lv sl au off n sz hq;rw[bO hr];exact .quiet hs (F1 hs ho hu hx' (.inr (.inl ⟨_,_,_,_,_,hq⟩)))
    .rename_i lv sl au off n sz hq;rw[bO hr];exact .quiet hs (F1 hs ho hu hx' (.inr (.inr ⟨_,_,_,_,_,hq⟩)))
    .cases hr
   .rename_i hu;obtain⟨x',hx',rfl⟩:=aQ hp;simp[ct.run]at hr;split at hr;.rename_i b hq;rw[bO hr];exact .quiet hs (Xk hs ho hu hx' hq)
    .cases hr
   .rename_i n e hu;cases hp;rw[bO hr];exact .quiet hs (MY ho (.inl ⟨e,hu⟩))
   .rename_i e hu;split at hp;.rename_i n e' lF;cases hp;rw[bO hr];exact .quiet hs (MY ho (.inr ⟨e,e',hu,lF⟩))
    .cases hp
   .cases hp
  .split at hp
   .rename_i e kd ht hu;split at hp
    .rename_i sz AA z x' y' he hz hx' hy';split at hp
     .rename_i hzl;cases hp;obtain⟨zl,hzp,DT⟩:=aV hz;obtain⟨k,hk,hr⟩:=aV hr;split at hr;.rename_i hc;obtain⟨E,hE,rfl⟩:=aQ hr;exact DV hs hfr ho hu ht he hzp DT hzl hx' hy' hk hc.2.1 hc.2.2 hE
      .cases hr
     .cases hp
    .cases hp
   .cases hp
   .rename_i hu;split at hp;.rename_i sz AA x' y' he hx' hy';cases hp;obtain⟨E,hE,rfl⟩:=aQ hr;exact vZ hs hfr ho (.inl ⟨_,hu⟩) he hx' hy' hE
    .cases hp
   .rename_i hu;split at hp;.rename_i sz AA x' y' he hx' hy';cases hp;obtain⟨E,hE,rfl⟩:=aQ hr;exact vZ hs hfr ho (.inr hu) he hx' hy' hE
    .cases hp
   .cases hp
  .split at hp
   .rename_i e hu;split at hp
    .rename_i i x' y' hi hx' hy';split at hp
     .rename_i h0;injection hp with hp;subst hp;simp only[ct.run]at hr;split at hr
      .rename_i lv sl au off n sz' news hq hn;split at hr
       .rename_i cs hb;split at hr;.rename_i hc;obtain⟨rfl,pY,Ox⟩:=hc;injection hr with hr;subst hr;exact KT hs ho hu hi h0 hx' hy' hq hn hb pY (j7 Ox)
        .cases hr
       .cases hr
      .rename_i lv sl au off ln sz' news hq hn;split at hr
       .rename_i els hb;split at hr;.rename_i hc;obtain⟨rfl,pY,Ox⟩:=hc;injection hr with hr;subst hr;exact KS hs ho hu hi h0 hx' hy' hq hn hb pY (j7 Ox)
        .cases hr
       .cases hr
      .cases hr
     .cases hp
    .cases hp
   .cases hp
  .split at hp
   .rename_i e hu;split at hp
    .rename_i sz z x' hsz hz hx';split at hp
     .rename_i hc0;cases hp;obtain⟨zl,hzl,DT⟩:=aV hz;simp[ct.run]at hr;split at hr
      .rename_i lv sl au off ln sz' hq;split at hr
       .rename_i els hb;split at hr;.rename_i hc;obtain⟨rfl,pY,Ox⟩:=hc;cases hr;exact vW hs ho hu hzl DT Ox hc0.2 hx' hq hb pY
        .cases hr
       .cases hr
      .cases hr
     .cases hp
    .cases hp
   .cases hp
  .split at hp
   .rename_i e hu;obtain⟨x',hx',rfl⟩:=aQ hp;simp[ct.run]at hr;split at hr;.rename_i els hq;rw[bO hr];exact .quiet hs (Xj hs ho hu hx' hq)
    .cases hr
   .cases hp
  .split at hp
   .rename_i x' y' hx' hy';cases hp;simp[ct.run]at hr;split at hr
    .rename_i k p k' q hq1 xG;split at hr;.subst_vars;rw[bO hr];exact .quiet hs (abn hs ho hx' hy' hq1 xG)
     .cases hr
    .cases hr
   .cases hp
  .split at hp
   .rename_i x' y' hx' hy';cases hp;simp[ct.run]at hr;split at hr
    .rename_i k p k' q hq1 xG;split at hr;.subst_vars;rw[bO hr];exact .quiet hs (abo hs ho hx' hy' hq1 xG)
     .cases hr
    .cases hr
   .cases hp
  .cases hp
end
end Go.bM
namespace Go.bM
open Go Go.RowKit
section
variable{P:Program}{X:Cx}{nt:NT}{s:St}{a:Act}{o:Oper}{dst:Option Nat}{aT:Nat}
theorem Gn{t:TypeId}{fs:Array Field}{zl:List Value}{pl:List (Nat×Nat)}{it:TypeInfo}{z:Value}(hi:P.info? t=some it)(hz:it.zero=some z)(_h:zl=z.cells.toList)(ht:P.underlying t=some (.struct fs))(hp:FU P fs=some pl)(parts:List (Nat×Value)):P.built t parts=Instr.fill (pl.toArray[·]?) z.cells parts:=by unfold FU at hp;simp[Program.built,hi,ht,hz,hp]
theorem abx{call:Go.bM.Call}{sh:Nat->Bool}{dm:Nat->Option TypeId}(cH:eo P call)(gP:∀f T,dm f=some T->jZ P f T)(hs:fu X nt s a)(hfr:X.ρ aT=none)(BC:aT<s.nv)(hdom:∀v,s.nv<=v->X.ρ v=none){WY:ct}{row d:Nat}{r:gT}(hp:DG P dm o.op=some WY)(hr:WY.run call sh s row d aT=some r):dI P X s a o dst aT r:=by cases ho:o.op with
 |move x=>rw[ho]at hp;obtain⟨x',hx,rfl⟩:=aQ hp;exact Bu hs hfr (by simp[execOp,ho]) hx hr|assign x=>rw[ho]at hp;obtain⟨x',hx,rfl⟩:=aQ hp;exact Bu hs hfr (by simp[execOp,ho]) hx hr|pick c x y=>
  rw[ho]at hp;simp[DG]at hp;split at hp;.rename_i c' x' y' hc hx hy;cases hp;obtain⟨b,hb,hr⟩:=aV hr;rw[bO hr];exact .quiet hs (Xf hs ho hc hx hy hb)
  .cases hp|alloc t=>rw[ho]at hp;obtain⟨z,hz,hp⟩:=aV hp;obtain⟨cs,hcs,rfl⟩:=aQ hp;cases hr;exact Bi hs hfr ho hz hcs|box t x=>
  rw[ho]at hp;obtain⟨x',hx,rfl⟩:=aQ hp;simp only[ct.run]at hr;split at hr;.obtain⟨cs,hcs,rfl⟩:=aQ hr;exact Ri hs hfr ho hx hcs
  .obtain⟨cs,hcs,rfl⟩:=aQ hr;exact Ri hs hfr ho hx hcs|build t ps=>
  rw[ho]at hp;simp only[DG]at hp;split at hp
  .rename_i z fs hz ht;split at hp;.rename_i z' pl Xo hpl;obtain⟨l,hl,rfl⟩:=aQ hp;obtain⟨cs,hcs,hr⟩:=aV hr;rw[bO hr];obtain⟨it,zv,hi,Gc,rfl⟩:=jM hz;exact .quiet hs (H9 hs _ ho Xo (Gn hi Gc rfl ht hpl) hl hcs hi)
   .cases hp
  .rename_i z n e hz ht;split at hp;.rename_i z' sz Xo hsz;obtain⟨l,hl,rfl⟩:=aQ hp;obtain⟨cs,hcs,hr⟩:=aV hr;rw[bO hr];obtain⟨it,zv,hi,Gc,rfl⟩:=jM hz;obtain⟨ie,hie,abj⟩:=fH hsz;refine .quiet hs (H9 hs (λi=>some (i*sz,sz)) ho Xo (λparts=>?_) hl hcs hi);simp[Program.built,hi,ht,Gc,hie,abj]
   .cases hp
  .cases hp|buildSlice t n ps=>
  rw[ho]at hp;simp[DG]at hp;split at hp
  .rename_i e ht;split at hp
   .rename_i sz z l hsz hz hl;split at hp
    .rename_i hc;cases hp;obtain⟨zl,hzl,DT⟩:=aV hz;simp only[ct.run]at hr;split at hr
     .split at hr;.cases hr
      .rename_i hn;obtain⟨cs,hf,rfl⟩:=aQ hr;exact Ie (P:=P) (dst:=dst) (d:=d) hs hfr ho ht hsz hzl DT hl hc.1 hc.2.1 hc.2.2 (beq_false.1 hn) hf
     split at hr;.cases hr
     .rename_i els ks hf;have:=λrd d=>DS (P:=P) (dst:=dst) (rd:=rd) (d:=d) hs hfr ho ht hsz hzl DT hl hc.1 hc.2.1 hc.2.2 hf;split at hr;.cases hr;exact(this _ d).1
      .split at hr;.cases hr
       .rename_i hnk;cases hr;exact(this _ d).2 hnk
    .cases hp
   .cases hp
  .cases hp|insert t m k v=>rw[ho]at hp;cases hp|load t x=>
  rw[ho]at hp;simp[DG]at hp;split at hp
  .rename_i sz agg x' hsz yU hx;split at hp;.rename_i h1;cases hp;obtain⟨cs,hcs,hr⟩:=aV hr;obtain⟨v,hv,rfl⟩:=aQ hr;exact .quiet hs (mG hs ho hsz yU h1 hx hcs hv)
   .cases hp
  .cases hp|store t x v=>
  rw[ho]at hp;simp[DG]at hp;split at hp;.rename_i sz x' v' hsz hx hv;cases hp;obtain⟨e,he,rfl⟩:=aQ hr;exact Rk hs ho hsz hx hv he
  .cases hp|ready g=>rw[ho]at hp;cases hp|waits g=>rw[ho]at hp;cases hp|nilCheck x=>
  rw[ho]at hp;obtain⟨x',hx,rfl⟩:=aQ hp;simp[ct.run]at hr;split at hr;.rename_i lv sl au i off hq;rw[bO hr];exact .quiet hs (su hs ho hx hq (.inl ⟨_,_,_,_,_,rfl⟩))
  .rename_i e off hq;rw[bO hr];exact .quiet hs (su hs ho hx hq (.inr (.inl ⟨_,_,rfl⟩)))
  .rename_i f cs hq;rw[bO hr];exact .quiet hs (su hs ho hx hq (.inr (.inr ⟨_,_,rfl⟩)))
  .cases hr|binOp op t x y u=>
  rw[ho]at hp;simp[DG]at hp;split at hp
  .rename_i x' y' hx hy;have plain:∀{WY:ct},WY=.bin op x' y'->WY.run call sh s row d aT=some r->dI P X s a o dst aT r:=by rintro WY rfl hr;obtain⟨v,hv,hr⟩:=aV hr;rw[bO hr];exact .quiet hs (abg hs ho hx hy hv)
   have cmp:∀(neg:Bool),op=(if neg then .neq else .eql)->MU P op neg t x' y'=some WY->dI P X s a o dst aT r:=by
    intro neg hop hc;have ho':o.op=.binOp (if neg then .neq else .eql) t x y u:=by rw[ho,hop]
    unfold MU at hc;split at hc
    .rename_i hu;cases hc;simp[ct.run]at hr;split at hr;.rename_i p q hp hq;rw[bO hr];exact .quiet hs (abh hs ho' hu hx hy hp hq)
     .cases hr
    .simp_all
    .simp_all
    .cases hc;simp[ct.run]at hr
    .rename_i ms hu;split at hc
     .cases hc;simp[ct.run]at hr;split at hr;.rename_i hq;rw[bO hr];exact .quiet hs ((H8 hs ho' hu hx hy).1 hq)
      .rename_i hq;rw[bO hr];exact .quiet hs ((H8 hs ho' hu hx hy).2 hq)
      .cases hr
     .cases hc
    .rename_i fs hu;split at hc;.cases hc
     .rename_i hg;split at hc
      .rename_i l sz hl hsz;cases hc;simp[ct.run]at hr;split at hr
       .rename_i xs ys hxs hys;split at hr;.cases hr
        .rename_i hlen;obtain⟨h3,h4⟩:=rh.1 hlen;obtain⟨b,hb,hr⟩:=aV hr;rw[bO hr];exact .quiet hs (Rc hs ho' hu (by simpa using hg) hl hsz hx hy hxs hys (Classical.byContradiction h3) (Classical.byContradiction h4) hb)
       .cases hr
      .cases hc
    .cases hc
   split at hp;.exact cmp false rfl hp
   .exact cmp true rfl hp
   .simp_all
  .cases hp|unOp op t x=>rw[ho]at hp;obtain⟨x',hx,rfl⟩:=aQ hp;obtain⟨v,hv,hr⟩:=aV hr;rw[bO hr];exact .quiet hs (afJ hs ho hx hv)|convert src ds x=>
  rw[ho]at hp;simp[DG]at hp;split at hp;.rename_i dsc k hsrc hds;obtain⟨x',hx,rfl⟩:=aQ hp;obtain⟨n,hn,hr⟩:=aV hr;rw[bO hr];exact .quiet hs (Xi hs ho hds (by rw[hsrc];rfl) hx hn)
  .rename_i e hsrc hds;split at hp;.rename_i he8;obtain⟨x',hx,rfl⟩:=aQ hp;obtain⟨els,hel,hr⟩:=aV hr;obtain⟨l,hl,hr⟩:=aQ hr;subst hr;exact .quiet hs (abp hs ho hsrc he8 hds hx hel hl)
   .cases hp
  .rename_i e hsrc hds;split at hp
   .rename_i he8;obtain⟨x',hx,rfl⟩:=aQ hp;simp[ct.run]at hr;split at hr;.rename_i b hb;rw[bO hr];exact abq hs hfr ho hsrc hds he8 hx hb
    .cases hr
   .cases hp
  .cases hp|sliceToArrayPointer t x=>rw[ho]at hp;cases hp|makeInterface t x=>rw[ho]at hp;cases hp;simp[ct.run]at hr|makeFunc fn first cap=>
  rw[ho]at hp;simp only[DG]at hp;split at hp
  .split at hp
   .rename_i h0;obtain⟨cap',hcap,rfl⟩:=aQ hp;simp at h0;subst h0;simp only[ct.run]at hr;split at hr;.rename_i hall;rw[bO hr];exact .quiet hs (yW hs ho hcap hall)
    .cases hr
   .cases hp
  .cases hp|makeMap t x=>cases x with|some _=>rw[ho]at hp;cases hp|none=>
   rw[ho]at hp;simp[DG]at hp;split at hp
   .split at hp;.cases hp;cases hr;exact Rp hs hfr ho
    .cases hp
   .cases hp
 |makeChan t x=>rw[ho]at hp;cases hp|makeSlice t l c=>
  rw[ho]at hp;simp[DG]at hp;split at hp
  .rename_i e ht;split at hp
   .rename_i i z l' c' hi hz hl hc;split at hp
    .rename_i h0;cases hp;obtain⟨zl,hzl,DT⟩:=aV hz;simp[ct.run]at hr;split at hr
     .rename_i ln cn hln hcn;split at hr;.rename_i EB;cases hr;exact Gd hs hfr ho ht hi hzl DT EB.2.2.2 h0 hl hc hln hcn EB.1 EB.2.1 EB.2.2.1
      .cases hr
     .cases hr
    .cases hp
   .cases hp
  .cases hp|slice t x lo hi mx=>
  rw[ho]at hp;simp[DG]at hp;split at hp
  .rename_i e ht;split at hp
   .rename_i sz x' lo' hi' DI hsz hx hlo hhi Rf;split at hp;.cases hp
    .rename_i h0;cases hp;have c4:DI.isSome=true->hi'.isSome=true:=by intro h;cases hi' with|some _=>rfl|none=>exact absurd (.inr ⟨h,rfl⟩) h0
     simp[ct.run]at hr;split at hr
     .rename_i l h k bl bh bk;split at hr;.rename_i hq;rw[am,am]at hq;obtain⟨E,hE,hr⟩:=aQ hr;subst hr;exact OK hs hfr ho ht hsz hx hlo hhi Rf bl bh bk hq.2.1 hE
      .obtain⟨v,hv,hr⟩:=aV hr;rw[bO hr];exact .quiet hs (Rg hs ho ht hsz hx hlo hhi Rf bl bh bk c4 hv)
     .cases hr
   .cases hp
  .rename_i n e ht;split at hp
   .rename_i sz x' hsz hx;split at hp;.cases hp
    .rename_i h0;cases hp;simp[ct.run]at hr;split at hr
     .rename_i lv sl au i off hq;split at hr;.rename_i Xv;have Xv:=beq_true.1 Xv;subst Xv;rw[bO hr];exact .quiet hs (On hs ho ht hsz h0 hx hq)
      .cases hr
     .cases hr
   .rename_i k sz x' hsz hx;split at hp
    .rename_i h0;cases hp;simp[ct.run]at hr;split at hr
     .rename_i lv sl au i off hq;split at hr;.rename_i Xv;rw[am]at Xv;have hi1:=beq_true.1 Xv.1;subst hi1;rw[bO hr];exact .quiet hs (Oo hs ho ht hsz h0 (by simpa[Nat.blt_eq]using Xv.2) hx hq)
      .cases hr
     .cases hr
    .cases hp
   .cases hp
  .rename_i ht;split at hp
   .rename_i x' lo' hi' hx hlo hhi;cases hp;simp[ct.run]at hr;split at hr
    .rename_i b hq;split at hr
     .rename_i l h bl bh;split at hr;.rename_i hc;rw[bO hr];exact .quiet hs (Oq hs ho ht hx hlo hhi hq bl bh hc.1 hc.2)
      .cases hr
     .cases hr
    .cases hr
   .cases hp
  .cases hp|fieldAddr t x f=>
  rw[ho]at hp;simp[DG]at hp;split at hp
  .rename_i fs ht;split at hp
   .rename_i fl hfl;split at hp
    .rename_i sz x' hsz hx;split at hp;.cases hp
     .rename_i h0;cases hp;simp[ct.run]at hr;split at hr;.rename_i lv sl au i off hq;rw[bO hr];exact .quiet hs (vN hs ho ht hfl hsz h0 hx (.inl ⟨_,_,_,_,_,hq,rfl⟩))
      .rename_i e off hq;rw[bO hr];exact .quiet hs (vN hs ho ht hfl hsz h0 hx (.inr ⟨_,_,hq,rfl⟩))
      .cases hr
    .cases hp
   .cases hp
  .cases hp|field t x f=>
  rw[ho]at hp;simp[DG]at hp;split at hp
  .rename_i fs ht;split at hp
   .rename_i fl hfl;split at hp
    .rename_i sz agg x' hsz yU hx;split at hp
     .rename_i h1;cases hp;simp[ct.run]at hr;split at hr
      .rename_i cs hq;split at hr;.rename_i hle;obtain⟨v,hv,hr⟩:=aV hr;rw[bO hr];exact .quiet hs (Re hs ho ht hfl hsz yU h1 hx hq hle hv)
       .cases hr
      .cases hr
     .cases hp
    .cases hp
   .cases hp
  .cases hp|indexAddr t x i=>
  rw[ho]at hp;simp[DG]at hp;split at hp
  .rename_i e ht;split at hp
   .rename_i sz x' i' hsz hx hi;split at hp;.cases hp
    .cases hp;obtain⟨n,hn,hr'⟩:=aV hr;clear hr;have hr:=hr';split at hr
     .rename_i els hq;split at hr
      .rename_i el hel;split at hr;.rename_i hlen;rw[bO hr];exact .quiet hs (nR hs ho ht hsz hx hi hn (.inl ⟨els,el,.inl hq,hel,hlen,rfl⟩))
       .cases hr
      .cases hr
     .rename_i els ow hq;split at hr
      .rename_i el hel;split at hr;.rename_i hlen;rw[bO hr];exact .quiet hs (nR hs ho ht hsz hx hi hn (.inl ⟨els,el,.inr ⟨_,hq⟩,hel,hlen,rfl⟩))
       .cases hr
      .cases hr
     .rename_i lv sl au off ln sz' hq;split at hr;.rename_i hc;obtain⟨hc1,rfl⟩:=hc;rw[bO hr];exact .quiet hs (nR hs ho ht hsz hx hi hn (.inr (.inl ⟨_,_,_,_,_,hq,hc1,rfl⟩)))
      .cases hr
     .rename_i lv sl au off ln sz' hq;split at hr;.rename_i hc;obtain⟨hc1,rfl⟩:=hc;rw[bO hr];exact .quiet hs (nR hs ho ht hsz hx hi hn (.inr (.inr ⟨_,_,_,_,_,hq,hc1,rfl⟩)))
      .cases hr
     .cases hr
   .cases hp
  .rename_i n e ht;split at hp
   .rename_i sz x' i' hsz hx hi;cases hp;obtain⟨k,hk,hr⟩:=aV hr;split at hr
    .rename_i hkn;split at hr;.rename_i lv sl au j off hq;rw[bO hr];exact .quiet hs (yV hs ho ht hsz hx hi hk hkn (.inl ⟨_,_,_,_,_,hq,rfl⟩))
     .rename_i e off hq;rw[bO hr];exact .quiet hs (yV hs ho ht hsz hx hi hk hkn (.inr ⟨_,_,hq,rfl⟩))
     .cases hr
    .cases hr
   .cases hp
  .cases hp|index t x i=>
  rw[ho]at hp;simp[DG]at hp;split at hp
  .rename_i n e ht;split at hp
   .rename_i sz agg x' i' hsz yU hx hi;split at hp
    .rename_i h1;cases hp;obtain⟨k,hk,hr⟩:=aV hr;split at hr
     .rename_i cs hq;split at hr;.rename_i hc;obtain⟨v,hv,hr⟩:=aV hr;rw[bO hr];exact .quiet hs (Ol hs ho ht hsz yU h1 hx hi hq hk hc.1 hc.2 hv)
      .cases hr
     .cases hr
    .cases hp
   .cases hp
  .rename_i ht;split at hp
   .rename_i x' i' hx hi;cases hp;obtain⟨k,hk,hr⟩:=aV hr;split at hr
    .rename_i b hq;split at hr;.rename_i c hc;rw[bO hr];exact .quiet hs (Om hs ho ht hx hi hq hk hc)
     .cases hr
    .cases hr
   .cases hp
  .cases hp|lookup t x k b=>cases b with|true=>rw[ho]at hp;cases hp|false=>
   rw[ho]at hp;simp[DG]at hp;split at hp
   .rename_i kt et ht;split at hp
    .rename_i m' x' hk hz hm hx;cases hp;simp[ct.run]at hr;split at hr;.rename_i lv sl au b h1 h2;obtain⟨ks,h3,hr⟩:=aQ hr;subst hr;exact .quiet hs (Xp hs ho ht hk hz hm hx h1 h2 h3)
     .cases hr
    .cases hp
   .cases hp
 |mapUpdate t m k v=>
  rw[ho]at hp;simp[DG]at hp;split at hp
  .rename_i kt et ht;split at hp
   .rename_i m' x' hk hm hx;cases hp;simp[ct.run]at hr;split at hr;.rename_i lv sl au b h1 h2;obtain⟨ks,h3,hr⟩:=aQ hr;subst hr;exact Xq hs ho ht hk hm hx h1 h2 h3
    .cases hr
   .cases hp
  .cases hp|mapEntry t m k=>rw[ho]at hp;cases hp|entryStore t m k v=>rw[ho]at hp;cases hp|range t x=>rw[ho]at hp;cases hp|next x b=>rw[ho]at hp;cases hp|entry x=>rw[ho]at hp;cases hp|typeAssert x t u b=>rw[ho]at hp;cases hp|extract x i=>
  rw[ho]at hp;obtain⟨x',hx,rfl⟩:=aQ hp;simp[ct.run]at hr;split at hr;.rename_i vs hq;obtain⟨v,hv,hr⟩:=aV hr;rw[bO hr];exact .quiet hs (KM hs ho hx hq hv)
  .cases hr|call c=>rw[ho]at hp;exact RA cH gP hs hfr BC hdom ho hp hr|go c=>rw[ho]at hp;cases hp|defer c=>rw[ho]at hp;cases hp|panic x=>rw[ho]at hp;cases hp;simp[ct.run]at hr|send c x=>rw[ho]at hp;cases hp|recv t c b=>rw[ho]at hp;cases hp|select cs b=>rw[ho]at hp;cases hp
end
end Go.bM
