/- A part of the proof: EngK, EngL. -/
import Derived.Test.YtkdilffhbejjaaaGreatEngJ
set_option linter.unusedVariables false
set_option linter.unusedSimpArgs false
namespace Go.bM
open Go Go.RowKit
section
variable{P:Program}{X:Cx}{nt:NT}{s:St}{a:Act}{o:Oper}{dst:Option Nat}{aT:Nat}
theorem Rl{X:Cx}{m:List (Tr bH)}{t:Tr Unit}{v:Nat}(h:aH X m (t.set v (some ()))):aH X m t:=h.less (λ_ _ _ h=>h) λu hu=>by rw[Tr.cy]<;>grind
theorem DS(hs:fu X nt s a)(hfr:X.ρ aT=none){t e:TypeId}{n sz d:Nat}{ps:Array (Nat×Operand)}{z:List D}{zl:List Value}{l:List (Nat×cc)}{els:List (List D)}{ks:List (Nat×Nat)}{rd:List (Nat×Nat×Nat)}(ho:o.op=.buildSlice t n ps)(ht:P.underlying t=some (.slice e))(hsz:dB P e=some sz)(hz:og P e=some zl)(DT:jJ zl=some z)(hl:oT ps.toList=some l)(DJ:n*sz<=16777216)(hzl:z.length=sz)(h0:0<sz)(hf:p6 s.mem s.slots sz (List.replicate n z) l=some (els,ks)):dI P X s a o dst aT (.ck {val:=.own els .full,di:=ew s.mem ks,cK:=[],rd})/\((s.mem.length-1,d)∉ks->dI P X s a o dst aT (.ck {val:=.ref (s.mem.length-1) d aT 0 n sz,di:=ew s.mem ks++[(s.mem.length-1,d,some (.row aT els))],cK:=[],rd})):=by
 obtain⟨i,zv,hi,Gc,rfl⟩:=jM hz;obtain⟨i',hi',Zz⟩:=fH hsz;rw[hi]at hi';simp_all;have hZ:aE (DR X.w (X.mN s.mem ks).F) z zv.cells.toList:=lQ DT;have uR:=jj hZ hzl h0 n (n*sz) (bc _);rw[pN]at uR;obtain⟨C',h1,h2,h3,h4⟩:=Ic hs ps.toList l _ els ks (madeCells zv.cells (n*sz)) hl (λe he=>by rw[(pB.1 he).2];exact hzl) uR hf λp hp=>hp;have hrun:=sy (P:=P) (X:=X) ho ht hi Zz Gc DJ h1;have DQ:=F2 hs.mem ks;have hx1:=qO hs.mem ks;have hen:els.length=n:=by grind
 have hC:C'.size=n*sz:=by rw[<-hen,<-bu h3,h2.length,ft]
 refine⟨?_,λhnk=>?_⟩
 .have nt:=M1 (X:=X.mN s.mem ks) DQ (C:=C') (e:=e) (v:=aT) (els:=els) (sz:=sz) (cap:=n) (vs:=C'.toList) hfr h3 (by omega) (by omega) (λj u hj=>by simpa using hj) h2;obtain⟨g1,g2,g3,g4⟩:=nt;refine .value hrun (hx1.trans g1) ⟨some ⟨X.w.heap.size,0,none⟩,X.w.heap.size,0,sz,?_,λ_=>rfl,g3⟩ (Rl g2) ⟨bc _,λv L h=>?_⟩;.rw[hen]
  .rcases g4.2 v L h with h|h|h;.exact .inl h
   .grind
   .omega
 .have nr:=Gb (X:=X.mN s.mem ks) DQ (C:=C') (e:=e) (v:=aT) (els:=els) (sz:=sz) (cap:=n) (vs:=C'.toList) (s.mem.length-1) d hfr h3 (by omega) (by omega) (λj u hj=>by simpa using hj) h2;refine .value (Y:=(X.mN s.mem ks).alloc C' e aT ⟨X.w.heap.size,0,sz,n⟩) hrun (hx1.trans (Ext.alloc DQ.p7 DQ.low hfr)) ⟨⟨X.w.heap.size,0,sz,n⟩,some ⟨X.w.heap.size,0,none⟩,n,vS _ _ _ _ _,rfl,rfl,bc _,λ_=>⟨by simp,by simp⟩⟩ ?_ (nZ (X:=X.mN s.mem ks));show aH _ (bF s.mem (ew s.mem ks++_)) s.aK;rw[j8];exact nr
theorem vU{sz:Nat}:∀{ps:List (Nat×Operand)}{l:List (Nat×cc)},oT ps=some l->sr (λi=>some (i*sz,sz)) ps=some (l.map λp=>(p.1*sz,sz,p.2))
 |[],l,h=>by cases h;rfl|(i,x)::r,l,h=>by
  simp[oT]at h;split at h;.rename_i y ys h1 h2;cases h;simp[sr,h1,vU h2,fj]
  grind
theorem aE.abm{X:Cx}:∀{ds:List D}{vs:List Value},aE (DR X.w X.F) ds vs->aE (VC X) (ds.map .d) vs|[],[],_=>trivial|_::_,_::_,h=>⟨h.1,aE.abm h.2⟩|[],_::_,h=>h.elim|_::_,[],h=>h.elim
theorem Ie(hs:fu X nt s a)(hfr:X.ρ aT=none){t e:TypeId}{n sz d:Nat}{ps:Array (Nat×Operand)}{z:List D}{zl:List Value}{l:List (Nat×cc)}{cs:List AV}{rd:List (Nat×Nat×Nat)}(ho:o.op=.buildSlice t n ps)(ht:P.underlying t=some (.slice e))(hsz:dB P e=some sz)(hz:og P e=some zl)(DT:jJ zl=some z)(hl:oT ps.toList=some l)(DJ:n*sz<=16777216)(hzl:z.length=sz)(h0:0<sz)(hn:n≠0)(hf:p5 s.slots ((List.replicate n z).flatten.map .d) (l.map λp=>(p.1*sz,sz,p.2))=some cs):dI P X s a o dst aT (.ck {val:=.fF (s.mem.length-1) d aT 0 n sz,di:=[(s.mem.length-1,d,some (.box aT cs))],cK:=[],rd}):=by obtain⟨i,zv,hi,Gc,rfl⟩:=jM hz;obtain⟨i',hi',Zz⟩:=fH hsz;rw[hi]at hi';cases hi';have hZ:aE (DR X.w X.F) z zv.cells.toList:=lQ DT;have uR:=jj hZ hzl h0 n (n*sz) (bc _);rw[pN]at uR;obtain⟨C',h1,h2⟩:=Bf hs (λi=>some (i*sz,sz)) ps.toList _ _ cs (madeCells zv.cells (n*sz)) (vU hl) uR.abm hf;have hrun:=sy (P:=P) (X:=X) ho ht hi Zz Gc DJ h1;exact .value (Y:=X.alloc C' e aT ⟨X.w.heap.size,0,C'.size,1⟩) hrun (Ext.alloc hs.mem.p7 hs.mem.low hfr) ⟨_,vS _ _ _ _ _,by simp,by omega⟩ (M0 hs.mem _ _ hfr h2) nZ
theorem Gd(hs:fu X nt s a)(hfr:X.ρ aT=none){t e:TypeId}{l c d:Nat}{i:TypeInfo}{ln cp:Operand}{ln' cp':cc}{z:List D}{zl:List Value}{rd:List (Nat×Nat×Nat)}(ho:o.op=.makeSlice t ln cp)(ht:P.underlying t=some (.slice e))(hi:P.info? e=some i)(hz:og P e=some zl)(DT:jJ zl=some z)(hzl:z.length=i.size)(h0:0<i.size)(hln:dh ln=some ln')(hcp:dh cp=some cp')(hl:gz (ln'.ev s.slots)=some l)(hc:gz (cp'.ev s.slots)=some c)(hlc:l<=c)(hby:i.bytes*c<=ku)(h63:c<=fm):dI P X s a o dst aT (.ck {val:=.ref (s.mem.length-1) d aT 0 l i.size,di:=[(s.mem.length-1,d,some (.row aT (List.replicate l z)))],cK:=[],rd}):=by
 obtain⟨i',zv,hi',Gc,rfl⟩:=jM hz;rw[hi]at hi';cases hi';obtain⟨kl,hle⟩:=kA hl (bB hs hln);obtain⟨kc,hce⟩:=kA hc (bB hs hcp);have hr:=run_make (P:=P) X.w t e i zv ht hi Gc kl kc l c (by omega) (by omega) (by
  have:((i.bytes*c:Nat):Int)<=281474976710656:=by unfold ku at hby;omega
  rwa[wc]at this) (by unfold fm at h63;omega);have hZ:aE (DR X.w X.F) z zv.cells.toList:=lQ DT;have uR:=jj hZ hzl h0 l (c*i.size) (dE _ hlc);have nr:=Gb hs.mem (C:=madeCells zv.cells (c*i.size)) (e:=e) (v:=aT) (els:=List.replicate l z) (sz:=i.size) (cap:=c) (s.mem.length-1) d hfr (λe he=>by rw[(pB.1 he).2];exact hzl) (by simp[madeCells]) (by simpa using hlc) (vs:=(madeCells zv.cells (c*i.size)).toList.take (l*i.size)) (λj u hj=>by
   rw[fx]at hj;split at hj;.simpa using hj
   .cases hj) uR;refine .value (Y:=X.alloc (madeCells zv.cells (c*i.size)) e aT ⟨X.w.heap.size,0,i.size,c⟩) ?_ (Ext.alloc hs.mem.p7 hs.mem.low hfr) ⟨⟨X.w.heap.size,0,i.size,c⟩,some ⟨X.w.heap.size,0,none⟩,c,vS _ _ _ _ _,rfl,rfl,hlc,λ_=>⟨by simp,by simp⟩⟩ nr nZ;simp[execOp,ho,hle,hce,hr];rfl
theorem AE{X:Cx}{m:List (Tr bH)}{t:Tr Unit}(h:aH X m t){y:AV}{news:List (List D)}{v:Value}{sz:Nat}(he:gB m y=some news)(hv:VR X y v)(hl:∀e∈news,e.length=sz)(h0:0<sz):∃vs:List Value,aE (DR X.w X.F) news.flatten vs/\(∀w:World,(Builtin.lenOf v).run P w=.ok news.length w)/\(∀w:World,(∀b o,w.cell? ⟨b,o,none⟩=X.w.cell? ⟨b,o,none⟩)->∀n,n<=news.length->(Builtin.firstCells sz n v).run P w=.ok (vs.take (n*sz)).toArray w):=by
 have data:∀els,dG m y=some els->els=news->∃vs:List Value,aE (DR X.w X.F) news.flatten vs/\(∀w:World,(Builtin.lenOf v).run P w=.ok news.length w)/\(∀w:World,(∀b o,w.cell? ⟨b,o,none⟩=X.w.cell? ⟨b,o,none⟩)->∀n,n<=news.length->(Builtin.firstCells sz n v).run P w=.ok (vs.take (n*sz)).toArray w):=by
  rintro els he' rfl;have he:=he';obtain⟨ad,cap,sz',b,o,rfl,h2,h3,h4⟩:=sw h he hv;obtain⟨vs,h5,h6⟩:=vQ h4;refine⟨vs,h6,λw=>rfl,λw hw n hn=>?_⟩;by_cases hz:els.length=0
  .have hn:n=0:=by omega
   subst hn;cases ad with|none=>simp[Builtin.firstCells]|some ad=>simp[Builtin.firstCells,loadCells,loadCellsFrom]
  .have hlt:0<els.length:=by omega
   have:=h3 hlt;subst this;have hs':sz'=sz:=by have hm:=f2 hlt;rw[<-h4.1 _ hm,hl _ hm]
   subst hs';have hlen:(vs.take (n*sz')).length=n*sz':=by
    have:vs.length=els.length*sz':=by rw[<-h6.length,bu hl]
    simp_all
   have:=run_loadCells_list (P:=P) w ⟨b,o,none⟩ (vs.take (n*sz')) λj u hj=>by
    rw[Addr.add_lit,hw];rw[fx]at hj;split at hj;.exact h5 j u hj
    .cases hj
   rw[hlen]at this;simpa[Builtin.firstCells]using this
 unfold gB at he;split at he
 .rename_i bs;simp_all;have hv:=hv.sc;subst hv;have hlen:news.length=bs.size:=by rw[<-he];simp
  refine⟨bs.data.toList.map λc=>.int .u8 c.toNat,?_,λw=>by rw[hlen];rfl,λw _ n hn=>?_⟩;.rw[<-he];generalize bs.data.toList=l;induction l with|nil=>trivial|cons c l ih=>exact⟨DR.sc _ rfl,ih⟩
  .by_cases hz:news.length=0
   .have hn:n=0:=by omega
    subst hn;simp[Builtin.firstCells]
   .have hs1:sz=1:=by
     have hlt:0<news.length:=by omega
     have h1:=hl _ (f2 hlt)<;>grind
    simp[Builtin.firstCells,Sem.run_pure,pv]<;>grind
 grind
end
end Go.bM
namespace Go.bM
open Go Go.RowKit
section
variable{P:Program}
def Ge(P:Program)(u:TypeId):Prop:=(∃e,P.underlying u=some (.slice e))\/P.underlying u=some .string
inductive Src(P:Program)(u:TypeId)(i:TypeInfo)(w:World)(y:Value)(m:Nat)(new:List Value):Prop|val(hu:Ge P u)(hl:(Builtin.lenOf y).run P w=.ok m w)(hf:(Builtin.firstCells i.size m y).run P w=.ok new.toArray w)(hf':(Builtin.firstCells i.size m y).run P w.drew=.ok new.toArray w.drew)|zero(k k':IntKind)(z:Value)(hu:P.underlying u=some (.int k))(hz:i.zero=some z)(hzs:z.cells.size=i.size)(hy:y=.int k' m)(h63:m<=fm)(hby:m*i.bytes<=ku)(hn:new=(Builtin.zeroCells z.cells m).toList)
theorem Ig{m:Nat}(h:m<=fm):IntKind.i64.wrap (m:Int)=m:=by unfold fm at h;rw[IntKind.wrap_i64];omega
theorem kB{t u ty e:TypeId}{i:TypeInfo}{w:World}{ad:Option Addr}{n cap m:Nat}{y:Value}{new:List Value}(ht:P.underlying t=some (.slice e))(hs:Src P u i w y m new)(hi:P.info? e=some i)(hroom:n+m<=cap):(Builtin.append_ #[t,u] ty #[.slice ad n cap,y]).run P w=match ad with
   |some a=>((storeCells (a.add (n*i.size)) new).run P w).andThen λ_ w'=>.ok (.slice ad (n+m) cap) w'
   |none=>.ok (.slice none (n+m) cap) w:=by cases hs with|val hu hl hf=>
  rcases hu with⟨e',hd⟩|hd;.cases ad<;>simp[Builtin.append_,run_underlying ht,run_underlying hd,sizeOf,typeInfo,hi,hl,hroom,hf]
  .cases ad<;>simp[Builtin.append_,run_underlying ht,run_underlying hd,sizeOf,typeInfo,hi,hl,hroom,hf]|zero k k' z hu hz hzs hy h63 hby hn=>
  subst hy hn;have hw:=Ig h63;have h0:¬((m:Int)<0):=by omega
  have h48:¬(281474976710656<((m:Int)*i.bytes)):=by rw[<-wc];unfold ku at hby;omega
  by_cases WW:m*i.size=0
  .have hc:Builtin.zeroCells z.cells m=#[]:=by
    have:m*z.cells.size=0:=by rw[hzs];exact WW
    simp[Builtin.zeroCells,this]
   cases ad<;>simp[Builtin.append_,run_underlying ht,run_underlying hu,sizeOf,typeInfo,hi,asInt,asIntOf,hw,h0,h48,WW,hroom,hc]
  .cases ad<;>simp[Builtin.append_,run_underlying ht,run_underlying hu,sizeOf,typeInfo,zeroValue,hi,hz,asInt,asIntOf,hw,h0,h48,WW,hroom]
theorem Ih{t u ty e:TypeId}{i:TypeInfo}{z:Value}{w:World}{ad:Option Addr}{n cap m:Nat}{y:Value}{old new:List Value}(ht:P.underlying t=some (.slice e))(hs:Src P u i w y m new)(hi:P.info? e=some i)(hz:i.zero=some z)(ho:(Builtin.firstCells i.size n (.slice ad n cap)).run P w.drew=.ok old.toArray w.drew)(hgrow:cap<n+m)(h63:n+m<=fm)(hby:(n+m)*i.bytes<=ku):(Builtin.append_ #[t,u] ty #[.slice ad n cap,y]).run P w=.ok (.slice (some ⟨w.heap.size,0,none⟩) (n+m) (grownCap w (n+m) cap e)) (w.drew.alloc (.cells (old.toArray++new.toArray++Builtin.zeroCells z.cells (grownCap w (n+m) cap e-(n+m))) e)):=by
 have hn:¬(n+m<=cap):=by omega
 have h63':¬(9223372036854775807<((n:Int)+(m:Int))):=by grind[ku,fm]
 have Xm:¬(281474976710656<Builtin.nextslicecap (n+m) cap*i.bytes):=by have:=growslice_fits (need:=n+m) (old:=cap) (bytes:=i.bytes) hgrow (by unfold ku at hby;omega);omega
 cases hs with|val hu hl _ hf=>
  rcases hu with⟨e',hd⟩|hd;.simp[Builtin.append_,run_underlying ht,sizeOf,typeInfo,zeroValue,hi,hz,run_underlying hd,hl,hn,h63',Xm,Question.forced,ho,hf,newRow,grownCap];congr 2;apply Array.ext';simp
  .simp[Builtin.append_,run_underlying ht,sizeOf,typeInfo,zeroValue,hi,hz,run_underlying hd,hl,hn,h63',Xm,Question.forced,ho,hf,newRow,grownCap];congr 2;apply Array.ext';simp|zero k k' z' hu KO hzs hy aml amm hnew=>
  rw[hz]at KO;injection KO with KO;subst KO;subst hy hnew;have hw:=Ig aml;have h0:¬((m:Int)<0):=by omega
  have h48:¬(281474976710656<((m:Int)*i.bytes)):=by rw[<-wc];unfold ku at amm;omega
  by_cases WW:m*i.size=0
  .have hc:Builtin.zeroCells z.cells m=#[]:=by
    have:m*z.cells.size=0:=by rw[hzs];exact WW
    simp[Builtin.zeroCells,this]
   simp[Builtin.append_,run_underlying ht,run_underlying hu,sizeOf,typeInfo,zeroValue,hi,hz,asInt,asIntOf,hw,h0,h48,hc,hn,h63',Xm,Question.forced,ho,newRow,grownCap]
  .simp[Builtin.append_,run_underlying ht,run_underlying hu,sizeOf,typeInfo,zeroValue,hi,hz,asInt,asIntOf,hw,h0,h48,WW,hn,h63',Xm,Question.forced,ho,newRow,grownCap]
variable{X:Cx}{nt:NT}{s:St}{a:Act}{o:Oper}{dst:Option Nat}{aT:Nat}
def Cx.name(X:Cx)(v:Nat)(L:Loc):Cx:={X with ρ:=λu=>if u=v then some L else X.ρ u}
theorem ez{X:Cx}{v:Nat}{L:Loc}(hv:X.ρ v=none):Ext X (X.name v L):=⟨rfl,eY.refl _ _,λ_ _ h=>h,λ_ _ _=>rfl,λu M hu=>by grind[Cx.name],λ_ _ h=>.inl h⟩
theorem gI{X:Cx}{m:List (Tr bH)}{t:Tr Unit}{v:Nat}{L:Loc}(h:aH X m t)(hv:X.ρ v=none):aH (X.name v L) m t:=h.move (ez hv) (λ_ _ _ _ _ _=>rfl) (λ_ _ _ _ _ _ _ h=>h) h.p7
theorem eT{X:Cx}{v:Nat}{L:Loc}:(X.name v L).ρ v=some L:=bb rfl
theorem iP{X:Cx}{v n:Nat}{L:Loc}:fL X (X.name v L) v n n:=⟨bc _,λu M h=>by grind[Cx.name]⟩
def Cx.drew(X:Cx):Cx:={X with w:=X.w.drew}
theorem qa{X:Cx}:Ext X X.drew:=⟨rfl,(eY.refl _ _).drew,λ_ _ h=>h,λ_ _ _=>rfl,λ_ _ h=>h,λ_ _ h=>.inl h⟩
theorem Bl{X:Cx}{m:List (Tr bH)}{t:Tr Unit}(h:aH X m t):aH X.drew m t:=h.move qa (λ_ _ _ _ _ _=>rfl) (λ_ _ _ _ _ _ _ h=>h) h.p7
theorem yX{x y:Operand}{t u:TypeId}{v:Value}{w:World}(ho:o.op=.call {callee:=.builtin .append,args:=#[x,y],argTypes:=#[t,u]})(hr:(Builtin.append_ #[t,u] o.type #[a.eval x,a.eval y]).run P X.w=.ok v w):(execOp a.eval o).run P X.w=.ok (.value v) w:=by simp[execOp,ho,resolve,invoke,builtin,hr]
theorem Ii{old new:List Value}{Z:Array Value}{k:Nat}(j:Nat)(v:Value)(h:(old++new)[j]?=some v):(old.toArray++new.toArray++Builtin.zeroCells Z k)[j]?=some v:=by grind
theorem KP{old new:List Value}{Z:Array Value}{n m k sz:Nat}(h1:old.length=n*sz)(h2:new.length=m*sz)(hZ:Z.size=sz)(hk:n+m<=k):k*sz<=(old.toArray++new.toArray++Builtin.zeroCells Z (k-(n+m))).size:=by simp[Array.size_append,List.size_toArray,size_zeroCells,hZ,h1,h2,<-d6]<;>grind
theorem oo{els:List (List D)}{b off sz sz' n cap:Nat}{ad:Option Addr}{w:World}(hw:∀b o,w.cell? ⟨b,o,none⟩=X.w.cell? ⟨b,o,none⟩){R:Nat->Nat->Prop}(h:eS X.w X.F R els b off sz')(hsz:∀e∈els,e.length=sz)(hn:els.length=n)(had:0<n->ad=some ⟨b,off,none⟩):∃old:List Value,(Builtin.firstCells sz n (.slice ad n cap)).run P w=.ok old.toArray w/\aE (DR X.w X.F) els.flatten old:=by
 obtain⟨vs,h1,h2⟩:=vQ h;refine⟨vs,?_,h2⟩;have hlen:vs.length=n*sz:=by rw[<-h2.length,bu hsz,hn]
 by_cases h0:n=0;.subst h0;have:vs=[]:=d8 (by simpa using hlen);subst this;cases ad with|none=>simp[Builtin.firstCells]|some ad=>simp[Builtin.firstCells,loadCells,loadCellsFrom]
 .have:=had (by omega);subst this;have:=run_loadCells_list (P:=P) w ⟨b,off,none⟩ vs λj u hj=>by rw[Addr.add_lit,hw];exact h1 j u hj
  rw[hlen]at this;simpa[Builtin.firstCells]using this
def Bm(P:Program)(X:Cx)(s:St)(t u ty:TypeId)(xv yv:Value)(aT n:Nat)(e:fT):Prop:=∃Y v,(Builtin.append_ #[t,u] ty #[xv,yv]).run P X.w=.ok v Y.w/\Ext X Y/\VR Y e.val v/\aH Y (bF s.mem e.di) (eu s.aK e.cK)/\fL X Y aT n n
theorem Ov{X:Cx}{m:List (Tr bH)}{t:Tr Unit}(h:aH X m t){v:Nat}{L:Loc}(hL:X.ρ v=some L)(h0:L.cap=0):aH X m (t.set v (some ())):=h.Xb hL (λhc=>by omega) λ_ _ _ _ _ _ _ hc=>by omega
theorem uS{t u ty e:TypeId}{i:TypeInfo}{z:Value}{ad:Option Addr}{cap:Nat}{yv:Value}{els news:List (List D)}{old new:List Value}(ht:P.underlying t=some (.slice e))(hs:Src P u i X.w yv news.length new)(hi:P.info? e=some i)(hz:i.zero=some z)(hzs:z.cells.size=i.size)(ho:(Builtin.firstCells i.size els.length (.slice ad els.length cap)).run P X.w.drew=.ok old.toArray X.w.drew)(hgrow:cap<els.length+news.length)(h63:els.length+news.length<=fm)(hby:(els.length+news.length)*i.bytes<=ku)(WX:aE (DR X.w X.F) els.flatten old)(Gf:aE (DR X.w X.F) news.flatten new)(hel:∀e∈els,e.length=i.size)(hnl:∀e∈news,e.length=i.size):∃C G,els.length+news.length<=G/\(Builtin.append_ #[t,u] ty #[.slice ad els.length cap,yv]).run P X.w=.ok (.slice (some ⟨X.w.heap.size,0,none⟩) (els.length+news.length) G) (X.w.drew.alloc (.cells C e))/\G*i.size<=C.size/\(∀(j:Nat)(u:Value),(old++new)[j]?=some u->C[j]?=some u)/\aE (DR X.w X.F) (els++news).flatten (old++new)/\(∀e∈els++news,e.length=i.size):=by
 refine⟨_,_,grownCap_ge X.w (els.length+news.length) cap e,Ih ht hs hi hz ho hgrow h63 hby,?_,λj u hj=>Ii j u hj,?_,?_⟩;.exact KP (by rw[<-WX.length,bu hel]) (by rw[<-Gf.length,bu hnl]) hzs (grownCap_ge _ _ _ _)
 .rw[Ar];exact WX.append Gf
 grind
end
end Go.bM
