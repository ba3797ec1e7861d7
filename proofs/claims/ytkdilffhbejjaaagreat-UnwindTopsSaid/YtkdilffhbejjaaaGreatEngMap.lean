/- A part of the proof: EngN, EngMap. -/
import Derived.Test.YtkdilffhbejjaaaGreatEngM
import Derived.Laws.BytesArg
import Derived.Laws.IdiomStrings
import Derived.MapKept
set_option linter.unusedVariables false
set_option linter.unusedSimpArgs false
namespace Go.bM
open Go Go.RowKit
theorem gp{α:Type}{sz:Nat}:∀{els:List (List α)},(∀e∈els,e.length=sz)->∀k,k<=els.length->(els.take k).flatten=els.flatten.take (k*sz)/\(els.drop k).flatten=els.flatten.drop (k*sz)
 |els,hl,0,_=>by simp|[],hl,k+1,h=>by simp at h|f::els,hl,k+1,h=>by
  have ih:=gp (els:=els) (λe he=>hl e (by simp[he])) k (by simpa using h);have hf:=hl f (by simp);simp[List.take_succ_cons,nf,List.drop_succ_cons,ih.1,ih.2];rw[show(k+1)*sz=f.length+k*sz by rw[d6,hf];omega];refine⟨?_,?_⟩;.grind
  .rw[ut,rp (l:=f) (by omega),show f.length+k*sz-f.length=k*sz by omega,gc]
theorem Bo{α:Type}{sz:Nat}{els new:List (List α)}(hl:∀e∈els,e.length=sz)(hn:∀e∈new,e.length=sz){off:Nat}(h:off+new.length<=els.length):(splice els off new).flatten=splice els.flatten (off*sz) new.flatten:=by unfold splice;rw[List.flatten_append,List.flatten_append,(gp hl off (by omega)).1,(gp hl (off+new.length) h).2,bu hn,d6]
theorem Bp{α:Type}(els:List α)(off:Nat):splice els off []=els:=by simp[splice]
section
variable{P:Program}{X:Cx}{nt:NT}{s:St}{a:Act}{o:Oper}{dst:Option Nat}{aT:Nat}
theorem aH.same{m:List (Tr bH)}{t:Tr Unit}(h:aH X m t){lv sl:Nat}{e:bH}(hg:aN m lv sl=some e):aH X (cC m lv sl (some e)) t:=h.congr (λcM cZ=>by rw[cG]<;>grind) λ_=>rfl
theorem Bq{m:List (Tr bH)}{t:Tr Unit}(h:aH X m t){lv sl au off:Nat}{els new:List (List D)}{vs:List Value}{L:Loc}(hg:aN m lv sl=some (.row au els))(hL:X.ρ au=some L)(hoff:off+new.length<=els.length)(hn:∀e∈new,e.length=L.sz)(hd:aE (DR X.w X.F) new.flatten vs)(h0:0<new.length):∃Y,Ext X Y/\Y.ρ=X.ρ/\aH Y (cC m lv sl (some (.row au (splice els off new)))) t/\(storeCells ⟨L.b,L.o+off*L.sz,none⟩ vs).run P X.w=.ok () Y.w:=by
 obtain⟨L',hL',e1,e2,_,_⟩:=h.fZ _ _ _ hg;have:X.ρ au=some L':=hL';rw[hL]at this;cases this;have hvl:vs.length=new.length*L.sz:=by rw[<-hd.length,bu hn]
 have hfl:=Bo e2 hn hoff;have amj:=bu e2;have hle:off*L.sz+new.length*L.sz<=els.length*L.sz:=by rw[<-d6];exact dE _ hoff
 have nM:els.length*L.sz<=L.cap*L.sz:=dE _ e1;refine Em (P:=P) h hg hL (by omega) (by omega) ?_ (λf hf=>?_) (by rw[kM _ _ _ hoff];exact e1) λj x hj=>?_;.rw[hfl,hvl,<-bu hn,p9 _ _ _ (by omega)]<;>omega
 .grind[splice,Block,bH.au,aE,aN]
 .rw[hfl,ee _ _ _ (by rw[bu hn];omega)]at hj;rw[bu hn]at hj<;>grind
theorem Ik{t u:TypeId}{e:TypeId}{i:TypeInfo}{x y:Operand}{ad:Option Addr}{len cap m:Nat}{cells:List Value}(ho:o.op=.call {callee:=.builtin .copy,args:=#[x,y],argTypes:=#[t,u]})(ht:P.underlying t=some (.slice e))(hi:P.info? e=some i)(hx:a.eval x=.slice ad len cap)(hl:(Builtin.lenOf (a.eval y)).run P X.w=.ok m X.w)(hf:(Builtin.firstCells i.size (Nat.min m len) (a.eval y)).run P X.w=.ok cells.toArray X.w):(execOp a.eval o).run P X.w=match ad with|some ad=>((storeCells ad cells).run P X.w).andThen λ_ w'=>.ok (.value (goInt (Nat.min m len))) w'|none=>.ok (.value (goInt (Nat.min m len))) X.w:=by cases ad with|none=>simp[execOp,ho,resolve,invoke,builtin,Builtin.copy_,run_underlying ht,hx,hl,sizeOf,typeInfo,hi,hf]|some ad=>simp[execOp,ho,resolve,invoke,builtin,Builtin.copy_,run_underlying ht,hx,hl,sizeOf,typeInfo,hi,hf];cases Sem.run P (storeCells ad cells) X.w<;>rfl
theorem KS(hs:fu X nt s a){t u e:TypeId}{i:TypeInfo}{x y:Operand}{x' y':cc}{lv sl au off ln:Nat}{els news:List (List D)}{rd:List (Nat×Nat×Nat)}(ho:o.op=.call {callee:=.builtin .copy,args:=#[x,y],argTypes:=#[t,u]})(ht:P.underlying t=some (.slice e))(hi:P.info? e=some i)(h0:0<i.size)(hx:dh x=some x')(hy:dh y=some y')(hq:x'.ev s.slots=.ref lv sl au off ln i.size)(hn:gB s.mem (y'.ev s.slots)=some news)(hr:rowAt s.mem lv sl au=some els)(hle:off+ln<=els.length)(MZ:∀e∈news,e.length=i.size):dI P X s a o dst aT (.ck {val:=p4 (min news.length ln),di:=[(lv,sl,some (.row au (splice els off (news.take (min news.length ln)))))],cK:=[],rd}):=by
 obtain⟨vs,hd,hlen,hfc⟩:=AE (P:=P) hs.mem hn (bB hs hy) MZ h0;have hv:=bB hs hx;rw[hq]at hv;obtain⟨L,ad,cap,hL,h1,h2,h3,h4⟩:=hv;obtain⟨L',hL',hE,hg⟩:=mQ hs.mem hr;have hmin:Nat.min news.length ln=min news.length ln:=rfl;have hrun:=Ik (P:=P) (X:=X) ho ht hi h2 (hlen X.w) (hfc X.w (λ_ _=>rfl) _ (rt _ _));rw[hmin]at hrun;have htl:(news.take (min news.length ln)).length=min news.length ln:=by grind
 by_cases hz:min news.length ln=0
 .have As:news.take (min news.length ln)=[]:=by grind
  refine .value (Y:=X) (v:=goInt ((min news.length ln:Nat):Int)) ?_ (Ext.refl X) (.Bb rfl) ?_ (fL.refl _ _ _);.rw[hrun];cases ad with|none=>rfl|some ad=>rw[hz];simp[storeCells]
  .rw[As,Bp];exact hs.mem.same hg
 .obtain⟨rfl,h5⟩:=h4 (by omega);have hnt:∀e∈news.take (min news.length ln),e.length=L.sz:=λf hf=>by rw[h1];exact MZ f (kh hf)
  obtain⟨Y,hx',hρ,hm,hst⟩:=Bq (P:=P) hs.mem (off:=off) (new:=news.take (min news.length ln)) (vs:=vs.take (min news.length ln*i.size)) hg hL (by omega) hnt (by rw[(gp MZ _ (rt _ _)).1];exact hd.take _) (by omega);refine .value (Y:=Y) (v:=goInt ((min news.length ln:Nat):Int)) ?_ hx' (.Bb rfl) hm (fL.Ib hρ)<;>simp_all
theorem KT(hs:fu X nt s a){t u e:TypeId}{i:TypeInfo}{x y:Operand}{x' y':cc}{lv sl au off n:Nat}{cs:List AV}{news:List (List D)}{rd:List (Nat×Nat×Nat)}(ho:o.op=.call {callee:=.builtin .copy,args:=#[x,y],argTypes:=#[t,u]})(ht:P.underlying t=some (.slice e))(hi:P.info? e=some i)(h0:0<i.size)(hx:dh x=some x')(hy:dh y=some y')(hq:x'.ev s.slots=.fF lv sl au off n i.size)(hn:gB s.mem (y'.ev s.slots)=some news)(hb:oQ s.mem lv sl au=some cs)(hle:off+n*i.size<=cs.length)(MZ:∀e∈news,e.length=i.size):dI P X s a o dst aT (.ck {val:=p4 (min news.length n),di:=[(lv,sl,some (.box au (splice cs off ((news.take (min news.length n)).flatten.map .d))))],cK:=[],rd}):=by
 obtain⟨vs,hd,hlen,hfc⟩:=AE (P:=P) hs.mem hn (bB hs hy) MZ h0;have hv:=bB hs hx;rw[hq]at hv;obtain⟨L,hL,h2,_⟩:=hv;have hg:aN s.mem lv sl=some (.box au cs):=by
  unfold oQ at hb;split at hb;.split at hb<;>simp_all
  grind
 have hrun:=Ik (P:=P) (X:=X) ho ht hi h2 (hlen X.w) (hfc X.w (λ_ _=>rfl) _ (rt _ _));have hd':aE (DR X.w X.F) (news.take (min news.length n)).flatten (vs.take (min news.length n*i.size)):=by rw[(gp MZ _ (rt _ _)).1];exact hd.take _
 have hdc:aE (VC X) ((news.take (min news.length n)).flatten.map .d) (vs.take (min news.length n*i.size)):=by refine .uO (by rw[ll];exact hd'.length) λj x v hj hv=>?_;rw[eJ]at hj;cases hq':(news.take (min news.length n)).flatten[j]?with|none=>grind|some y=>rw[hq']at hj;cases hj;obtain⟨v',nD,KD⟩:=hd'.get _ _ hq';simp_all;exact KD
 have hfl:((news.take (min news.length n)).flatten.map AV.d).length<=n*i.size:=by rw[ll,bu (λf hf=>MZ f (kh hf)),lr];exact dE _ (by omega)
 obtain⟨L',Y,hL',hx',hρ,hm,hst⟩:=El (P:=P) hs.mem hg (off:=off) (by omega) hdc;rw[hL]at hL';refine .value (Y:=Y) (v:=goInt ((min news.length n:Nat):Int)) ?_ hx' (.Bb rfl) hm (fL.Ib hρ)<;>simp_all
theorem vW(hs:fu X nt s a){t e:TypeId}{sz:Nat}{x:Operand}{x':cc}{lv sl au off ln:Nat}{els:List (List D)}{z:List D}{zl:List Value}{rd:List (Nat×Nat×Nat)}(ho:o.op=.call {callee:=.builtin .clear,args:=#[x],argTypes:=#[t]})(ht:P.underlying t=some (.slice e))(hz:og P e=some zl)(DT:jJ zl=some z)(hzl:z.length=sz)(h0:0<sz)(hx:dh x=some x')(hq:x'.ev s.slots=.ref lv sl au off ln sz)(hr:rowAt s.mem lv sl au=some els)(hle:off+ln<=els.length):dI P X s a o dst aT (.ck {val:=kg,di:=[(lv,sl,some (.row au (splice els off (List.replicate ln z))))],cK:=[],rd}):=by
 have hv:=bB hs hx;rw[hq]at hv;obtain⟨L,ad,cap,hL,h1,h2,h3,h4⟩:=hv;obtain⟨L',hL',hE,hg⟩:=mQ hs.mem hr;obtain⟨i,zv,hi,Gc,rfl⟩:=jM hz;by_cases hn:ln=0
 .subst hn;refine .value (Y:=X) (v:=undef) ?_ (Ext.refl X) oh ?_ (fL.refl _ _ _);.cases ad<;>simp[execOp,ho,resolve,invoke,builtin,Builtin.clear_,run_underlying ht,h2,undef]
  .rw[show List.replicate 0 z=[]from rfl,Bp];exact hs.mem.same hg
 .obtain⟨rfl,h5⟩:=h4 (by omega);have hZ:aE (DR X.w X.F) z zv.cells.toList:=lQ DT;have hzs:zv.cells.size=sz:=by rw[<-hzl,hZ.length,ft]
  have uR:=jj hZ hzl h0 ln (ln*sz) (bc _);rw[pN]at uR;obtain⟨Y,hx',hρ,hm,hst⟩:=Bq (P:=P) hs.mem (off:=off) (new:=List.replicate ln z) hg hL (by simpa using hle) (λf hf=>by rw[(pB.1 hf).2,h1];exact hzl) uR (by simp;omega);refine .value (Y:=Y) (v:=undef) ?_ hx' oh hm (fL.Ib hρ);have Xo:(Builtin.zeroCells zv.cells ln).toList=(madeCells zv.cells (ln*sz)).toList:=by simp[Builtin.zeroCells,madeCells,hzs]
  rw[h1]at hst;simp[execOp,ho,resolve,invoke,builtin,Builtin.clear_,run_underlying ht,h2,zeroValue,typeInfo,hi,Gc,Xo,hst,undef]
theorem abn(hs:fu X nt s a){ts:Array TypeId}{x y:Operand}{x' y':cc}{k:IntKind}{p q:Int}(ho:o.op=.call {callee:=.builtin .min,args:=#[x,y],argTypes:=ts})(hx:dh x=some x')(hy:dh y=some y')(h1:x'.ev s.slots=.d (.sc (.int k p)))(h2:y'.ev s.slots=.d (.sc (.int k q))):Quiet P X o a (mM (.int k (min p q))):=by
 have g1:=bB hs hx;rw[h1]at g1;have g1:=g1.sc;have g2:=bB hs hy;rw[h2]at g2;have g2:=g2.sc;refine⟨_,?_,.mM rfl⟩;have e:(if q<p then q else p)=min p q:=by grind
 simp[execOp,ho,resolve,invoke,builtin,Builtin.min_,g1,g2,Builtin.min2,e]
theorem abo(hs:fu X nt s a){ts:Array TypeId}{x y:Operand}{x' y':cc}{k:IntKind}{p q:Int}(ho:o.op=.call {callee:=.builtin .max,args:=#[x,y],argTypes:=ts})(hx:dh x=some x')(hy:dh y=some y')(h1:x'.ev s.slots=.d (.sc (.int k p)))(h2:y'.ev s.slots=.d (.sc (.int k q))):Quiet P X o a (mM (.int k (max p q))):=by
 have g1:=bB hs hx;rw[h1]at g1;have g1:=g1.sc;have g2:=bB hs hy;rw[h2]at g2;have g2:=g2.sc;refine⟨_,?_,.mM rfl⟩;have e:(if p<q then q else p)=max p q:=by grind
 simp[execOp,ho,resolve,invoke,builtin,Builtin.max_,g1,g2,Builtin.max2,e]
end
end Go.bM
namespace Go.bM
open Go Go.RowKit
theorem Gh:∀{els:List (List D)}{l:List UInt8},bytesOf els=some l->∃xs:List Int,els=xs.map (λn=>[.sc (.int .u8 n)])/\l=xs.map λn=>UInt8.ofNat n.toNat:=by intro els;induction els with|nil=>simp_all[bytesOf]|cons e r ih=>
 intro l h;unfold bytesOf at h;split at h;.grind
 .rename_i n r' hq;cases hq;obtain⟨l',hl',rfl⟩:=fd.1 h;obtain⟨xs,rfl,rfl⟩:=ih hl';exact⟨n::xs,rfl,rfl⟩
 grind
section
variable{P:Program}{X:Cx}{nt:NT}{s:St}{a:Act}{o:Oper}{dst:Option Nat}{aT:Nat}
theorem abp(hs:fu X nt s a){src ds e:TypeId}{x:Operand}{x':cc}{els:List (List D)}{l:List UInt8}(ho:o.op=.convert src ds x)(h1:P.underlying src=some (.slice e))(h2:P.underlying e=some (.int .u8))(h3:P.underlying ds=some .string)(hx:dh x=some x')(he:dG s.mem (x'.ev s.slots)=some els)(hl:bytesOf els=some l):Quiet P X o a (mM (.string (nF l))):=by
 obtain⟨xs,rfl,rfl⟩:=Gh hl;obtain⟨ad,cap,sz,b,off,hv,_,had,Oy⟩:=sw hs.mem he (bB hs hx);refine⟨.string (nF (xs.map λn=>UInt8.ofNat n.toNat)),?_,.mM rfl⟩;have key:(convert src ds (a.eval x)).run P X.w=.ok (.string (nF (xs.map λn=>UInt8.ofNat n.toNat))) X.w:=by
  rw[hv];by_cases h0:xs.length=0;.have As:xs=[]:=d8 h0;subst As;rw[run_convert_bytes_string X.w src ds e ad _ cap h1 h2 h3];cases ad with|none=>rfl|some ad=>rfl
  .have hlt:0<(xs.map (λn=>([.sc (.int .u8 n)]:List D))).length:=by grind
   have:=had hlt;subst this;have hsz:sz=1:=by have:=Oy.1 _ (f2 hlt)<;>grind
   subst hsz;exact run_convert_bytes_arg X.w src e h1 h2 b off _ cap xs (by simp) (λi hi=>by simp at hi;obtain⟨_,v,hv,hd⟩:=Oy.2 i [.sc (.int .u8 xs[i])] 0 (.sc (.int .u8 xs[i])) (by simp[al hi]) rfl;cases hd;simp only[pv,fa]at hv;rw[hv];simp[List.getD,al hi]) ds h3
 simp[execOp,ho,key]
def Cx.pO(X:Cx)(ob:Obj)(v:Nat)(L:Loc):Cx:={X with w:=X.w.alloc ob,ρ:=λu=>if u=v then some L else X.ρ u}
theorem uT{ob:Obj}{v:Nat}{L:Loc}(hin:∀b o,X.F b o->b<X.w.heap.size)(vR:∀b,X.old b->b<X.w.heap.size)(hv:X.ρ v=none):Ext X (X.pO ob v L):=⟨rfl,(eY.refl _ _).alloc vR _,λ_ _ h=>h,λb o h=>uQ (hin b o h),λu M hu=>by grind[Cx.pO],λ_ _ h=>.inl h⟩
theorem Br{m:List (Tr bH)}{t:Tr Unit}{ob:Obj}{v:Nat}{L:Loc}(h:aH X m t)(hv:X.ρ v=none):aH (X.pO ob v L) m t:=h.move (uT h.p7 h.low hv) (λk u M hk hu hc=>by obtain⟨M',lP,h2⟩:=h.dV hk;rw[hu]at lP;cases lP;exact heap_alloc_old _ _ _ (h2 hc).1) (λ_ _ _ _ _ _ _ h=>h) (λb o hb=>by have:=h.p7 b o hb;show b<(X.w.alloc _).heap.size;rw[World.size_alloc];omega)
theorem Bs{ob:Obj}{v:Nat}{L:Loc}{n:Nat}:fL X (X.pO ob v L) v n n:=⟨bc _,λu M h=>by grind[Cx.pO]⟩
theorem abq(hs:fu X nt s a)(hfr:X.ρ aT=none){src ds e:TypeId}{x:Operand}{x':cc}{b:ByteArray}{rd:List (Nat×Nat×Nat)}(ho:o.op=.convert src ds x)(h1:P.underlying src=some .string)(h2:P.underlying ds=some (.slice e))(h3:P.underlying e=some (.int .u8))(hx:dh x=some x')(he:x'.ev s.slots=.d (.sc (.string b))):dI P X s a o dst aT (.ck {val:=.d (.sl (b.data.toList.map λc=>[.sc (.int .u8 c.toNat)])),di:=[],cK:=[],rd}):=by
 have hv:=bB hs hx;rw[he]at hv;have hv:=hv.sc;have hrun:=run_bytes_of_string (P:=P) X.w src ds e b h1 h2 h3;have hcap:b.size<=grownCap X.w b.size 0 e:=grownCap_ge _ _ _ _;generalize grownCap X.w b.size 0 e=cap at hrun hcap;let ob:Obj:=.cells (bytesRow b cap) e ((bytesRow b cap).size,(bytesRow b cap).size+1);let X2:=X.drew.pO ob aT ⟨0,0,0,0⟩;let X3:=X2.more λb' q=>b'=X.w.heap.size/\q<b.size;have m1:aH X.drew s.mem s.aK:=Bl hs.mem;have e2:Ext X.drew X2:=uT m1.p7 m1.low hfr;have m2:aH X2 s.mem s.aK:=Br m1 hfr;have hsz:X2.w.heap.size=X.w.heap.size+1:=World.size_alloc _ _;have e3:Ext X2 X3:=Ext.more λb' q hq=>by rw[hq.1];exact hs.mem.fresh
 have m3:aH X3 s.mem s.aK:=m2.more (λb' q hq=>by rw[hq.1];exact⟨hs.mem.fresh,by omega⟩) λk u M q hk hu hc hq=>by obtain⟨M',lP,g⟩:=m1.dV hk;have:X2.ρ u=some M':=e2.loc _ _ lP;rw[hu]at this;injection this with this;subst this;have h4:=(g hc).1;have h5:X.drew.w.heap.size=X.w.heap.size:=rfl;have h6:=hq.1;omega
 have hheap:X3.w.heap[X.w.heap.size]?=some ob:=heap_alloc_new X.drew.w ob;have hx3:Ext X X3:=(qa.trans e2).trans e3;refine .value (Y:=X3) (v:=.slice (some ⟨X.w.heap.size,0,none⟩) b.size cap) ?_ hx3 ?_ m3 ⟨bc _,λu M hu=>?_⟩;.simp[execOp,ho,hv,hrun];rfl
 .refine DR.ja (b:=X.w.heap.size) (o:=0) (sz:=1) ⟨λf hf=>?_,λi f j y hi hj=>?_⟩ (by simp) hcap λ_=>rfl;.grind
  .rw[eJ]at hi;obtain⟨c,hc,rfl⟩:=fd.1 hi;have yY:i<b.data.toList.length:=(cf.1 hc).1;match j,hj with|0,hj=>simp at hj;subst hj;refine⟨.inr ⟨rfl,by simpa using yY⟩,.int .u8 c.toNat,?_,.sc _ rfl⟩;simp[World.cell?,hheap,ob,ma,pv,fa,m9,io,m6];unfold bytesRow<;>grind
 .rcases(Bs (X:=X.drew) (ob:=ob) (v:=aT) (L:=⟨0,0,0,0⟩) (n:=s.nv)).2 u M hu with q|q|q<;>grind[Cx.drew,VR,cc.ev,dh,St.app]
theorem Rp(hs:fu X nt s a)(hfr:X.ρ aT=none){t:TypeId}{d:Nat}(ho:o.op=.makeMap t none):dI P X s a o dst aT (.ck {val:=.mp (s.mem.length-1) d aT,di:=[(s.mem.length-1,d,some (.mp aT []))],cK:=[],rd:=[]}):=by
 have hρ:(X.pO (.map #[] 0) aT ⟨X.w.heap.size,0,0,1⟩).ρ aT=some ⟨X.w.heap.size,0,0,1⟩:=bb rfl;refine .value (Y:=X.pO (.map #[] 0) aT ⟨X.w.heap.size,0,0,1⟩) (v:=.map (some X.w.heap.size)) ?_ (uT hs.mem.p7 hs.mem.low hfr) ⟨_,hρ,rfl⟩ ?_ Bs;.simp[execOp,ho,Instr.makeMap,Cx.pO]
 .refine(Br hs.mem hfr).add (e:=.mp aT []) (L:=⟨X.w.heap.size,0,0,1⟩) hρ ⟨rfl,hs.mem.fresh,λo ho=>pd _ (hs.mem.p7 _ _ ho),#[],0,heap_alloc_new _ _,rfl⟩ λk u M hk _ hu hc _=>?_;obtain⟨M',lP,h2⟩:=hs.mem.dV hk<;>grind[cB,St.app,Holds,Cx.pO]
theorem Il{m:List (Tr bH)}{t:Tr Unit}(h:aH X m t){lv sl au:Nat}{ks:List (List UInt8)}(hr:setAt m lv sl au=some ks):∃L,X.ρ au=some L/\oU X (.mp au ks) L/\aN m lv sl=some (.mp au ks):=by
 unfold setAt at hr;split at hr
 .rename_i v ks' hg;split at hr;.rename_i hv;cases hr;have hv:=beq_true.1 hv;subst hv;obtain⟨L,hL,hE⟩:=h.fZ _ _ _ hg;exact⟨L,hL,hE,hg⟩
  grind
 grind
theorem Rq(b:ByteArray)(l:List UInt8):(b==nF l)=decide (b.data.toList=l):=by
 have hb:∀x y:ByteArray,(x==y)=(x.data==y.data):=λx y=>by cases x;cases y;rfl
 grind[nF]
theorem Bt{b:ByteArray}:∀{es:List MapEntry}{ks:List (List UInt8)}(i:Nat),es.map (λe=>(e.key,e.val))=ks.map (λl=>(Value.string (nF l),Value.bool true))->(hasB ks b.data.toList=false/\Instr.findNow .string (.string b) es i=some none)\/(hasB ks b.data.toList=true/\∃j e,es[j]?=some e/\e.key=.string b/\e.val=.bool true/\Instr.findNow .string (.string b) es i=some (some (i+j,.bool true)))
 |[],[],i,_=>.inl ⟨rfl,rfl⟩|[],_::_,i,h=>by simp at h|_::_,[],i,h=>by simp at h|e::es,l::ks,i,h=>by
  simp at h;obtain⟨⟨hk,hv⟩,h⟩:=h;have hsame:Instr.sameNow .string (.string b) e.key=some (decide (b.data.toList=l)):=by rw[hk];simp[Instr.sameNow];rw[Rq]
  by_cases hq:b.data.toList=l
  .refine .inr ⟨by simp[hasB,hq],0,e,rfl,?_,hv,?_⟩;.rw[hk,<-hq];simp[nF]
   .simp[Instr.findNow,hsame,hq,hv]
  .rcases Bt (b:=b) (i+1) h with⟨h1,h2⟩|⟨h1,j,e',h2,h3,h4,h5⟩;.exact .inl ⟨by simpa[hasB,hq]using h1,by simp[Instr.findNow,hsame,hq,h2]⟩
   .refine .inr ⟨by simpa[hasB,hq]using h1,j+1,e',by simpa using h2,h3,h4,?_⟩;simp only[Instr.findNow,hsame,hq,rl,h5]<;>grind
theorem Rr{w:World}{c:Bool}{k:TypeId}{b:ByteArray}(hk:P.underlying k=some .string):(Instr.checkKey c 10000 k (.string b)).run P w=.ok () w:=by rw[Instr.checkKey];simp[run_underlying hk]
theorem Rs{n:Nat}{b:ByteArray}:Instr.sameBits n (.string b) (.string b)=true:=by
 have h:(b==b)=true:=by have:=Rq b b.data.toList;simp_all[nF]
 cases n<;>exact h
theorem Xp(hs:fu X nt s a){t k e:TypeId}{m x:Operand}{m' x':cc}{lv sl au:Nat}{b:ByteArray}{ks:List (List UInt8)}(ho:o.op=.lookup t m x false)(ht:P.underlying t=some (.map k e))(hk:P.underlying k=some .string)(hz:(P.info? e).bind (·.zero)=some (.bool false))(hm:dh m=some m')(hx:dh x=some x')(h1:m'.ev s.slots=.mp lv sl au)(h2:x'.ev s.slots=.d (.sc (.string b)))(h3:setAt s.mem lv sl au=some ks):Quiet P X o a (mM (.bool (hasB ks b.data.toList))):=by
 have g1:=bB hs hm;rw[h1]at g1;have g2:=bB hs hx;rw[h2]at g2;have g2:=g2.sc;obtain⟨L,hL,g1⟩:=g1;obtain⟨L',hL',hE,_⟩:=Il hs.mem h3;simp_all;obtain⟨_,_,_,es,clock,hb,hf⟩:=hE;refine⟨.bool (hasB ks b.data.toList),?_,.mM rfl⟩;obtain⟨i,hi,Gc⟩:=kb.1 hz;have hc:=Rr (P:=P) (w:=X.w) (c:=es.isEmpty) (b:=b) hk;rcases Bt (b:=b) 0 hf with⟨q1,q2⟩|⟨q1,j,e',q2,q3,q4,q5⟩;.simp[execOp,ho,g1,g2,Instr.lookup,run_underlying ht,MapKept.run_getObj_map hb,hc,Instr.findKey,run_underlying hk,q2,zeroValue,typeInfo,hi,Gc,q1]
 .simp[execOp,ho,g1,g2,Instr.lookup,run_underlying ht,MapKept.run_getObj_map hb,hc,Instr.findKey,run_underlying hk,q5,q1]
def Cx.Au(X:Cx)(g:Nat)(ob:Obj):Cx:={X with w:={X.w with heap:=X.w.heap.setIfInBounds g ob}}
theorem Oz{g:Nat}{ob ob':Obj}(hg:X.w.heap[g]?=some ob'):(X.Au g ob).w.heap[g]?=some ob:=by grind[Cx.Au]
theorem uU{g b:Nat}{ob:Obj}(h:b≠g):(X.Au g ob).w.heap[b]?=X.w.heap[b]?:=by simp[Cx.Au,pj h]
theorem Im{g:Nat}{ob:Obj}(hb:¬X.old g)(hF:∀o,¬X.F g o):Ext X (X.Au g ob):=by
 refine⟨rfl,⟨rfl,rfl,rfl,by simp[Cx.Au],λk hk=>uU λe=>hb (e▸hk)⟩,λ_ _ h=>h,λb o h=>?_,λ_ _ h=>h,λ_ _ h=>.inl h⟩;have hne:b≠g:=by grind
 simp[World.cell?,uU hne]
theorem Xq(hs:fu X nt s a){t k e:TypeId}{m x:Operand}{m' x':cc}{lv sl au:Nat}{b:ByteArray}{ks:List (List UInt8)}{rd:List (Nat×Nat×Nat)}(ho:o.op=.mapUpdate t m x (.const (.bool true)))(ht:P.underlying t=some (.map k e))(hk:P.underlying k=some .string)(hm:dh m=some m')(hx:dh x=some x')(h1:m'.ev s.slots=.mp lv sl au)(h2:x'.ev s.slots=.d (.sc (.string b)))(h3:setAt s.mem lv sl au=some ks):dI P X s a o dst aT (.ck {val:=kg,di:=[(lv,sl,some (.mp au (sj ks b.data.toList)))],cK:=[],rd}):=by
 have g1:=bB hs hm;rw[h1]at g1;have g2:=bB hs hx;rw[h2]at g2;have g2:=g2.sc;obtain⟨L,hL,g1⟩:=g1;obtain⟨L',hL',hE,hg⟩:=Il hs.mem h3;rw[hL]at hL';cases hL';obtain⟨c1,c2,c3,es,clock,hb,hf⟩:=hE;have hc:=Rr (P:=P) (w:=X.w) (c:=false) (b:=b) hk;have gt:a.eval (.const (.bool true))=.bool true:=rfl;have fin:∀es' clock',(Instr.mapUpdate t (.map (some L.b)) (.string b) (.bool true)).run P X.w=.ok () (X.Au L.b (.map es' clock')).w->FY es' (sj ks b.data.toList)->dI P X s a o dst aT (.ck {val:=kg,di:=[(lv,sl,some (.mp au (sj ks b.data.toList)))],cK:=[],rd}):=by
  intro es' clock' hrun hfit;refine .skip (Y:=X.Au L.b (.map es' clock')) ?_ (Im c2 c3) oh ?_ (fL.Ib rfl);.simp[execOp,ho,g1,g2,gt,hrun]
  .have hap:∀k w M,Holds (cC s.mem lv sl none) s.aK k w->X.ρ w=some M->0<M.cap->M.b≠L.b:=by
    intro k' w M hk' hw xB;have hold:Holds s.mem s.aK k' w/\k'≠cB lv sl:=by
     rcases hk' with⟨cM,cZ,e',rfl,he',nD⟩|⟨rfl,he'⟩
     .rw[cG]at he';split at he';.cases he'
      .rename_i hcc;refine⟨.inl ⟨cM,cZ,e',rfl,he',nD⟩,λhq=>?_⟩;obtain⟨rfl,rfl⟩:=Ba hq;apply hcc;unfold aN at he'<;>grind
     .exact⟨.inr ⟨rfl,he'⟩,λhq=>fq hq.symm⟩
    exact hs.mem.apart _ _ _ _ _ _ hold.1 (.inl ⟨lv,sl,_,rfl,hg,rfl,rfl⟩) hold.2 hw hL xB (by omega)
   have DQ:aH (X.Au L.b (.map es' clock')) (cC s.mem lv sl none) s.aK:=(hs.mem.erase lv sl).move (Im c2 c3) (λk' w M hk' hw xB=>uU (hap k' w M hk' hw xB)) (λ_ _ _ _ _ _ _ h=>h) λb' o' hb'=>by have:=hs.mem.p7 b' o' hb';simpa[Cx.Au]using this
   exact DQ.reset (e:=.mp au (sj ks b.data.toList)) (L:=L) hL ⟨c1,c2,c3,es',clock',Oz hb,hfit⟩ λk' w M hk' hw xB _=>hap k' w M hk' hw xB
 rcases Bt (b:=b) 0 hf with⟨q1,q2⟩|⟨q1,j,e',q2,q3,q4,q5⟩
 .refine fin (es.push {key:=.string b,val:=.bool true,born:=clock}) (clock+1) ?_ ?_;.simp[Instr.mapUpdate,run_underlying ht,MapKept.run_getObj_map hb,hc,Instr.findKey,run_underlying hk,q2,MapKept.run_setObj_map _ hb,Cx.Au]
  .unfold FY sj at*;rw[q1];simp[hf,nF]
 .refine fin (es.modify j λe=>{e with key:=.string b,val:=.bool true}) clock ?_ ?_
  .simp[Instr.mapUpdate,run_underlying ht,MapKept.run_getObj_map hb,hc,Instr.findKey,run_underlying hk,q5,MapKept.run_setObj_map _ hb,Cx.Au,Instr.keyThatStays];have hj:es[j]?=some e':=by grind
   intro hno;rw[hj]at hno;simp only[ca,rb,q3,Rs]at hno<;>grind
  .unfold FY sj at*;apply la;grind
end
end Go.bM
