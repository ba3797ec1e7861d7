/- A part of the proof: EngN, EngMap. -/
import Derived.Test.YtgkllgjmfpjeoaaGreatDoorEngM
import Derived.Laws.BytesArg
import Derived.Laws.IdiomStrings
import Derived.MapKept
set_option linter.unusedVariables false
set_option linter.unusedSimpArgs false
namespace Go.bJ
open Go Go.RowKit
theorem fS{α:Type}{sz:Nat}:∀{els:List (List α)},(∀e∈els,e.length=sz)->∀k,k<=els.length->(els.take k).flatten=els.flatten.take (k*sz)/\(els.drop k).flatten=els.flatten.drop (k*sz)
 |els,hl,0,_=>by simp|[],hl,k+1,h=>by simp at h|f::els,hl,k+1,h=>by
  have ih:=fS (els:=els) (λe he=>hl e (by simp[he])) k (by simpa using h);have hf:=hl f (by simp);simp[List.take_succ_cons,List.flatten_cons,List.drop_succ_cons,ih.1,ih.2];rw[show(k+1)*sz=f.length+k*sz by rw[Nat.add_mul,hf];omega];refine⟨?_,?_⟩;.grind
  .rw[List.drop_append,List.drop_of_length_le (l:=f) (by omega),show f.length+k*sz-f.length=k*sz by omega,List.nil_append]
theorem Am{α:Type}{sz:Nat}{els new:List (List α)}(hl:∀e∈els,e.length=sz)(hn:∀e∈new,e.length=sz){off:Nat}(h:off+new.length<=els.length):(splice els off new).flatten=splice els.flatten (off*sz) new.flatten:=by unfold splice;rw[List.flatten_append,List.flatten_append,(fS hl off (by omega)).1,(fS hl (off+new.length) h).2,aX hn,Nat.add_mul]
theorem An{α:Type}(els:List α)(off:Nat):splice els off []=els:=by simp[splice]
section
variable{P:Program}{X:Cx}{nt:Nat}{s:St}{a:Act}{o:Oper}{dst:Option Nat}{aO:Nat}
theorem aH.same{m:List (Tr bB)}{t:Tr Unit}(h:aH X m t){lv sl:Nat}{e:bB}(hg:aK m lv sl=some e):aH X (ct m lv sl (some e)) t:=h.congr (λcL dU=>by rw[cx]<;>grind) λ_=>rfl
theorem Ao{m:List (Tr bB)}{t:Tr Unit}(h:aH X m t){lv sl ah off:Nat}{els new:List (List D)}{vs:List Value}{L:Loc}(hg:aK m lv sl=some (.row ah els))(hL:X.ρ ah=some L)(hoff:off+new.length<=els.length)(hn:∀e∈new,e.length=L.sz)(hd:aC (DR X.w X.F) new.flatten vs)(h0:0<new.length):∃Y,Ext X Y/\Y.ρ=X.ρ/\aH Y (ct m lv sl (some (.row ah (splice els off new)))) t/\(storeCells ⟨L.b,L.o+off*L.sz,none⟩ vs).run P X.w=.ok () Y.w:=by
 obtain⟨L',hL',e1,e2,_,_⟩:=h.fN _ _ _ hg;have:X.ρ ah=some L':=hL';rw[hL]at this;cases this;have hvl:vs.length=new.length*L.sz:=by rw[<-hd.length,aX hn]
 have hfl:=Am e2 hn hoff;have aiE:=aX e2;have hle:off*L.sz+new.length*L.sz<=els.length*L.sz:=by rw[<-Nat.add_mul];exact Nat.mul_le_mul_right _ hoff
 have hcl:els.length*L.sz<=L.cap*L.sz:=Nat.mul_le_mul_right _ e1;refine Dj (P:=P) h hg hL (by omega) (by omega) ?_ (λf hf=>?_) (by rw[j4 _ _ _ hoff];exact e1) λj x hj=>?_;.rw[hfl,hvl,<-aX hn,o6 _ _ _ (by omega)]<;>omega
 .grind[splice,Block,bB.ah,aC,aK]
 .rw[hfl,dM _ _ _ (by rw[aX hn];omega)]at hj;rw[aX hn]at hj<;>grind
theorem Hl{t u:TypeId}{e:TypeId}{i:TypeInfo}{x y:Operand}{ad:Option Addr}{len cap m:Nat}{cells:List Value}(ho:o.op=.call {callee:=.builtin .copy,args:=#[x,y],argTypes:=#[t,u]})(ht:P.underlying t=some (.slice e))(hi:P.info? e=some i)(hx:a.eval x=.slice ad len cap)(hl:(Builtin.lenOf (a.eval y)).run P X.w=.ok m X.w)(hf:(Builtin.firstCells i.size (Nat.min m len) (a.eval y)).run P X.w=.ok cells.toArray X.w):(execOp a.eval o).run P X.w=match ad with|some ad=>((storeCells ad cells).run P X.w).andThen λ_ w'=>.ok (.value (goInt (Nat.min m len))) w'|none=>.ok (.value (goInt (Nat.min m len))) X.w:=by cases ad with|none=>simp[execOp,ho,resolve,invoke,builtin,Builtin.copy_,run_underlying ht,hx,hl,sizeOf,typeInfo,hi,hf]|some ad=>simp[execOp,ho,resolve,invoke,builtin,Builtin.copy_,run_underlying ht,hx,hl,sizeOf,typeInfo,hi,hf];cases Sem.run P (storeCells ad cells) X.w<;>rfl
theorem JZ(hs:fo X nt s a){t u e:TypeId}{i:TypeInfo}{x y:Operand}{x' y':bT}{lv sl ah off ln:Nat}{els news:List (List D)}{rd:List (Nat×Nat×Nat)}(ho:o.op=.call {callee:=.builtin .copy,args:=#[x,y],argTypes:=#[t,u]})(ht:P.underlying t=some (.slice e))(hi:P.info? e=some i)(h0:0<i.size)(hx:cU x=some x')(hy:cU y=some y')(hq:x'.ev s.slots=.ref lv sl ah off ln i.size)(hn:gi s.mem (y'.ev s.slots)=some news)(hr:rowAt s.mem lv sl ah=some els)(hle:off+ln<=els.length)(hal:∀e∈news,e.length=i.size):dh P X s a o dst aO (.bW {val:=oW (min news.length ln),cV:=[(lv,sl,some (.row ah (splice els off (news.take (min news.length ln)))))],cD:=[],rd}):=by
 obtain⟨vs,hd,hlen,hfc⟩:=zH (P:=P) hs.mem hn (bg hs hy) hal h0;have hv:=bg hs hx;rw[hq]at hv;obtain⟨L,ad,cap,hL,h1,h2,h3,h4⟩:=hv;obtain⟨L',hL',hE,hg⟩:=lX hs.mem hr;have hmin:Nat.min news.length ln=min news.length ln:=rfl;have hrun:=Hl (P:=P) (X:=X) ho ht hi h2 (hlen X.w) (hfc X.w (λ_ _=>rfl) _ (Nat.min_le_left _ _));rw[hmin]at hrun;have htl:(news.take (min news.length ln)).length=min news.length ln:=by grind
 by_cases hz:min news.length ln=0
 .have Fg:news.take (min news.length ln)=[]:=by grind
  refine .value (Y:=X) (v:=goInt ((min news.length ln:Nat):Int)) ?_ (Ext.refl X) (.Ac rfl) ?_ (fy.refl _ _ _);.rw[hrun];cases ad with|none=>rfl|some ad=>rw[hz];simp[storeCells]
  .rw[Fg,An];exact hs.mem.same hg
 .obtain⟨rfl,h5⟩:=h4 (by omega);have hnt:∀e∈news.take (min news.length ln),e.length=L.sz:=λf hf=>by rw[h1];exact hal f (List.mem_of_mem_take hf)
  obtain⟨Y,hx',hρ,hm,hst⟩:=Ao (P:=P) hs.mem (off:=off) (new:=news.take (min news.length ln)) (vs:=vs.take (min news.length ln*i.size)) hg hL (by omega) hnt (by rw[(fS hal _ (Nat.min_le_left _ _)).1];exact hd.take _) (by omega);refine .value (Y:=Y) (v:=goInt ((min news.length ln:Nat):Int)) ?_ hx' (.Ac rfl) hm (fy.G2 hρ)<;>simp_all
theorem J0(hs:fo X nt s a){t u e:TypeId}{i:TypeInfo}{x y:Operand}{x' y':bT}{lv sl ah off n:Nat}{cs:List AV}{news:List (List D)}{rd:List (Nat×Nat×Nat)}(ho:o.op=.call {callee:=.builtin .copy,args:=#[x,y],argTypes:=#[t,u]})(ht:P.underlying t=some (.slice e))(hi:P.info? e=some i)(h0:0<i.size)(hx:cU x=some x')(hy:cU y=some y')(hq:x'.ev s.slots=.fe lv sl ah off n i.size)(hn:gi s.mem (y'.ev s.slots)=some news)(hb:nZ s.mem lv sl ah=some cs)(hle:off+n*i.size<=cs.length)(hal:∀e∈news,e.length=i.size):dh P X s a o dst aO (.bW {val:=oW (min news.length n),cV:=[(lv,sl,some (.box ah (splice cs off ((news.take (min news.length n)).flatten.map .d))))],cD:=[],rd}):=by
 obtain⟨vs,hd,hlen,hfc⟩:=zH (P:=P) hs.mem hn (bg hs hy) hal h0;have hv:=bg hs hx;rw[hq]at hv;obtain⟨L,hL,h2,_⟩:=hv;have hg:aK s.mem lv sl=some (.box ah cs):=by
  unfold nZ at hb;split at hb;.split at hb<;>simp_all
  grind
 have hrun:=Hl (P:=P) (X:=X) ho ht hi h2 (hlen X.w) (hfc X.w (λ_ _=>rfl) _ (Nat.min_le_left _ _));have hd':aC (DR X.w X.F) (news.take (min news.length n)).flatten (vs.take (min news.length n*i.size)):=by rw[(fS hal _ (Nat.min_le_left _ _)).1];exact hd.take _
 have hdc:aC (VC X) ((news.take (min news.length n)).flatten.map .d) (vs.take (min news.length n*i.size)):=by refine .tX (by rw[List.length_map];exact hd'.length) λj x v hj hv=>?_;rw[List.getElem?_map]at hj;cases hq':(news.take (min news.length n)).flatten[j]?with|none=>grind|some y=>rw[hq']at hj;cases hj;obtain⟨v',kO,JL⟩:=hd'.get _ _ hq';simp_all;exact JL
 have hfl:((news.take (min news.length n)).flatten.map AV.d).length<=n*i.size:=by rw[List.length_map,aX (λf hf=>hal f (List.mem_of_mem_take hf)),List.length_take];exact Nat.mul_le_mul_right _ (by omega)
 obtain⟨L',Y,hL',hx',hρ,hm,hst⟩:=Di (P:=P) hs.mem hg (off:=off) (by omega) hdc;rw[hL]at hL';refine .value (Y:=Y) (v:=goInt ((min news.length n:Nat):Int)) ?_ hx' (.Ac rfl) hm (fy.G2 hρ)<;>simp_all
theorem vi(hs:fo X nt s a){t e:TypeId}{sz:Nat}{x:Operand}{x':bT}{lv sl ah off ln:Nat}{els:List (List D)}{z:List D}{zl:List Value}{rd:List (Nat×Nat×Nat)}(ho:o.op=.call {callee:=.builtin .clear,args:=#[x],argTypes:=#[t]})(ht:P.underlying t=some (.slice e))(hz:nu P e=some zl)(CN:jd zl=some z)(hzl:z.length=sz)(h0:0<sz)(hx:cU x=some x')(hq:x'.ev s.slots=.ref lv sl ah off ln sz)(hr:rowAt s.mem lv sl ah=some els)(hle:off+ln<=els.length):dh P X s a o dst aO (.bW {val:=jF,cV:=[(lv,sl,some (.row ah (splice els off (List.replicate ln z))))],cD:=[],rd}):=by
 have hv:=bg hs hx;rw[hq]at hv;obtain⟨L,ad,cap,hL,h1,h2,h3,h4⟩:=hv;obtain⟨L',hL',hE,hg⟩:=lX hs.mem hr;obtain⟨i,zv,hi,Fb,rfl⟩:=jg hz;by_cases hn:ln=0
 .subst hn;refine .value (Y:=X) (v:=undef) ?_ (Ext.refl X) nA ?_ (fy.refl _ _ _);.cases ad<;>simp[execOp,ho,resolve,invoke,builtin,Builtin.clear_,run_underlying ht,h2,undef]
  .rw[show List.replicate 0 z=[]from rfl,An];exact hs.mem.same hg
 .obtain⟨rfl,h5⟩:=h4 (by omega);have hZ:aC (DR X.w X.F) z zv.cells.toList:=kV CN;have hzs:zv.cells.size=sz:=by rw[<-hzl,hZ.length,Array.length_toList]
  have tZ:=iG hZ hzl h0 ln (ln*sz) (Nat.le_refl _);rw[oM]at tZ;obtain⟨Y,hx',hρ,hm,hst⟩:=Ao (P:=P) hs.mem (off:=off) (new:=List.replicate ln z) hg hL (by simpa using hle) (λf hf=>by rw[(List.mem_replicate.1 hf).2,h1];exact hzl) tZ (by simp;omega);refine .value (Y:=Y) (v:=undef) ?_ hx' nA hm (fy.G2 hρ);have Vn:(Builtin.zeroCells zv.cells ln).toList=(madeCells zv.cells (ln*sz)).toList:=by simp[Builtin.zeroCells,madeCells,hzs]
  rw[h1]at hst;simp[execOp,ho,resolve,invoke,builtin,Builtin.clear_,run_underlying ht,h2,zeroValue,typeInfo,hi,Fb,Vn,hst,undef]
theorem ZN(hs:fo X nt s a){ts:Array TypeId}{x y:Operand}{x' y':bT}{k:IntKind}{p q:Int}(ho:o.op=.call {callee:=.builtin .min,args:=#[x,y],argTypes:=ts})(hx:cU x=some x')(hy:cU y=some y')(h1:x'.ev s.slots=.d (.sc (.int k p)))(h2:y'.ev s.slots=.d (.sc (.int k q))):Quiet P X o a (lT (.int k (min p q))):=by
 have g1:=bg hs hx;rw[h1]at g1;have g1:=g1.sc;have g2:=bg hs hy;rw[h2]at g2;have g2:=g2.sc;refine⟨_,?_,.lT rfl⟩;have e:(if q<p then q else p)=min p q:=by grind
 simp[execOp,ho,resolve,invoke,builtin,Builtin.min_,g1,g2,Builtin.min2,e]
theorem ZO(hs:fo X nt s a){ts:Array TypeId}{x y:Operand}{x' y':bT}{k:IntKind}{p q:Int}(ho:o.op=.call {callee:=.builtin .max,args:=#[x,y],argTypes:=ts})(hx:cU x=some x')(hy:cU y=some y')(h1:x'.ev s.slots=.d (.sc (.int k p)))(h2:y'.ev s.slots=.d (.sc (.int k q))):Quiet P X o a (lT (.int k (max p q))):=by
 have g1:=bg hs hx;rw[h1]at g1;have g1:=g1.sc;have g2:=bg hs hy;rw[h2]at g2;have g2:=g2.sc;refine⟨_,?_,.lT rfl⟩;have e:(if p<q then q else p)=max p q:=by grind
 simp[execOp,ho,resolve,invoke,builtin,Builtin.max_,g1,g2,Builtin.max2,e]
end
end Go.bJ
namespace Go.bJ
open Go Go.RowKit
theorem Fh:∀{els:List (List D)}{l:List UInt8},bytesOf els=some l->∃xs:List Int,els=xs.map (λn=>[.sc (.int .u8 n)])/\l=xs.map λn=>UInt8.ofNat n.toNat:=by intro els;induction els with|nil=>simp_all[bytesOf]|cons e r ih=>
 intro l h;unfold bytesOf at h;split at h;.grind
 .rename_i n r' hq;cases hq;obtain⟨l',hl',rfl⟩:=Option.map_eq_some_iff.1 h;obtain⟨xs,rfl,rfl⟩:=ih hl';exact⟨n::xs,rfl,rfl⟩
 grind
section
variable{P:Program}{X:Cx}{nt:Nat}{s:St}{a:Act}{o:Oper}{dst:Option Nat}{aO:Nat}
theorem ZP(hs:fo X nt s a){src ds e:TypeId}{x:Operand}{x':bT}{els:List (List D)}{l:List UInt8}(ho:o.op=.convert src ds x)(h1:P.underlying src=some (.slice e))(h2:P.underlying e=some (.int .u8))(h3:P.underlying ds=some .string)(hx:cU x=some x')(he:dc s.mem (x'.ev s.slots)=some els)(hl:bytesOf els=some l):Quiet P X o a (lT (.string (mA l))):=by
 obtain⟨xs,rfl,rfl⟩:=Fh hl;obtain⟨ad,cap,sz,b,off,hv,_,had,NJ⟩:=rz hs.mem he (bg hs hx);refine⟨.string (mA (xs.map λn=>UInt8.ofNat n.toNat)),?_,.lT rfl⟩;have key:(convert src ds (a.eval x)).run P X.w=.ok (.string (mA (xs.map λn=>UInt8.ofNat n.toNat))) X.w:=by
  rw[hv];by_cases h0:xs.length=0;.have Fg:xs=[]:=List.eq_nil_of_length_eq_zero h0;subst Fg;rw[run_convert_bytes_string X.w src ds e ad _ cap h1 h2 h3];cases ad with|none=>rfl|some ad=>rfl
  .have hlt:0<(xs.map (λn=>([.sc (.int .u8 n)]:List D))).length:=by grind
   have:=had hlt;subst this;have hsz:sz=1:=by have:=NJ.1 _ (List.getElem_mem hlt)<;>grind
   subst hsz;exact run_convert_bytes_arg X.w src e h1 h2 b off _ cap xs (by simp) (λi hi=>by simp at hi;obtain⟨_,v,hv,hd⟩:=NJ.2 i [.sc (.int .u8 xs[i])] 0 (.sc (.int .u8 xs[i])) (by simp[List.getElem?_eq_getElem hi]) rfl;cases hd;simp only[Nat.mul_one,Nat.add_zero]at hv;rw[hv];simp[List.getD,List.getElem?_eq_getElem hi]) ds h3
 simp[execOp,ho,key]
def Cx.oN(X:Cx)(ob:Obj)(v:Nat)(L:Loc):Cx:={X with w:=X.w.alloc ob,ρ:=λu=>if u=v then some L else X.ρ u}
theorem uc{ob:Obj}{v:Nat}{L:Loc}(hin:∀b o,X.F b o->b<X.w.heap.size)(nT:∀b,X.old b->b<X.w.heap.size)(hv:X.ρ v=none):Ext X (X.oN ob v L):=⟨rfl,(eo.refl _ _).alloc nT _,λ_ _ h=>h,λb o h=>tY (hin b o h),λu M hu=>by grind[Cx.oN],λ_ _ h=>.inl h⟩
theorem Ap{m:List (Tr bB)}{t:Tr Unit}{ob:Obj}{v:Nat}{L:Loc}(h:aH X m t)(hv:X.ρ v=none):aH (X.oN ob v L) m t:=h.move (uc h.oL h.low hv) (λk u M hk hu hc=>by obtain⟨M',kU,h2⟩:=h.dG hk;rw[hu]at kU;cases kU;exact heap_alloc_old _ _ _ (h2 hc).1) (λ_ _ _ _ _ _ _ h=>h) (λb o hb=>by have:=h.oL b o hb;show b<(X.w.alloc _).heap.size;rw[World.size_alloc];omega)
theorem Aq{ob:Obj}{v:Nat}{L:Loc}{n:Nat}:fy X (X.oN ob v L) v n n:=⟨Nat.le_refl _,λu M h=>by grind[Cx.oN]⟩
theorem ZQ(hs:fo X nt s a)(hfr:X.ρ aO=none){src ds e:TypeId}{x:Operand}{x':bT}{b:ByteArray}{rd:List (Nat×Nat×Nat)}(ho:o.op=.convert src ds x)(h1:P.underlying src=some .string)(h2:P.underlying ds=some (.slice e))(h3:P.underlying e=some (.int .u8))(hx:cU x=some x')(he:x'.ev s.slots=.d (.sc (.string b))):dh P X s a o dst aO (.bW {val:=.d (.sl (b.data.toList.map λc=>[.sc (.int .u8 c.toNat)])),cV:=[],cD:=[],rd}):=by
 have hv:=bg hs hx;rw[he]at hv;have hv:=hv.sc;have hrun:=run_bytes_of_string (P:=P) X.w src ds e b h1 h2 h3;have hcap:b.size<=grownCap X.w b.size 0 e:=grownCap_ge _ _ _ _;generalize grownCap X.w b.size 0 e=cap at hrun hcap;let ob:Obj:=.cells (bytesRow b cap) e ((bytesRow b cap).size,(bytesRow b cap).size+1);let X2:=X.drew.oN ob aO ⟨0,0,0,0⟩;let X3:=X2.more λb' q=>b'=X.w.heap.size/\q<b.size;have m1:aH X.drew s.mem s.aI:=Aj hs.mem;have e2:Ext X.drew X2:=uc m1.oL m1.low hfr;have m2:aH X2 s.mem s.aI:=Ap m1 hfr;have hsz:X2.w.heap.size=X.w.heap.size+1:=World.size_alloc _ _;have e3:Ext X2 X3:=Ext.more λb' q hq=>by rw[hq.1];exact hs.mem.fresh
 have m3:aH X3 s.mem s.aI:=m2.more (λb' q hq=>by rw[hq.1];exact⟨hs.mem.fresh,by omega⟩) λk u M q hk hu hc hq=>by obtain⟨M',kU,g⟩:=m1.dG hk;have:X2.ρ u=some M':=e2.loc _ _ kU;rw[hu]at this;injection this with this;subst this;have h4:=(g hc).1;have h5:X.drew.w.heap.size=X.w.heap.size:=rfl;have h6:=hq.1;omega
 have hheap:X3.w.heap[X.w.heap.size]?=some ob:=heap_alloc_new X.drew.w ob;have hx3:Ext X X3:=(o7.trans e2).trans e3;refine .value (Y:=X3) (v:=.slice (some ⟨X.w.heap.size,0,none⟩) b.size cap) ?_ hx3 ?_ m3 ⟨Nat.le_refl _,λu M hu=>?_⟩;.simp[execOp,ho,hv,hrun];rfl
 .refine DR.gE (b:=X.w.heap.size) (o:=0) (sz:=1) ⟨λf hf=>?_,λi f j y hi hj=>?_⟩ (by simp) hcap λ_=>rfl;.grind
  .rw[List.getElem?_map]at hi;obtain⟨c,hc,rfl⟩:=Option.map_eq_some_iff.1 hi;have wM:i<b.data.toList.length:=(List.getElem?_eq_some_iff.1 hc).1;match j,hj with|0,hj=>simp at hj;subst hj;refine⟨.inr ⟨rfl,by simpa using wM⟩,.int .u8 c.toNat,?_,.sc _ rfl⟩;simp[World.cell?,hheap,ob,Nat.zero_add,Nat.mul_one,Nat.add_zero,Option.isSome_none,Bool.false_eq_true,if_false];unfold bytesRow<;>grind
 .rcases(Aq (X:=X.drew) (ob:=ob) (v:=aO) (L:=⟨0,0,0,0⟩) (n:=s.nv)).2 u M hu with q|q|q<;>grind[Cx.drew,VR,bT.ev,cU,St.app]
theorem QA(hs:fo X nt s a)(hfr:X.ρ aO=none){t:TypeId}{d:Nat}(ho:o.op=.makeMap t none):dh P X s a o dst aO (.bW {val:=.mp (s.mem.length-1) d aO,cV:=[(s.mem.length-1,d,some (.mp aO []))],cD:=[],rd:=[]}):=by
 have hρ:(X.oN (.map #[] 0) aO ⟨X.w.heap.size,0,0,1⟩).ρ aO=some ⟨X.w.heap.size,0,0,1⟩:=if_pos rfl;refine .value (Y:=X.oN (.map #[] 0) aO ⟨X.w.heap.size,0,0,1⟩) (v:=.map (some X.w.heap.size)) ?_ (uc hs.mem.oL hs.mem.low hfr) ⟨_,hρ,rfl⟩ ?_ Aq;.simp[execOp,ho,Instr.makeMap,Cx.oN]
 .refine(Ap hs.mem hfr).add (e:=.mp aO []) (L:=⟨X.w.heap.size,0,0,1⟩) hρ ⟨rfl,hs.mem.fresh,λo ho=>Nat.lt_irrefl _ (hs.mem.oL _ _ ho),#[],0,heap_alloc_new _ _,rfl⟩ λk u M hk _ hu hc _=>?_;obtain⟨M',kU,h2⟩:=hs.mem.dG hk<;>grind[cq,St.app,Holds,Cx.oN]
theorem Ho{m:List (Tr bB)}{t:Tr Unit}(h:aH X m t){lv sl ah:Nat}{ks:List (List UInt8)}(hr:setAt m lv sl ah=some ks):∃L,X.ρ ah=some L/\ny X (.mp ah ks) L/\aK m lv sl=some (.mp ah ks):=by
 unfold setAt at hr;split at hr
 .rename_i v ks' hg;split at hr;.rename_i hv;cases hr;have hv:=beq_true.1 hv;subst hv;obtain⟨L,hL,hE⟩:=h.fN _ _ _ hg;exact⟨L,hL,hE,hg⟩
  grind
 grind
theorem QB(b:ByteArray)(l:List UInt8):(b==mA l)=decide (b.data.toList=l):=by
 have hb:∀x y:ByteArray,(x==y)=(x.data==y.data):=λx y=>by cases x;cases y;rfl
 grind[mA]
theorem Ar{b:ByteArray}:∀{es:List MapEntry}{ks:List (List UInt8)}(i:Nat),es.map (λe=>(e.key,e.val))=ks.map (λl=>(Value.string (mA l),Value.bool true))->(hasB ks b.data.toList=false/\Instr.findNow .string (.string b) es i=some none)\/(hasB ks b.data.toList=true/\∃j e,es[j]?=some e/\e.key=.string b/\e.val=.bool true/\Instr.findNow .string (.string b) es i=some (some (i+j,.bool true)))
 |[],[],i,_=>.inl ⟨rfl,rfl⟩|[],_::_,i,h=>by simp at h|_::_,[],i,h=>by simp at h|e::es,l::ks,i,h=>by
  simp at h;obtain⟨⟨hk,hv⟩,h⟩:=h;have hsame:Instr.sameNow .string (.string b) e.key=some (decide (b.data.toList=l)):=by rw[hk];simp[Instr.sameNow];rw[QB]
  by_cases hq:b.data.toList=l
  .refine .inr ⟨by simp[hasB,hq],0,e,rfl,?_,hv,?_⟩;.rw[hk,<-hq];simp[mA]
   .simp[Instr.findNow,hsame,hq,hv]
  .rcases Ar (b:=b) (i+1) h with⟨h1,h2⟩|⟨h1,j,e',h2,h3,h4,h5⟩;.exact .inl ⟨by simpa[hasB,hq]using h1,by simp[Instr.findNow,hsame,hq,h2]⟩
   .refine .inr ⟨by simpa[hasB,hq]using h1,j+1,e',by simpa using h2,h3,h4,?_⟩;simp only[Instr.findNow,hsame,hq,decide_false,h5]<;>grind
theorem QC{w:World}{c:Bool}{k:TypeId}{b:ByteArray}(hk:P.underlying k=some .string):(Instr.checkKey c 10000 k (.string b)).run P w=.ok () w:=by rw[Instr.checkKey];simp[run_underlying hk]
theorem QD{n:Nat}{b:ByteArray}:Instr.sameBits n (.string b) (.string b)=true:=by
 have h:(b==b)=true:=by have:=QB b b.data.toList;simp_all[mA]
 cases n<;>exact h
theorem Vo(hs:fo X nt s a){t k e:TypeId}{m x:Operand}{m' x':bT}{lv sl ah:Nat}{b:ByteArray}{ks:List (List UInt8)}(ho:o.op=.lookup t m x false)(ht:P.underlying t=some (.map k e))(hk:P.underlying k=some .string)(hz:(P.info? e).bind (·.zero)=some (.bool false))(hm:cU m=some m')(hx:cU x=some x')(h1:m'.ev s.slots=.mp lv sl ah)(h2:x'.ev s.slots=.d (.sc (.string b)))(h3:setAt s.mem lv sl ah=some ks):Quiet P X o a (lT (.bool (hasB ks b.data.toList))):=by
 have g1:=bg hs hm;rw[h1]at g1;have g2:=bg hs hx;rw[h2]at g2;have g2:=g2.sc;obtain⟨L,hL,g1⟩:=g1;obtain⟨L',hL',hE,_⟩:=Ho hs.mem h3;simp_all;obtain⟨_,_,_,es,clock,hb,hf⟩:=hE;refine⟨.bool (hasB ks b.data.toList),?_,.lT rfl⟩;obtain⟨i,hi,Fb⟩:=Option.bind_eq_some_iff.1 hz;have hc:=QC (P:=P) (w:=X.w) (c:=es.isEmpty) (b:=b) hk;rcases Ar (b:=b) 0 hf with⟨q1,q2⟩|⟨q1,j,e',q2,q3,q4,q5⟩;.simp[execOp,ho,g1,g2,Instr.lookup,run_underlying ht,MapKept.run_getObj_map hb,hc,Instr.findKey,run_underlying hk,q2,zeroValue,typeInfo,hi,Fb,q1]
 .simp[execOp,ho,g1,g2,Instr.lookup,run_underlying ht,MapKept.run_getObj_map hb,hc,Instr.findKey,run_underlying hk,q5,q1]
def Cx.zw(X:Cx)(g:Nat)(ob:Obj):Cx:={X with w:={X.w with heap:=X.w.heap.setIfInBounds g ob}}
theorem NK{g:Nat}{ob ob':Obj}(hg:X.w.heap[g]?=some ob'):(X.zw g ob).w.heap[g]?=some ob:=by grind[Cx.zw]
theorem ud{g b:Nat}{ob:Obj}(h:b≠g):(X.zw g ob).w.heap[b]?=X.w.heap[b]?:=by simp[Cx.zw,Ne.symm h]
theorem Hp{g:Nat}{ob:Obj}(hb:¬X.old g)(hF:∀o,¬X.F g o):Ext X (X.zw g ob):=by
 refine⟨rfl,⟨rfl,rfl,rfl,by simp[Cx.zw],λk hk=>ud λe=>hb (e▸hk)⟩,λ_ _ h=>h,λb o h=>?_,λ_ _ h=>h,λ_ _ h=>.inl h⟩;have hne:b≠g:=by grind
 simp[World.cell?,ud hne]
theorem Vp(hs:fo X nt s a){t k e:TypeId}{m x:Operand}{m' x':bT}{lv sl ah:Nat}{b:ByteArray}{ks:List (List UInt8)}{rd:List (Nat×Nat×Nat)}(ho:o.op=.mapUpdate t m x (.const (.bool true)))(ht:P.underlying t=some (.map k e))(hk:P.underlying k=some .string)(hm:cU m=some m')(hx:cU x=some x')(h1:m'.ev s.slots=.mp lv sl ah)(h2:x'.ev s.slots=.d (.sc (.string b)))(h3:setAt s.mem lv sl ah=some ks):dh P X s a o dst aO (.bW {val:=jF,cV:=[(lv,sl,some (.mp ah (q9 ks b.data.toList)))],cD:=[],rd}):=by
 have g1:=bg hs hm;rw[h1]at g1;have g2:=bg hs hx;rw[h2]at g2;have g2:=g2.sc;obtain⟨L,hL,g1⟩:=g1;obtain⟨L',hL',hE,hg⟩:=Ho hs.mem h3;rw[hL]at hL';cases hL';obtain⟨c1,c2,c3,es,clock,hb,hf⟩:=hE;have hc:=QC (P:=P) (w:=X.w) (c:=false) (b:=b) hk;have gt:a.eval (.const (.bool true))=.bool true:=rfl;have fin:∀es' clock',(Instr.mapUpdate t (.map (some L.b)) (.string b) (.bool true)).run P X.w=.ok () (X.zw L.b (.map es' clock')).w->E4 es' (q9 ks b.data.toList)->dh P X s a o dst aO (.bW {val:=jF,cV:=[(lv,sl,some (.mp ah (q9 ks b.data.toList)))],cD:=[],rd}):=by
  intro es' clock' hrun hfit;refine .skip (Y:=X.zw L.b (.map es' clock')) ?_ (Hp c2 c3) nA ?_ (fy.G2 rfl);.simp[execOp,ho,g1,g2,gt,hrun]
  .have hap:∀k w M,Holds (ct s.mem lv sl none) s.aI k w->X.ρ w=some M->0<M.cap->M.b≠L.b:=by
    intro k' w M hk' hw wL;have hold:Holds s.mem s.aI k' w/\k'≠cq lv sl:=by
     rcases hk' with⟨cL,dU,e',rfl,he',kO⟩|⟨rfl,he'⟩
     .rw[cx]at he';split at he';.cases he'
      .rename_i hcc;refine⟨.inl ⟨cL,dU,e',rfl,he',kO⟩,λhq=>?_⟩;obtain⟨rfl,rfl⟩:=Ab hq;apply hcc;unfold aK at he'<;>grind
     .exact⟨.inr ⟨rfl,he'⟩,λhq=>eX hq.symm⟩
    exact hs.mem.apart _ _ _ _ _ _ hold.1 (.inl ⟨lv,sl,_,rfl,hg,rfl,rfl⟩) hold.2 hw hL wL (by omega)
   have CL:aH (X.zw L.b (.map es' clock')) (ct s.mem lv sl none) s.aI:=(hs.mem.erase lv sl).move (Hp c2 c3) (λk' w M hk' hw wL=>ud (hap k' w M hk' hw wL)) (λ_ _ _ _ _ _ _ h=>h) λb' o' hb'=>by have:=hs.mem.oL b' o' hb';simpa[Cx.zw]using this
   exact CL.reset (e:=.mp ah (q9 ks b.data.toList)) (L:=L) hL ⟨c1,c2,c3,es',clock',NK hb,hfit⟩ λk' w M hk' hw wL _=>hap k' w M hk' hw wL
 rcases Ar (b:=b) 0 hf with⟨q1,q2⟩|⟨q1,j,e',q2,q3,q4,q5⟩
 .refine fin (es.push {key:=.string b,val:=.bool true,born:=clock}) (clock+1) ?_ ?_;.simp[Instr.mapUpdate,run_underlying ht,MapKept.run_getObj_map hb,hc,Instr.findKey,run_underlying hk,q2,MapKept.run_setObj_map _ hb,Cx.zw]
  .unfold E4 q9 at*;rw[q1];simp[hf,mA]
 .refine fin (es.modify j λe=>{e with key:=.string b,val:=.bool true}) clock ?_ ?_
  .simp[Instr.mapUpdate,run_underlying ht,MapKept.run_getObj_map hb,hc,Instr.findKey,run_underlying hk,q5,MapKept.run_setObj_map _ hb,Cx.zw,Instr.keyThatStays];have hj:es[j]?=some e':=by grind
   intro hno;rw[hj]at hno;simp only[Option.map_some,Option.getD_some,q3,QD]at hno<;>grind
  .unfold E4 q9 at*;apply List.ext_getElem?;grind
end
end Go.bJ
